/- The engine: its code's rule is sound. No condition. -/
import Derived.Test.YtafmknblnamegaaDoorV8H
namespace Go.Eng

section
variable {P : Program} {Γ : PC} {E : Env} {w : World} {a : Act} {asg : List Tmp}

/-! ### Matching -/
theorem leVal_eq {z x : Value} (h : leVal z x) : z = x := by
  unfold leVal at h
  split at h
  · rename_i k a k' b
    by_cases e : k = k'
    · subst e; simp at h; rw [h]
    · simp [e] at h
  · rw [h]
  · rw [h]
  · exact h

theorem leVal_refl (x : Value) : leVal x x := by
  unfold leVal
  split <;> simp_all

mutual
theorem leSV_refl : ∀ s : SV, leSV s s
  | .any => by simp [leSV]
  | .v x => by simp only [leSV]; exact leVal_refl x
  | .i k x lo hi => by simp [leSV]
  | .b p => by simp [leSV]
  | .s x hi => by simp [leSV]
  | .t x => by simp [leSV]
  | .opt p s => by simp [leSV]
  | .ptr i o => by simp [leSV]
  | .agg l => by simp only [leSV]; exact leSVs_refl l
  | .tup l => by simp only [leSV]; exact leSVs_refl l
  | .fn .. => by simp [leSV]
  | .ifc .. => by simp [leSV]
  | .rowp .. => by simp [leSV]
  | .sl .. => by simp [leSV]
  | .part .. => by simp [leSV]
  | .emp => by simp [leSV]
  | .yl i => by simp [leSV]
  | .mp i => by simp [leSV]
  | .er .. => by simp [leSV]
  | .q .. => by simp [leSV]
  | .row i => by simp [leSV]
theorem leSVs_refl : ∀ l : List SV, leSVs l l
  | [] => by simp [leSVs]
  | s :: l => by simp only [leSVs]; exact ⟨leSV_refl s, leSVs_refl l⟩
end

mutual
theorem leSV_DV {ρ : Rho} : ∀ (t s : SV) (y : Value), leSV s t → DV ρ s y → DV ρ t y
  | .any, _, _, _, _ => by simp [DV]
  | .v x, s, y, h, hd => by
    unfold leSV at h
    split at h
    · have := leVal_eq h; subst this; exact hd
    · rename_i k z lo hi
      split at h
      · rename_i k' n
        by_cases e : k = k'
        · subst e
          simp only [decide_true, cond_true] at h
          subst h
          simp only [DV] at hd ⊢
          exact hd.1
        · simp [e] at h
      · exact h.elim
    · split at h
      · subst h; simpa only [DV] using hd
      · exact h.elim
    · split at h
      · subst h; simp only [DV] at hd ⊢; exact hd.1
      · exact h.elim
    · subst h; simpa only [DV] using hd
    · exact h.elim
  | .i k x lo hi, s, y, h, hd => by
    unfold leSV at h
    split at h
    · rename_i k' z lo' hi'
      by_cases e : k' = k
      · subst e
        simp only [decide_true, cond_true] at h
        obtain ⟨rfl, h⟩ := h
        simp only [DV] at hd ⊢
        cases hc : (decide (lo ≤ lo') && decide (hi' ≤ hi)) with
        | true =>
          simp only [Bool.and_eq_true, decide_eq_true_eq] at hc
          exact ⟨hd.1, by omega, by omega⟩
        | false => rw [hc] at h; exact ⟨hd.1, h⟩
      · simp [e] at h
    · rename_i k' z
      by_cases e : k' = k
      · subst e
        simp only [decide_true, cond_true] at h
        obtain ⟨rfl, h⟩ := h
        simp only [DV] at hd ⊢
        exact ⟨hd, h⟩
      · simp [e] at h
    · exact h.elim
  | .b p, s, y, h, hd => by
    unfold leSV at h
    split at h
    · subst h; exact hd
    · subst h; simpa only [DV] using hd
    · exact h.elim
  | .s x hi, s, y, h, hd => by
    unfold leSV at h
    split at h
    · rename_i z hi'
      obtain ⟨rfl, h⟩ := h
      simp only [DV] at hd ⊢
      cases hc : decide (hi' ≤ hi) with
      | true => simp only [decide_eq_true_eq] at hc; exact ⟨hd.1, by omega⟩
      | false => rw [hc] at h; exact ⟨hd.1, h⟩
    · obtain ⟨rfl, h⟩ := h
      simp only [DV] at hd ⊢
      exact ⟨hd, h⟩
    · exact h.elim
  | .t x, s, y, h, hd => by
    unfold leSV at h
    split at h
    · subst h; exact hd
    · subst h; simpa only [DV] using hd
    · exact h.elim
  | .opt _ _, _, _, h, hd => by simp only [leSV] at h; subst h; exact hd
  | .ptr i o, s, y, h, hd => by
    unfold leSV at h
    split at h
    · rename_i j p
      by_cases e : j = i
      · by_cases e' : p = o
        · subst e e'; exact hd
        · simp [e'] at h
      · simp [e] at h
    · exact h.elim
  | .row i, s, y, h, hd => by
    unfold leSV at h
    split at h
    · rename_i j
      by_cases e : j = i
      · subst e; exact hd
      · simp [e] at h
    · exact h.elim
  | .agg m, s, y, h, hd => by
    unfold leSV at h
    split at h
    · simp only [DV] at hd ⊢
      obtain ⟨a, rfl, hl⟩ := hd
      exact ⟨a, rfl, leSVs_DL m _ _ h hl⟩
    · exact h.elim
  | .tup m, s, y, h, hd => by
    unfold leSV at h
    split at h
    · simp only [DV] at hd ⊢
      obtain ⟨a, rfl, hl⟩ := hd
      exact ⟨a, rfl, leSVs_DL m _ _ h hl⟩
    · exact h.elim
  | .fn .., _, _, h, hd => by simp only [leSV] at h; subst h; exact hd
  | .ifc .., _, _, h, hd => by simp only [leSV] at h; subst h; exact hd
  | .rowp i k o, s, y, h, hd => by
    unfold leSV at h
    split at h
    · rename_i j m p
      cases hc : (decide (j = i) && decide (p = o)) with
      | false => rw [hc] at h; exact h.elim
      | true =>
        rw [hc] at h
        simp only [Bool.and_eq_true, decide_eq_true_eq] at hc
        obtain ⟨rfl, rfl⟩ := hc
        have h : m = k := h
        subst h; exact hd
    · exact h.elim
  | .sl i o n c, s, y, h, hd => by
    unfold leSV at h
    split at h
    · rename_i j p m d
      cases hc : (decide (j = i) && (decide (p = o) && (decide (m = n) && decide (d = c)))) with
      | false => rw [hc] at h; exact h.elim
      | true =>
        simp only [Bool.and_eq_true, decide_eq_true_eq] at hc
        obtain ⟨rfl, rfl, rfl, rfl⟩ := hc
        exact hd
    · exact h.elim
  | .part i lo n f, s, y, h, hd => by
    unfold leSV at h
    split at h
    · rename_i j l m g
      cases hc : (decide (j = i) && decide (g = f)) with
      | false => rw [hc] at h; exact h.elim
      | true =>
        rw [hc] at h
        simp only [Bool.and_eq_true, decide_eq_true_eq] at hc
        obtain ⟨rfl, rfl⟩ := hc
        have h : l = lo ∧ m = n := h
        obtain ⟨rfl, rfl⟩ := h
        exact hd
    · exact h.elim
  | .emp, s, y, h, hd => by
    unfold leSV at h
    split at h
    · exact hd
    · subst h; simp only [DV] at hd ⊢; exact ⟨none, hd⟩
    · exact h.elim
  | .q .., _, _, h, hd => by simp only [leSV] at h; subst h; exact hd
  | .yl i, s, y, h, hd => by
    unfold leSV at h
    split at h
    · rename_i j
      by_cases e : j = i
      · subst e; exact hd
      · simp [e] at h
    · exact h.elim
  | .mp i, s, y, h, hd => by
    unfold leSV at h
    split at h
    · rename_i j
      by_cases e : j = i
      · subst e; exact hd
      · simp [e] at h
    · exact h.elim
  | .er p t ag i, s, y, h, hd => by
    unfold leSV at h
    split at h
    · rename_i q u a j
      cases hc : (decide (j = i) && (decide (u = t) && decide (a = ag))) with
      | false => rw [hc] at h; exact h.elim
      | true =>
        rw [hc] at h
        simp only [Bool.and_eq_true, decide_eq_true_eq] at hc
        obtain ⟨rfl, rfl, rfl⟩ := hc
        have h : q = p := h
        subst h; exact hd
    · exact h.elim
theorem leSVs_DL {ρ : Rho} : ∀ (m l : List SV) (ys : List Value), leSVs l m → DL ρ l ys → DL ρ m ys
  | [], l, _, h, hd => by
    unfold leSVs at h
    split at h
    · exact hd
    · exact h.elim
  | t :: m, l, ys, h, hd => by
    unfold leSVs at h
    split at h
    · simp only [DL] at hd ⊢
      obtain ⟨y, q, rfl, hy, hr⟩ := hd
      exact ⟨y, q, rfl, leSV_DV t _ y h.1 hy, leSVs_DL m _ q h.2 hr⟩
    · exact h.elim
end

theorem exLe_ok {ρ : Rho} : ∀ {exc exc' : List (Nat × Nat × SV)}, exLe exc exc' → (∀ e' ∈ exc', ∃ e ∈ exc, e.1 = e'.1 ∧ e.2.1 = e'.2.1 ∧ ∀ y, DV ρ e.2.2 y → DV ρ e'.2.2 y) ∧ ∀ e ∈ exc, ∃ e' ∈ exc', e'.1 = e.1 ∧ e'.2.1 = e.2.1
  | [], [], _ => ⟨fun e' he => (by cases he), fun e he => (by cases he)⟩
  | (k, o, s) :: l, (k', o', s') :: l', h => by
    unfold exLe at h
    cases hc : Nat.beq o o' with
    | false => rw [hc] at h; exact h.elim
    | true =>
      rw [hc, cond_true] at h
      obtain ⟨rfl, h1, h2⟩ := h
      have ho := Nat.eq_of_beq_eq_true hc
      subst ho
      obtain ⟨i1, i2⟩ := exLe_ok h2
      refine ⟨fun e' he' => ?_, fun e he => ?_⟩
      · rcases List.mem_cons.1 he' with rfl | he'
        · exact ⟨_, List.mem_cons_self .., rfl, rfl, fun y hy => leSV_DV _ _ y h1 hy⟩
        · obtain ⟨e, h3, h4⟩ := i1 e' he'; exact ⟨e, List.mem_cons_of_mem _ h3, h4⟩
      · rcases List.mem_cons.1 he with rfl | he
        · exact ⟨_, List.mem_cons_self .., rfl, rfl⟩
        · obtain ⟨e', h3, h4⟩ := i2 e he; exact ⟨e', List.mem_cons_of_mem _ h3, h4⟩
  | [], _ :: _, h => h.elim
  | _ :: _, [], h => h.elim
theorem DerY.le {ρ : Rho} {kf : List Kf} {exc exc' : List (Nat × Nat × SV)} {ys zs : List Value} (Y : DerY ρ kf exc ys zs) (h : exLe exc exc') : DerY ρ kf exc' ys zs := by
  obtain ⟨h1, h2⟩ := exLe_ok (ρ := ρ) h
  refine ⟨Y.len, fun e' he' => ?_, fun j hj => Y.same j fun e he hh => ?_, fun e' he' => ?_, Y.slc⟩
  · obtain ⟨e, he, _, g2, _⟩ := h1 e' he'
    rw [← g2]; exact Y.lt e he
  · obtain ⟨e', he', g1, g2⟩ := h2 e he
    exact hj e' he' (by rw [g1, g2]; exact hh)
  · obtain ⟨e, he, g1, g2, g3⟩ := h1 e' he'
    obtain ⟨y, hy, hd⟩ := Y.exc e he
    exact ⟨y, by rw [← g1, ← g2]; exact hy, g3 y hd⟩
theorem leBlk_ok {ρ : Rho} {k : Nat} {c b : Blk} (h : leBlk c b) (ok : BlkOk E ρ w k c) : BlkOk E ρ w k b ∧ ∀ m, takes ρ k b m → takes ρ k c m := by
  cases b with
  | rr e g =>
    cases c with
    | rr e' g' =>
      simp only [leBlk] at h
      cases hc : (decide (e' = e) && decide (g' = g)) with
      | false => rw [hc] at h; exact h.elim
      | true =>
        simp only [Bool.and_eq_true, decide_eq_true_eq] at hc
        obtain ⟨rfl, rfl⟩ := hc
        exact ⟨ok, fun _ h => h⟩
    | _ => simp [leBlk] at h
  | fam kf css lent =>
    cases c with
    | fam kf' css' lent' =>
      cases lent with
      | some _ => cases lent' <;> simp [leBlk] at h
      | none =>
        cases lent' with
        | some _ => simp [leBlk] at h
        | none =>
          simp only [leBlk] at h
          cases hc : kfEq kf' kf with
          | false => rw [hc] at h; exact h.elim
          | true =>
            rw [hc] at h
            have := kfEq_eq hc
            subst this
            have h : css' = css := h
            subst h
            exact ⟨ok, fun _ h => h⟩
    | _ => cases lent <;> simp [leBlk] at h
  | ali g k o kd =>
    cases c with
    | ali g' k' o' kd' =>
      simp only [leBlk] at h
      cases hc : (decide (g' = g) && (decide (o' = o) && kdEq kd' kd)) with
      | false => rw [hc] at h; exact h.elim
      | true =>
        rw [hc] at h
        simp only [Bool.and_eq_true, decide_eq_true_eq] at hc
        obtain ⟨rfl, rfl, hk⟩ := hc
        have := kdEq_eq hk
        subst this
        have h : k' = k := h
        subst h
        exact ⟨ok, fun _ h => h⟩
    | _ => simp [leBlk] at h
  | der n g kf exc =>
    cases c with
    | der n' g' kf' exc' =>
      simp only [leBlk] at h
      cases hc : (decide (g' = g) && kfEq kf' kf) with
      | false => rw [hc] at h; exact h.elim
      | true =>
        rw [hc] at h
        simp only [Bool.and_eq_true, decide_eq_true_eq] at hc
        obtain ⟨rfl, hk⟩ := hc
        have := kfEq_eq hk
        subst this
        have h : n' = n ∧ exLe exc' exc := h
        obtain ⟨rfl, hx⟩ := h
        obtain ⟨p, q, h1, h2, h3, h4, h5, ys, zs, e1, e2, e3, Y⟩ := ok
        exact ⟨⟨p, q, h1, h2, h3, h4, h5, ys, zs, e1, e2, e3, Y.le hx⟩, fun _ h => h.elim⟩
    | _ => simp [leBlk] at h
  | rfm kf css =>
    cases c with
    | rfm kf' css' =>
      simp only [leBlk] at h
      cases hc : kfEq kf' kf with
      | false => rw [hc] at h; exact h.elim
      | true =>
        rw [hc] at h
        have := kfEq_eq hc
        subst this
        have h : css' = css := h
        subst h
        exact ⟨ok, fun _ h => h⟩
    | _ => simp [leBlk] at h
  | rof g =>
    cases c with
    | rof g' =>
      simp only [leBlk] at h
      cases hc : decide (g' = g) with
      | false => rw [hc] at h; exact h.elim
      | true =>
        have := of_decide_eq_true hc
        subst this
        exact ⟨ok, fun _ h => h⟩
    | _ => simp [leBlk] at h
  | opq n =>
    cases c with
    | opq n' =>
      simp only [leBlk] at h
      subst h
      exact ⟨ok, fun _ h => h⟩
    | _ => simp [leBlk] at h
  | dead => exact ⟨trivial, fun _ h => h.elim⟩
  | hole => cases c <;> simp [leBlk] at h
  | loop => cases c <;> simp [leBlk] at h
  | dfr =>
    cases c with
    | dfr => exact ⟨ok, fun _ h => h⟩
    | _ => simp [leBlk] at h
  | cells e cs =>
    cases c with
    | cells e' cs' =>
      simp only [leBlk] at h
      by_cases he : e' = e
      · subst he
        simp at h
        obtain ⟨p, vs, hp, hw, hl⟩ := ok
        exact ⟨⟨p, vs, hp, hw, leSVs_DL _ _ _ h hl⟩, fun _ h => h⟩
      · simp [he] at h
    | _ => simp [leBlk] at h
  | rcells cs =>
    cases c with
    | rcells cs' =>
      simp only [leBlk] at h
      obtain ⟨p, vs, e, hp, hf, hw, hl⟩ := ok
      exact ⟨⟨p, vs, e, hp, hf, hw, leSVs_DL _ _ _ h hl⟩, fun _ h => h⟩
    | _ => simp [leBlk] at h
  | row e kd xs =>
    cases c with
    | row e' kd' xs' =>
      simp only [leBlk] at h
      cases hc : (decide (e' = e) && kdEq kd' kd) with
      | false => rw [hc] at h; exact h.elim
      | true =>
        rw [hc] at h
        simp only [Bool.and_eq_true, decide_eq_true_eq] at hc
        obtain ⟨rfl, hk⟩ := hc
        have := kdEq_eq hk
        subst this
        have h : xs' = xs := h
        subst h
        exact ⟨ok, fun _ h => h⟩
    | _ => simp [leBlk] at h
  | ror kd xs f =>
    cases c with
    | ror kd' xs' f' =>
      simp only [leBlk] at h
      cases hc : (kdEq kd' kd && decide (f' = f)) with
      | false => rw [hc] at h; exact h.elim
      | true =>
        rw [hc] at h
        simp only [Bool.and_eq_true, decide_eq_true_eq] at hc
        obtain ⟨hk, rfl⟩ := hc
        have := kdEq_eq hk
        subst this
        have h : xs' = xs := h
        subst h
        exact ⟨ok, fun _ h => h⟩
    | _ => simp [leBlk] at h
  | map k kd a m =>
    cases c with
    | map k' kd' a' m' =>
      simp only [leBlk] at h
      cases hc : (decide (k' = k) && (kdEq kd' kd && decide (a' = a))) with
      | false => rw [hc] at h; exact h.elim
      | true =>
        rw [hc] at h
        simp only [Bool.and_eq_true, decide_eq_true_eq] at hc
        obtain ⟨rfl, hk, rfl⟩ := hc
        have := kdEq_eq hk
        subst this
        have h : m' = m := h
        subst h
        exact ⟨ok, fun _ h => h⟩
    | _ => simp [leBlk] at h
  | iter mi n l =>
    cases c with
    | iter mi' n' l' =>
      simp only [leBlk] at h
      by_cases hm : mi' = mi
      · subst hm
        simp at h
        obtain ⟨rfl, rfl⟩ := h
        exact ⟨ok, fun _ h => h⟩
      · simp [hm] at h
    | _ => simp [leBlk] at h

/-! ### Slots by other names -/

mutual
theorem DV_ren {ρ ρ' : Rho} (g g' : Nat → Nat) : ∀ (s : SV) (y : Value), (∀ i ∈ refs s, ∀ p, ρ (g i) = some p → ρ' (g' i) = some p) → DV ρ (ren g s) y → DV ρ' (ren g' s) y
  | .any, _, _, _ => by simp [ren, DV]
  | .v _, _, _, h => by simpa [ren, DV] using h
  | .i .., _, _, h => by simpa [ren, DV] using h
  | .b _, _, _, h => by simpa [ren, DV] using h
  | .s .., _, _, h => by simpa [ren, DV] using h
  | .t _, _, _, h => by simpa [ren, DV] using h
  | .emp, _, _, h => by simpa [ren, DV] using h
  | .q .., _, _, h => by simpa [ren, DV] using h
  | .opt p s, y, hr, h => by simp only [ren, DV] at *; exact ⟨fun e => DV_ren g g' s y (fun i hi => hr i (by simpa [refs] using hi)) (h.1 e), h.2⟩
  | .ptr i o, y, hr, h => by simp only [ren, DV] at *; obtain ⟨p, hp, e⟩ := h; exact ⟨p, hr i (by simp [refs]) p hp, e⟩
  | .agg l, y, hr, h => by simp only [ren, DV] at *; obtain ⟨b, e, hl⟩ := h; exact ⟨b, e, DL_ren g g' l _ (fun i hi => hr i (by simpa [refs] using hi)) hl⟩
  | .tup l, y, hr, h => by simp only [ren, DV] at *; obtain ⟨b, e, hl⟩ := h; exact ⟨b, e, DL_ren g g' l _ (fun i hi => hr i (by simpa [refs] using hi)) hl⟩
  | .fn f p q, y, hr, h => by
    simp only [ren, DV] at *
    obtain ⟨b, c, e, ha, hb⟩ := h
    exact ⟨b, c, e, DL_ren g g' p _ (fun i hi => hr i (by simp [refs, hi])) ha, DL_ren g g' q _ (fun i hi => hr i (by simp [refs, hi])) hb⟩
  | .ifc t x, y, hr, h => by simp only [ren, DV] at *; obtain ⟨z, e, hz⟩ := h; exact ⟨z, e, DV_ren g g' x z (fun i hi => hr i (by simpa [refs] using hi)) hz⟩
  | .row i, y, hr, h => by simp only [ren, DV] at *; obtain ⟨p, b, c, d, hp, e⟩ := h; exact ⟨p, b, c, d, hr i (by simp [refs]) p hp, e⟩
  | .rowp i k o, y, hr, h => by simp only [ren, DV] at *; obtain ⟨p, b, c, d, f, hp, e⟩ := h; exact ⟨p, b, c, d, f, hr i (by simp [refs]) p hp, e⟩
  | .sl i o m c, y, hr, h => by simp only [ren, DV] at *; obtain ⟨p, hp, e⟩ := h; exact ⟨p, hr i (by simp [refs]) p hp, e⟩
  | .part i lo m f, y, hr, h => by simp only [ren, DV] at *; obtain ⟨p, b, c, hp, e⟩ := h; exact ⟨p, b, c, hr i (by simp [refs]) p hp, e⟩
  | .yl i, y, hr, h => by simp only [ren, DV] at *; obtain ⟨p, hp, e⟩ := h; exact ⟨p, hr i (by simp [refs]) p hp, e⟩
  | .mp i, y, hr, h => by simp only [ren, DV] at *; obtain ⟨p, hp, e⟩ := h; exact ⟨p, hr i (by simp [refs]) p hp, e⟩
  | .er p t ag i, y, hr, h => by simp only [ren, DV] at *; exact ⟨h.1, fun hp => by obtain ⟨l, b, o, n, c, hl, e⟩ := h.2 hp; exact ⟨l, b, o, n, c, hr i (by simp [refs]) l hl, e⟩⟩
theorem DL_ren {ρ ρ' : Rho} (g g' : Nat → Nat) : ∀ (l : List SV) (ys : List Value), (∀ i ∈ refsL l, ∀ p, ρ (g i) = some p → ρ' (g' i) = some p) → DL ρ (rens g l) ys → DL ρ' (rens g' l) ys
  | [], _, _, h => by simpa [rens, DL] using h
  | s :: l, ys, hr, h => by
    simp only [rens, DL] at *
    obtain ⟨y, t, e, hy, ht⟩ := h
    exact ⟨y, t, e, DV_ren g g' s y (fun i hi => hr i (by simp [refsL, hi])) hy, DL_ren g g' l t (fun i hi => hr i (by simp [refsL, hi])) ht⟩
end

mutual
theorem ren_id (g : Nat → Nat) : ∀ (s : SV), (∀ i ∈ refs s, g i = i) → ren g s = s
  | .any, _ | .v _, _ | .i .., _ | .b _, _ | .s .., _ | .t _, _ | .emp, _ | .q .., _ => by simp [ren]
  | .opt p s, h => by simp only [ren]; rw [ren_id g s fun i hi => h i (by simpa [refs] using hi)]
  | .ptr i o, h => by simp only [ren]; rw [h i (by simp [refs])]
  | .agg l, h => by simp only [ren]; rw [rens_id g l fun i hi => h i (by simpa [refs] using hi)]
  | .tup l, h => by simp only [ren]; rw [rens_id g l fun i hi => h i (by simpa [refs] using hi)]
  | .fn f a b, h => by simp only [ren]; rw [rens_id g a fun i hi => h i (by simp [refs, hi]), rens_id g b fun i hi => h i (by simp [refs, hi])]
  | .ifc t x, h => by simp only [ren]; rw [ren_id g x fun i hi => h i (by simpa [refs] using hi)]
  | .row i, h => by simp only [ren]; rw [h i (by simp [refs])]
  | .rowp i k o, h => by simp only [ren]; rw [h i (by simp [refs])]
  | .sl i o n c, h => by simp only [ren]; rw [h i (by simp [refs])]
  | .part i lo n f, h => by simp only [ren]; rw [h i (by simp [refs])]
  | .yl i, h => by simp only [ren]; rw [h i (by simp [refs])]
  | .mp i, h => by simp only [ren]; rw [h i (by simp [refs])]
  | .er p t ag i, h => by simp only [ren]; rw [h i (by simp [refs])]
theorem rens_id (g : Nat → Nat) : ∀ (l : List SV), (∀ i ∈ refsL l, g i = i) → rens g l = l
  | [], _ => by simp [rens]
  | s :: l, h => by simp only [rens]; rw [ren_id g s fun i hi => h i (by simp [refsL, hi]), rens_id g l fun i hi => h i (by simp [refsL, hi])]
end
theorem renB_id (g : Nat → Nat) (b : Blk) (h : ∀ i ∈ blkRefs b, g i = i) : renB g b = b := by
  cases b with
  | cells e cs => simp only [renB]; rw [rens_id g cs h]
  | rcells cs => simp only [renB]; rw [rens_id g cs h]
  | loop f regs ps a b s p d => simp only [renB]; rw [rens_id g regs fun i hi => h i (by simp [blkRefs, hi]), h d (by simp [blkRefs])]
  | iter mi n l => simp only [renB]; rw [h mi (by simp [blkRefs])]
  | rr e f => simp only [renB]; rw [h f (by simp [blkRefs])]
  | ali f k o kd => simp only [renB]; rw [h f (by simp [blkRefs])]
  | rof f => simp only [renB]; rw [h f (by simp [blkRefs])]
  | der n f kf exc =>
    simp only [renB]
    rw [h f (by simp [blkRefs])]
    congr 1
    refine (List.map_congr_left fun e he => ?_).trans (List.map_id exc)
    rw [ren_id g e.2.2 fun i hi => h i (by simp only [blkRefs]; exact List.mem_cons_of_mem _ (mem_refsL (List.mem_map.2 ⟨e, he, rfl⟩) hi))]
    rfl
  | _ => rfl

theorem BlkOk_ren {ρ ρ' : Rho} (g g' : Nat → Nat) {i j : Nat} {b : Blk} (hb : b ≠ .hole) (hij : ∀ p, ρ i = some p → ρ' j = some p) (hr : ∀ i ∈ blkRefs b, ∀ p, ρ (g i) = some p → ρ' (g' i) = some p) (ok : BlkOk E ρ w i (renB g b)) :
    BlkOk E ρ' w j (renB g' b) ∧ ∀ m, takes ρ' j (renB g' b) m → takes ρ i (renB g b) m := by
  have back : ∀ {p q : Loc}, ρ i = some p → ρ' j = some q → q = p := fun hp hq => by have := hij _ hp; rw [hq] at this; cases this; rfl
  cases b with
  | hole => exact absurd rfl hb
  | dead => exact ⟨trivial, fun _ h => h.elim⟩
  | cells e cs =>
    obtain ⟨p, vs, hp, hw, hl⟩ := ok
    exact ⟨⟨p, vs, hij p hp, hw, DL_ren g g' cs _ hr hl⟩, fun m ⟨q, hq, e⟩ => ⟨p, hp, by rw [← back hp hq]; exact e⟩⟩
  | row e kd xs =>
    obtain ⟨p, hp, h⟩ := ok
    exact ⟨⟨p, hij p hp, h⟩, fun m ⟨q, hq, e⟩ => ⟨p, hp, by rw [← back hp hq]; exact e⟩⟩
  | rcells cs =>
    obtain ⟨p, vs, e, hp, hf, hw, hl⟩ := ok
    exact ⟨⟨p, vs, e, hij p hp, hf, hw, DL_ren g g' cs _ hr hl⟩, fun m h => h.elim⟩
  | ror kd xs f =>
    obtain ⟨p, hp, h⟩ := ok
    exact ⟨⟨p, hij p hp, h⟩, fun m h => h.elim⟩
  | dfr =>
    obtain ⟨p, hp, h⟩ := ok
    exact ⟨⟨p, hij p hp, h⟩, fun m ⟨q, hq, e⟩ => ⟨p, hp, by rw [← back hp hq]; exact e⟩⟩
  | loop f regs ps a c s pe d =>
    obtain ⟨p, q, ts, fn, hp, hq, h, hl⟩ := ok
    exact ⟨⟨p, q, ts, fn, hij p hp, hr d (by simp [blkRefs]) q hq, h, DL_ren g g' regs _ (fun i hi => hr i (by simp [blkRefs, hi])) hl⟩, fun m ⟨r, hr', e⟩ => ⟨p, hp, by rw [← back hp hr']; exact e⟩⟩
  | map k kd a m =>
    obtain ⟨p, hp, h⟩ := ok
    exact ⟨⟨p, hij p hp, h⟩, fun m ⟨q, hq, e⟩ => ⟨p, hp, by rw [← back hp hq]; exact e⟩⟩
  | iter mi n l =>
    obtain ⟨p, q, hp, hq, h⟩ := ok
    exact ⟨⟨p, q, hij p hp, hr mi (by simp [blkRefs]) q hq, h⟩, fun m ⟨r, hr', e⟩ => ⟨p, hp, by rw [← back hp hr']; exact e⟩⟩
  | rr e f =>
    obtain ⟨p, q, hp, hq, h⟩ := ok
    exact ⟨⟨p, q, hij p hp, hr f (by simp [blkRefs]) q hq, h⟩, fun m ⟨r, hr', e⟩ => ⟨p, hp, by rw [← back hp hr']; exact e⟩⟩
  | fam kf css lent =>
    obtain ⟨p, hp, h⟩ := ok
    exact ⟨⟨p, hij p hp, h⟩, fun m ⟨q, hq, e⟩ => ⟨p, hp, by rw [← back hp hq]; exact e⟩⟩
  | ali f k o kd =>
    obtain ⟨p, q, hp, hq, h⟩ := ok
    exact ⟨⟨p, q, hij p hp, hr f (by simp [blkRefs]) q hq, h⟩, fun m h => h.elim⟩
  | rof f =>
    obtain ⟨p, q, hp, hq, h⟩ := ok
    exact ⟨⟨p, q, hij p hp, hr f (by simp [blkRefs]) q hq, h⟩, fun m h => h.elim⟩
  | rfm kf css =>
    obtain ⟨p, hp, h⟩ := ok
    exact ⟨⟨p, hij p hp, h⟩, fun m h => h.elim⟩
  | opq n =>
    obtain ⟨p, a, c, hp, h⟩ := ok
    exact ⟨⟨p, a, c, hij p hp, h⟩, fun m h => h.elim⟩
  | der n f kf exc =>
    obtain ⟨p, q, hp, hq, h1, h2, h0, ys, zs, h3, h4, hn, h5⟩ := ok
    refine ⟨⟨p, q, hij p hp, hr f (by simp [blkRefs]) q hq, h1, h2, h0, ys, zs, h3, h4, hn, h5.len, fun e he => ?_, fun j hj => h5.same j fun e he => ?_, fun e he => ?_, h5.slc⟩, fun m h => h.elim⟩
    · obtain ⟨e0, he0, rfl⟩ := List.mem_map.1 he
      exact h5.lt (e0.1, e0.2.1, ren g e0.2.2) (List.mem_map.2 ⟨e0, he0, rfl⟩)
    · obtain ⟨e0, he0, rfl⟩ := List.mem_map.1 he
      exact hj (e0.1, e0.2.1, ren g' e0.2.2) (List.mem_map.2 ⟨e0, he0, rfl⟩)
    · obtain ⟨e0, he0, rfl⟩ := List.mem_map.1 he
      obtain ⟨y, hy, hd⟩ := h5.exc (e0.1, e0.2.1, ren g e0.2.2) (List.mem_map.2 ⟨e0, he0, rfl⟩)
      refine ⟨y, hy, DV_ren g g' e0.2.2 y (fun i hi => hr i (by simp only [blkRefs]; exact List.mem_cons_of_mem _ (mem_refsL (List.mem_map.2 ⟨e0, he0, rfl⟩) hi))) hd⟩

def cut (n : Nat) (ρ : Rho) : Rho := fun i => if i < n then ρ i else none

/-- Another view of memory: each live slot stands for a slot that was there. -/
theorem DH.view {ρ : Rho} {h hd : List Blk} (D : DH E ρ h w) (f : Nat → Nat)
    (hs : ∀ (k : Nat) (b : Blk), hd[k]? = some b → b = .dead ∨ ∃ c, h[f k]? = some c ∧ BlkOk E (cut hd.length fun i => ρ (f i)) w k b ∧ ∀ m, takes (cut hd.length fun i => ρ (f i)) k b m → takes ρ (f k) c m)
    (inj : ∀ (i j : Nat) (b c : Blk), i ≠ j → hd[i]? = some b → hd[j]? = some c → b ≠ .dead → c ≠ .dead → f i ≠ f j) : DH E (cut hd.length fun i => ρ (f i)) hd w := by
  refine ⟨D.same, D.base, D.glob, D.old, fun i hi => by simp [Eng.cut]; omega, fun k b hk => ?_, fun k b m hk ht => ?_, fun i j b c m hne hi hj ht ht' => ?_⟩
  · rcases hs k b hk with rfl | ⟨c, _, ok, _⟩
    · trivial
    · exact ok
  · rcases hs k b hk with rfl | ⟨c, hc, _, tk⟩
    · exact ht.elim
    · exact D.own _ c m hc (tk m ht)
  · rcases hs i b hi with rfl | ⟨b', hb', _, t1⟩
    · exact ht.elim
    · rcases hs j c hj with rfl | ⟨c', hc', _, t2⟩
      · exact ht'.elim
      · refine D.apart _ _ b' c' m (inj i j b c hne hi hj ?_ ?_) hb' hc' (t1 m ht) (t2 m ht')
        · rintro rfl; exact ht
        · rintro rfl; exact ht'
end
end Go.Eng
