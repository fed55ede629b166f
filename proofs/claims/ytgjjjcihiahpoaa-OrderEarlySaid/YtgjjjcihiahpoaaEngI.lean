/- The engine: its code's rule is sound. No condition. -/
import Derived.Test.YtgjjjcihiahpoaaEngH
namespace Go.Eng

section
variable {P : Program} {Γ : PC} {E : Env} {w : World} {a : Act} {asg : List Tmp}

/-! ### Matching -/
theorem leVal_eq {z x : Value} (h : leVal z x) : z = x := by
  unfold leVal at h
  split at h
  · rename_i k a k' b
    by_cases e : k = k'
    · subst e; simp at h; rw [h]
    · simp [e] at h
  · rw [h]
  · rw [h]
  · exact h

theorem leVal_refl (x : Value) : leVal x x := by
  unfold leVal
  split <;> simp_all

mutual
theorem leSV_refl : ∀ s : SV, leSV s s
  | .any => by simp [leSV]
  | .v x => by simp only [leSV]; exact leVal_refl x
  | .i k x lo hi => by simp [leSV]
  | .b p => by simp [leSV]
  | .s x hi => by simp [leSV]
  | .t x => by simp [leSV]
  | .opt p s => by simp [leSV]
  | .ptr i o => by simp [leSV]
  | .agg l => by simp only [leSV]; exact leSVs_refl l
  | .tup l => by simp only [leSV]; exact leSVs_refl l
  | .fn .. => by simp [leSV]
  | .ifc .. => by simp [leSV]
  | .ro .. => by simp [leSV]
  | .rop .. => by simp [leSV]
  | .rs .. => by simp [leSV]
  | .rowp .. => by simp [leSV]
  | .sl .. => by simp [leSV]
  | .part .. => by simp [leSV]
  | .row i => by simp [leSV]
theorem leSVs_refl : ∀ l : List SV, leSVs l l
  | [] => by simp [leSVs]
  | s :: l => by simp only [leSVs]; exact ⟨leSV_refl s, leSVs_refl l⟩
end

mutual
theorem leSV_DV {ρ : Rho} : ∀ (t s : SV) (y : Value), leSV s t → DV E ρ s y → DV E ρ t y
  | .any, _, _, _, _ => by simp [DV]
  | .v x, s, y, h, hd => by
    unfold leSV at h
    split at h
    · have := leVal_eq h; subst this; exact hd
    · rename_i k z lo hi
      split at h
      · rename_i k' n
        by_cases e : k = k'
        · subst e
          simp only [decide_true, cond_true] at h
          subst h
          simp only [DV] at hd ⊢
          exact hd.1
        · simp [e] at h
      · exact h.elim
    · split at h
      · subst h; simpa only [DV] using hd
      · exact h.elim
    · split at h
      · subst h; simp only [DV] at hd ⊢; exact hd.1
      · exact h.elim
    · subst h; simpa only [DV] using hd
    · exact h.elim
  | .i k x lo hi, s, y, h, hd => by
    unfold leSV at h
    split at h
    · rename_i k' z lo' hi'
      by_cases e : k' = k
      · subst e
        simp only [decide_true, cond_true] at h
        obtain ⟨rfl, h⟩ := h
        simp only [DV] at hd ⊢
        cases hc : (decide (lo ≤ lo') && decide (hi' ≤ hi)) with
        | true =>
          simp only [Bool.and_eq_true, decide_eq_true_eq] at hc
          exact ⟨hd.1, by omega, by omega⟩
        | false => rw [hc] at h; exact ⟨hd.1, h⟩
      · simp [e] at h
    · rename_i k' z
      by_cases e : k' = k
      · subst e
        simp only [decide_true, cond_true] at h
        obtain ⟨rfl, h⟩ := h
        simp only [DV] at hd ⊢
        exact ⟨hd, h⟩
      · simp [e] at h
    · exact h.elim
  | .b p, s, y, h, hd => by
    unfold leSV at h
    split at h
    · subst h; exact hd
    · subst h; simpa only [DV] using hd
    · exact h.elim
  | .s x hi, s, y, h, hd => by
    unfold leSV at h
    split at h
    · rename_i z hi'
      obtain ⟨rfl, h⟩ := h
      simp only [DV] at hd ⊢
      cases hc : decide (hi' ≤ hi) with
      | true => simp only [decide_eq_true_eq] at hc; exact ⟨hd.1, by omega⟩
      | false => rw [hc] at h; exact ⟨hd.1, h⟩
    · obtain ⟨rfl, h⟩ := h
      simp only [DV] at hd ⊢
      exact ⟨hd, h⟩
    · exact h.elim
  | .t x, s, y, h, hd => by
    unfold leSV at h
    split at h
    · subst h; exact hd
    · subst h; simpa only [DV] using hd
    · exact h.elim
  | .opt _ _, _, _, h, hd => by simp only [leSV] at h; subst h; exact hd
  | .ptr i o, s, y, h, hd => by
    unfold leSV at h
    split at h
    · rename_i j p
      by_cases e : j = i
      · by_cases e' : p = o
        · subst e e'; exact hd
        · simp [e'] at h
      · simp [e] at h
    · exact h.elim
  | .row i, s, y, h, hd => by
    unfold leSV at h
    split at h
    · rename_i j
      by_cases e : j = i
      · subst e; exact hd
      · simp [e] at h
    · exact h.elim
  | .agg m, s, y, h, hd => by
    unfold leSV at h
    split at h
    · simp only [DV] at hd ⊢
      obtain ⟨a, rfl, hl⟩ := hd
      exact ⟨a, rfl, leSVs_DL m _ _ h hl⟩
    · exact h.elim
  | .tup m, s, y, h, hd => by
    unfold leSV at h
    split at h
    · simp only [DV] at hd ⊢
      obtain ⟨a, rfl, hl⟩ := hd
      exact ⟨a, rfl, leSVs_DL m _ _ h hl⟩
    · exact h.elim
  | .fn .., _, _, h, hd => by simp only [leSV] at h; subst h; exact hd
  | .ifc .., _, _, h, hd => by simp only [leSV] at h; subst h; exact hd
  | .ro .., _, _, h, hd => by simp only [leSV] at h; subst h; exact hd
  | .rop .., _, _, h, hd => by simp only [leSV] at h; subst h; exact hd
  | .rs .., _, _, h, hd => by simp only [leSV] at h; subst h; exact hd
  | .rowp .., _, _, h, hd => by simp only [leSV] at h; subst h; exact hd
  | .sl .., _, _, h, hd => by simp only [leSV] at h; subst h; exact hd
  | .part .., _, _, h, hd => by simp only [leSV] at h; subst h; exact hd
theorem leSVs_DL {ρ : Rho} : ∀ (m l : List SV) (ys : List Value), leSVs l m → DL E ρ l ys → DL E ρ m ys
  | [], l, _, h, hd => by
    unfold leSVs at h
    split at h
    · exact hd
    · exact h.elim
  | t :: m, l, ys, h, hd => by
    unfold leSVs at h
    split at h
    · simp only [DL] at hd ⊢
      obtain ⟨y, q, rfl, hy, hr⟩ := hd
      exact ⟨y, q, rfl, leSV_DV t _ y h.1 hy, leSVs_DL m _ q h.2 hr⟩
    · exact h.elim
end

theorem leBlk_refl {b : Blk} (h : blkLive b = true) : leBlk b b := by
  cases b with
  | hole => simp [blkLive] at h
  | dead => simp [leBlk]
  | cells e cs => simpa [leBlk] using leSVs_refl cs
  | row e kd xs => simp [leBlk]

theorem leBlk_ok {ρ : Rho} {k : Nat} {c b : Blk} (h : leBlk c b) (ok : BlkOk E ρ w k c) : BlkOk E ρ w k b ∧ ∀ m, takes ρ k b m → takes ρ k c m := by
  cases b with
  | dead => exact ⟨trivial, fun _ h => h.elim⟩
  | hole => cases c <;> simp [leBlk] at h
  | cells e cs =>
    cases c with
    | cells e' cs' =>
      simp only [leBlk] at h
      by_cases he : e' = e
      · subst he
        simp at h
        obtain ⟨p, vs, hp, hw, hl⟩ := ok
        exact ⟨⟨p, vs, hp, hw, leSVs_DL _ _ _ h hl⟩, fun _ h => h⟩
      · simp [he] at h
    | _ => simp [leBlk] at h
  | row e kd xs =>
    cases c with
    | row e' kd' xs' =>
      simp only [leBlk] at h
      by_cases he : e' = e
      · subst he
        simp at h
        obtain ⟨rfl, rfl⟩ := h
        exact ⟨ok, fun _ h => h⟩
      · simp [he] at h
    | _ => simp [leBlk] at h

/-! ### Fewer slots -/

def cut (n : Nat) (ρ : Rho) : Rho := fun i => if i < n then ρ i else none

mutual
theorem DV.cut {ρ : Rho} {n : Nat} : ∀ (s : SV) (y : Value), (∀ i ∈ refs s, i < n) → DV E ρ s y → DV E (cut n ρ) s y
  | .any, _, _, _ => by simp [DV]
  | .v _, _, _, h => by simpa [DV] using h
  | .i .., _, _, h => by simpa [DV] using h
  | .b _, _, _, h => by simpa [DV] using h
  | .s .., _, _, h => by simpa [DV] using h
  | .t _, _, _, h => by simpa [DV] using h
  | .opt p s, y, hr, h => by simp only [DV] at *; exact ⟨fun e => DV.cut s y (fun i hi => hr i (by simpa [refs] using hi)) (h.1 e), h.2⟩
  | .ptr i o, y, hr, h => by simp only [DV] at *; obtain ⟨p, hp, e⟩ := h; exact ⟨p, by simp [Eng.cut, hr i (by simp [refs]), hp], e⟩
  | .agg l, y, hr, h => by simp only [DV] at *; obtain ⟨b, e, hl⟩ := h; exact ⟨b, e, DL.cut l _ (fun i hi => hr i (by simpa [refs] using hi)) hl⟩
  | .tup l, y, hr, h => by simp only [DV] at *; obtain ⟨b, e, hl⟩ := h; exact ⟨b, e, DL.cut l _ (fun i hi => hr i (by simpa [refs] using hi)) hl⟩
  | .fn f p q, y, hr, h => by
    simp only [DV] at *
    obtain ⟨b, c, e, ha, hb⟩ := h
    exact ⟨b, c, e, DL.cut p _ (fun i hi => hr i (by simp [refs, hi])) ha, DL.cut q _ (fun i hi => hr i (by simp [refs, hi])) hb⟩
  | .ifc t x, y, hr, h => by simp only [DV] at *; obtain ⟨z, e, hz⟩ := h; exact ⟨z, e, DV.cut x z (fun i hi => hr i (by simpa [refs] using hi)) hz⟩
  | .ro .., _, _, h => by simpa [DV] using h
  | .rop cs, y, hr, h => by simp only [DV] at *; obtain ⟨b, off, vs, e, hl, ho⟩ := h; exact ⟨b, off, vs, e, DL.cut cs vs (fun i hi => hr i (by simpa [refs] using hi)) hl, ho⟩
  | .rs cs n, y, hr, h => by simp only [DV] at *; obtain ⟨a, cap, vs, e, hc, hl, ho⟩ := h; exact ⟨a, cap, vs, e, hc, DL.cut cs vs (fun i hi => hr i (by simpa [refs] using hi)) hl, ho⟩
  | .row i, y, hr, h => by simp only [DV] at *; obtain ⟨p, b, c, d, hp, e⟩ := h; exact ⟨p, b, c, d, by simp [Eng.cut, hr i (by simp [refs]), hp], e⟩
  | .rowp i k o, y, hr, h => by simp only [DV] at *; obtain ⟨p, b, hp, e⟩ := h; exact ⟨p, b, by simp [Eng.cut, hr i (by simp [refs]), hp], e⟩
  | .sl i o m c, y, hr, h => by simp only [DV] at *; obtain ⟨p, hp, e⟩ := h; exact ⟨p, by simp [Eng.cut, hr i (by simp [refs]), hp], e⟩
  | .part i lo m, y, hr, h => by simp only [DV] at *; obtain ⟨p, b, c, hp, e⟩ := h; exact ⟨p, b, c, by simp [Eng.cut, hr i (by simp [refs]), hp], e⟩
theorem DL.cut {ρ : Rho} {n : Nat} : ∀ (l : List SV) (ys : List Value), (∀ i ∈ refsL l, i < n) → DL E ρ l ys → DL E (cut n ρ) l ys
  | [], _, _, h => by simpa [DL] using h
  | s :: l, ys, hr, h => by
    simp only [DL] at *
    obtain ⟨y, t, e, hy, ht⟩ := h
    exact ⟨y, t, e, DV.cut s y (fun i hi => hr i (by simp [refsL, hi])) hy, DL.cut l t (fun i hi => hr i (by simp [refsL, hi])) ht⟩
end

theorem DH.reshape {ρ : Rho} {h hd : List Blk} (D : DH E ρ h w) {n : Nat} (hl : hd.length = n)
    (hs : ∀ (k : Nat) (b : Blk), hd[k]? = some b → b = .dead ∨ (leBlk (h.getD k .dead) b ∧ ∀ i ∈ blkRefs b, i < n)) : DH E (cut n ρ) hd w := by
  have key : ∀ (k : Nat) (b : Blk), hd[k]? = some b → b = .dead ∨ ∃ c, h[k]? = some c ∧ leBlk c b ∧ (∀ i ∈ blkRefs b, i < n) := fun k b hk => by
    rcases hs k b hk with h' | ⟨h1, h2⟩
    · exact .inl h'
    · cases hc : h[k]? with
      | none =>
        rw [List.getD_eq_getElem?_getD, hc] at h1
        cases b <;> simp [leBlk] at h1
        exact .inl rfl
      | some c =>
        rw [List.getD_eq_getElem?_getD, hc] at h1
        exact .inr ⟨c, rfl, h1, h2⟩
  have tk : ∀ (k : Nat) (b : Blk) (m : Nat), hd[k]? = some b → takes (cut n ρ) k b m → ∃ c, h[k]? = some c ∧ takes ρ k c m := fun k b m hk ht => by
    rcases key k b hk with rfl | ⟨c, hc, hle, _⟩
    · exact ht.elim
    · have hkn : k < n := by rw [← hl]; exact (List.getElem?_eq_some_iff.1 hk).1
      refine ⟨c, hc, (leBlk_ok hle (D.ok k c hc)).2 m ?_⟩
      cases b <;> simp only [takes] at ht ⊢
      · simpa [Eng.cut, hkn] using ht
      · simpa [Eng.cut, hkn] using ht
  refine ⟨D.same, D.base, D.old, fun i hi => by simp [Eng.cut]; omega, fun k b hk => ?_, fun k b m hk ht => ?_, fun i j b c m hne hi hj ht ht' => ?_⟩
  · have hkn : k < n := by rw [← hl]; exact (List.getElem?_eq_some_iff.1 hk).1
    rcases key k b hk with rfl | ⟨c, hc, hle, hr⟩
    · trivial
    · have ok := (leBlk_ok hle (D.ok k c hc)).1
      cases b with
      | hole => exact absurd hle (by cases c <;> simp [leBlk])
      | dead => trivial
      | cells e cs =>
        obtain ⟨p, vs, hp, hw, hdl⟩ := ok
        exact ⟨p, vs, by simp [Eng.cut, hkn, hp], hw, DL.cut cs _ hr hdl⟩
      | row e kd xs =>
        obtain ⟨p, hp, r⟩ := ok
        exact ⟨p, by simp [Eng.cut, hkn, hp], r⟩
  · obtain ⟨c, hc, ht'⟩ := tk k b m hk ht
    exact D.own k c m hc ht'
  · obtain ⟨b', hb', h1⟩ := tk i b m hi ht
    obtain ⟨c', hc', h2⟩ := tk j c m hj ht'
    exact D.apart i j b' c' m hne hb' hc' h1 h2

/-! ### The head of a loop -/

theorem havoc_length (asg : List Tmp) : ∀ (r : List SV) (i : Nat), (havoc asg i r).length = r.length
  | [], _ => rfl
  | _ :: r, i => by simp [havoc, havoc_length asg r]
theorem havoc_get (asg : List Tmp) : ∀ (r : List SV) (i k : Nat), (havoc asg i r)[k]? = (r[k]?).map fun s => if asg.contains (i + k) then .any else s
  | [], _, _ => by simp [havoc]
  | s :: r, i, 0 => by simp [havoc]
  | s :: r, i, k + 1 => by
    simp only [havoc, List.getElem?_cons_succ, havoc_get asg r (i + 1) k]
    rw [show i + 1 + k = i + (k + 1) by omega]

theorem DL.set_same {ρ : Rho} {l : List SV} {ys : List Value} (h : DL E ρ l ys) (t : Nat) {s : SV} (hy : ∀ y, ys[t]? = some y → DV E ρ s y) : DL E ρ (l.set t s) ys := by
  cases hg : ys[t]? with
  | none =>
    have : l.set t s = l := List.set_eq_of_length_le (by have := h.length; have := List.getElem?_eq_none_iff.1 hg; omega)
    rw [this]; exact h
  | some y =>
    have := h.set t (hy y hg)
    obtain ⟨hlt, he⟩ := List.getElem?_eq_some_iff.1 hg
    rwa [← he, List.set_getElem_self hlt] at this

theorem matchRegs_iff {r : List SV} : ∀ {l : List (Nat × SV)} {k : Prop}, matchRegs r l k → (∀ x ∈ l, leSV (r.getD x.1 .any) x.2) ∧ k
  | [], _, h => ⟨fun x hx => by simp at hx, h⟩
  | (t, s) :: l, k, h => ⟨fun x hx => by
      rcases List.mem_cons.1 hx with rfl | hx
      · exact h.1
      · exact (matchRegs_iff h.2).1 x hx, (matchRegs_iff h.2).2⟩
theorem matchHeap_iff {r : List Blk} : ∀ {l : List (Nat × Blk)} {k : Prop}, matchHeap r l k → (∀ x ∈ l, leBlk (r.getD x.1 .dead) x.2) ∧ k
  | [], _, h => ⟨fun x hx => by simp at hx, h⟩
  | (t, s) :: l, k, h => ⟨fun x hx => by
      rcases List.mem_cons.1 hx with rfl | hx
      · exact h.1
      · exact (matchHeap_iff h.2).1 x hx, (matchHeap_iff h.2).2⟩

theorem lay_DL {ρ : Rho} {r : List SV} {ys : List Value} (h : DL E ρ r ys) : ∀ (l : List (Nat × SV)), (∀ x ∈ l, ∀ y, ys[x.1]? = some y → DV E ρ x.2 y) → DL E ρ (lay r l) ys
  | [], _ => h
  | (t, s) :: l, hl => DL.set_same (lay_DL h l fun x hx => hl x (by simp [hx])) t fun y hy => hl (t, s) (by simp) y hy

theorem layH_length (h : List Blk) : ∀ (l : List (Nat × Blk)), (layH h l).length = h.length
  | [] => rfl
  | _ :: l => by simp [layH, layH_length h l]

theorem layH_get (h : List Blk) : ∀ (l : List (Nat × Blk)) (k : Nat) (b : Blk), (layH h l)[k]? = some b → (k, b) ∈ l ∨ h[k]? = some b
  | [], _, _, hb => .inr hb
  | (t, c) :: l, k, b, hb => by
    simp only [layH, List.getElem?_set] at hb
    split at hb
    · subst_vars
      split at hb
      · cases hb; exact .inl (by simp)
      · cases hb
    · rcases layH_get h l k b hb with h' | h'
      · exact .inl (by simp [h'])
      · exact .inr h'

/-- From any state that matches the pattern to the pattern. -/
theorem headOf_den {ρ0 ρ : Rho} {L : LoopSpec} {st0 st : St} {a0 a : Act} {w0 w : World} {s : L.S} (D0 : Den E ρ0 st0 a0 w0) (D : Den E ρ st a w) (hx : Ext ρ0 ρ) (hf : Fr asg a0 a)
    (hok : specOk asg st0 (L.regs s) (L.heap s) L.keep = true) (hr : ∀ x ∈ L.regs s, leSV (st.regs.getD x.1 .any) x.2) (hh : ∀ x ∈ L.heap s, leBlk (st.heap.getD x.1 .dead) x.2)
    (hk : ∀ x ∈ keepL st0 L.keep, leBlk (st.heap.getD x.1 .dead) x.2) : Ext ρ0 (cut st0.heap.length ρ) ∧ Den E (cut st0.heap.length ρ) (headOf asg L st0 s) a w := by
  simp only [specOk, Bool.and_eq_true, List.all_eq_true, belowL, decide_eq_true_eq] at hok
  obtain ⟨⟨hok1, hok2⟩, hok3⟩ := hok
  have hext : Ext ρ0 (cut st0.heap.length ρ) := fun i l hi => by
    have : i < st0.heap.length := by
      rcases Nat.lt_or_ge i st0.heap.length with h | h
      · exact h
      · rw [D0.heap.fresh i h] at hi; cases hi
    simp [cut, this, hx i l hi]
  refine ⟨hext, ?_, ?_, D.defers⟩
  · refine lay_DL ?_ _ fun x hx' y hy => ?_
    · refine DL.mk' (by simp [havoc_length, hf.1, D0.regs.length.symm]) fun i s y hs hy => ?_
      rw [havoc_get] at hs
      simp only [Option.map_eq_some_iff, Nat.zero_add] at hs
      obtain ⟨s', hs', rfl⟩ := hs
      split
      · simp [DV]
      · rename_i hni
        have hni' : i ∉ asg := by simpa using hni
        have e := hf.2 i hni'
        obtain ⟨y', hy', hd⟩ := D0.regs.get hs'
        have : y' = y := by
          have h1 : a0.tmps[i]? = some y' := by simpa using hy'
          have h2 : a.tmps[i]? = some y := by simpa using hy
          rw [e, h1] at h2; cases h2; rfl
        subst this
        exact DV.mono hext _ _ hd
    · have hd := D.regs.getD x.1 undef
      have : a.tmps.toList.getD x.1 undef = y := by rw [List.getD_eq_getElem?_getD, hy]; rfl
      rw [this] at hd
      exact DV.cut _ _ (hok1 x hx').1.1 (leSV_DV _ _ _ (hr x hx') hd)
  · refine D.heap.reshape (by simp [headOf, layH_length, restr_length]) fun k b hb => ?_
    rcases layH_get _ _ _ _ hb with h | h
    · exact .inr ⟨hh _ h, (hok2 _ h).1⟩
    · rw [restr_get] at h
      simp only [Option.map_eq_some_iff, Nat.zero_add] at h
      obtain ⟨c, hc, rfl⟩ := h
      split
      · rename_i hm
        have hm' : k ∈ L.keep := by simpa using hm
        have hget : st0.heap.getD k .dead = c := by rw [List.getD_eq_getElem?_getD, hc]; rfl
        have h1 := hk (k, st0.heap.getD k .dead) (List.mem_map.2 ⟨k, hm', rfl⟩)
        have h2 := hok3 k hm'
        rw [hget] at h1 h2
        exact .inr ⟨h1, h2.1.1⟩
      · exact .inl rfl

/-- A loop by letters. -/
theorem wp_loop_ix {c : Code} {Q : Exit → Act → World → Prop} {S : Type} (I : S → Act → World → Prop) (μ : S → Nat)
    (round : ∀ s a w, I s a w → c.wp P (Exit.then (fun a' w' => ∃ s', I s' a' w' ∧ μ s' < μ s) Q) a w) (s : S) (a : Act) (w : World) (h₀ : I s a w) : (Code.loop c).wp P Q a w := by
  intro b k cs
  have key : ∀ n s a w, μ s = n → I s a w →
      ∃ e a' w', Q e a' w' ∧ Arrives P (lone (b.at a (.code c :: .inLoop c :: k)) cs w) b k cs e a' w' := by
    intro n
    induction n using Nat.strongRecOn with
    | _ n ih =>
      intro s a w hn hI
      obtain ⟨e, a₁, w₁, hq, harr⟩ := round s a w hI b (.inLoop c :: k) cs
      cases e with
      | normal =>
        obtain ⟨s', hI₁, hlt⟩ := hq
        obtain ⟨e₂, a₂, w₂, hq₂, harr₂⟩ := ih (μ s') (hn ▸ hlt) s' a₁ w₁ rfl hI₁
        exact ⟨e₂, a₂, w₂, hq₂, .of_steps (Steps.trans harr (.one step_inLoop)) harr₂⟩
      | exit id => exact ⟨_, a₁, w₁, hq, .pass (x := .inLoop c) rfl (fun _ _ => .inl (by simp)) harr⟩
      | goto l => exact ⟨_, a₁, w₁, hq, .pass (x := .inLoop c) rfl (fun _ _ => .inl (by simp)) harr⟩
      | ret => exact ⟨_, a₁, w₁, hq, .pass (x := .inLoop c) rfl (fun _ _ => .inl (by simp)) harr⟩
      | panic ch => exact ⟨_, a₁, w₁, hq, .pass (x := .inLoop c) rfl (fun _ _ => .inl (by simp)) harr⟩
      | outgrown => exact ⟨_, a₁, w₁, hq, .pass (x := .inLoop c) rfl (fun _ _ => .inl (by simp)) harr⟩
  obtain ⟨e, a', w', hq, harr⟩ := key _ s a w rfl h₀
  exact ⟨e, a', w', hq, .of_steps (.one step_loop) harr⟩

end
end Go.Eng
