/- The engine: contracts of functions that turn memory. No condition. -/
import Derived.Test.YtafmknblnamegaaDoorV8K
namespace Go.Eng

section
variable {P : Program} {Γ : PC} {Λ : LoopSpecs}

/-! ### Effects, slot by slot -/

def Into : List (Nat × Blk) → Nat → Prop
  | [], _ => True
  | (i, _) :: l, n => i ≤ n ∧ Into l (max n (i + 1))

theorem putB_max {i : Nat} {b : Blk} {h : List Blk} (hi : i ≤ h.length) : (putB i b h).length = max h.length (i + 1) := by
  unfold putB
  split
  · rw [List.length_set]; omega
  · simp; omega

theorem effs_into : ∀ (l : List (Nat × Blk)) (h : List Blk), Into l h.length → (l.map (·.1)).Nodup → h.length ≤ (applyEff l h).length ∧
    ∀ k, (∀ b, (k, b) ∈ l → (applyEff l h)[k]? = some b) ∧ ((∀ b, (k, b) ∉ l) → (applyEff l h)[k]? = h[k]?)
  | [], h, _, _ => ⟨Nat.le_refl _, fun k => ⟨fun b hb => by simp at hb, fun _ => rfl⟩⟩
  | (i, b) :: l, h, hi, hnd => by
    have hstep : applyEff ((i, b) :: l) h = applyEff l (putB i b h) := rfl
    rw [List.map_cons, List.nodup_cons] at hnd
    obtain ⟨i1, i2⟩ := effs_into l (putB i b h) (by rw [putB_max hi.1]; exact hi.2) hnd.2
    rw [hstep]
    refine ⟨Nat.le_trans putB_length i1, fun k => ⟨fun b' hb => ?_, fun hb => ?_⟩⟩
    · rcases List.mem_cons.1 hb with e | hb
      · obtain ⟨e1, e2⟩ := Prod.mk.inj e
        rw [e1, e2]
        rw [(i2 i).2 fun b' hb' => hnd.1 (List.mem_map.2 ⟨_, hb', rfl⟩), putB_get hi.1, if_pos rfl]
      · exact (i2 k).1 b' hb
    · rw [(i2 k).2 fun b' hb' => hb b' (List.mem_cons_of_mem _ hb'), putB_get hi.1, if_neg]
      intro e
      subst e
      exact hb b (by simp)

/-! ### The caller's slots for a function's -/

def tau (sl : List Nat) (nx i : Nat) : Nat := cond (Nat.ble 1000000 i) (nx + (i - 1000000)) (sl.getD i 999999)
def phi (sl : List Nat) (nx c : Nat) : Nat := if c < sl.length then sl.getD c 999999 else nx + (c - sl.length)

theorem tau_unf (sl : List Nat) (nx i : Nat) : tau sl nx i = cond (Nat.ble 1000000 i) (nx + (i - 1000000)) (sl.getD i 999999) := rfl
theorem tau_aux (sl : List Nat) (nx m M d i c t : Nat) (hc : c = cond (Nat.ble M i) (sl.length + (i - M)) i) (ht : t = cond (Nat.ble M i) (nx + (i - M)) (sl.getD i d)) (h : (i < M ∧ i < sl.length) ∨ (M ≤ i ∧ i - M < m)) :
    c < sl.length + m ∧ t = if c < sl.length then sl.getD c d else nx + (c - sl.length) := by
  rcases h with ⟨h1, h2⟩ | ⟨h1, h2⟩
  · rw [cond_f _ (ble_f M i h1)] at hc ht
    subst hc
    exact ⟨by omega, by rw [if_pos h2]; exact ht⟩
  · rw [cond_t _ (Nat.ble_eq_true_of_le h1)] at hc ht
    exact ⟨by omega, by rw [if_neg (by omega)]; omega⟩
theorem tau_phi {sl : List Nat} {nx m : Nat} {l : List Nat} (h : refOk sl.length m l = true) : ∀ i ∈ l, cod sl.length i < sl.length + m ∧ tau sl nx i = phi sl nx (cod sl.length i) := fun i hi =>
  tau_aux sl nx m 1000000 999999 i _ _ (cod_unf _ i) (tau_unf sl nx i) (refOk_iff h i hi)

def effM (sl : List Nat) (nx m : Nat) (fin : List Blk) : List (Nat × Blk) := (sl ++ List.range' nx m).zip (fin.map (renB (tau sl nx)))

theorem phi_get {sl : List Nat} {nx m c : Nat} (hc : c < sl.length + m) : (sl ++ List.range' nx m)[c]? = some (phi sl nx c) := by
  unfold phi
  rw [List.getElem?_append]
  split
  · rename_i h
    rw [List.getD_eq_getElem?_getD, List.getElem?_eq_getElem h]; rfl
  · rename_i h
    rw [List.getElem?_range' (by omega)]; simp

theorem zip_mem {sl : List Nat} {nx m : Nat} {bs : List Blk} {k : Nat} {b : Blk} (h : (k, b) ∈ (sl ++ List.range' nx m).zip bs) : ∃ c, c < sl.length + m ∧ phi sl nx c = k ∧ bs[c]? = some b := by
  obtain ⟨c, hc⟩ := List.getElem?_of_mem h
  rw [List.getElem?_zip_eq_some] at hc
  obtain ⟨h1, h2⟩ := hc
  have hlt := (List.getElem?_eq_some_iff.1 h1).1
  simp at hlt
  rw [phi_get hlt] at h1
  exact ⟨c, hlt, by cases h1; rfl, h2⟩

/-- Read alone, with the same elements. -/
def sameRo (b b' : Blk) : Prop := ∃ kd xs f f', b = .ror kd xs f ∧ b' = .ror kd xs f' ∧ (f = true → f' = true)
/-- What is read alone stays. -/
def keepRo : Blk → Blk → Blk
  | .ror kd xs f, _ => .ror kd xs f
  | _, b => b

theorem isRo.less {E : Env} {kd : List Kd} {xs : List (List Value)} {f f' : Bool} {y : Value} (h : isRo E kd xs f' y) (hf : f = true → f' = true) : isRo E kd xs f y := by
  obtain ⟨a, c, h1, h2, h3, h4⟩ := h
  exact ⟨a, c, h1, h2, fun e => h3 (hf e), h4⟩
theorem isRo.move {E E' : Env} {kd : List Kd} {xs : List (List Value)} {f : Bool} {y : Value} (h : isRo E kd xs f y) (hf : ∀ n, E.fixed n → E'.fixed n ∧ E'.w0.heap[n]? = E.w0.heap[n]?) : isRo E' kd xs f y := by
  obtain ⟨a, c, h1, h2, h3, h4, h5, h6⟩ := h
  refine ⟨a, c, h1, h2, h3, h4, h5, ?_⟩
  rcases h6 with h6 | ⟨b, off, e, hb, hc⟩
  · exact .inl h6
  · exact .inr ⟨b, off, e, (hf b hb).1, fun j u hu => by rw [cell?_at (hf b hb).2]; exact hc j u hu⟩

theorem DH.graftM {E : Env} {ρ ρh : Rho} {h : List Blk} {w w' : World} {M : List Nat} {sl : List Nat} {fin0 fin : List Blk} {m nx : Nat} {val : SV} (D : DH E ρ h w) (Dh : DH ⟨w.heap.size, w, M⟩ ρh (fin0.map (renB (cod sl.length))) w')
    (hfin : fin.length = sl.length + m) (hfin0 : fin0.length = fin.length) (hrel : ∀ (c : Nat) (b : Blk), fin[c]? = some b → fin0[c]? = some b ∨ ∃ (i : Nat) (b' : Blk), sl[c]? = some i ∧ h[i]? = some b' ∧ sameRo b b') (hown : ∀ b ∈ fin0, b = .dead ∨ ownN b = true) (href : ∀ b ∈ fin0, refOk sl.length m (blkRefs b) = true) (hval : refOk sl.length m (refs val) = true)
    (hsl : ∀ c i, sl[c]? = some i → ρh c = ρ i ∧ ∃ b', h[i]? = some b' ∧ b' ≠ .hole) (hM : ∀ n ∈ M, ∃ i ∈ sl, ∃ b', h[i]? = some b' ∧ takes ρ i b' n) (nd : sl.Nodup) (f : Free h nx) (hn : m ≤ 4 ∨ nx = h.length)
    {y : Value} (hy : DV ρh (ren (cod sl.length) val) y) :
    ∃ ρ', Ext ρ ρ' ∧ DV ρ' (ren (tau sl nx) val) y ∧ DH E ρ' (applyEff (effM sl nx m fin) h) w' := by
  have hslt : ∀ i ∈ sl, i < h.length ∧ ¬ (nx ≤ i ∧ i < nx + m) := fun i hi => by
    obtain ⟨c, hc⟩ := List.getElem?_of_mem hi
    obtain ⟨_, b', hb', hne⟩ := hsl c i hc
    have hlt := (List.getElem?_eq_some_iff.1 hb').1
    refine ⟨hlt, fun hr => ?_⟩
    rcases f with f | f
    · omega
    · rcases hn with hn | hn
      · have := f (i - nx) (by omega)
        rw [show nx + (i - nx) = i by omega, hb'] at this
        cases this; exact hne rfl
      · omega
  have hslb : ∀ i ∈ sl, ¬ (nx ≤ i ∧ i < nx + m) := fun i hi => (hslt i hi).2
  have hnd : (sl ++ List.range' nx m).Nodup := by
    rw [List.nodup_append]
    refine ⟨nd, List.nodup_range', fun a ha b hb e => ?_⟩
    subst e
    rw [List.mem_range'_1] at hb
    exact hslb a ha hb
  have hlen2 : (sl ++ List.range' nx m).length = fin.length := by simp [hfin]
  have hinto : ∀ (l : List Nat) (bs : List Blk) (n : Nat), (∀ i ∈ l, i < n) → ∀ a k, n ≤ a → (nx + k ≤ a ∨ nx = a) → Into ((l ++ List.range' nx k).zip bs) a := by
    intro l
    induction l with
    | nil =>
      intro bs n _ a k
      induction k generalizing bs a with
      | zero => intro _ _; cases bs <;> simp [Into]
      | succ k ih =>
        intro hna hka
        cases bs with
        | nil => simp [Into]
        | cons b bs =>
          have : ∀ (s k : Nat) (bs : List Blk) (a : Nat), (s + k ≤ a ∨ s = a) → Into ((List.range' s k).zip bs) a := by
            intro s k
            induction k generalizing s with
            | zero => intro bs a _; simp [Into]
            | succ k ih2 =>
              intro bs a hk
              cases bs with
              | nil => simp [Into]
              | cons b bs =>
                rw [List.range'_succ, List.zip_cons_cons]
                refine ⟨by omega, ih2 (s + 1) bs _ ?_⟩
                rcases hk with h1 | h1
                · left; omega
                · right; omega
          simp only [List.nil_append]
          exact this nx (k + 1) _ a hka
    | cons i l ih =>
      intro bs n hl a k hna hka
      cases bs with
      | nil => simp [Into]
      | cons b bs =>
        rw [List.cons_append, List.zip_cons_cons]
        have hi := hl i (by simp)
        refine ⟨by omega, ?_⟩
        rw [show max a (i + 1) = a by omega]
        exact ih bs n (fun j hj => hl j (by simp [hj])) a k hna hka
  obtain ⟨hlen, hget⟩ := effs_into (effM sl nx m fin) h (hinto sl _ h.length (fun i hi => (hslt i hi).1) h.length m (Nat.le_refl _) (f.room hn)) (by
    unfold effM
    rw [List.map_fst_zip (by simp [hfin])]
    exact hnd)
  obtain ⟨ρ', hρ'⟩ : ∃ ρ' : Rho, ρ' = fun k => if nx ≤ k ∧ k < nx + m then ρh (sl.length + (k - nx)) else ρ k := ⟨_, rfl⟩
  have hin : ∀ k, nx ≤ k → k < nx + m → ρ k = none := fun k h1 h2 => by
    exact f.nones D hn h1 h2
  have hx : Ext ρ ρ' := fun k l hk => by
    rw [hρ']; simp only
    split
    · rename_i hc; rw [hin k hc.1 hc.2] at hk; cases hk
    · exact hk
  have hphi : ∀ c, c < sl.length + m → ρ' (phi sl nx c) = ρh c := fun c hc => by
    unfold phi
    split
    · rename_i hlt
      have hs : sl[c]? = some (sl.getD c 999999) := by rw [List.getD_eq_getElem?_getD, List.getElem?_eq_getElem hlt]; rfl
      rw [(hsl c _ hs).1, hρ']
      simp only
      rw [if_neg (hslb _ (List.mem_of_getElem? hs))]
    · rename_i hlt
      rw [hρ']; simp only
      rw [if_pos (by omega)]
      congr 1; omega
  have hren : ∀ l, refOk sl.length m l = true → ∀ i ∈ l, ∀ p, ρh (cod sl.length i) = some p → ρ' (tau sl nx i) = some p := fun l hl i hi p hp => by
    obtain ⟨h1, h2⟩ := tau_phi (nx := nx) hl i hi
    rw [h2, hphi _ h1]; exact hp
  -- a slot of the new view: one of the function's, or as it was
  have view : ∀ k b, (applyEff (effM sl nx m fin) h)[k]? = some b → (∃ c, c < sl.length + m ∧ phi sl nx c = k ∧ ∃ b0, (fin0.map (renB (cod sl.length)))[c]? = some b0 ∧ BlkOk E ρ' w' k b ∧ ∀ n, takes ρ' k b n → takes ρh c b0 n) ∨
      (k ∉ sl ∧ ¬ (nx ≤ k ∧ k < nx + m) ∧ h[k]? = some b) := fun k b hb => by
    by_cases hc : ∃ b', (k, b') ∈ effM sl nx m fin
    · obtain ⟨b', hb'⟩ := hc
      have h1 := (hget k).1 b' hb'
      rw [hb] at h1; cases h1
      obtain ⟨c, hc, hk, hbc⟩ := zip_mem hb'
      rw [List.getElem?_map] at hbc
      obtain ⟨b0, hb0, rfl⟩ := Option.map_eq_some_iff.1 hbc
      rcases hrel c b0 hb0 with hb0 | ⟨i, b', hi, hbi, kd, xs, f1, f2, rfl, rfl, hff⟩
      rotate_left
      · have hlt : c < fin0.length := by rw [hfin0, hfin]; exact hc
        refine .inl ⟨c, hc, hk, renB (cod sl.length) (fin0[c]'hlt), by rw [List.getElem?_map, List.getElem?_eq_getElem hlt]; rfl, ?_, fun n hn => hn.elim⟩
        obtain ⟨p, hp, h1, h2, h3⟩ := D.ok i _ hbi
        have hki : k = i := by
          rw [← hk]; unfold phi
          have hcl := (List.getElem?_eq_some_iff.1 hi).1
          rw [if_pos hcl, List.getD_eq_getElem?_getD, hi]; rfl
        exact ⟨p, by rw [hki]; exact hx i p hp, h1, h2, h3.less hff⟩
      have hm := List.mem_of_getElem? hb0
      have hc0 : (fin0.map (renB (cod sl.length)))[c]? = some (renB (cod sl.length) b0) := by rw [List.getElem?_map, hb0]; rfl
      refine .inl ⟨c, hc, hk, _, hc0, ?_⟩
      rcases hown b0 hm with rfl | ow
      · exact ⟨trivial, fun n hn => hn⟩
      · obtain ⟨ok', tk⟩ := BlkOk_ren (i := c) (j := k) (cod sl.length) (tau sl nx) (b := b0) (by rintro rfl; cases ow) (fun p hp => by rw [← hk, hphi c hc]; exact hp) (hren _ (href b0 hm)) (Dh.ok _ _ hc0)
        refine ⟨?_, tk⟩
        cases b0 with
        | cells e cs => exact ok'
        | row e kd xs => exact ok'
        | rr e g => exact ok'
        | fam kf css l => exact ok'
        | der n g kf exc => exact ok'
        | opq n => exact ok'
        | _ => cases ow
    · have hc' : ∀ b', (k, b') ∉ effM sl nx m fin := fun b' hb' => hc ⟨b', hb'⟩
      have h1 := (hget k).2 hc'
      rw [hb] at h1
      have notin : ∀ c, c < sl.length + m → phi sl nx c ≠ k := fun c hc e => by
        have h2 := phi_get (nx := nx) hc
        have h3 : (fin.map (renB (tau sl nx)))[c]? = some ((fin.map (renB (tau sl nx)))[c]'(by simp [hfin]; omega)) := List.getElem?_eq_getElem _
        refine hc' ((fin.map (renB (tau sl nx)))[c]'(by simp [hfin]; omega)) ?_
        rw [← e]
        exact List.mem_of_getElem? (List.getElem?_zip_eq_some.2 ⟨h2, h3⟩)
      refine .inr ⟨fun hk => ?_, fun hk => ?_, h1.symm⟩
      · obtain ⟨c, hcs⟩ := List.getElem?_of_mem hk
        have hlt := (List.getElem?_eq_some_iff.1 hcs).1
        refine notin c (by omega) ?_
        unfold phi
        rw [if_pos hlt, List.getD_eq_getElem?_getD, hcs]; rfl
      · refine notin (sl.length + (k - nx)) (by omega) ?_
        unfold phi
        rw [if_neg (by omega)]; omega
  -- what others take stays
  have other : ∀ k b n, k ∉ sl → h[k]? = some b → takes ρ k b n → n < w.heap.size ∧ n ∉ M := fun k b n hk hb ht => by
    refine ⟨(D.own k b n hb ht).2, fun hm => ?_⟩
    obtain ⟨i, hi, b', hb', ht'⟩ := hM n hm
    exact D.apart k i b b' n (fun e => hk (e ▸ hi)) hb hb' ht ht'
  have fixM : ∀ n, E.fixed n → n ∉ M := fun n hf hm => by
    obtain ⟨i, _, b', hb', ht'⟩ := hM n hm
    exact (D.own i b' n hb' ht').1 hf
  have stay : ∀ n, n < w.heap.size → n ∉ M → w'.heap[n]? = w.heap[n]? := fun n h1 h2 => Dh.old n ⟨h1, h2⟩
  have small : ∀ k b n, k ∉ sl → h[k]? = some b → takes ρ' k b n → n < w.heap.size ∧ n ∉ M := fun k b n hk hb ht => other k b n hk hb (takes.back hx (D.ok k b hb) ht)
  refine ⟨ρ', hx, DV_ren (cod sl.length) (tau sl nx) _ _ (hren _ hval) hy, ⟨D.same.trans Dh.same, D.base, D.glob, fun k hk => ?_, fun k hk => ?_, fun k b hk => ?_, fun k b n hk ht => ?_, fun i j b c n hne hi hj ht ht' => ?_⟩⟩
  · rw [← D.old k hk]; exact stay k (fixed_lt D hk) (fixM k hk)
  · by_cases hc : nx ≤ k ∧ k < nx + m
    · exfalso
      have h1 := phi_get (nx := nx) (m := m) (sl := sl) (c := sl.length + (k - nx)) (by omega)
      have h3 : (fin.map (renB (tau sl nx)))[sl.length + (k - nx)]? = some ((fin.map (renB (tau sl nx)))[sl.length + (k - nx)]'(by simp [hfin]; omega)) := List.getElem?_eq_getElem _
      have hz : (effM sl nx m fin)[sl.length + (k - nx)]? = some (phi sl nx (sl.length + (k - nx)), (fin.map (renB (tau sl nx)))[sl.length + (k - nx)]'(by simp [hfin]; omega)) := List.getElem?_zip_eq_some.2 ⟨h1, h3⟩
      have hmem := List.mem_of_getElem? hz
      have e : phi sl nx (sl.length + (k - nx)) = k := by unfold phi; rw [if_neg (by omega)]; omega
      rw [e] at hmem
      have h4 := (hget k).1 _ hmem
      have := (List.getElem?_eq_some_iff.1 h4).1
      omega
    · rw [hρ']; simp only
      rw [if_neg hc]; exact D.fresh k (Nat.le_trans hlen hk)
  · rcases view k b hk with ⟨c, _, _, b0, _, ok, _⟩ | ⟨h1, h2, h3⟩
    · exact ok
    · refine (D.ok k b h3).keep hx (fun e => by rw [hρ']; simp only; rw [if_neg h2]; subst e; exact D.ok k _ h3) fun n hn => ?_
      obtain ⟨h4, h5⟩ := other k b n h1 h3 hn
      exact stay n h4 h5
  · rcases view k b hk with ⟨c, _, _, b0, hb0, _, tk⟩ | ⟨h1, h2, h3⟩
    · have := Dh.own c b0 n hb0 (tk n ht)
      exact ⟨fun hf => this.1 ⟨fixed_lt D hf, fixM n hf⟩, this.2⟩
    · have := D.own k b n h3 (takes.back hx (D.ok k b h3) ht)
      exact ⟨this.1, Nat.lt_of_lt_of_le this.2 Dh.same.size⟩
  · rcases view i b hi with ⟨c1, _, e1, b1, hb1, _, t1⟩ | ⟨h1, h2, h3⟩ <;> rcases view j c hj with ⟨c2, _, e2, b2, hb2, _, t2⟩ | ⟨k1, k2, k3⟩
    · exact Dh.apart c1 c2 b1 b2 n (fun e => hne (by rw [← e1, ← e2, e])) hb1 hb2 (t1 n ht) (t2 n ht')
    · have s := small j c n k1 k3 ht'
      exact (Dh.own c1 b1 n hb1 (t1 n ht)).1 s
    · have s := small i b n h1 h3 ht
      exact (Dh.own c2 b2 n hb2 (t2 n ht')).1 s
    · exact D.apart i j b c n hne h3 k3 (takes.back hx (D.ok i b h3) ht) (takes.back hx (D.ok j c k3) ht')


/-! ### Arguments whose memory turns -/

def famL (kf : List Kf) (lent : Option Nat) (p : Loc) : List Nat := match p.val with
  | .tuple ys => (List.range ys.size).filterMap fun j => if isSl kf (j % kf.length) = true ∧ lent ≠ some j then (ys.toList[j]?).bind sliceB else none
  | _ => []
theorem mem_famL {kf : List Kf} {lent : Option Nat} {p : Loc} {b : Nat} : b ∈ famL kf lent p ↔ famT kf lent p b := by
  unfold famL famT
  constructor
  · intro h
    split at h
    · rename_i ys hv
      obtain ⟨j, _, hj⟩ := List.mem_filterMap.1 h
      split at hj
      · rename_i hc
        obtain ⟨y, hy, hb⟩ := Option.bind_eq_some_iff.1 hj
        exact ⟨ys, hv, j, hc.1, hc.2, y, hy, hb⟩
      · cases hj
    · cases h
  · rintro ⟨ys, hv, j, h1, h2, y, hy, hb⟩
    rw [hv]
    simp only
    refine List.mem_filterMap.2 ⟨j, List.mem_range.2 ?_, ?_⟩
    · simpa using (List.getElem?_eq_some_iff.1 hy).1
    · rw [if_pos ⟨h1, h2⟩, hy]; exact hb
def takeL (ρ : Rho) (h : List Blk) (i : Nat) : List Nat := match h[i]?, ρ i with
  | some (.cells ..), some p => [p.block]
  | some (.row ..), some p => (sliceB p.val).toList
  | some .dfr, some p => [p.block]
  | some (.loop ..), some p => [p.block]
  | some (.map ..), some p => [p.block]
  | some (.iter ..), some p => [p.block]
  | some (.rr ..), some p => (sliceB p.val).toList
  | some (.fam kf _ l), some p => famL kf l p
  | _, _ => []
theorem mem_takeL {ρ : Rho} {h : List Blk} {i n : Nat} : n ∈ takeL ρ h i ↔ ∃ b, h[i]? = some b ∧ takes ρ i b n := by
  unfold takeL
  constructor
  · intro hn
    split at hn
    · rename_i p hb hp; exact ⟨_, hb, p, hp, by simpa using (List.mem_singleton.1 hn).symm⟩
    · rename_i p hb hp; exact ⟨_, hb, p, hp, by simpa using hn⟩
    · rename_i p hb hp; exact ⟨_, hb, p, hp, by simpa using (List.mem_singleton.1 hn).symm⟩
    · rename_i p hb hp; exact ⟨_, hb, p, hp, by simpa using (List.mem_singleton.1 hn).symm⟩
    · rename_i p hb hp; exact ⟨_, hb, p, hp, by simpa using (List.mem_singleton.1 hn).symm⟩
    · rename_i p hb hp; exact ⟨_, hb, p, hp, by simpa using (List.mem_singleton.1 hn).symm⟩
    · rename_i p hb hp; exact ⟨_, hb, p, hp, by simpa using hn⟩
    · rename_i kf css l p hb hp; exact ⟨_, hb, p, hp, mem_famL.1 hn⟩
    · simp at hn
  · rintro ⟨b, hb, ht⟩
    cases b with
    | hole => exact ht.elim
    | dead => exact ht.elim
    | rcells => exact ht.elim
    | ror => exact ht.elim
    | ali => exact ht.elim
    | der => exact ht.elim
    | rfm => exact ht.elim
    | rof => exact ht.elim
    | opq => exact ht.elim
    | fam kf css l => obtain ⟨p, hp, e⟩ := ht; rw [hb, hp]; exact mem_famL.2 e
    | _ => obtain ⟨p, hp, e⟩ := ht; rw [hb, hp]; simp_all

/-- The function's slots are some of the caller's. -/
structure Inv (E : Env) (ρ : Rho) (h : List Blk) (w : World) (ρ0 : Rho) (h0 : List Blk) (sl : List Nat) : Prop where
  len : sl.length = h0.length
  fresh : ∀ i, h0.length ≤ i → ρ0 i = none
  ok : ∀ c b, h0[c]? = some b → BlkOk E ρ0 w c b ∧ ∃ i b', sl[c]? = some i ∧ h[i]? = some b' ∧ (b' ≠ .hole ∧ b' ≠ .dead) ∧ ρ0 c = ρ i ∧ (ownB b = true ∨ sameRo b b') ∧ ∀ n, takes ρ0 c b n → takes ρ i b' n

theorem Inv.start (E : Env) (ρ : Rho) (h : List Blk) (w : World) : Inv E ρ h w (fun _ => none) [] [] := ⟨rfl, fun _ _ => rfl, fun c b hc => by simp at hc⟩

theorem Inv.add {E : Env} {ρ ρ0 : Rho} {h h0 : List Blk} {w : World} {sl : List Nat} (I : Inv E ρ h w ρ0 h0 sl) {i : Nat} {b b' : Blk} {l : Loc} (hb' : h[i]? = some b') (hne : b' ≠ .hole ∧ b' ≠ .dead) (hl : ρ i = some l) (hown : ownB b = true ∨ sameRo b b')
    (ok : BlkOk E (upd ρ0 h0.length l) w h0.length b) (tk : ∀ n, takes (upd ρ0 h0.length l) h0.length b n → takes ρ i b' n) : Ext ρ0 (upd ρ0 h0.length l) ∧ Inv E ρ h w (upd ρ0 h0.length l) (h0 ++ [b]) (sl ++ [i]) := by
  have hx := upd_ext (l := l) (I.fresh h0.length (Nat.le_refl _))
  refine ⟨hx, by simp [I.len], fun j hj => ?_, fun c d hc => ?_⟩
  · simp only [List.length_append, List.length_singleton] at hj
    exact upd_other (by omega) (I.fresh j (by omega))
  · rw [List.getElem?_append] at hc
    split at hc
    · rename_i hlt
      obtain ⟨h2, k, b2, h3, h4, h5, h6, h1, h7⟩ := I.ok c d hc
      have hc0 : upd ρ0 h0.length l c = ρ0 c := by unfold upd; rw [if_neg (by omega)]
      refine ⟨h2.keep hx (fun e => by subst e; rcases h1 with h1 | ⟨_, _, _, _, h1, _⟩ <;> cases h1) (fun _ _ => rfl), k, b2, ?_, h4, h5, by rw [hc0]; exact h6, h1, fun n hn => h7 n (takes.back hx h2 hn)⟩
      rw [List.getElem?_append_left (by rw [I.len]; exact hlt)]; exact h3
    · rename_i hlt
      have : c = h0.length := by
        have := (List.getElem?_eq_some_iff.1 hc).1
        simp at this; omega
      subst this
      simp at hc
      subst hc
      refine ⟨ok, i, b', ?_, hb', hne, by rw [upd_same, hl], hown, tk⟩
      rw [List.getElem?_append_right (by rw [I.len]; exact Nat.le_refl _), I.len]; simp

theorem Inv.start_DH {E : Env} {ρ ρ0 : Rho} {h h0 : List Blk} {w : World} {sl : List Nat} (D : DH E ρ h w) (I : Inv E ρ h w ρ0 h0 sl) (nd : sl.Nodup) : DH ⟨w.heap.size, w, sl.flatMap (takeL ρ h)⟩ ρ0 h0 w := by
  have tk : ∀ c b n, h0[c]? = some b → takes ρ0 c b n → ∃ i b', sl[c]? = some i ∧ h[i]? = some b' ∧ takes ρ i b' n := fun c b n hc ht => by
    obtain ⟨_, i, b', h3, h4, _, _, _, h7⟩ := I.ok c b hc
    exact ⟨i, b', h3, h4, h7 n ht⟩
  refine ⟨Same.refl w, Nat.le_refl _, fun x hx => ?_, fun _ _ => rfl, I.fresh, fun c b hc => ?_, fun c b n hc ht => ?_, fun c c' b b' n hne hc hc' ht ht' => ?_⟩
  · obtain ⟨h1, h2⟩ := D.glob x hx
    refine ⟨(cell?_at (D.old 0 h2)).trans h1, fixed_lt D h2, fun hm => ?_⟩
    obtain ⟨j, hj, ht⟩ := List.mem_flatMap.1 hm
    obtain ⟨b2, hb2, ht⟩ := mem_takeL.1 ht
    exact (D.own j b2 0 hb2 ht).1 h2
  · obtain ⟨h2, i, b', _, _, _, _, h1, _⟩ := I.ok c b hc
    cases b with
    | cells e cs => exact h2
    | row e kd xs => exact h2
    | rr e g => exact h2
    | fam kf css l => exact h2
    | ror kd xs f =>
      obtain ⟨p, hp, k1, k2, k3⟩ := h2
      refine ⟨p, hp, k1, k2, k3.move fun n hn => ⟨⟨fixed_lt D hn, fun hm => ?_⟩, D.old n hn⟩⟩
      obtain ⟨j, hj, ht⟩ := List.mem_flatMap.1 hm
      obtain ⟨b2, hb2, ht⟩ := mem_takeL.1 ht
      exact (D.own j b2 n hb2 ht).1 hn
    | _ => rcases h1 with h1 | ⟨_, _, _, _, h1, _⟩ <;> cases h1
  · obtain ⟨i, b', h3, h4, h5⟩ := tk c b n hc ht
    exact ⟨fun hf => hf.2 (List.mem_flatMap.2 ⟨i, List.mem_of_getElem? h3, mem_takeL.2 ⟨b', h4, h5⟩⟩), (D.own i b' n h4 h5).2⟩
  · obtain ⟨i, b1, h3, h4, h5⟩ := tk c b n hc ht
    obtain ⟨j, b2, k3, k4, k5⟩ := tk c' b' n hc' ht'
    refine D.apart i j b1 b2 n ?_ h4 k4 h5 k5
    rintro rfl
    have := (List.getElem?_inj (List.getElem?_eq_some_iff.1 h3).1 nd).1 (h3.trans k3.symm)
    exact hne this

structure ParM (α : Type) where
  get : List Blk → SV → Option (α × List Nat)
  put : Nat → α → SV × List Blk
  fact : α → Prop
  ok : ∀ h s x sl, get h s = some (x, sl) → ∀ E ρ w y, DH E ρ h w → DV ρ s y → fact x ∧ ∀ ρ0 h0 sl0, Inv E ρ h w ρ0 h0 sl0 → ∃ ρ1, Ext ρ0 ρ1 ∧ DV ρ1 (put h0.length x).1 y ∧ Inv E ρ h w ρ1 (h0 ++ (put h0.length x).2) (sl0 ++ sl)

structure ParML (α : Type) where
  get : List Blk → List SV → Option (α × List Nat)
  put : Nat → α → List SV × List Blk
  fact : α → Prop
  ok : ∀ h s x sl, get h s = some (x, sl) → ∀ E ρ w y, DH E ρ h w → DL ρ s y → fact x ∧ ∀ ρ0 h0 sl0, Inv E ρ h w ρ0 h0 sl0 → ∃ ρ1, Ext ρ0 ρ1 ∧ DL ρ1 (put h0.length x).1 y ∧ Inv E ρ h w ρ1 (h0 ++ (put h0.length x).2) (sl0 ++ sl)

/-- What needs no memory. -/
def ParM.of {α : Type} (p : Par α) (hp : ∀ n x, p.put n x = ((p.put 0 x).1, [])) : ParM α where
  get h s := (p.get h s).map fun x => (x, [])
  put _ x := ((p.put 0 x).1, [])
  fact := p.fact
  ok h s x sl hg E ρ w y D hd := by
    simp only [Option.map_eq_some_iff, Prod.mk.injEq] at hg
    obtain ⟨x', hg, rfl, rfl⟩ := hg
    obtain ⟨h1, h2⟩ := p.ok h s x' hg E ρ w y D hd
    refine ⟨h1, fun ρ0 h0 sl0 I => ?_⟩
    obtain ⟨ρ1, _, d1, D1⟩ := h2 _ _ (DH.start w D.globAt)
    rw [hp] at D1
    simp only [List.append_nil] at D1
    have hn : Ext ρ1 ρ0 := fun i l hi => by rw [D1.fresh i (Nat.zero_le _)] at hi; cases hi
    exact ⟨ρ0, Ext.refl _, DV.mono hn _ _ d1, by simpa using I⟩

/-- A growing slice. -/
def ParM.row (el : TypeId) (kd : List Kd) : ParM (List (List Value)) where
  get h s := match s with
    | .row i => match h[i]? with
      | some (.row el' kd' xs) => cond (decide (el' = el) && kdEq kd' kd) (some (xs, [i])) none
      | _ => none
    | _ => none
  put n xs := (.row n, [.row el kd xs])
  fact xs := (∀ x ∈ xs, Wk kd x) ∧ xs.length ≤ maxLen
  ok h s xs sl hg E ρ w y D hd := by
    split at hg
    · rename_i i
      split at hg
      · rename_i el' kd' xs' hi
        obtain ⟨hc, e⟩ := cond_some hg
        cases e
        simp only [Bool.and_eq_true, decide_eq_true_eq] at hc
        obtain ⟨rfl, hk⟩ := hc
        have := kdEq_eq hk
        subst this
        obtain ⟨p, hp, h1, h2, h3, h4⟩ := D.ok i _ hi
        simp only [DV] at hd
        obtain ⟨p', a, n, c, hp', rfl, e⟩ := hd
        rw [hp] at hp'; cases hp'
        obtain ⟨a2, c2, e2, _, hm, _⟩ := h4.len
        refine ⟨⟨h3, hm⟩, fun ρ0 h0 sl0 I => ?_⟩
        have := I.add (b := .row el' kd' xs) (l := p) hi ⟨by simp, by simp⟩ hp (.inl rfl) ⟨p, upd_same _ _, h1, h2, h3, h4⟩ (by
          rintro n ⟨q, hq, hs⟩
          rw [upd_same] at hq; cases hq
          exact ⟨p, hp, hs⟩)
        exact ⟨_, this.1, by simp only [DV]; exact ⟨p, a, n, c, upd_same _ _, rfl, e⟩, this.2⟩
      · cases hg
    · cases hg

/-- A slice that is read alone. -/
def ParM.ror (kd : List Kd) : ParM (List (List Value)) where
  get h s := match s with
    | .row i => match h[i]? with
      | some (.ror kd' xs _) => cond (kdEq kd' kd) (some (xs, [i])) none
      | _ => none
    | _ => none
  put n xs := (.row n, [.ror kd xs false])
  fact xs := (∀ x ∈ xs, Wk kd x) ∧ xs.length ≤ maxLen
  ok h s xs sl hg E ρ w y D hd := by
    split at hg
    · rename_i i
      split at hg
      · rename_i kd' xs' f hi
        obtain ⟨hk, e⟩ := cond_some hg
        cases e
        have := kdEq_eq hk
        subst this
        obtain ⟨p, hp, h1, h2, h3⟩ := D.ok i _ hi
        simp only [DV] at hd
        obtain ⟨p', a, n, c, hp', rfl, e⟩ := hd
        rw [hp] at hp'; cases hp'
        refine ⟨⟨by obtain ⟨_, _, _, _, _, _, k5, _⟩ := h3; exact k5, by obtain ⟨_, _, _, _, _, k4, _⟩ := h3; exact k4⟩, fun ρ0 h0 sl0 I => ?_⟩
        have := I.add (b := .ror kd' xs false) (l := p) hi ⟨by simp, by simp⟩ hp (.inr ⟨kd', xs, false, f, rfl, rfl, fun h => by cases h⟩) ⟨p, upd_same _ _, h1, h2, h3.less fun h => by cases h⟩ (fun n hn => hn.elim)
        exact ⟨_, this.1, by simp only [DV]; exact ⟨p, a, n, c, upd_same _ _, rfl, e⟩, this.2⟩
      · cases hg
    · cases hg

/-- A pointer to a block's cell. -/
def ParM.ptr {α : Type} (el : TypeId) (q : ParML α) (off : Nat := 0) : ParM α where
  get h s := match s with
    | .ptr i o => match h[i]? with
      | some (.cells e cs) => cond (Nat.beq o off && decide (e = el)) ((q.get h cs).map fun x => (x.1, x.2 ++ [i])) none
      | _ => none
    | _ => none
  put n x := (.ptr (n + (q.put n x).2.length) off, (q.put n x).2 ++ [.cells el (q.put n x).1])
  fact := q.fact
  ok h s x sl hg E ρ w y D hd := by
    split at hg
    · rename_i i o
      split at hg
      · rename_i e cs hi
        replace hg := cond_none hg
        obtain ⟨ho, hg⟩ := hg
        simp only [Bool.and_eq_true, decide_eq_true_eq] at ho
        obtain ⟨ho, rfl⟩ := ho
        replace ho := Nat.eq_of_beq_eq_true ho
        subst ho
        obtain ⟨⟨x', sl'⟩, hq, he⟩ := Option.map_eq_some_iff.1 hg
        cases he
        simp only [DV] at hd
        obtain ⟨p, hp, rfl⟩ := hd
        obtain ⟨p', vs, hp', hw, hl⟩ := D.ok i _ hi
        rw [hp] at hp'; cases hp'
        obtain ⟨h1, h2⟩ := q.ok h cs x' sl' hq E ρ w _ D hl
        refine ⟨h1, fun ρ0 h0 sl0 I => ?_⟩
        obtain ⟨ρ1, x1, d1, I1⟩ := h2 ρ0 h0 sl0 I
        have hx := upd_ext (l := p) (I1.fresh _ (Nat.le_refl _))
        have := I1.add (b := .cells e (q.put h0.length x').1) (l := p) hi ⟨by simp, by simp⟩ hp (.inl rfl) ⟨p, vs, upd_same _ _, hw, DL.mono hx _ _ d1⟩ (by
          rintro n ⟨r, hr, hs⟩
          rw [upd_same] at hr; cases hr
          exact ⟨p, hp, hs⟩)
        rw [List.length_append] at this
        refine ⟨_, x1.trans this.1, ?_, by rw [← List.append_assoc, ← List.append_assoc]; exact this.2⟩
        simp only [DV]; exact ⟨p, upd_same _ _, rfl⟩
      · cases hg
    · cases hg

def ParML.nil : ParML Unit where
  get _ l := match l with
    | [] => some ((), [])
    | _ => none
  put _ _ := ([], [])
  fact _ := True
  ok h s x sl hg E ρ w y D hd := by
    split at hg
    · cases hg
      simp only [DL] at hd; subst hd
      exact ⟨trivial, fun ρ0 h0 sl0 I => ⟨ρ0, Ext.refl _, DL.nil, by simpa using I⟩⟩
    · cases hg

def ParML.cons {α β : Type} (p : ParM α) (q : ParML β) : ParML (α × β) where
  get h l := match l with
    | s :: r => match p.get h s, q.get h r with
      | some x, some y => some ((x.1, y.1), x.2 ++ y.2)
      | _, _ => none
    | _ => none
  put n x := ((p.put n x.1).1 :: (q.put (n + (p.put n x.1).2.length) x.2).1, (p.put n x.1).2 ++ (q.put (n + (p.put n x.1).2.length) x.2).2)
  fact x := p.fact x.1 ∧ q.fact x.2
  ok h s x sl hg E ρ w y D hd := by
    split at hg
    · split at hg
      · rename_i x1 x2 hx hy
        obtain ⟨x1, s1⟩ := x1
        obtain ⟨x2, s2⟩ := x2
        cases hg
        simp only [DL] at hd
        obtain ⟨z, t, rfl, hz, ht⟩ := hd
        obtain ⟨f1, g1⟩ := p.ok _ _ _ _ hx E ρ w z D hz
        obtain ⟨f2, g2⟩ := q.ok _ _ _ _ hy E ρ w t D ht
        refine ⟨⟨f1, f2⟩, fun ρ0 h0 sl0 I0 => ?_⟩
        obtain ⟨ρ1, e1, d1, I1⟩ := g1 ρ0 h0 sl0 I0
        obtain ⟨ρ2, e2, d2, I2⟩ := g2 ρ1 _ _ I1
        rw [List.length_append] at d2 I2
        exact ⟨ρ2, e1.trans e2, DL.cons (DV.mono e2 _ _ d1) d2, by rw [← List.append_assoc, ← List.append_assoc]; exact I2⟩
      · cases hg
    · cases hg

def ParM.agg {α : Type} (q : ParML α) : ParM α where
  get h s := match s with
    | .agg l => q.get h l
    | _ => none
  put n x := (.agg (q.put n x).1, (q.put n x).2)
  fact := q.fact
  ok h s x sl hg E ρ w y D hd := by
    split at hg
    · simp only [DV] at hd
      obtain ⟨a, rfl, hl⟩ := hd
      obtain ⟨h1, h2⟩ := q.ok _ _ _ _ hg E ρ w _ D hl
      refine ⟨h1, fun ρ0 h0 sl0 I0 => ?_⟩
      obtain ⟨ρ1, x1, d1, I1⟩ := h2 ρ0 h0 sl0 I0
      exact ⟨ρ1, x1, by simp only [DV]; exact ⟨a, rfl, d1⟩, I1⟩
    · cases hg

/-- What a function answers, and what it leaves: its slots, by their numbers in the arguments' shape; new ones. -/
structure OutM where
  need : List Bool
  val : SV
  heap : List (Nat × Blk)
  news : List Blk := []

def OutM.pat (o : OutM) : Pat := ⟨[(0, o.val)], o.heap, [], o.news⟩
def outOkM (h1 : List Blk) (o : OutM) : Bool := specOk [0] o.pat ⟨[.any], h1, []⟩ && (o.heap.all (fun x => ownB x.2) && o.news.all ownN)
def fitM (h1 : List Blk) (o : OutM) (u : SV) (h : List Blk) : Prop := bareX (unifS o.news [(0, o.val)] o.heap ⟨[u], h, []⟩) fun x => fits o.pat ⟨[.any], h1, []⟩ x
def finM (n : Nat) (o : OutM) : List Blk := layH (List.replicate n .dead) o.heap ++ o.news

def finR (h1 : List Blk) (o : OutM) : List Blk := List.zipWith keepRo h1 (layH (List.replicate h1.length .dead) o.heap) ++ o.news

theorem restr_nil : ∀ (h : List Blk) (i : Nat), restr [] i h = List.replicate h.length .dead
  | [], _ => rfl
  | b :: h, i => by simp [restr, restr_nil h, List.replicate_succ]
theorem layH_map (g : Nat → Nat) (n : Nat) : ∀ (l : List (Nat × Blk)), layH (List.replicate n .dead) (l.map fun x => (x.1, renB g x.2)) = (layH (List.replicate n .dead) l).map (renB g)
  | [] => by simp [layH, renB]
  | (i, b) :: l => by simp only [List.map_cons, layH, layH_map g n l, List.map_set]

def kOfM {α : Type} (p : ParML α) (f : α → OutM) : Ctr := fun args h nx => (p.get h args).bind fun x =>
  cond (nodupB x.2 && (Nat.ble (f x.1).news.length 4 || Nat.beq nx h.length)) (some ⟨(f x.1).need, ren (tau x.2 nx) (f x.1).val, effM x.2 nx (f x.1).news.length (finR (p.put 0 x.1).2 (f x.1))⟩) none

theorem good_ofM {α : Type} (hΓ : PCok P Γ) (hm : P.follows .mixedOrders = true) {p : ParML α} {f : α → OutM} (Λ : α → LoopSpecs) (n : Nat) {g : FuncId}
    (h : ∀ x, p.fact x → allNeed (f x).need → outOkM (p.put 0 x).2 (f x) = true ∧ fnS P Γ (Λ x) n g (p.put 0 x).1 (p.put 0 x).2 (fitM (p.put 0 x).2 (f x))) : CtrOk P g (kOfM p f) := by
  intro E ρ hh hr w args vs nx r D hsub hfree hd hk hneed
  simp only [kOfM, Option.bind_eq_some_iff] at hk
  obtain ⟨⟨x, sl⟩, hx, hk⟩ := hk
  obtain ⟨hc, rfl⟩ := cond_some hk
  simp only [Bool.and_eq_true, Bool.or_eq_true] at hc
  obtain ⟨hnd, hc⟩ := hc
  replace hnd := nodupB_iff hnd
  have Dr : DH E ρ hr w := D.forget hsub.1 hsub.2
  obtain ⟨hfact, hput⟩ := p.ok hr args x sl hx E ρ w vs Dr hd
  obtain ⟨ρ1, _, d1, I1⟩ := hput _ _ _ (Inv.start E ρ hr w)
  simp only [List.length_nil, List.nil_append] at d1 I1
  obtain ⟨ho, hrun⟩ := h x hfact hneed
  have D1 := I1.start_DH Dr hnd
  refine (fnS_ok hΓ hm _ n g _ _ _ hrun ρ1 w vs D1 d1).mono ?_
  rintro e w' ⟨y, v, h', ρ2, rfl, hx2, hy, hD, hfit⟩
  generalize hh1 : (p.put 0 x).2 = h1 at *
  have hlen : sl.length = h1.length := I1.len
  unfold fitM at hfit
  rw [bareX_eq] at hfit
  simp only [outOkM, Bool.and_eq_true] at ho
  obtain ⟨hspec, how1, how2⟩ := ho
  obtain ⟨_, _, _, hS⟩ := unifS_ok (f x).news [(0, (f x).val)] (f x).heap ⟨[v], h', []⟩
  obtain ⟨ρ3, x3, D3⟩ := hS _ ρ2 ⟨#[y], []⟩ w' ⟨DL.cons hy DL.nil, hD, rfl⟩
  have D0 : Den ⟨w.heap.size, w, sl.flatMap (takeL ρ hr)⟩ ρ1 ⟨[.any], h1, []⟩ ⟨#[y], []⟩ w := ⟨DL.cons (by simp [DV]) DL.nil, D1, rfl⟩
  obtain ⟨ρh, xh, Dh⟩ := headOf_den (asg := [0]) D0 D3 (hx2.trans x3) (Fr.refl _ _) D3.heap.same.stat hspec hfit
  have hheap : (headOf [0] (f x).pat ⟨[.any], h1, []⟩).heap = (finM sl.length (f x)).map (renB (cod sl.length)) := by
    simp only [headOf, OutM.pat, restr_nil, finM, List.map_append, ← layH_map, hlen]
  have hDh := Dh.heap
  rw [hheap] at hDh
  have hval : DV ρh (ren (cod sl.length) (f x).val) y := by
    have := Dh.regs
    simp only [headOf, OutM.pat, List.map_cons, List.map_nil, lay, havoc] at this
    have h1' := this.getD 0 undef
    rw [hlen]
    simpa using h1'
  simp only [specOk, OutM.pat, Bool.and_eq_true, List.all_eq_true, List.all_cons, List.all_nil] at hspec
  rw [← hlen] at hspec
  have hrval : refOk sl.length (f x).news.length (refs (f x).val) = true := hspec.1.1.1.1.1.1.1.1.1.1
  have hrheap := hspec.1.1.1.1.1.1.2
  have hrnews := hspec.1.1.1.1.2
  have hmem : ∀ b ∈ finM sl.length (f x), b = .dead ∨ (∃ i, (i, b) ∈ (f x).heap) ∨ b ∈ (f x).news := fun b hb => by
    simp only [finM, List.mem_append] at hb
    rcases hb with hb | hb
    · obtain ⟨k, hk⟩ := List.getElem?_of_mem hb
      rcases layH_get _ _ _ _ hk with h2 | h2
      · exact .inr (.inl ⟨k, h2⟩)
      · left
        simp only [List.getElem?_replicate] at h2
        split at h2
        · cases h2; rfl
        · cases h2
    · exact .inr (.inr hb)
  obtain ⟨ρ', hx', hv', hD'⟩ := D.graftM (M := sl.flatMap (takeL ρ hr)) (sl := sl) (fin0 := finM sl.length (f x)) (fin := finR h1 (f x)) (m := (f x).news.length) (nx := nx) (val := (f x).val) hDh
    (by simp [finR, layH_length, hlen]) (by simp [finR, finM, layH_length, hlen]) (fun c b hb => by
      unfold finR at hb
      unfold finM
      rw [hlen]
      rw [List.getElem?_append] at hb
      split at hb
      · rename_i hlt
        simp only [List.length_zipWith, layH_length, List.length_replicate, Nat.min_self] at hlt
        rw [List.getElem?_append_left (by simpa [layH_length] using hlt)]
        rw [List.getElem?_zipWith] at hb
        have hg1 : h1[c]? = some (h1[c]'hlt) := List.getElem?_eq_getElem _
        obtain ⟨_, i', b', h4, h5, h6, h7, h8, _⟩ := I1.ok c _ hg1
        rw [hg1] at hb
        cases hc2 : (layH (List.replicate h1.length Blk.dead) (f x).heap)[c]? with
        | none => rw [hc2] at hb; simp at hb
        | some d =>
          rw [hc2] at hb
          simp only [Option.some.injEq] at hb
          cases hbb : h1[c]'hlt with
          | ror kd xs ff =>
            rw [hbb] at hb h8
            right
            subst hb
            refine ⟨i', b', h4, ?_, ?_⟩
            · rcases hsub.2 i' b' h5 with h9 | h9
              · exact h9
              · subst h9; exact absurd rfl h6.2
            · rcases h8 with h8 | h8
              · cases h8
              · exact h8
          | _ => left; rw [hbb] at hb; rw [← hb]; rfl
      · rename_i hge
        simp only [List.length_zipWith, layH_length, List.length_replicate, Nat.min_self] at hge hb
        left
        rw [List.getElem?_append_right (by simpa [layH_length] using hge)]
        simpa [layH_length] using hb) (fun b hb => by
      rcases hmem b hb with rfl | ⟨i, hi⟩ | hi
      · exact .inl rfl
      · exact .inr (ownN_of (List.all_eq_true.1 how1 _ hi))
      · exact .inr (List.all_eq_true.1 how2 _ hi)) (fun b hb => by
      rcases hmem b hb with rfl | ⟨i, hi⟩ | hi
      · rfl
      · exact (hrheap _ hi).1.1
      · exact (hrnews _ hi).1) hrval (fun c i hc => by
      have hlt := (List.getElem?_eq_some_iff.1 hc).1
      have hb : h1[c]? = some (h1[c]'(by omega)) := List.getElem?_eq_getElem _
      obtain ⟨h3, i', b', h4, h5, h6, h7, h2, _⟩ := I1.ok c _ hb
      rw [hc] at h4; cases h4
      refine ⟨?_, b', ?_, h6.1⟩
      · have hsome : ∃ l, ρ1 c = some l := by
          revert h2 h3
          cases h1[c]'(by omega) with
          | cells => intro h3 _; obtain ⟨p, _, hp, _⟩ := h3; exact ⟨p, hp⟩
          | rr => intro h3 _; obtain ⟨p, _, hp, _⟩ := h3; exact ⟨p, hp⟩
          | fam => intro h3 _; obtain ⟨p, hp, _⟩ := h3; exact ⟨p, hp⟩
          | row => intro h3 _; obtain ⟨p, hp, _⟩ := h3; exact ⟨p, hp⟩
          | ror => intro h3 _; obtain ⟨p, hp, _⟩ := h3; exact ⟨p, hp⟩
          | _ => intro _ h2; rcases h2 with h2 | ⟨_, _, _, _, h2, _⟩ <;> cases h2
        obtain ⟨l, hl⟩ := hsome
        rw [xh c l hl, ← h7, hl]
      · rcases hsub.2 i b' h5 with h8 | h8
        · exact h8
        · subst h8
          exact absurd rfl h6.2) (fun n hn => by
      obtain ⟨i, hi, hn⟩ := List.mem_flatMap.1 hn
      obtain ⟨b', hb', ht⟩ := mem_takeL.1 hn
      rcases hsub.2 i b' hb' with h8 | h8
      · exact ⟨i, hi, b', h8, ht⟩
      · subst h8; exact ht.elim) hnd hfree (by
      rcases hc with h1 | h1
      · exact .inl (Nat.le_of_ble_eq_true h1)
      · rw [← hsub.1]; exact .inr (Nat.eq_of_beq_eq_true h1)) hval
  exact ⟨y, ρ', rfl, hx', hv', hD'⟩

end
end Go.Eng
