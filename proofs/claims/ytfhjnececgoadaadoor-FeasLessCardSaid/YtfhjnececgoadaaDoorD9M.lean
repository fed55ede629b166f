/- Chapter 09: what is known of drafts, and of the earliest times. No condition. -/
import Derived.Test.YtfhjnececgoadaaDoorP9P
namespace Go.Proofs.YtfhjnececgoadaaDoor
open Go.Eng
set_option linter.unusedSimpArgs false

theorem tRows_get (t l : List (List Value)) (hx hy st : Int) {n k : Nat} (h : k < n) : (tRows t l hx hy st n).getD k [] = tRow t l hx hy st k := by
  simp [tRows, List.getD, h]
theorem wrong_of_times {hx hy cap st en : Int} {l t : List (List Value)} (h : timesE hx hy cap st en l t = 0) : wrongE hx hy cap st en l t = 0 ∧ inTime t l hx hy st en = true := by
  by_cases hw : wrongE hx hy cap st en l t = 0
  · refine ⟨hw, ?_⟩
    rw [times_of hw] at h
    cases hi : inTime t l hx hy st en with
    | true => rfl
    | false => rw [hi] at h; cases h
  · rw [(wrong_of hw).1] at hw; exact absurd h hw
theorem inTime_iff {t l : List (List Value)} {hx hy st en : Int} : inTime t l hx hy st en = true ↔ (∀ i, i < l.length → tOk t l hx hy st i = true) ∧ tEnd t l hx hy st ≤ en := by
  simp only [inTime, Bool.and_eq_true, List.all_eq_true, List.mem_range, decide_eq_true_eq]
theorem none_of {hx hy cap st en : Int} {l t : List (List Value)} (h : ¬ timesE hx hy cap st en l t = 0) : timesR hx hy cap st en l t = [] := by unfold timesR; rw [decide_eq_false h]; rfl

/-! ### Drafts -/
theorem wideN_in (w : Int) : 0 ≤ wideN w ∧ wideN w ≤ 400 := by
  unfold wideN
  have h : 0 ≤ w % 4 ∧ w % 4 < 4 := ⟨Int.emod_nonneg _ (by decide), Int.emod_lt_of_pos _ (by decide)⟩
  have : w % 4 = 0 ∨ w % 4 = 1 ∨ w % 4 = 2 ∨ w % 4 = 3 := by omega
  rcases this with e | e | e | e <;> rw [e] <;> decide
theorem dN_in (N : Int) : 0 ≤ dN N ∧ dN N ≤ 6 := by unfold dN; omega
theorem draft_veh (bs : List (List Value)) (N : Int) : veh (dVx bs N) (dVy bs N) (dVc bs N) (dVs bs N) (dVe bs N) = 0 ∧ dVe bs N ≤ 1100 := by
  have h1 := nx_in bs (8 * dN N + 1) 20 (by decide)
  have h2 := nx_in bs (8 * dN N + 2) 20 (by decide)
  have h3 := nx_in bs (8 * dN N + 3) 20 (by decide)
  have h4 := nx_in bs (8 * dN N + 4) 20 (by decide)
  have h5 := nx_in bs (8 * dN N + 5) 100 (by decide)
  unfold dVx dVy dVc dVs dVe
  exact ⟨(veh0 _ _ _ _ _).2 (by simp only [PM]; omega), by omega⟩
theorem dReq_in (bs : List (List Value)) (w a i : Int) (hi : 0 ≤ i ∧ i ≤ 6) : chkR (dReq bs w a i) = 0 ∧ 0 ≤ geti (dReq bs w a i) 6 ∧ geti (dReq bs w a i) 6 ≤ geti (dReq bs w a i) 7 ∧ geti (dReq bs w a i) 7 ≤ 2000 := by
  have h1 := nx_in bs (a + 1) 40 (by decide)
  have h2 := nx_in bs (a + 2) 60 (by decide)
  have h3 := nx_in bs (a + 3) 20 (by decide)
  have h4 := nx_in bs (a + 4) 20 (by decide)
  have h5 := nx_in bs (a + 5) 20 (by decide)
  have h6 := nx_in bs (a + 6) 20 (by decide)
  have h7 := nx_in bs (a + 7) 9 (by decide)
  have h8 := nx_in bs (a + 8) 4 (by decide)
  have hw := wideN_in w
  have e6 : geti (dReq bs w a i) 6 = 25 * i + nx bs (a + 1) 40 + nx bs (a + 2) 60 := rfl
  have e7 : geti (dReq bs w a i) 7 = 25 * i + nx bs (a + 1) 40 + nx bs (a + 2) 60 + wideN w + 30 := rfl
  refine ⟨?_, by omega, by omega, by omega⟩
  show chk (500 + nx bs (a + 3) 20) (500 + nx bs (a + 4) 20) (500 + nx bs (a + 5) 20) (500 + nx bs (a + 6) 20) (25 * i + nx bs (a + 1) 40) (25 * i + nx bs (a + 1) 40 + wideN w) (25 * i + nx bs (a + 1) 40 + nx bs (a + 2) 60) (25 * i + nx bs (a + 1) 40 + nx bs (a + 2) 60 + wideN w + 30) (1 + nx bs (a + 7) 9) (nx bs (a + 8) 4) = 0
  exact (chk0 _ _ _ _ _ _ _ _ _ _).2 (by simp only [Chk, PM, WM]; omega)
theorem dTs_mem {bs : List (List Value)} {N w : Int} {x : List Value} (h : x ∈ dTs bs N w) : chkR x = 0 ∧ 0 ≤ geti x 6 ∧ geti x 6 ≤ geti x 7 ∧ geti x 7 ≤ 2000 := by
  have hN := dN_in N
  simp only [dTs, dReqs, List.mem_map, List.mem_range] at h
  obtain ⟨i, hi, rfl⟩ := h
  exact dReq_in _ _ _ _ (by omega)
theorem dTs_ok (bs : List (List Value)) (N w : Int) : reqsOk (dTs bs N w) = true := List.all_eq_true.2 fun _ hx => decide_eq_true (dTs_mem hx).1


theorem rt_mem : ∀ (bs : List (List Value)) (a : Int) (n : Nat), ∀ x ∈ dRoute bs a n, ∃ r : Nat, r < n ∧ geti x 0 = (r : Int) ∧ (geti x 1 = 0 ∨ geti x 1 = 1)
  | _, _, 0, x, hx => by simp [dRoute] at hx
  | bs, a, n + 1, x, hx => by
    have old : ∀ y ∈ dRoute bs a n, ∃ r : Nat, r < n + 1 ∧ geti y 0 = (r : Int) ∧ (geti y 1 = 0 ∨ geti y 1 = 1) := fun y hy => by
      obtain ⟨r, h1, h2⟩ := rt_mem bs a n y hy; exact ⟨r, by omega, h2⟩
    have new : ∀ k : Int, k = 0 ∨ k = 1 → ∃ r : Nat, r < n + 1 ∧ geti (pr n k) 0 = (r : Int) ∧ (geti (pr n k) 1 = 0 ∨ geti (pr n k) 1 = 1) := fun k hk => ⟨n, by omega, rfl, hk⟩
    have lm : ∀ y ∈ rL (dRoute bs a n) n (rK bs (a + 2 * (n : Int)) (dRoute bs a n)), ∃ r : Nat, r < n + 1 ∧ geti y 0 = (r : Int) ∧ (geti y 1 = 0 ∨ geti y 1 = 1) := fun y hy => by
      unfold rL at hy
      rcases List.mem_append.1 hy with h | h
      · exact old y (List.mem_of_mem_take h)
      · rcases List.mem_cons.1 h with rfl | h
        · exact new 0 (.inl rfl)
        · exact old y (List.mem_of_mem_drop h)
    simp only [dRoute, rIns] at hx
    rcases List.mem_append.1 hx with h | h
    · exact lm x (List.mem_of_mem_take h)
    · rcases List.mem_cons.1 h with rfl | h
      · exact new 1 (.inr rfl)
      · exact lm x (List.mem_of_mem_drop h)
theorem dTs_len (bs : List (List Value)) (N w : Int) : (dTs bs N w).length = (dN N).toNat := by unfold dTs; rw [dReqs_len]
theorem own_in (bs : List (List Value)) (N w : Int) {x : List Value} (h : x ∈ dOwn bs N) : inR (dTs bs N w) (geti x 0) (geti x 1) = true := by
  obtain ⟨r, h1, h2, h3⟩ := rt_mem _ _ _ x h
  exact inR_yes (by rw [dTs_len]; omega)
theorem own_rngs (bs : List (List Value)) (N w : Int) : rngs (dOwn bs N) (dTs bs N w) = true := List.all_eq_true.2 fun x hx => by
  have := inR_iff.1 (own_in bs N w hx)
  exact inL_of ⟨this.1, this.2.1⟩
theorem own_len (bs : List (List Value)) (N : Int) : (dOwn bs N).length = 2 * (dN N).toNat := by unfold dOwn; rw [dRoute_len]
theorem own_12 (bs : List (List Value)) (N : Int) : (dOwn bs N).length ≤ 12 := by have := dN_in N; rw [own_len]; omega
theorem draft_st (bs : List (List Value)) (N : Int) : 0 ≤ dVs bs N ∧ dVs bs N ≤ 1048576 := by
  have := nx_in bs (8 * dN N + 4) 20 (by decide)
  unfold dVs; omega
theorem pT_len (t l bs : List (List Value)) (hx hy st a w d : Int) : (pT t l bs hx hy st a w d).length = l.length := by unfold pT; rw [List.length_set, wRows_len]
end Go.Proofs.YtfhjnececgoadaaDoor
