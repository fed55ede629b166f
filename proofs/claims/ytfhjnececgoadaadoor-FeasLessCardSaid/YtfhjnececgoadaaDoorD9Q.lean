/- Chapter 09: routes as lists: with a request more, without one; a draft's route. No condition. -/
import Derived.Test.YtfhjnececgoadaaDoorD9M
import Derived.Test.YtfhjnececgoadaaDoorL9P
namespace Go.Proofs.YtfhjnececgoadaaDoor
open Go.Eng
set_option linter.unusedSimpArgs false

def stepE (pre : List (List Value)) (y : List Value) : Prop := 0 ≤ geti y 0 ∧ ((geti y 1 = 0 ∧ cnt (geti y 0) 0 pre = 0 ∧ cnt (geti y 0) 1 pre = 0) ∨ (geti y 1 = 1 ∧ cnt (geti y 0) 0 pre = 1 ∧ cnt (geti y 0) 1 pre = 0))
def steps : List (List Value) → List (List Value) → Prop
  | _, [] => True
  | pre, y :: ys => stepE pre y ∧ steps (pre ++ [y]) ys

theorem steps_append : ∀ (a pre b : List (List Value)), steps pre (a ++ b) ↔ steps pre a ∧ steps (pre ++ a) b
  | [], pre, b => by simp [steps]
  | y :: a, pre, b => by
    simp only [List.cons_append, steps, steps_append a (pre ++ [y]) b, List.append_assoc, List.nil_append, and_assoc]

theorem steps_at : ∀ (ys pre : List (List Value)), steps pre ys ↔ ∀ i, i < ys.length → stepE (pre ++ ys.take i) (ys.getD i [])
  | [], pre => by simp [steps]
  | y :: ys, pre => by
    simp only [steps, steps_at ys (pre ++ [y])]
    constructor
    · rintro ⟨h1, h2⟩ i hi
      cases i with
      | zero => simpa using h1
      | succ i => have := h2 i (by simpa using hi); simpa using this
    · intro h
      refine ⟨by simpa using h 0 (by simp), fun i hi => ?_⟩
      have := h (i + 1) (by simpa using hi)
      simpa using this

theorem ok_iff (xs : List (List Value)) : okB xs = true ↔ steps [] xs ∧ ∀ r, cnt r 0 xs = cnt r 1 xs := by
  rw [steps_at]
  constructor
  · intro h
    exact ⟨fun i hi => by simpa [stepE, stepOk] using ok_step h i hi, ok_eq h⟩
  · rintro ⟨h1, h2⟩
    exact ok_of (fun i hi => by simpa [stepE, stepOk] using h1 i hi) h2

theorem steps_congr : ∀ (ys pre pre' : List (List Value)), (∀ y ∈ ys, ∀ k, cnt (geti y 0) k pre = cnt (geti y 0) k pre') → steps pre ys → steps pre' ys
  | [], _, _, _, _ => trivial
  | y :: ys, pre, pre', h, hs => by
    refine ⟨?_, steps_congr ys (pre ++ [y]) (pre' ++ [y]) (fun z hz k => ?_) hs.2⟩
    · have := hs.1
      unfold stepE at this ⊢
      rwa [h y (.head _) 0, h y (.head _) 1] at this
    · rw [cnt_append, cnt_append, h z (.tail _ hz) k]

theorem hasR_append (r : Int) (a b : List (List Value)) : hasR r (a ++ b) = (hasR r a || hasR r b) := by simp [hasR]
theorem hasR_cons (r : Int) (y : List Value) (b : List (List Value)) : hasR r (y :: b) = (decide (geti y 0 = r) || hasR r b) := by simp [hasR]
theorem hasR_mem {r : Int} {xs : List (List Value)} (h : hasR r xs = false) {y : List Value} (hy : y ∈ xs) : geti y 0 ≠ r := by
  simp only [hasR, List.any_eq_false] at h
  simpa using h y hy
theorem cnt_no {r : Int} (k : Int) : ∀ {xs : List (List Value)}, hasR r xs = false → cnt r k xs = 0
  | [], _ => rfl
  | x :: l, h => by
    rw [hasR_cons, Bool.or_eq_false_iff] at h
    have h1 : isS r k x = false := isS_no (.inl (by simpa using h.1))
    simp [cnt, h1, cnt_no k h.2]
theorem cnt_pr (q k r c : Int) : cnt q k [pr r c] = cond (decide (r = q) && decide (c = k)) 1 0 := by
  simp [cnt, isS, pr, geti]
theorem cnt_pr_ne {q r : Int} (h : q ≠ r) (k c : Int) : cnt q k [pr r c] = 0 := by
  rw [cnt_pr, decide_eq_false (fun e => h e.symm)]; rfl
theorem pr0 (r c : Int) : geti (pr r c) 0 = r := rfl
theorem pr1 (r c : Int) : geti (pr r c) 1 = c := rfl

theorem ok_ins {A B C : List (List Value)} {r : Int} (hr : 0 ≤ r) (h : okB (A ++ (B ++ C)) = true) (hn : hasR r (A ++ (B ++ C)) = false) : okB (A ++ pr r 0 :: (B ++ pr r 1 :: C)) = true := by
  rw [hasR_append, hasR_append, Bool.or_eq_false_iff, Bool.or_eq_false_iff] at hn
  obtain ⟨nA, nB, nC⟩ := hn
  obtain ⟨hs, he⟩ := (ok_iff _).1 h
  rw [steps_append, steps_append] at hs
  obtain ⟨sA, sB, sC⟩ := hs
  refine (ok_iff _).2 ⟨?_, fun q => ?_⟩
  · rw [steps_append]
    refine ⟨sA, ⟨hr, .inl ⟨rfl, ?_, ?_⟩⟩, ?_⟩
    · exact cnt_no 0 nA
    · exact cnt_no 1 nA
    · rw [steps_append]
      refine ⟨steps_congr B ([] ++ A) _ (fun y hy k => ?_) sB, ⟨hr, .inr ⟨rfl, ?_, ?_⟩⟩, steps_congr C ([] ++ A ++ B) _ (fun y hy k => ?_) sC⟩
      · simp only [cnt_append, List.nil_append, cnt_pr_ne (hasR_mem nB hy)]; omega
      · rw [pr0, cnt_append, cnt_append, List.nil_append, cnt_no 0 nA, cnt_no 0 nB, cnt_pr]; simp
      · rw [pr0, cnt_append, cnt_append, List.nil_append, cnt_no 1 nA, cnt_no 1 nB, cnt_pr]; simp
      · have hy' := hasR_mem nC hy
        simp only [cnt_append, List.nil_append, cnt_pr_ne hy']; omega
  · have := he q
    rw [cnt_append, cnt_append, cnt_append, cnt_append] at this
    have e : ∀ k, cnt q k (A ++ pr r 0 :: (B ++ pr r 1 :: C)) = cnt q k A + (cnt q k [pr r 0] + (cnt q k B + (cnt q k [pr r 1] + cnt q k C))) := fun k => by
      rw [cnt_append, show pr r 0 :: (B ++ pr r 1 :: C) = [pr r 0] ++ (B ++ ([pr r 1] ++ C)) from rfl, cnt_append, cnt_append, cnt_append]
    rw [e, e]
    have p : cnt q 0 [pr r 0] + cnt q 0 [pr r 1] = cnt q 1 [pr r 0] + cnt q 1 [pr r 1] := by
      rw [cnt_pr, cnt_pr, cnt_pr, cnt_pr]; by_cases h : r = q <;> simp [h]
    omega

theorem cnt_flt (q k r : Int) : ∀ xs : List (List Value), cnt q k (flt r xs) = cond (decide (q = r)) 0 (cnt q k xs)
  | [] => by simp [flt, cnt]
  | x :: l => by
    have ih := cnt_flt q k r l
    unfold flt at ih ⊢
    by_cases h : geti x 0 = r
    · simp only [List.filter_cons, h, decide_true, Bool.not_true, Bool.false_eq_true, if_false, ih, cnt]
      by_cases hq : q = r
      · simp [hq]
      · have : isS q k x = false := isS_no (.inl (by omega))
        simp [hq, this]
    · simp only [List.filter_cons, h, decide_false, Bool.not_false, if_true, cnt, ih]
      by_cases hq : q = r
      · have : isS q k x = false := isS_no (.inl (by omega))
        simp [hq]; subst hq; simp [this]
      · simp [hq]

theorem steps_flt (r : Int) : ∀ (ys pre : List (List Value)), steps pre ys → steps (flt r pre) (flt r ys)
  | [], _, _ => by simp [flt, steps]
  | y :: ys, pre, h => by
    have ih := steps_flt r ys (pre ++ [y]) h.2
    by_cases hy : geti y 0 = r
    · have e1 : flt r (y :: ys) = flt r ys := by simp [flt, List.filter_cons, hy]
      have e2 : flt r (pre ++ [y]) = flt r pre := by simp [flt, List.filter_cons, hy]
      rw [e1]; rwa [e2] at ih
    · have e1 : flt r (y :: ys) = y :: flt r ys := by simp [flt, List.filter_cons, hy]
      have e2 : flt r (pre ++ [y]) = flt r pre ++ [y] := by simp [flt, List.filter_cons, hy]
      rw [e1]
      refine ⟨?_, by rwa [e2] at ih⟩
      have := h.1
      unfold stepE at this ⊢
      rw [cnt_flt, cnt_flt, decide_eq_false hy]
      exact this

theorem ok_flt {r : Int} {xs : List (List Value)} (h : okB xs = true) : okB (flt r xs) = true := by
  obtain ⟨h1, h2⟩ := (ok_iff _).1 h
  refine (ok_iff _).2 ⟨?_, fun q => by rw [cnt_flt, cnt_flt, h2]⟩
  have := steps_flt r xs [] h1
  simpa [flt] using this


theorem check_ok {xs : List (List Value)} (h : okB xs = true) (hl : xs.length ≤ 16) : checkE xs = 0 := (checkE_ok (by omega)).1 h
theorem rIns_parts (out : List (List Value)) (r K J : Int) (hK : 0 ≤ K ∧ K ≤ out.length) (hJ : K + 1 ≤ J) : ∃ A B C, out = A ++ (B ++ C) ∧ rIns (rL out r K) r J = A ++ pr r 0 :: (B ++ pr r 1 :: C) := by
  have hl : (out.take K.toNat).length = K.toNat := by simp; omega
  refine ⟨out.take K.toNat, (out.drop K.toNat).take (J.toNat - K.toNat - 1), (out.drop K.toNat).drop (J.toNat - K.toNat - 1), by rw [List.take_append_drop, List.take_append_drop], ?_⟩
  have hj : J.toNat = K.toNat + (J.toNat - K.toNat - 1 + 1) := by omega
  generalize J.toNat - K.toNat - 1 = m at hj ⊢
  unfold rIns rL
  generalize out.take K.toNat = A at *
  rw [hj, ← hl, List.take_length_add_append, List.drop_length_add_append]
  simp
theorem rt_no (bs : List (List Value)) (a : Int) (n : Nat) : hasR n (dRoute bs a n) = false := by
  simp only [hasR, List.any_eq_false, decide_eq_true_eq]
  intro x hx
  obtain ⟨r, h1, h2, _⟩ := rt_mem bs a n x hx
  omega
theorem rt_ok (bs : List (List Value)) (a : Int) : ∀ n, okB (dRoute bs a n) = true
  | 0 => rfl
  | n + 1 => by
    have ih := rt_ok bs a n
    have hn := rt_no bs a n
    have hK := rK_in bs (a + 2 * (n : Int)) (dRoute bs a n)
    simp only [dRoute]
    generalize hk : rK bs (a + 2 * (n : Int)) (dRoute bs a n) = K at hK
    have hJ : K + 1 ≤ rJ bs (a + 2 * (n : Int)) K (dRoute bs a n) := by
      have := (nx_in bs (a + 2 * (n : Int) + 2) (lenI (dRoute bs a n) + 1 - K) (by rw [lenI_eq]; omega)).1
      unfold rJ; omega
    obtain ⟨A, B, C, e1, e2⟩ := rIns_parts (dRoute bs a n) n K _ hK hJ
    rw [e2]
    rw [e1] at ih hn
    exact ok_ins (by omega) ih hn
theorem own_ok (bs : List (List Value)) (N : Int) : okB (dOwn bs N) = true := rt_ok _ _ _
theorem own_chk (bs : List (List Value)) (N : Int) : checkE (dOwn bs N) = 0 := check_ok (own_ok bs N) (by have := own_12 bs N; omega)
end Go.Proofs.YtfhjnececgoadaaDoor
