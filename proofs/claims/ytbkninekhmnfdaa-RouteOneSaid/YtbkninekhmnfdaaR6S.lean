/- Routes as lists: with a request more, and without one. No condition. -/
import Derived.Test.YtbkninekhmnfdaaR6P
namespace Go.Proofs.Ytbkninekhmnfdaa
open Go.Eng
set_option linter.unusedSimpArgs false

def stepE (pre : List (List Value)) (y : List Value) : Prop := 0 ≤ geti y 0 ∧ ((geti y 1 = 0 ∧ cnt (geti y 0) 0 pre = 0 ∧ cnt (geti y 0) 1 pre = 0) ∨ (geti y 1 = 1 ∧ cnt (geti y 0) 0 pre = 1 ∧ cnt (geti y 0) 1 pre = 0))
def steps : List (List Value) → List (List Value) → Prop
  | _, [] => True
  | pre, y :: ys => stepE pre y ∧ steps (pre ++ [y]) ys

theorem steps_append : ∀ (a pre b : List (List Value)), steps pre (a ++ b) ↔ steps pre a ∧ steps (pre ++ a) b
  | [], pre, b => by simp [steps]
  | y :: a, pre, b => by
    simp only [List.cons_append, steps, steps_append a (pre ++ [y]) b, List.append_assoc, List.nil_append, and_assoc]

theorem steps_at : ∀ (ys pre : List (List Value)), steps pre ys ↔ ∀ i, i < ys.length → stepE (pre ++ ys.take i) (ys.getD i [])
  | [], pre => by simp [steps]
  | y :: ys, pre => by
    simp only [steps, steps_at ys (pre ++ [y])]
    constructor
    · rintro ⟨h1, h2⟩ i hi
      cases i with
      | zero => simpa using h1
      | succ i => have := h2 i (by simpa using hi); simpa using this
    · intro h
      refine ⟨by simpa using h 0 (by simp), fun i hi => ?_⟩
      have := h (i + 1) (by simpa using hi)
      simpa using this

theorem ok_iff (xs : List (List Value)) : okB xs = true ↔ steps [] xs ∧ ∀ r, cnt r 0 xs = cnt r 1 xs := by
  rw [steps_at]
  constructor
  · intro h
    exact ⟨fun i hi => by simpa [stepE, stepOk] using ok_step h i hi, ok_eq h⟩
  · rintro ⟨h1, h2⟩
    exact ok_of (fun i hi => by simpa [stepE, stepOk] using h1 i hi) h2

theorem steps_congr : ∀ (ys pre pre' : List (List Value)), (∀ y ∈ ys, ∀ k, cnt (geti y 0) k pre = cnt (geti y 0) k pre') → steps pre ys → steps pre' ys
  | [], _, _, _, _ => trivial
  | y :: ys, pre, pre', h, hs => by
    refine ⟨?_, steps_congr ys (pre ++ [y]) (pre' ++ [y]) (fun z hz k => ?_) hs.2⟩
    · have := hs.1
      unfold stepE at this ⊢
      rwa [h y (.head _) 0, h y (.head _) 1] at this
    · rw [cnt_append, cnt_append, h z (.tail _ hz) k]

theorem hasR_append (r : Int) (a b : List (List Value)) : hasR r (a ++ b) = (hasR r a || hasR r b) := by simp [hasR]
theorem hasR_cons (r : Int) (y : List Value) (b : List (List Value)) : hasR r (y :: b) = (decide (geti y 0 = r) || hasR r b) := by simp [hasR]
theorem hasR_mem {r : Int} {xs : List (List Value)} (h : hasR r xs = false) {y : List Value} (hy : y ∈ xs) : geti y 0 ≠ r := by
  simp only [hasR, List.any_eq_false] at h
  simpa using h y hy
theorem cnt_no {r : Int} (k : Int) : ∀ {xs : List (List Value)}, hasR r xs = false → cnt r k xs = 0
  | [], _ => rfl
  | x :: l, h => by
    rw [hasR_cons, Bool.or_eq_false_iff] at h
    have h1 : isS r k x = false := isS_no (.inl (by simpa using h.1))
    simp [cnt, h1, cnt_no k h.2]
theorem cnt_pr (q k r c : Int) : cnt q k [pr r c] = cond (decide (r = q) && decide (c = k)) 1 0 := by
  simp [cnt, isS, pr, geti]
theorem cnt_pr_ne {q r : Int} (h : q ≠ r) (k c : Int) : cnt q k [pr r c] = 0 := by
  rw [cnt_pr, decide_eq_false (fun e => h e.symm)]; rfl
theorem pr0 (r c : Int) : geti (pr r c) 0 = r := rfl
theorem pr1 (r c : Int) : geti (pr r c) 1 = c := rfl

theorem ok_ins {A B C : List (List Value)} {r : Int} (hr : 0 ≤ r) (h : okB (A ++ (B ++ C)) = true) (hn : hasR r (A ++ (B ++ C)) = false) : okB (A ++ pr r 0 :: (B ++ pr r 1 :: C)) = true := by
  rw [hasR_append, hasR_append, Bool.or_eq_false_iff, Bool.or_eq_false_iff] at hn
  obtain ⟨nA, nB, nC⟩ := hn
  obtain ⟨hs, he⟩ := (ok_iff _).1 h
  rw [steps_append, steps_append] at hs
  obtain ⟨sA, sB, sC⟩ := hs
  refine (ok_iff _).2 ⟨?_, fun q => ?_⟩
  · rw [steps_append]
    refine ⟨sA, ⟨hr, .inl ⟨rfl, ?_, ?_⟩⟩, ?_⟩
    · exact cnt_no 0 nA
    · exact cnt_no 1 nA
    · rw [steps_append]
      refine ⟨steps_congr B ([] ++ A) _ (fun y hy k => ?_) sB, ⟨hr, .inr ⟨rfl, ?_, ?_⟩⟩, steps_congr C ([] ++ A ++ B) _ (fun y hy k => ?_) sC⟩
      · simp only [cnt_append, List.nil_append, cnt_pr_ne (hasR_mem nB hy)]; omega
      · rw [pr0, cnt_append, cnt_append, List.nil_append, cnt_no 0 nA, cnt_no 0 nB, cnt_pr]; simp
      · rw [pr0, cnt_append, cnt_append, List.nil_append, cnt_no 1 nA, cnt_no 1 nB, cnt_pr]; simp
      · have hy' := hasR_mem nC hy
        simp only [cnt_append, List.nil_append, cnt_pr_ne hy']; omega
  · have := he q
    rw [cnt_append, cnt_append, cnt_append, cnt_append] at this
    have e : ∀ k, cnt q k (A ++ pr r 0 :: (B ++ pr r 1 :: C)) = cnt q k A + (cnt q k [pr r 0] + (cnt q k B + (cnt q k [pr r 1] + cnt q k C))) := fun k => by
      rw [cnt_append, show pr r 0 :: (B ++ pr r 1 :: C) = [pr r 0] ++ (B ++ ([pr r 1] ++ C)) from rfl, cnt_append, cnt_append, cnt_append]
    rw [e, e]
    have p : cnt q 0 [pr r 0] + cnt q 0 [pr r 1] = cnt q 1 [pr r 0] + cnt q 1 [pr r 1] := by
      rw [cnt_pr, cnt_pr, cnt_pr, cnt_pr]; by_cases h : r = q <;> simp [h]
    omega

theorem wRow_parts {xs : List (List Value)} {i j : Int} (r : Int) (hi : 0 ≤ i) (hij : i ≤ j) (hj : j ≤ (xs.length : Int)) :
    ∃ A B C, xs = A ++ (B ++ C) ∧ wRow xs r i j = A ++ pr r 0 :: (B ++ pr r 1 :: C) ∧ (A.length : Int) = i ∧ (A.length : Int) + B.length = j := by
  refine ⟨xs.take i.toNat, (xs.drop i.toNat).take (j - i).toNat, xs.drop j.toNat, ?_, rfl, ?_, ?_⟩
  · have : xs.drop j.toNat = (xs.drop i.toNat).drop (j - i).toNat := by rw [List.drop_drop]; congr 1; omega
    rw [this, List.take_append_drop, List.take_append_drop]
  · simp; omega
  · simp; omega

theorem cnt_flt (q k r : Int) : ∀ xs : List (List Value), cnt q k (flt r xs) = cond (decide (q = r)) 0 (cnt q k xs)
  | [] => by simp [flt, cnt]
  | x :: l => by
    have ih := cnt_flt q k r l
    unfold flt at ih ⊢
    by_cases h : geti x 0 = r
    · simp only [List.filter_cons, h, decide_true, Bool.not_true, Bool.false_eq_true, if_false, ih, cnt]
      by_cases hq : q = r
      · simp [hq]
      · have : isS q k x = false := isS_no (.inl (by omega))
        simp [hq, this]
    · simp only [List.filter_cons, h, decide_false, Bool.not_false, if_true, cnt, ih]
      by_cases hq : q = r
      · have : isS q k x = false := isS_no (.inl (by omega))
        simp [hq]; subst hq; simp [this]
      · simp [hq]

theorem steps_flt (r : Int) : ∀ (ys pre : List (List Value)), steps pre ys → steps (flt r pre) (flt r ys)
  | [], _, _ => by simp [flt, steps]
  | y :: ys, pre, h => by
    have ih := steps_flt r ys (pre ++ [y]) h.2
    by_cases hy : geti y 0 = r
    · have e1 : flt r (y :: ys) = flt r ys := by simp [flt, List.filter_cons, hy]
      have e2 : flt r (pre ++ [y]) = flt r pre := by simp [flt, List.filter_cons, hy]
      rw [e1]; rwa [e2] at ih
    · have e1 : flt r (y :: ys) = y :: flt r ys := by simp [flt, List.filter_cons, hy]
      have e2 : flt r (pre ++ [y]) = flt r pre ++ [y] := by simp [flt, List.filter_cons, hy]
      rw [e1]
      refine ⟨?_, by rwa [e2] at ih⟩
      have := h.1
      unfold stepE at this ⊢
      rw [cnt_flt, cnt_flt, decide_eq_false hy]
      exact this

theorem ok_flt {r : Int} {xs : List (List Value)} (h : okB xs = true) : okB (flt r xs) = true := by
  obtain ⟨h1, h2⟩ := (ok_iff _).1 h
  refine (ok_iff _).2 ⟨?_, fun q => by rw [cnt_flt, cnt_flt, h2]⟩
  have := steps_flt r xs [] h1
  simpa [flt] using this

theorem idx_eq {r k : Int} {xs : List (List Value)} {n : Nat} (hn : n < xs.length) (h : isS r k (xs.getD n []) = true) (hb : ∀ i, i < n → isS r k (xs.getD i []) = false) : idx r k xs = n := by
  have key : ∀ m, m ≤ n → idx r k xs = idxD r k xs (xs.length - m) := by
    intro m
    induction m with
    | zero => intro _; rfl
    | succ m ih =>
      intro hm
      rw [ih (by omega), show xs.length - m = (xs.length - (m + 1)) + 1 by omega]
      simp only [idxD]
      rw [show xs.length - (xs.length - (m + 1) + 1) = m by omega, hb m (by omega)]; rfl
  rw [key n (Nat.le_refl _), show xs.length - n = (xs.length - n - 1) + 1 by omega]
  simp only [idxD]
  rw [show xs.length - (xs.length - n - 1 + 1) = n by omega, h]; rfl

theorem getD_mid (A B : List (List Value)) (y : List Value) : (A ++ y :: B).getD A.length [] = y := by simp [List.getD]
theorem getD_lt {A : List (List Value)} (B : List (List Value)) {i : Nat} (h : i < A.length) : (A ++ B).getD i [] ∈ A := by
  have : (A ++ B).getD i [] = A.getD i [] := by simp only [List.getD, List.getElem?_append_left h]
  rw [this]; exact getD_in h

theorem idx_ins {A B C : List (List Value)} {r : Int} (nA : hasR r A = false) (nB : hasR r B = false) :
    idx r 0 (A ++ pr r 0 :: (B ++ pr r 1 :: C)) = A.length ∧ idx r 1 (A ++ pr r 0 :: (B ++ pr r 1 :: C)) = (A.length : Int) + B.length + 1 := by
  constructor
  · refine idx_eq (by simp) (by rw [getD_mid]; exact isS_iff.2 ⟨rfl, rfl⟩) fun i hi => ?_
    exact isS_no (.inl (hasR_mem nA (getD_lt _ hi)))
  · have e : A ++ pr r 0 :: (B ++ pr r 1 :: C) = (A ++ pr r 0 :: B) ++ pr r 1 :: C := by simp
    rw [e]
    have hl : (A ++ pr r 0 :: B).length = A.length + B.length + 1 := by simp; omega
    have := idx_eq (r := r) (k := 1) (xs := (A ++ pr r 0 :: B) ++ pr r 1 :: C) (n := (A ++ pr r 0 :: B).length) (by simp) (by rw [getD_mid]; exact isS_iff.2 ⟨rfl, rfl⟩) fun i hi => by
      have hm := getD_lt (pr r 1 :: C) hi
      rcases List.mem_append.1 hm with h | h
      · exact isS_no (.inl (hasR_mem nA h))
      · rcases List.mem_cons.1 h with h | h
        · rw [h]; exact isS_no (.inr (by rw [pr1]; decide))
        · exact isS_no (.inl (hasR_mem nB h))
    rw [this, hl]; omega

theorem flt_ins {A B C : List (List Value)} {r : Int} (nA : hasR r A = false) (nB : hasR r B = false) (nC : hasR r C = false) : flt r (A ++ pr r 0 :: (B ++ pr r 1 :: C)) = A ++ (B ++ C) := by
  have hA := flt_no nA
  have hB := flt_no nB
  have hC := flt_no nC
  unfold flt at *
  rw [List.filter_append, List.filter_cons, List.filter_append, List.filter_cons, hA, hB, hC]
  simp [pr0]

theorem split_r {r : Int} : ∀ {xs : List (List Value)}, hasR r xs = true → ∃ A y T, xs = A ++ y :: T ∧ hasR r A = false ∧ geti y 0 = r
  | [], h => by simp [hasR] at h
  | x :: l, h => by
    by_cases hx : geti x 0 = r
    · exact ⟨[], x, l, rfl, rfl, hx⟩
    · rw [hasR_cons, decide_eq_false hx, Bool.false_or] at h
      obtain ⟨A, y, T, rfl, h1, h2⟩ := split_r h
      exact ⟨x :: A, y, T, rfl, by rw [hasR_cons, decide_eq_false hx, Bool.false_or]; exact h1, h2⟩

theorem pr_put {y : List Value} (h : Wk SK y) : y = pr (geti y 0) (geti y 1) := (sk_put h).symm

theorem parts_of {l : List (List Value)} {r : Int} (h : okB l = true) (hw : ∀ x ∈ l, Wk SK x) (hr : hasR r l = true) :
    ∃ A B C, l = A ++ pr r 0 :: (B ++ pr r 1 :: C) ∧ hasR r A = false ∧ hasR r B = false ∧ hasR r C = false ∧ 0 ≤ r := by
  obtain ⟨hs, he⟩ := (ok_iff _).1 h
  obtain ⟨A, y, T, rfl, nA, rfl⟩ := split_r hr
  rw [steps_append] at hs
  obtain ⟨_, ⟨h0, hy⟩, sT⟩ := hs
  rw [List.nil_append, cnt_no 0 nA, cnt_no 1 nA] at hy
  have hy0 : geti y 1 = 0 := by omega
  have ey : y = pr (geti y 0) 0 := by rw [← hy0]; exact pr_put (hw y (by simp))
  generalize geti y 0 = r at *
  subst ey
  have hT : hasR r T = true := by
    cases hc : hasR r T with
    | true => rfl
    | false =>
      have := he r
      rw [cnt_append, cnt_append, show pr r 0 :: T = [pr r 0] ++ T from rfl, cnt_append, cnt_append, cnt_no 0 nA, cnt_no 1 nA, cnt_no 0 hc, cnt_no 1 hc, cnt_pr, cnt_pr] at this
      simp at this
  obtain ⟨B, z, C, rfl, nB, hz⟩ := split_r hT
  rw [steps_append] at sT
  obtain ⟨_, ⟨_, hz2⟩, sC⟩ := sT
  simp only [hz, cnt_append, List.nil_append, cnt_no 0 nA, cnt_no 1 nA, cnt_no 0 nB, cnt_no 1 nB, cnt_pr] at hz2
  have hz1 : geti z 1 = 1 := by
    rcases hz2 with ⟨_, h2, _⟩ | ⟨h2, _⟩
    · simp at h2
    · exact h2
  have ez : z = pr r 1 := by rw [← hz, ← hz1]; exact pr_put (hw z (by simp))
  subst ez
  refine ⟨A, B, C, rfl, nA, nB, ?_, h0⟩
  cases hc : hasR r C with
  | false => rfl
  | true =>
    exfalso
    obtain ⟨D, u, G, rfl, nD, hu⟩ := split_r hc
    rw [steps_append] at sC
    obtain ⟨_, ⟨_, hu2⟩, _⟩ := sC
    rw [hu] at hu2
    simp only [cnt_append, List.nil_append, cnt_no 0 nA, cnt_no 1 nA, cnt_no 0 nB, cnt_no 1 nB, cnt_no 0 nD, cnt_no 1 nD, cnt_pr] at hu2
    simp at hu2

theorem rqs_ins (A B C : List (List Value)) (r : Int) : (rqs (A ++ pr r 0 :: (B ++ pr r 1 :: C))).length = (rqs (A ++ (B ++ C))).length + 1 := by
  have e0 : decide (geti (pr r 0) 1 = 0) = true := rfl
  have e1 : decide (geti (pr r 1) 1 = 0) = false := rfl
  simp only [rqs, List.length_map, List.filter_append, List.filter_cons, e0, e1, List.length_append, if_true, Bool.false_eq_true, if_false, List.length_cons]
  omega

structure MOk (xs : List (List Value)) (k : Nat) : Prop where
  ok : okB xs = true
  len : xs.length = 2 * k
  new : ∀ q : Int, (k : Int) ≤ q → hasR q xs = false
  rq : (rqs xs).length = k
  wk : ∀ x ∈ xs, Wk SK x

theorem wth_parts {xs : List (List Value)} {r i j : Int} (h : wOk xs r i j = true) : ∃ A B C, xs = A ++ (B ++ C) ∧ wth xs r i j = A ++ pr r 0 :: (B ++ pr r 1 :: C) ∧ (A.length : Int) = i ∧ (A.length : Int) + B.length = j := by
  obtain ⟨h1, h2, h3, h4, h5, h6⟩ := wOk_iff.1 h
  rw [(wOk_yes ⟨h1, h2, h3, h4, h5, h6⟩).2]
  exact wRow_parts r h1 h2 h3
theorem pr_wk {r c : Int} (h : -9223372036854775808 ≤ r ∧ r ≤ 9223372036854775807) (hc : c = 0 ∨ c = 1) : Wk SK (pr r c) := by
  refine ⟨⟨r, rfl, h⟩, ⟨c, rfl, ?_⟩, trivial⟩
  simp only [kmin, kmax]; omega

theorem madeN_ok (bs : List (List Value)) : ∀ k, k ≤ 6 → MOk (madeN bs k) k
  | 0, _ => ⟨rfl, rfl, fun _ _ => rfl, rfl, by simp [madeN]⟩
  | k + 1, hk => by
    have ih := madeN_ok bs k (by omega)
    simp only [madeN]
    have hl := lenI_eq (madeN bs k)
    have il := ih.len
    have b1 : 0 ≤ byt bs (2 * k) % (lenI (madeN bs k) + 1) := Int.emod_nonneg _ (by omega)
    have b2 : byt bs (2 * k) % (lenI (madeN bs k) + 1) < lenI (madeN bs k) + 1 := Int.emod_lt_of_pos _ (by omega)
    have b3 : 0 ≤ byt bs (2 * k + 1) % (lenI (madeN bs k) + 1) := Int.emod_nonneg _ (by omega)
    have b4 : byt bs (2 * k + 1) % (lenI (madeN bs k) + 1) < lenI (madeN bs k) + 1 := Int.emod_lt_of_pos _ (by omega)
    generalize byt bs (2 * k) % (lenI (madeN bs k) + 1) = x at b1 b2 ⊢
    generalize byt bs (2 * k + 1) % (lenI (madeN bs k) + 1) = y at b3 b4 ⊢
    have hn := ih.new k (by omega)
    have hw : wOk (madeN bs k) k (min x y) (max x y) = true := wOk_iff.2 ⟨by omega, by omega, by omega, by omega, by omega, hn⟩
    obtain ⟨A, B, C, e1, e2, _, _⟩ := wth_parts hw
    rw [e2]
    have i1 := ih.ok; have i4 := ih.rq; have i5 := ih.wk; have i3 := ih.new
    rw [e1] at i1 i3 i4 i5 hn il
    refine ⟨ok_ins (by omega) i1 hn, ?_, fun q hq => ?_, by rw [rqs_ins, i4], fun z hz => ?_⟩
    · simp only [List.length_append, List.length_cons] at il ⊢; omega
    · have := i3 q (by omega)
      simp only [hasR_append, hasR_cons, Bool.or_eq_false_iff] at this ⊢
      have hne : decide ((k : Int) = q) = false := decide_eq_false (by omega)
      exact ⟨this.1, by rw [pr0]; exact hne, this.2.1, by rw [pr0]; exact hne, this.2.2⟩
    · simp only [List.mem_append, List.mem_cons] at hz i5
      rcases hz with h | rfl | h | rfl | h
      · exact i5 z (.inl h)
      · exact pr_wk (by omega) (.inl rfl)
      · exact i5 z (.inr (.inl h))
      · exact pr_wk (by omega) (.inr rfl)
      · exact i5 z (.inr (.inr h))

theorem made_ok (bs : List (List Value)) : MOk (made bs) (min (bs.length / 2) 6) := madeN_ok bs _ (by omega)
theorem check_ok {xs : List (List Value)} (h : okB xs = true) (hl : xs.length ≤ 16) : checkE xs = 0 := (checkE_ok (by omega)).1 h
theorem take_fltz (r : Int) (xs : List (List Value)) : List.take (flt r xs).length (List.drop 0 (fltz r xs)) = flt r xs := by
  rw [List.drop_zero, fltz, List.take_left']; rfl
end Go.Proofs.Ytbkninekhmnfdaa
