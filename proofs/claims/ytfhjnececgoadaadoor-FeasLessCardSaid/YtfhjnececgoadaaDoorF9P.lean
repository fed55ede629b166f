/- These contracts hold. No condition. -/
import Derived.Test.YtfhjnececgoadaaDoorF9T
import Derived.Test.YtfhjnececgoadaaDoorV4N
namespace Go.Proofs.YtfhjnececgoadaaDoor
open Go.Eng
set_option linter.unusedSimpArgs false
theorem okG26 : PCok Tryd.prog G26 := addPC_ok okG25 okAs
section
variable {hx hy cap st en q k : Int} {l t : List (List Value)}
theorem inL_iff : inL t q = true ↔ 0 ≤ q ∧ q < (t.length : Int) := by simp [inL, lenI_eq]
theorem inL_of (h : 0 ≤ q ∧ q < (t.length : Int)) : inL t q = true := inL_iff.2 h
theorem rngs_at (h : rngs l t = true) {i : Nat} (hi : i < l.length) : inL t (geti (l.getD i []) 0) = true := List.all_eq_true.1 h _ (getD_in (d := []) hi)
theorem rngs_of (h : ∀ i, i < l.length → inL t (geti (l.getD i []) 0) = true) : rngs l t = true := List.all_eq_true.2 fun x hx => by
  obtain ⟨i, hi, rfl⟩ := List.mem_iff_getElem.1 hx
  have := h i hi
  rwa [List.getD_eq_getElem?_getD, List.getElem?_eq_getElem hi] at this
theorem pk_0 (h : k = 0) (i j : Nat) : pk t q k i j = geti (t.getD q.toNat []) i := by unfold pk; rw [decide_eq_true h]; rfl
theorem pk_1 (h : ¬ k = 0) (i j : Nat) : pk t q k i j = geti (t.getD q.toNat []) j := by unfold pk; rw [decide_eq_false h]; rfl
theorem brd_append (t : List (List Value)) : ∀ xs ys, brd t (xs ++ ys) = brd t xs + brd t ys
  | [], ys => by simp [brd]
  | x :: l, ys => by simp only [List.cons_append, brd, brd_append t l ys]; omega
theorem brd_snoc (t : List (List Value)) {i : Nat} (h : i < l.length) : brd t (l.take (i + 1)) = brd t (l.take i) + brd1 t (l.getD i []) := by
  rw [take_snoc (d := []) h, brd_append]; simp [brd]
theorem brd1_0 {x : List Value} (h : geti x 1 = 0) : brd1 t x = geti (t.getD (geti x 0).toNat []) 8 := by unfold brd1; rw [decide_eq_true h]; rfl
theorem brd1_1 {x : List Value} (h : ¬ geti x 1 = 0) : brd1 t x = 0 - geti (t.getD (geti x 0).toNat []) 8 := by unfold brd1; rw [decide_eq_false h]; rfl
theorem rq_of (h : reqsOk t = true) (hq : inL t q = true) : Chk (rf t q 0) (rf t q 1) (rf t q 2) (rf t q 3) (rf t q 4) (rf t q 5) (rf t q 6) (rf t q 7) (rf t q 8) (rf t q 9) := by
  have hi := inL_iff.1 hq
  exact (chk0 _ _ _ _ _ _ _ _ _ _).1 (reqsOk_at h (k := q.toNat) (by omega))
structure PkIn (t : List (List Value)) (q k : Int) : Prop where
  e0 : 0 ≤ pk t q k 4 6
  el : pk t q k 4 6 ≤ pk t q k 5 7
  l1 : pk t q k 5 7 ≤ 1048576
  s0 : 0 ≤ rf t q 9
  s1 : rf t q 9 ≤ 1000
  d0 : 1 ≤ rf t q 8
  d1 : rf t q 8 ≤ 1000
theorem pkIn (h : reqsOk t = true) (hq : inL t q = true) (k : Int) : PkIn t q k := by
  obtain ⟨_, _, w1, w2, h8, h9⟩ := rq_of h hq
  have r : ∀ j, rf t q j = geti (t.getD q.toNat []) j := fun _ => rfl
  by_cases hk : k = 0
  · refine ⟨?_, ?_, ?_, h9.1, h9.2, h8.1, h8.2⟩ <;> simp only [pk_0 hk, ← r] <;> omega
  · refine ⟨?_, ?_, ?_, h9.1, h9.2, h8.1, h8.2⟩ <;> simp only [pk_1 hk, ← r] <;> omega
theorem brd_in (h : reqsOk t = true) : ∀ l : List (List Value), rngs l t = true → -(1000 * (l.length : Int)) ≤ brd t l ∧ brd t l ≤ 1000 * (l.length : Int)
  | [], _ => by simp [brd]
  | x :: l, hr => by
    simp only [rngs, List.all_cons, Bool.and_eq_true] at hr
    have ih := brd_in h l hr.2
    have p := pkIn h hr.1 0
    have d0 := p.d0
    have d1 := p.d1
    have hb : -1000 ≤ brd1 t x ∧ brd1 t x ≤ 1000 := by unfold brd1; cases decide (geti x 1 = 0) <;> simp <;> omega
    simp only [brd, List.length_cons]
    omega
theorem lN_in (h : reqsOk t = true) (hr : ∀ i, i < l.length → inL t (geti (l.getD i []) 0) = true) (hs : 0 ≤ st ∧ st ≤ 1048576) : ∀ j, j ≤ l.length → 0 ≤ lN t l hx hy st j ∧ lN t l hx hy st j ≤ 1048576 + 3046 * j
  | 0, _ => by show 0 ≤ st ∧ st ≤ _; omega
  | j + 1, hj => by
    have ih := lN_in h hr hs j (by omega)
    have p := pkIn h (hr j (by omega)) (geti (l.getD j []) 1)
    obtain ⟨p1, p2, p3, p4, p5, _, _⟩ := p
    have hd := dist_in (lX t l hx hy st j) (lY t l hx hy st j) (pk t (sq l j) (sk l j) 0 2) (pk t (sq l j) (sk l j) 1 3)
    have e : lN t l hx hy st (j + 1) = max (lN t l hx hy st j + dist (lX t l hx hy st j) (lY t l hx hy st j) (pk t (sq l j) (sk l j) 0 2) (pk t (sq l j) (sk l j) 1 3)) (pk t (geti (l.getD j []) 0) (geti (l.getD j []) 1) 4 6) + rf t (geti (l.getD j []) 0) 9 := rfl
    omega
theorem getD_take {i n : Nat} (h : i < n) : (l.take n).getD i [] = l.getD i [] := by simp [List.getD, List.getElem?_take, h]
theorem lz_take (n : Nat) : ∀ j, j ≤ n → lz t (l.take n) hx hy st j = lz t l hx hy st j
  | 0, _ => rfl
  | j + 1, hj => by
    have ih := lz_take n j (by omega)
    show lzS t (sq (l.take n) j) (sk (l.take n) j) (lz t (l.take n) hx hy st j) = lzS t (sq l j) (sk l j) (lz t l hx hy st j)
    have e1 : sq (l.take n) j = sq l j := by unfold sq; rw [getD_take (by omega)]
    have e2 : sk (l.take n) j = sk l j := by unfold sk; rw [getD_take (by omega)]
    rw [ih, e1, e2]
theorem stE_take {i : Nat} (h : i < l.length) : stE t (l.take (i + 1)) hx hy cap st i = stE t l hx hy cap st i := by
  have e1 : sq (l.take (i + 1)) i = sq l i := by unfold sq; rw [getD_take (by omega)]
  have e2 : sk (l.take (i + 1)) i = sk l i := by unfold sk; rw [getD_take (by omega)]
  have e3 : lB t (l.take (i + 1)) hx hy st (i + 1) = lB t l hx hy st (i + 1) := by unfold lB; rw [lz_take _ _ (Nat.le_refl _)]
  unfold stE okS
  rw [e1, e2, e3, List.take_take, List.take_take, Nat.min_eq_left (by omega), Nat.min_self]
theorem stE_bd (t l : List (List Value)) (hx hy cap st : Int) (i : Nat) : 0 ≤ stE t l hx hy cap st i ∧ stE t l hx hy cap st i ≤ 11 := by
  unfold stE
  cases decide (16 ≤ i) <;> cases okS t l i <;> cases decide (cap < brd t (l.take (i + 1))) <;> cases decide (pk t (sq l i) (sk l i) 5 7 < lB t l hx hy st (i + 1)) <;> simp
theorem stE_11 {i : Nat} (h : 16 ≤ i) : 11 = stE t l hx hy cap st i := by unfold stE; rw [decide_eq_true h]; rfl
theorem stE_8 {i : Nat} (h : ¬ 16 ≤ i) (h2 : okS t l i = false) : 8 = stE t l hx hy cap st i := by unfold stE; rw [decide_eq_false h, h2]; rfl
theorem stE_10 {i : Nat} (h : ¬ 16 ≤ i) (h2 : okS t l i = true) (h3 : cap < brd t (l.take (i + 1))) : 10 = stE t l hx hy cap st i := by unfold stE; rw [decide_eq_false h, h2, decide_eq_true h3]; rfl
theorem stE_9 {i : Nat} (h : ¬ 16 ≤ i) (h2 : okS t l i = true) (h3 : ¬ cap < brd t (l.take (i + 1))) (h4 : pk t (sq l i) (sk l i) 5 7 < lB t l hx hy st (i + 1)) : 9 = stE t l hx hy cap st i := by unfold stE; rw [decide_eq_false h, h2, decide_eq_false h3, decide_eq_true h4]; rfl
theorem stE_0 {i : Nat} (h : ¬ 16 ≤ i) (h2 : okS t l i = true) (h3 : ¬ cap < brd t (l.take (i + 1))) (h4 : ¬ pk t (sq l i) (sk l i) 5 7 < lB t l hx hy st (i + 1)) : 0 = stE t l hx hy cap st i := by unfold stE; rw [decide_eq_false h, h2, decide_eq_false h3, decide_eq_false h4]; rfl
structure StOk (t l : List (List Value)) (hx hy cap st : Int) (i : Nat) : Prop where
  lt : i < 16
  ok : okS t l i = true
  b : brd t (l.take (i + 1)) ≤ cap
  w : lB t l hx hy st (i + 1) ≤ pk t (sq l i) (sk l i) 5 7
  inr : inR t (sq l i) (sk l i) = true
theorem stG_iff {i : Nat} : stG t l hx hy cap st i = true ↔ StOk t l hx hy cap st i := by
  unfold stG
  rw [decide_eq_true_iff]
  constructor
  · intro h
    by_cases h1 : 16 ≤ i
    · rw [← stE_11 h1] at h; cases h
    cases h2 : okS t l i with
    | false => rw [← stE_8 h1 h2] at h; cases h
    | true =>
      by_cases h3 : cap < brd t (l.take (i + 1))
      · rw [← stE_10 h1 h2 h3] at h; cases h
      by_cases h4 : pk t (sq l i) (sk l i) 5 7 < lB t l hx hy st (i + 1)
      · rw [← stE_9 h1 h2 h3 h4] at h; cases h
      have h5 := h2
      unfold okS stB at h5
      simp only [Bool.and_eq_true] at h5
      exact ⟨by omega, h2, by omega, by omega, h5.1⟩
  · rintro ⟨h1, h2, h3, h4, _⟩
    exact (stE_0 (by omega) h2 (by omega) (by omega)).symm
theorem fgood_le (g : Nat → Bool) : ∀ n, fgood g n ≤ n
  | 0 => Nat.le_refl _
  | n + 1 => by
    have := fgood_le g n
    simp only [fgood]
    cases decide (fgood g n < n) <;> cases g n <;> simp <;> omega
theorem fgood_all {g : Nat → Bool} : ∀ {n : Nat}, (∀ j, j < n → g j = true) → fgood g n = n
  | 0, _ => rfl
  | n + 1, h => by
    have ih := fgood_all fun j hj => h j (Nat.lt_succ_of_lt hj)
    simp only [fgood, ih, h n (Nat.lt_succ_self n)]
    rw [decide_eq_false (Nat.lt_irrefl n)]; rfl
theorem fgood_at {g : Nat → Bool} {k : Nat} (hb : g k = false) (h : ∀ j, j < k → g j = true) : ∀ n, k < n → fgood g n = k
  | 0, hk => absurd hk (Nat.not_lt_zero _)
  | n + 1, hk => by
    simp only [fgood]
    by_cases e : k = n
    · subst e
      rw [fgood_all h, decide_eq_false (Nat.lt_irrefl k), hb]; rfl
    · rw [fgood_at hb h n (by omega), decide_eq_true (by omega)]; rfl
theorem fgood_eq {g : Nat → Bool} : ∀ {n : Nat}, fgood g n = n → ∀ j, j < n → g j = true
  | 0, _, j, hj => absurd hj (Nat.not_lt_zero _)
  | n + 1, h, j, hj => by
    simp only [fgood] at h
    have hl := fgood_le g n
    by_cases h1 : fgood g n < n
    · rw [decide_eq_true h1, cond_true] at h; omega
    · rw [decide_eq_false h1, cond_false] at h
      cases h2 : g n with
      | false => rw [h2, cond_false] at h; omega
      | true =>
        by_cases e : j = n
        · rw [e]; exact h2
        · exact fgood_eq (n := n) (by omega) j (by omega)
theorem chkF_2 (h : ¬ veh hx hy cap st en = 0) : chkF hx hy cap st en l t = ⟨2, 0, 0⟩ := by unfold chkF; rw [decide_eq_false h]; rfl
theorem chkF_r (h : veh hx hy cap st en = 0) {k : Nat} (hk : k < t.length) (hg : ∀ j, j < k → reqG t j = true) (hb : reqG t k = false) : chkF hx hy cap st en l t = ⟨2, 1, k⟩ := by
  unfold chkF; rw [decide_eq_true h, fgood_at hb hg _ hk, decide_eq_false (by omega)]; rfl
theorem chkF_t (h : veh hx hy cap st en = 0) (hg : ∀ j, j < t.length → reqG t j = true) : chkF hx hy cap st en l t = chkT hx hy cap st en l t := by
  unfold chkF; rw [decide_eq_true h, fgood_all hg, decide_eq_true rfl]; rfl
theorem chkT_s {k : Nat} (hk : k < l.length) (hg : ∀ j, j < k → stG t l hx hy cap st j = true) (hb : stG t l hx hy cap st k = false) : chkT hx hy cap st en l t = ⟨stE t l hx hy cap st k, 2, k⟩ := by
  unfold chkT; rw [fgood_at hb hg _ hk, decide_eq_false (by omega)]; rfl
theorem chkT_8 (hg : ∀ j, j < l.length → stG t l hx hy cap st j = true) (h : 0 < brd t l) : chkT hx hy cap st en l t = ⟨8, 3, l.length⟩ := by
  unfold chkT; rw [fgood_all hg, decide_eq_true rfl, decide_eq_true h]; rfl
theorem chkT_9 (hg : ∀ j, j < l.length → stG t l hx hy cap st j = true) (h : ¬ 0 < brd t l) (h2 : en < lEnd t l hx hy st) : chkT hx hy cap st en l t = ⟨9, 3, l.length⟩ := by
  unfold chkT; rw [fgood_all hg, decide_eq_true rfl, decide_eq_false h, decide_eq_true h2]; rfl
theorem chkT_0 (hg : ∀ j, j < l.length → stG t l hx hy cap st j = true) (h : ¬ 0 < brd t l) (h2 : ¬ en < lEnd t l hx hy st) : chkT hx hy cap st en l t = ⟨0, 0, 0⟩ := by
  unfold chkT; rw [fgood_all hg, decide_eq_true rfl, decide_eq_false h, decide_eq_false h2]; rfl
theorem reqs_all (h : ∀ j, j < t.length → reqG t j = true) : reqsOk t = true := List.all_eq_true.2 fun x hx => by
  obtain ⟨i, hi, rfl⟩ := List.mem_iff_getElem.1 hx
  have := h i hi
  unfold reqG at this
  rwa [List.getD_eq_getElem?_getD, List.getElem?_eq_getElem hi] at this
theorem veh_in' (h : veh hx hy cap st en = 0) : (0 ≤ st ∧ st ≤ 1048576) ∧ (1 ≤ cap ∧ cap ≤ 100000) ∧ (st ≤ en ∧ en ≤ 1048576) := by
  have := (veh0 hx hy cap st en).1 h
  omega
end
set_option maxHeartbeats 4000000 in
theorem okQpl : CtrOk Tryd.prog 28 kQpl := good_of okG26 mixed (fun ((q, k, _), t, _) => noLoops) 100 fun ((q, k, _), t, _) hf hn => by
  refine ⟨rfl, Eq.mpr (tQpl q k t) ?_⟩
  have hq := inL_iff.1 hn.1
  (simp only [eq_self_iff_true, true_and, and_true, false_and, and_false, Bool.or_not_self, Bool.not_or_self, Bool.cond_self, cond_true, cond_false, Bool.cond_true_right, Bool.cond_true_left, Bool.cond_false_right, Bool.cond_false_left, Bool.or_true, Bool.true_or, Bool.or_false, Bool.false_or, Bool.and_true, Bool.true_and, Bool.and_false, Bool.false_and, Bool.not_not, forall_eq, ← Bool.decide_and, ← Bool.decide_or, ← decide_not, cDecF, cDecT, cDecFl, Decidable.not_not, Bool.not_true, Bool.not_false, Bool.false_eq_true, imp_false, not_true_eq_false, not_false_eq_true, forall_const, true_implies, false_implies, implies_true, decide_true, decide_false]; try simp only [cDec, eq_self_iff_true, true_and, and_true, false_and, and_false, Bool.or_not_self, Bool.not_or_self, Bool.cond_self, cond_true, cond_false, Bool.cond_true_right, Bool.cond_true_left, Bool.cond_false_right, Bool.cond_false_left, Bool.or_true, Bool.true_or, Bool.or_false, Bool.false_or, Bool.and_true, Bool.true_and, Bool.and_false, Bool.false_and, Bool.not_not, forall_eq, ← Bool.decide_and, ← Bool.decide_or, ← decide_not, cDecF, cDecT, cDecFl, Decidable.not_not, Bool.not_true, Bool.not_false, Bool.false_eq_true, imp_false, not_true_eq_false, not_false_eq_true, forall_const, true_implies, false_implies, implies_true, decide_true, decide_false])
  exact ⟨fun h => ⟨hq, (pk_0 h _ _).symm, (pk_0 h _ _).symm⟩, fun h => ⟨hq, (pk_1 h _ _).symm, (pk_1 h _ _).symm⟩⟩
theorem okG27 : PCok Tryd.prog G27 := addPC_ok okG26 okQpl
set_option maxHeartbeats 4000000 in
theorem okQwi : CtrOk Tryd.prog 30 kQwi := good_of okG27 mixed (fun ((q, k, _), t, _) => noLoops) 100 fun ((q, k, _), t, _) hf hn => by
  refine ⟨rfl, Eq.mpr (tQwi q k t) ?_⟩
  have hq := inL_iff.1 hn.1
  (simp only [eq_self_iff_true, true_and, and_true, false_and, and_false, Bool.or_not_self, Bool.not_or_self, Bool.cond_self, cond_true, cond_false, Bool.cond_true_right, Bool.cond_true_left, Bool.cond_false_right, Bool.cond_false_left, Bool.or_true, Bool.true_or, Bool.or_false, Bool.false_or, Bool.and_true, Bool.true_and, Bool.and_false, Bool.false_and, Bool.not_not, forall_eq, ← Bool.decide_and, ← Bool.decide_or, ← decide_not, cDecF, cDecT, cDecFl, Decidable.not_not, Bool.not_true, Bool.not_false, Bool.false_eq_true, imp_false, not_true_eq_false, not_false_eq_true, forall_const, true_implies, false_implies, implies_true, decide_true, decide_false]; try simp only [cDec, eq_self_iff_true, true_and, and_true, false_and, and_false, Bool.or_not_self, Bool.not_or_self, Bool.cond_self, cond_true, cond_false, Bool.cond_true_right, Bool.cond_true_left, Bool.cond_false_right, Bool.cond_false_left, Bool.or_true, Bool.true_or, Bool.or_false, Bool.false_or, Bool.and_true, Bool.true_and, Bool.and_false, Bool.false_and, Bool.not_not, forall_eq, ← Bool.decide_and, ← Bool.decide_or, ← decide_not, cDecF, cDecT, cDecFl, Decidable.not_not, Bool.not_true, Bool.not_false, Bool.false_eq_true, imp_false, not_true_eq_false, not_false_eq_true, forall_const, true_implies, false_implies, implies_true, decide_true, decide_false])
  exact ⟨fun h => ⟨hq, (pk_0 h _ _).symm, (pk_0 h _ _).symm⟩, fun h => ⟨hq, (pk_1 h _ _).symm, (pk_1 h _ _).symm⟩⟩
theorem okG28 : PCok Tryd.prog G28 := addPC_ok okG27 okQwi
set_option maxHeartbeats 4000000 in
theorem okQmn : CtrOk Tryd.prog 90 kQmn := good_of okG28 mixed (fun (xs, (r, k, _), _) => mnL r k xs) 100 fun (xs, (r, k, _), _) hf hn => by
  refine ⟨rfl, Eq.mpr (tQmn xs r k) ?_⟩
  have hm : (xs.length : Int) ≤ 9223372036854775807 := len63 hf.1.2
  (simp only [eq_self_iff_true, true_and, and_true, false_and, and_false, Bool.or_not_self, Bool.not_or_self, Bool.cond_self, cond_true, cond_false, Bool.cond_true_right, Bool.cond_true_left, Bool.cond_false_right, Bool.cond_false_left, Bool.or_true, Bool.true_or, Bool.or_false, Bool.false_or, Bool.and_true, Bool.true_and, Bool.and_false, Bool.false_and, Bool.not_not, forall_eq, ← Bool.decide_and, ← Bool.decide_or, ← decide_not, cDecF, cDecT, cDecFl, Decidable.not_not, Bool.not_true, Bool.not_false, Bool.false_eq_true, imp_false, not_true_eq_false, not_false_eq_true, forall_const, true_implies, false_implies, implies_true, decide_true, decide_false]; try simp only [cDec, eq_self_iff_true, true_and, and_true, false_and, and_false, Bool.or_not_self, Bool.not_or_self, Bool.cond_self, cond_true, cond_false, Bool.cond_true_right, Bool.cond_true_left, Bool.cond_false_right, Bool.cond_false_left, Bool.or_true, Bool.true_or, Bool.or_false, Bool.false_or, Bool.and_true, Bool.true_and, Bool.and_false, Bool.false_and, Bool.not_not, forall_eq, ← Bool.decide_and, ← Bool.decide_or, ← decide_not, cDecF, cDecT, cDecFl, Decidable.not_not, Bool.not_true, Bool.not_false, Bool.false_eq_true, imp_false, not_true_eq_false, not_false_eq_true, forall_const, true_implies, false_implies, implies_true, decide_true, decide_false])
  have hb := cnt_bd r k
  refine ⟨0, ⟨by omega, by omega⟩, ⟨⟨rfl, by omega, by omega⟩, by simp [cnt], by simp [cnt], by simp [cnt]⟩, ?_⟩
  intro j hj
  refine ⟨fun hlt => ⟨⟨by omega, hlt⟩, ?_⟩, fun hge => by rw [show j.toNat = xs.length by omega, List.take_length]⟩
  have e : (j + 1).toNat = j.toNat + 1 := by omega
  have ew : IntKind.i64.wrap (j + 1) = j + 1 := wr64 _ (by omega)
  have hs := cnt_snoc r k (xs := xs) (j := j.toNat) (by omega)
  have b1 := hb (xs.take j.toNat)
  have b2 := hb (xs.take (j.toNat + 1))
  have l1 : ((xs.take j.toNat).length : Int) ≤ xs.length := by simp; omega
  have l2 : ((xs.take (j.toNat + 1)).length : Int) ≤ xs.length := by simp; omega
  rw [ew]
  refine bif_intro (fun h => ?_) (fun h => ?_)
  · have h1 : isS r k (xs.getD j.toNat []) = true := by simpa [isS] using h
    rw [h1, cond_true] at hs
    have ew2 : IntKind.i64.wrap (cnt r k (xs.take j.toNat) + 1) = cnt r k (xs.take j.toNat) + 1 := wr64 _ (by omega)
    rw [ew2]
    exact ⟨j + 1, by omega, by omega, by omega, by rw [e]; omega, by rw [e]; omega, by rw [e]; omega⟩
  · have h1 : isS r k (xs.getD j.toNat []) = false := by
      cases hx : isS r k (xs.getD j.toNat []) with
      | false => rfl
      | true => have := isS_iff.1 hx; rw [this.1, this.2] at h; simp at h
    rw [h1, cond_false] at hs
    exact ⟨j + 1, by omega, by omega, by omega, by rw [e]; omega⟩
theorem okG29 : PCok Tryd.prog G29 := addPC_ok okG28 okQmn
set_option maxHeartbeats 4000000 in
theorem okQst : CtrOk Tryd.prog 80 kQst := good_of okG29 mixed (fun (l, (q, k, _), t, _) => noLoops) 100 fun (l, (q, k, _), t, _) hf hn => by
  refine ⟨rfl, Eq.mpr (tQst l q k t) ?_⟩
  (simp only [eq_self_iff_true, true_and, and_true, false_and, and_false, Bool.or_not_self, Bool.not_or_self, Bool.cond_self, cond_true, cond_false, Bool.cond_true_right, Bool.cond_true_left, Bool.cond_false_right, Bool.cond_false_left, Bool.or_true, Bool.true_or, Bool.or_false, Bool.false_or, Bool.and_true, Bool.true_and, Bool.and_false, Bool.false_and, Bool.not_not, forall_eq, ← Bool.decide_and, ← Bool.decide_or, ← decide_not, cDecF, cDecT, cDecFl, Decidable.not_not, Bool.not_true, Bool.not_false, Bool.false_eq_true, imp_false, not_true_eq_false, not_false_eq_true, forall_const, true_implies, false_implies, implies_true, decide_true, decide_false]; try simp only [cDec, eq_self_iff_true, true_and, and_true, false_and, and_false, Bool.or_not_self, Bool.not_or_self, Bool.cond_self, cond_true, cond_false, Bool.cond_true_right, Bool.cond_true_left, Bool.cond_false_right, Bool.cond_false_left, Bool.or_true, Bool.true_or, Bool.or_false, Bool.false_or, Bool.and_true, Bool.true_and, Bool.and_false, Bool.false_and, Bool.not_not, forall_eq, ← Bool.decide_and, ← Bool.decide_or, ← decide_not, cDecF, cDecT, cDecFl, Decidable.not_not, Bool.not_true, Bool.not_false, Bool.false_eq_true, imp_false, not_true_eq_false, not_false_eq_true, forall_const, true_implies, false_implies, implies_true, decide_true, decide_false])
  refine ⟨by omega, fun h => ?_, fun h => ?_⟩
  · unfold stB; rw [inR_no (by omega)]; rfl
  · unfold stB; rw [inR_yes (by omega), Bool.true_and, ← Bool.decide_and]
theorem okG30 : PCok Tryd.prog G30 := addPC_ok okG29 okQst
set_option maxHeartbeats 4000000 in
theorem okQbo : CtrOk Tryd.prog 55 kQbo := good_of okG30 mixed (fun (l, t, _) => boL t l) 100 fun (l, t, _) hf hn => by
  refine ⟨rfl, Eq.mpr (tQbo l t) ?_⟩
  have hr := hn.1
  have hml : (l.length : Int) ≤ 9223372036854775807 := len63 hf.1.2
  (simp only [eq_self_iff_true, true_and, and_true, false_and, and_false, Bool.or_not_self, Bool.not_or_self, Bool.cond_self, cond_true, cond_false, Bool.cond_true_right, Bool.cond_true_left, Bool.cond_false_right, Bool.cond_false_left, Bool.or_true, Bool.true_or, Bool.or_false, Bool.false_or, Bool.and_true, Bool.true_and, Bool.and_false, Bool.false_and, Bool.not_not, forall_eq, ← Bool.decide_and, ← Bool.decide_or, ← decide_not, cDecF, cDecT, cDecFl, Decidable.not_not, Bool.not_true, Bool.not_false, Bool.false_eq_true, imp_false, not_true_eq_false, not_false_eq_true, forall_const, true_implies, false_implies, implies_true, decide_true, decide_false]; try simp only [cDec, eq_self_iff_true, true_and, and_true, false_and, and_false, Bool.or_not_self, Bool.not_or_self, Bool.cond_self, cond_true, cond_false, Bool.cond_true_right, Bool.cond_true_left, Bool.cond_false_right, Bool.cond_false_left, Bool.or_true, Bool.true_or, Bool.or_false, Bool.false_or, Bool.and_true, Bool.true_and, Bool.and_false, Bool.false_and, Bool.not_not, forall_eq, ← Bool.decide_and, ← Bool.decide_or, ← decide_not, cDecF, cDecT, cDecFl, Decidable.not_not, Bool.not_true, Bool.not_false, Bool.false_eq_true, imp_false, not_true_eq_false, not_false_eq_true, forall_const, true_implies, false_implies, implies_true, decide_true, decide_false])
  refine ⟨0, ⟨by omega, by omega⟩, ⟨⟨rfl, by omega, by omega⟩, by rfl, W_in _⟩, ?_⟩
  rintro j ⟨j0, j1⟩
  have e : (j + 1).toNat = j.toNat + 1 := by omega
  refine ⟨fun hlt => ?_, fun hge => by rw [List.take_of_length_le (by omega)]⟩
  have hq := inL_iff.1 (rngs_at hr (show j.toNat < l.length by omega))
  have hs := brd_snoc t (show j.toNat < l.length by omega)
  have ew : IntKind.i64.wrap (j + 1) = j + 1 := wr64 _ (by omega)
  refine ⟨⟨j0, hlt⟩, fun hk => ⟨⟨j0, hlt⟩, hq, j + 1, ⟨by omega, by omega⟩, by omega, ⟨ew, by omega, by omega⟩, ?_⟩, fun hk => ⟨⟨j0, hlt⟩, hq, j + 1, ⟨by omega, by omega⟩, by omega, ⟨ew, by omega, by omega⟩, ?_⟩⟩
  · rw [brd1_0 hk] at hs
    rw [e, hs]; unfold W; rw [wrAL]
  · rw [brd1_1 hk] at hs
    rw [e, hs]; unfold W; rw [wrSL]; congr 1; omega
theorem okG31 : PCok Tryd.prog G31 := addPC_ok okG30 okQbo
set_option maxHeartbeats 4000000 in
theorem okQle : CtrOk Tryd.prog 56 kQle := good_of okG31 mixed (fun ((hx, hy, cap, st, en, _), l, t, _) => leL t l hx hy st) 100 fun ((hx, hy, cap, st, en, _), l, t, _) hf hn => by
  refine ⟨rfl, Eq.mpr (tQle hx hy cap st en l t) ?_⟩
  obtain ⟨hr, hq, hs, hl16, _⟩ := hn
  have hs := of_decide_eq_true hs
  have hl16 := of_decide_eq_true hl16
  rw [lenI_eq] at hl16
  have hml : (l.length : Int) ≤ 9223372036854775807 := len63 hf.2.1.2
  (simp only [eq_self_iff_true, true_and, and_true, false_and, and_false, Bool.or_not_self, Bool.not_or_self, Bool.cond_self, cond_true, cond_false, Bool.cond_true_right, Bool.cond_true_left, Bool.cond_false_right, Bool.cond_false_left, Bool.or_true, Bool.true_or, Bool.or_false, Bool.false_or, Bool.and_true, Bool.true_and, Bool.and_false, Bool.false_and, Bool.not_not, forall_eq, ← Bool.decide_and, ← Bool.decide_or, ← decide_not, cDecF, cDecT, cDecFl, Decidable.not_not, Bool.not_true, Bool.not_false, Bool.false_eq_true, imp_false, not_true_eq_false, not_false_eq_true, forall_const, true_implies, false_implies, implies_true, decide_true, decide_false]; try simp only [cDec, eq_self_iff_true, true_and, and_true, false_and, and_false, Bool.or_not_self, Bool.not_or_self, Bool.cond_self, cond_true, cond_false, Bool.cond_true_right, Bool.cond_true_left, Bool.cond_false_right, Bool.cond_false_left, Bool.or_true, Bool.true_or, Bool.or_false, Bool.false_or, Bool.and_true, Bool.true_and, Bool.and_false, Bool.false_and, Bool.not_not, forall_eq, ← Bool.decide_and, ← Bool.decide_or, ← decide_not, cDecF, cDecT, cDecFl, Decidable.not_not, Bool.not_true, Bool.not_false, Bool.false_eq_true, imp_false, not_true_eq_false, not_false_eq_true, forall_const, true_implies, false_implies, implies_true, decide_true, decide_false])
  have hN := lN_in (hx := hx) (hy := hy) hq (fun i hi => rngs_at hr hi) hs
  refine ⟨0, ⟨by omega, by omega⟩, ⟨⟨rfl, by omega, by omega⟩, ⟨rfl, hs.1, by show st ≤ 1100000; omega⟩, rfl, rfl⟩, ?_⟩
  rintro j ⟨j0, j1⟩
  have e : (j + 1).toNat = j.toNat + 1 := by omega
  refine ⟨fun hlt => ?_, fun hge => ?_⟩
  · have hin := rngs_at hr (show j.toNat < l.length by omega)
    have hq' := inL_iff.1 hin
    have ew : IntKind.i64.wrap (j + 1) = j + 1 := wr64 _ (by omega)
    have hN1 := hN (j.toNat + 1) (by omega)
    have eN : lN t l hx hy st (j.toNat + 1) = max (lN t l hx hy st j.toNat + dist (lX t l hx hy st j.toNat) (lY t l hx hy st j.toNat) (pk t (geti (l.getD j.toNat []) 0) (geti (l.getD j.toNat []) 1) 0 2) (pk t (geti (l.getD j.toNat []) 0) (geti (l.getD j.toNat []) 1) 1 3)) (pk t (geti (l.getD j.toNat []) 0) (geti (l.getD j.toNat []) 1) 4 6) + geti (t.getD (geti (l.getD j.toNat []) 0).toNat []) 9 := rfl
    rw [hin, cond_true, cond_true, ← eN]
    refine ⟨⟨j0, hlt⟩, ⟨j0, hlt⟩, ⟨j0, hlt⟩, hq', j + 1, ⟨by omega, by omega⟩, by omega, ⟨ew, by omega, by omega⟩, ?_, ?_⟩
    · rw [e]; exact ⟨wr64 _ (by omega), by omega, by omega⟩
    · rw [e]; exact ⟨rfl, rfl⟩
  · have hj : j.toNat = l.length := by omega
    rw [hj]
    have := hN l.length (Nat.le_refl _)
    first | exact ⟨⟨rfl, rfl⟩, rfl, by omega, by omega⟩ | rfl | trivial | exact ⟨rfl, by omega, by omega⟩
theorem okG32 : PCok Tryd.prog G32 := addPC_ok okG31 okQle
set_option maxHeartbeats 4000000 in
theorem okQsp : CtrOk Tryd.prog 54 kQsp := good_of okG32 mixed (fun ((hx, hy, cap, st, en, _), l, t, _) => noLoops) 100 fun ((hx, hy, cap, st, en, _), l, t, _) hf hn => by
  refine ⟨rfl, Eq.mpr (tQsp hx hy cap st en l t) ?_⟩
  obtain ⟨hr, hq, hs, hl1, _⟩ := hn
  have hs := of_decide_eq_true hs
  have hl1 := of_decide_eq_true hl1
  rw [lenI_eq] at hl1
  have hml : (l.length : Int) ≤ 9223372036854775807 := len63 hf.2.1.2
  (simp only [eq_self_iff_true, true_and, and_true, false_and, and_false, Bool.or_not_self, Bool.not_or_self, Bool.cond_self, cond_true, cond_false, Bool.cond_true_right, Bool.cond_true_left, Bool.cond_false_right, Bool.cond_false_left, Bool.or_true, Bool.true_or, Bool.or_false, Bool.false_or, Bool.and_true, Bool.true_and, Bool.and_false, Bool.false_and, Bool.not_not, forall_eq, ← Bool.decide_and, ← Bool.decide_or, ← decide_not, cDecF, cDecT, cDecFl, Decidable.not_not, Bool.not_true, Bool.not_false, Bool.false_eq_true, imp_false, not_true_eq_false, not_false_eq_true, forall_const, true_implies, false_implies, implies_true, decide_true, decide_false]; try simp only [cDec, eq_self_iff_true, true_and, and_true, false_and, and_false, Bool.or_not_self, Bool.not_or_self, Bool.cond_self, cond_true, cond_false, Bool.cond_true_right, Bool.cond_true_left, Bool.cond_false_right, Bool.cond_false_left, Bool.or_true, Bool.true_or, Bool.or_false, Bool.false_or, Bool.and_true, Bool.true_and, Bool.and_false, Bool.false_and, Bool.not_not, forall_eq, ← Bool.decide_and, ← Bool.decide_or, ← decide_not, cDecF, cDecT, cDecFl, Decidable.not_not, Bool.not_true, Bool.not_false, Bool.false_eq_true, imp_false, not_true_eq_false, not_false_eq_true, forall_const, true_implies, false_implies, implies_true, decide_true, decide_false])
  have hbd := stE_bd t l hx hy cap st (l.length - 1)
  have en1 : ((l.length : Int) - 1).toNat = l.length - 1 := by omega
  refine ⟨fun h => ⟨stE_11 (by omega), hbd⟩, fun h16 => ⟨by omega, by omega, ?_⟩⟩
  have et : (l.drop 0).take ((l.length : Int) - 1 - 0).toNat = l.take (l.length - 1) := by rw [List.drop_zero]; congr 1; omega
  rw [et, en1]
  have eo : stB t (l.take (l.length - 1)) (geti (l.getD (l.length - 1) []) 0) (geti (l.getD (l.length - 1) []) 1) = okS t l (l.length - 1) := rfl
  have tl : l.take (l.length - 1 + 1) = l := List.take_of_length_le (by omega)
  rw [eo]
  cases ho : okS t l (l.length - 1) with
  | false => exact ⟨stE_8 (by omega) ho, hbd⟩
  | true =>
    have hin : inR t (geti (l.getD (l.length - 1) []) 0) (geti (l.getD (l.length - 1) []) 1) = true := by
      have := ho; unfold okS stB at this; simp only [Bool.and_eq_true] at this; exact this.1
    have hir := inR_iff.1 hin
    have hall : ∀ i, i < l.length → inL t (geti (l.getD i []) 0) = true := fun i hi => by
      by_cases e : i = l.length - 1
      · rw [e]; exact inL_of ⟨hir.1, hir.2.1⟩
      · have := rngs_at hr (i := i) (by rw [List.length_take]; omega)
        rwa [getD_take (by omega)] at this
    have hrl := rngs_of hall
    have hb := brd_in hq l hrl
    have eW : W (brd t l) = brd t l := wr64 _ (by omega)
    have hN := lN_in (hx := hx) (hy := hy) hq hall hs l.length (Nat.le_refl _)
    have hp := pkIn hq (hall (l.length - 1) (by omega)) 0
    have s0 := hp.s0
    have s1 := hp.s1
    have eN : lN t l hx hy st l.length = lB t l hx hy st (l.length - 1 + 1) + rf t (geti (l.getD (l.length - 1) []) 0) 9 := by
      conv => lhs; rw [show l.length = l.length - 1 + 1 by omega]
      rfl
    have eW2 : IntKind.i64.wrap (lN t l hx hy st l.length - geti (t.getD (geti (l.getD (l.length - 1) []) 0).toNat []) 9) = lB t l hx hy st (l.length - 1 + 1) := by
      have er : rf t (geti (l.getD (l.length - 1) []) 0) 9 = geti (t.getD (geti (l.getD (l.length - 1) []) 0).toNat []) 9 := rfl
      rw [← er, eN, wr64 _ (by omega)]; omega
    rw [hrl, hq, hall (l.length - 1) (by omega), eW, eW2]
    simp only [cond_true, Bool.not_true, cond_false]
    refine ⟨fun hc => ⟨stE_10 (by omega) ho (by rw [tl]; exact hc), hbd⟩, fun hc => ⟨hs, by rw [lenI_eq]; omega, by omega, ⟨hir.1, hir.2.1⟩, by omega, fun hw => ⟨stE_9 (by omega) ho (by rw [tl]; exact hc) hw, hbd⟩, fun hw => ⟨stE_0 (by omega) ho (by rw [tl]; exact hc) hw, hbd⟩⟩⟩
theorem okG33 : PCok Tryd.prog G33 := addPC_ok okG32 okQsp
set_option maxHeartbeats 4000000 in
theorem okQck : CtrOk Tryd.prog 27 kQck := good_of okG33 mixed (fun ((hx, hy, cap, st, en, _), l, t, _) => ckrL t l hx hy cap st) 100 fun ((hx, hy, cap, st, en, _), l, t, _) hf hn => by
  refine ⟨rfl, Eq.mpr (tQck hx hy cap st en l t) ?_⟩
  have hml : (l.length : Int) ≤ 9223372036854775807 := len63 hf.2.1.2
  have hmt : (t.length : Int) ≤ 9223372036854775807 := len63 hf.2.2.1.2
  (simp only [eq_self_iff_true, true_and, and_true, false_and, and_false, Bool.or_not_self, Bool.not_or_self, Bool.cond_self, cond_true, cond_false, Bool.cond_true_right, Bool.cond_true_left, Bool.cond_false_right, Bool.cond_false_left, Bool.or_true, Bool.true_or, Bool.or_false, Bool.false_or, Bool.and_true, Bool.true_and, Bool.and_false, Bool.false_and, Bool.not_not, forall_eq, ← Bool.decide_and, ← Bool.decide_or, ← decide_not, cDecF, cDecT, cDecFl, Decidable.not_not, Bool.not_true, Bool.not_false, Bool.false_eq_true, imp_false, not_true_eq_false, not_false_eq_true, forall_const, true_implies, false_implies, implies_true, decide_true, decide_false]; try simp only [cDec, eq_self_iff_true, true_and, and_true, false_and, and_false, Bool.or_not_self, Bool.not_or_self, Bool.cond_self, cond_true, cond_false, Bool.cond_true_right, Bool.cond_true_left, Bool.cond_false_right, Bool.cond_false_left, Bool.or_true, Bool.true_or, Bool.or_false, Bool.false_or, Bool.and_true, Bool.true_and, Bool.and_false, Bool.false_and, Bool.not_not, forall_eq, ← Bool.decide_and, ← Bool.decide_or, ← decide_not, cDecF, cDecT, cDecFl, Decidable.not_not, Bool.not_true, Bool.not_false, Bool.false_eq_true, imp_false, not_true_eq_false, not_false_eq_true, forall_const, true_implies, false_implies, implies_true, decide_true, decide_false])
  refine ⟨fun h => by (rw [chkF_2 h]; repeat' (first | apply And.intro | rfl | (dsimp only; omega))), fun hv => ?_⟩
  have vb := veh_in' hv
  refine ⟨0, ⟨by omega, by omega, fun j hj => by simp at hj⟩, ⟨rfl, by omega, by omega⟩, ?_⟩
  rintro k ⟨k0, k1, kh⟩
  have e : (k + 1).toNat = k.toNat + 1 := by omega
  refine ⟨fun hlt => ⟨⟨k0, hlt⟩, fun hb => ?_, fun hg => ?_⟩, fun hge => ?_⟩
  · have hb' : reqG t k.toNat = false := decide_eq_false hb
    rw [chkF_r hv (show k.toNat < t.length by omega) kh hb']
    repeat' (first | apply And.intro | rfl | (dsimp only; omega))
  · have hg' : reqG t k.toNat = true := decide_eq_true hg
    refine ⟨k + 1, ⟨by omega, by omega, fun j hj => ?_⟩, by omega, wr64 _ (by omega), by omega, by omega⟩
    by_cases hjk : j < k.toNat
    · exact kh j hjk
    · rw [show j = k.toNat by omega]; exact hg'
  have hall : ∀ j, j < t.length → reqG t j = true := fun j hj => kh j (by omega)
  have hq := reqs_all hall
  rw [chkF_t hv hall]
  refine ⟨0, ⟨by omega, by omega, fun j hj => by simp at hj⟩, ⟨rfl, by omega, by omega⟩, ?_⟩
  rintro i ⟨i0, i1, ih⟩
  have e2 : (i + 1).toNat = i.toNat + 1 := by omega
  have hin : ∀ j, j < i.toNat → inL t (geti (l.getD j []) 0) = true := fun j hj => by
    have := inR_iff.1 (stG_iff.1 (ih j hj)).inr
    exact inL_of ⟨this.1, this.2.1⟩
  refine ⟨fun hlt => ?_, fun hge => ?_⟩
  · have ew : IntKind.i64.wrap (i + 1) = i + 1 := wr64 _ (by omega)
    have et : (l.drop 0).take (i + 1 - 0).toNat = l.take (i.toNat + 1) := by rw [List.drop_zero]; congr 1; omega
    have el : (l.take (i.toNat + 1)).length - 1 = i.toNat := by rw [List.length_take]; omega
    have hr : rngs ((l.take (i.toNat + 1)).take i.toNat) t = true := rngs_of fun j hj => by
      rw [List.length_take] at hj
      rw [getD_take (by omega), getD_take (by omega)]; exact hin j (by omega)
    rw [ew, et, el, hr, hq, stE_take (by omega)]
    simp only [cond_true]
    have hbd := stE_bd t l hx hy cap st i.toNat
    refine ⟨by omega, vb.1, by rw [lenI_eq, List.length_take]; omega, fun hb => ?_, fun hg => ?_⟩
    · have hb' : stG t l hx hy cap st i.toNat = false := decide_eq_false hb
      rw [chkT_s (show i.toNat < l.length by omega) ih hb']
      repeat' (first | apply And.intro | rfl | (dsimp only; omega))
    · refine ⟨i + 1, ⟨by omega, by omega, fun j hj => ?_⟩, by omega, rfl, by omega, by omega⟩
      by_cases hjk : j < i.toNat
      · exact ih j hjk
      · rw [show j = i.toNat by omega]; exact decide_eq_true hg
  · have hi : i.toNat = l.length := by omega
    rw [hi] at ih hin
    have hr := rngs_of hin
    have h16 : l.length ≤ 16 := by
      rcases Nat.lt_or_ge 16 l.length with h | h
      · have := (stG_iff.1 (ih 16 h)).lt; omega
      · exact h
    have hb := brd_in hq l hr
    have eW : W (brd t l) = brd t l := wr64 _ (by omega)
    have hN := lN_in (hx := hx) (hy := hy) hq hin vb.1 l.length (Nat.le_refl _)
    have hd := dist_in (lX t l hx hy st l.length) (lY t l hx hy st l.length) hx hy
    have eE : lN t l hx hy st l.length + dist (lX t l hx hy st l.length) (lY t l hx hy st l.length) hx hy = lEnd t l hx hy st := rfl
    rw [hr, hq, eW]
    simp only [cond_true]
    refine ⟨fun h8 => ?_, fun h8 => ⟨vb.1, by rw [lenI_eq]; omega, ?_⟩⟩
    · rw [chkT_8 ih h8]
      repeat' (first | apply And.intro | rfl | (dsimp only; omega))
    · rw [eE]
      refine ⟨fun h9 => ?_, fun h9 => ?_⟩
      · rw [chkT_9 ih h8 h9]
        repeat' (first | apply And.intro | rfl | (dsimp only; omega))
      · rw [chkT_0 ih h8 h9]
        repeat' (first | apply And.intro | rfl | (dsimp only; omega))
theorem okG34 : PCok Tryd.prog G34 := addPC_ok okG33 okQck
set_option maxHeartbeats 4000000 in
theorem okFpa : CtrOk Tryd.prog 31 kFpa := good_of okG34 mixed (fun ((q, k, _), (fx, fy, tx, ty, pe, pl, de, dl, lo, se, _), _) => noLoops) 100 fun ((q, k, _), (fx, fy, tx, ty, pe, pl, de, dl, lo, se, _), _) hf hn => by
  refine ⟨rfl, Eq.mpr (tFpa q k fx fy tx ty pe pl de dl lo se) ?_⟩
  (simp only [eq_self_iff_true, true_and, and_true, false_and, and_false, Bool.or_not_self, Bool.not_or_self, Bool.cond_self, cond_true, cond_false, Bool.cond_true_right, Bool.cond_true_left, Bool.cond_false_right, Bool.cond_false_left, Bool.or_true, Bool.true_or, Bool.or_false, Bool.false_or, Bool.and_true, Bool.true_and, Bool.and_false, Bool.false_and, Bool.not_not, forall_eq, ← Bool.decide_and, ← Bool.decide_or, ← decide_not, cDecF, cDecT, cDecFl, Decidable.not_not, Bool.not_true, Bool.not_false, Bool.false_eq_true, imp_false, not_true_eq_false, not_false_eq_true, forall_const, true_implies, false_implies, implies_true, decide_true, decide_false]; try simp only [cDec, eq_self_iff_true, true_and, and_true, false_and, and_false, Bool.or_not_self, Bool.not_or_self, Bool.cond_self, cond_true, cond_false, Bool.cond_true_right, Bool.cond_true_left, Bool.cond_false_right, Bool.cond_false_left, Bool.or_true, Bool.true_or, Bool.or_false, Bool.false_or, Bool.and_true, Bool.true_and, Bool.and_false, Bool.false_and, Bool.not_not, forall_eq, ← Bool.decide_and, ← Bool.decide_or, ← decide_not, cDecF, cDecT, cDecFl, Decidable.not_not, Bool.not_true, Bool.not_false, Bool.false_eq_true, imp_false, not_true_eq_false, not_false_eq_true, forall_const, true_implies, false_implies, implies_true, decide_true, decide_false])
  refine ⟨fun h => ?_, fun h => ?_⟩
  · rw [decide_eq_true h]; exact ⟨⟨rfl, rfl⟩, rfl, rfl⟩
  · rw [decide_eq_false h]; exact ⟨⟨rfl, rfl⟩, rfl, rfl⟩
theorem okG35 : PCok Tryd.prog G35 := addPC_ok okG34 okFpa
set_option maxHeartbeats 4000000 in
theorem okFck : CtrOk Tryd.prog 17 kFck := good_of okG35 mixed (fun ((hx, hy, cap, st, en, _), l, t, _) => fcL t l hx hy cap st en) 100 fun ((hx, hy, cap, st, en, _), l, t, _) hf hn => by
  refine ⟨rfl, Eq.mpr (tFck hx hy cap st en l t) ?_⟩
  have hml : (l.length : Int) ≤ 9223372036854775807 := len63 hf.2.1.2
  have hmt : (t.length : Int) ≤ 9223372036854775807 := len63 hf.2.2.1.2
  (simp only [eq_self_iff_true, true_and, and_true, false_and, and_false, Bool.or_not_self, Bool.not_or_self, Bool.cond_self, cond_true, cond_false, Bool.cond_true_right, Bool.cond_true_left, Bool.cond_false_right, Bool.cond_false_left, Bool.or_true, Bool.true_or, Bool.or_false, Bool.false_or, Bool.and_true, Bool.true_and, Bool.and_false, Bool.false_and, Bool.not_not, forall_eq, ← Bool.decide_and, ← Bool.decide_or, ← decide_not, cDecF, cDecT, cDecFl, Decidable.not_not, Bool.not_true, Bool.not_false, Bool.false_eq_true, imp_false, not_true_eq_false, not_false_eq_true, forall_const, true_implies, false_implies, implies_true, decide_true, decide_false]; try simp only [cDec, eq_self_iff_true, true_and, and_true, false_and, and_false, Bool.or_not_self, Bool.not_or_self, Bool.cond_self, cond_true, cond_false, Bool.cond_true_right, Bool.cond_true_left, Bool.cond_false_right, Bool.cond_false_left, Bool.or_true, Bool.true_or, Bool.or_false, Bool.false_or, Bool.and_true, Bool.true_and, Bool.and_false, Bool.false_and, Bool.not_not, forall_eq, ← Bool.decide_and, ← Bool.decide_or, ← decide_not, cDecF, cDecT, cDecFl, Decidable.not_not, Bool.not_true, Bool.not_false, Bool.false_eq_true, imp_false, not_true_eq_false, not_false_eq_true, forall_const, true_implies, false_implies, implies_true, decide_true, decide_false])
  have er : ∀ a b c : Int, chkF hx hy cap st en l t = ⟨a, b, c⟩ → ¬ a = 0 → false = decide ((chkF hx hy cap st en l t).c = 0) ∧ [[Value.int .i64 a, Value.int .i64 b, Value.int .i64 c]] = fltR (chkF hx hy cap st en l t) := fun a b c h ha => by
    rw [h]; exact ⟨(decide_eq_false ha).symm, by unfold fltR; rw [decide_eq_false ha]; rfl⟩
  refine ⟨fun h => er _ _ _ (chkF_2 h) (by decide), fun hv => ?_⟩
  have vb := veh_in' hv
  refine ⟨0, ⟨by omega, by omega, fun j hj => by simp at hj⟩, ⟨rfl, by omega, by omega⟩, ?_⟩
  rintro k ⟨k0, k1, kh⟩
  refine ⟨fun hlt => ⟨⟨k0, hlt⟩, fun hb => ?_, fun hg => ?_⟩, fun hge => ?_⟩
  · have hb' : reqG t k.toNat = false := decide_eq_false hb
    have := chkF_r (l := l) hv (show k.toNat < t.length by omega) kh hb'
    rw [Int.toNat_of_nonneg k0] at this
    exact er _ _ _ this (by decide)
  · have hg' : reqG t k.toNat = true := decide_eq_true hg
    refine ⟨k + 1, ⟨by omega, by omega, fun j hj => ?_⟩, by omega, wr64 _ (by omega), by omega, by omega⟩
    by_cases hjk : j < k.toNat
    · exact kh j hjk
    · rw [show j = k.toNat by omega]; exact hg'
  have hall : ∀ j, j < t.length → reqG t j = true := fun j hj => kh j (by omega)
  have hq := reqs_all hall
  have eF := chkF_t (l := l) hv hall
  clear k0 k1 kh hge k
  refine ⟨⟨0, []⟩, ⟨by simp, by simp, fun j hj => by simp at hj, fun r => rfl⟩, ⟨⟨rfl, by simp, by simp⟩, ⟨rfl, rfl, ⟨rfl, vb.1.1, by show st ≤ 1100000; omega⟩, rfl, by simp [brd], by simp [brd]⟩, rfl⟩, ?_⟩
  rintro ⟨i, m⟩ hI
  obtain ⟨i0, i1, ih, hm⟩ := hI
  dsimp only at i0 i1 ih hm ⊢
  have hin : ∀ j, j < i.toNat → inL t (geti (l.getD j []) 0) = true := fun j hj => by
    have := inR_iff.1 (stG_iff.1 (ih j hj)).inr
    exact inL_of ⟨this.1, this.2.1⟩
  have hi16 : i.toNat ≤ 16 := by
    rcases Nat.lt_or_ge 16 i.toNat with h | h
    · have := (stG_iff.1 (ih 16 h)).lt; omega
    · exact h
  have hbr : ∀ n, n ≤ i.toNat → -(1000 * (n : Int)) ≤ brd t (l.take n) ∧ brd t (l.take n) ≤ 1000 * (n : Int) := fun n hn => by
    have hl : (l.take n).length = n := by rw [List.length_take]; omega
    have := brd_in hq (l.take n) (rngs_of fun j hj => by rw [hl] at hj; rw [getD_take hj]; exact hin j (by omega))
    rwa [hl] at this
  have hN := lN_in (l := l.take i.toNat) (hx := hx) (hy := hy) hq (fun j hj => by rw [List.length_take] at hj; rw [getD_take (by omega)]; exact hin j (by omega)) vb.1 i.toNat (by rw [List.length_take]; omega)
  have eNt : lN t (l.take i.toNat) hx hy st i.toNat = lN t l hx hy st i.toNat := by unfold lN; rw [lz_take _ _ (Nat.le_refl _)]
  rw [eNt] at hN
  refine ⟨fun hlt => ?_, fun hge => ?_⟩
  rotate_left
  · have hi : i.toNat = l.length := by omega
    rw [hi] at ih hin hN ⊢
    rw [List.take_length]
    have eE : lN t l hx hy st l.length + dist (lX t l hx hy st l.length) (lY t l hx hy st l.length) hx hy = lEnd t l hx hy st := rfl
    rw [eE]
    refine ⟨fun h8 => er _ _ _ (eF.trans (chkT_8 ih h8)) (by decide), fun h8 => ⟨fun h9 => er _ _ _ (eF.trans (chkT_9 ih h8 h9)) (by decide), fun h9 => ?_⟩⟩
    rw [eF, chkT_0 ih h8 h9]
    exact ⟨rfl, rfl⟩
  have hiN : i.toNat < l.length := by omega
  have bad : ∀ a : Int, a = stE t l hx hy cap st i.toNat → ¬ a = 0 → false = decide ((chkF hx hy cap st en l t).c = 0) ∧ [[Value.int .i64 a, Value.int .i64 2, Value.int .i64 i]] = fltR (chkF hx hy cap st en l t) := fun a ha h0 => by
    have hb : stG t l hx hy cap st i.toNat = false := decide_eq_false (by rw [← ha]; exact h0)
    have := eF.trans (chkT_s hiN ih hb)
    rw [Int.toNat_of_nonneg i0, ← ha] at this
    exact er _ _ _ this h0
  refine ⟨⟨i0, hlt⟩, fun h16 => bad 11 (stE_11 (by omega)) (by decide), fun h16 => ?_⟩
  have h16' : ¬ 16 ≤ i.toNat := by omega
  have hstep : ∀ j, j < i.toNat → stepOk l j := fun j hj => by
    have o := stG_iff.1 (ih j hj)
    have o2 := o.ok
    unfold okS stB at o2
    simp only [Bool.and_eq_true, decide_eq_true_eq] at o2
    obtain ⟨o3, o4, o5⟩ := o2
    have o6 := inR_iff.1 o3
    refine ⟨o6.1, ?_⟩
    have e1 : sq l j = geti (l.getD j []) 0 := rfl
    have e2 : sk l j = geti (l.getD j []) 1 := rfl
    rw [e1] at o4 o5; rw [e2] at o4 o6
    rcases o6.2.2 with o7 | o7
    · exact .inl ⟨o7, by omega, o5⟩
    · exact .inr ⟨o7, by omega, o5⟩
  obtain ⟨c1, c2⟩ := step_le (n := i.toNat) (by omega) hstep (geti (l.getD i.toNat []) 0)
  have c3 := cnt_bd (geti (l.getD i.toNat []) 0) 0 (l.take i.toNat)
  have c4 := cnt_bd (geti (l.getD i.toNat []) 0) 1 (l.take i.toNat)
  have hmq : geti (mget m (geti (l.getD i.toNat []) 0) [Value.int .i64 0]) 0 = cnt (geti (l.getD i.toNat []) 0) 0 (l.take i.toNat) + cnt (geti (l.getD i.toNat []) 0) 1 (l.take i.toNat) := hm _
  rw [hmq]
  refine ⟨fun hbad => bad 8 (stE_8 h16' ?_) (by decide), fun hok => ?_⟩
  · cases ho : okS t l i.toNat with
    | false => rfl
    | true =>
      exfalso
      unfold okS stB at ho
      simp only [Bool.and_eq_true, decide_eq_true_eq] at ho
      obtain ⟨o3, o4, o5⟩ := ho
      have o6 := inR_iff.1 o3
      have e1 : sq l i.toNat = geti (l.getD i.toNat []) 0 := rfl
      have e2 : sk l i.toNat = geti (l.getD i.toNat []) 1 := rfl
      rw [e1] at o4 o5 o6; rw [e2] at o4 o6
      omega
  have hkk : geti (l.getD i.toNat []) 1 = 0 ∨ geti (l.getD i.toNat []) 1 = 1 := by omega
  have hir : inR t (geti (l.getD i.toNat []) 0) (geti (l.getD i.toNat []) 1) = true := inR_yes (by omega)
  have hiq := inR_iff.1 hir
  have hoS : okS t l i.toNat = true := by
    unfold okS stB
    simp only [Bool.and_eq_true, decide_eq_true_eq]
    refine ⟨hir, ?_, ?_⟩
    · show cnt (geti (l.getD i.toNat []) 0) 0 (l.take i.toNat) = geti (l.getD i.toNat []) 1
      omega
    · show cnt (geti (l.getD i.toNat []) 0) 1 (l.take i.toNat) = 0
      omega
  have hinq : inL t (geti (l.getD i.toNat []) 0) = true := inL_of ⟨hiq.1, hiq.2.1⟩
  have p := pkIn hq hinq (geti (l.getD i.toNat []) 1)
  obtain ⟨p1, p2, p3, p4, p5, p6, p7⟩ := p
  have r8 : rf t (geti (l.getD i.toNat []) 0) 8 = geti (t.getD (geti (l.getD i.toNat []) 0).toNat []) 8 := rfl
  have r9 : rf t (geti (l.getD i.toNat []) 0) 9 = geti (t.getD (geti (l.getD i.toNat []) 0).toNat []) 9 := rfl
  have hb0 := hbr i.toNat (Nat.le_refl _)
  have hbs := brd_snoc t hiN
  have e2 : (i + 1).toNat = i.toNat + 1 := by omega
  have hd := dist_in (lX t l hx hy st i.toNat) (lY t l hx hy st i.toNat) (pk t (sq l i.toNat) (sk l i.toNat) 0 2) (pk t (sq l i.toNat) (sk l i.toNat) 1 3)
  have eB : lB t l hx hy st (i.toNat + 1) = max (lN t l hx hy st i.toNat + dist (lX t l hx hy st i.toNat) (lY t l hx hy st i.toNat) (pk t (sq l i.toNat) (sk l i.toNat) 0 2) (pk t (sq l i.toNat) (sk l i.toNat) 1 3)) (pk t (sq l i.toNat) (sk l i.toNat) 4 6) := rfl
  have eN : lN t l hx hy st (i.toNat + 1) = lB t l hx hy st (i.toNat + 1) + rf t (geti (l.getD i.toNat []) 0) 9 := rfl
  have n0 := cnt_snoc (geti (l.getD i.toNat []) 0) 0 hiN
  have n1 := cnt_snoc (geti (l.getD i.toNat []) 0) 1 hiN
  have step : ∀ bv : Int, bv = brd t (l.take (i.toNat + 1)) → ¬ cap < brd t (l.take (i.toNat + 1)) →
      (pk t (sq l i.toNat) (sk l i.toNat) 5 7 < lB t l hx hy st (i.toNat + 1) → false = decide ((chkF hx hy cap st en l t).c = 0) ∧ [[Value.int .i64 9, Value.int .i64 2, Value.int .i64 i]] = fltR (chkF hx hy cap st en l t)) ∧
      (¬ pk t (sq l i.toNat) (sk l i.toNat) 5 7 < lB t l hx hy st (i.toNat + 1) → (0 ≤ geti (l.getD i.toNat []) 0 ∧ geti (l.getD i.toNat []) 0 < (t.length : Int)) ∧ ∃ s : FcS, FcI t l hx hy cap st s ∧ ((l.length : Int) - s.k).toNat < ((l.length : Int) - i).toNat ∧ (IntKind.i64.wrap (i + 1) = s.k ∧ 0 ≤ s.k ∧ s.k ≤ 9223372036854775807) ∧
        (pk t (sq l i.toNat) (sk l i.toNat) 0 2 = lX t l hx hy st s.k.toNat ∧ pk t (sq l i.toNat) (sk l i.toNat) 1 3 = lY t l hx hy st s.k.toNat ∧ (IntKind.i64.wrap (lB t l hx hy st (i.toNat + 1) + rf t (geti (l.getD i.toNat []) 0) 9) = lN t l hx hy st s.k.toNat ∧ 0 ≤ lN t l hx hy st s.k.toNat ∧ lN t l hx hy st s.k.toNat ≤ 1100000) ∧
          bv = brd t (l.take s.k.toNat) ∧ -100000 ≤ brd t (l.take s.k.toNat) ∧ brd t (l.take s.k.toNat) ≤ 100000) ∧
        mset m (geti (l.getD i.toNat []) 0) [Value.int .i64 (IntKind.i64.wrap (cnt (geti (l.getD i.toNat []) 0) 0 (l.take i.toNat) + cnt (geti (l.getD i.toNat []) 0) 1 (l.take i.toNat) + 1))] = s.m) := by
    rintro bv rfl hc
    refine ⟨fun hw => bad 9 (stE_9 h16' hoS hc hw) (by decide), fun hw => ?_⟩
    have hs : stG t l hx hy cap st i.toNat = true := decide_eq_true (stE_0 h16' hoS hc hw).symm
    have ewN : IntKind.i64.wrap (lB t l hx hy st (i.toNat + 1) + rf t (geti (l.getD i.toNat []) 0) 9) = lN t l hx hy st (i.toNat + 1) := by
      rw [← eN]
      have q1 : pk t (sq l i.toNat) (sk l i.toNat) 5 7 ≤ 1048576 := p3
      have q2 : 0 ≤ pk t (sq l i.toNat) (sk l i.toNat) 4 6 := p1
      exact wr64 _ (by omega)
    have hb1 : brd t (l.take (i.toNat + 1)) = brd t (l.take i.toNat) + brd1 t (l.getD i.toNat []) := hbs
    have hb2 : -1000 ≤ brd1 t (l.getD i.toNat []) ∧ brd1 t (l.getD i.toNat []) ≤ 1000 := by unfold brd1; cases decide (geti (l.getD i.toNat []) 1 = 0) <;> simp only [cond_true, cond_false] <;> omega
    refine ⟨⟨hiq.1, hiq.2.1⟩, ⟨i + 1, _⟩, ⟨by dsimp only; omega, by dsimp only; omega, fun j hj => ?_, fun r => ?_⟩, by dsimp only; omega, ⟨wr64 _ (by omega), by dsimp only; omega, by dsimp only; omega⟩, ?_, rfl⟩
    · dsimp only at hj
      by_cases hjk : j < i.toNat
      · exact ih j hjk
      · rw [show j = i.toNat by omega]; exact hs
    · dsimp only
      rw [e2, mget_mset, cnt_snoc r 0 hiN, cnt_snoc r 1 hiN]
      by_cases hr : r = geti (l.getD i.toNat []) 0
      · subst hr
        rw [if_pos rfl]
        have ew : IntKind.i64.wrap (cnt (geti (l.getD i.toNat []) 0) 0 (l.take i.toNat) + cnt (geti (l.getD i.toNat []) 0) 1 (l.take i.toNat) + 1) = cnt (geti (l.getD i.toNat []) 0) 0 (l.take i.toNat) + cnt (geti (l.getD i.toNat []) 0) 1 (l.take i.toNat) + 1 := wr64 _ (by omega)
        rw [ew]
        rcases hkk with hk | hk
        · rw [isS_iff.2 ⟨rfl, hk⟩, isS_no (.inr (by omega))]
          show cnt _ 0 _ + cnt _ 1 _ + 1 = _
          simp only [cond_true, cond_false]; omega
        · rw [isS_iff.2 ⟨rfl, hk⟩, isS_no (.inr (by omega))]
          show cnt _ 0 _ + cnt _ 1 _ + 1 = _
          simp only [cond_true, cond_false]; omega
      · rw [if_neg hr, hm r, isS_no (.inl fun e => hr e.symm), isS_no (.inl fun e => hr e.symm)]
        simp only [cond_false]; omega
    · dsimp only
      rw [e2]
      exact ⟨rfl, rfl, ⟨ewN, by rw [eN]; have q2 : 0 ≤ pk t (sq l i.toNat) (sk l i.toNat) 4 6 := p1; omega, by rw [eN]; have q1 : pk t (sq l i.toNat) (sk l i.toNat) 5 7 ≤ 1048576 := p3; omega⟩, rfl, by omega, by omega⟩
  have hbc : brd t (l.take i.toNat) ≤ cap := by
    by_cases hz : i.toNat = 0
    · rw [hz]; show (0 : Int) ≤ cap; omega
    · have := (stG_iff.1 (ih (i.toNat - 1) (by omega))).b
      rwa [show i.toNat - 1 + 1 = i.toNat by omega] at this
  refine ⟨fun hk => ?_, fun hk => ?_⟩
  · rw [brd1_1 (by omega)] at hbs
    obtain ⟨s1, s2⟩ := step (IntKind.i64.wrap (brd t (l.take i.toNat) - geti (t.getD (geti (l.getD i.toNat []) 0).toNat []) 8)) (by rw [hbs, wr64 _ (by omega)]; omega) (by omega)
    exact ⟨⟨hiq.1, hiq.2.1⟩, ⟨hiq.1, hiq.2.1⟩, s1, s2⟩
  · rw [brd1_0 (by omega)] at hbs
    have eW : IntKind.i64.wrap (brd t (l.take i.toNat) + geti (t.getD (geti (l.getD i.toNat []) 0).toNat []) 8) = brd t (l.take (i.toNat + 1)) := by rw [hbs]; exact wr64 _ (by omega)
    rw [eW]
    refine ⟨⟨hiq.1, hiq.2.1⟩, fun hc => bad 10 (stE_10 h16' hoS hc) (by decide), fun hc => ?_⟩
    obtain ⟨s1, s2⟩ := step _ rfl hc
    exact ⟨⟨hiq.1, hiq.2.1⟩, s1, s2⟩
theorem okG36 : PCok Tryd.prog G36 := addPC_ok okG35 okFck
section
variable {hx hy cap st en : Int} {l t ts : List (List Value)}
theorem chk_c0 : (chkF hx hy cap st en l t).c = 0 ↔ veh hx hy cap st en = 0 ∧ (∀ j, j < t.length → reqG t j = true) ∧ (∀ j, j < l.length → stG t l hx hy cap st j = true) ∧ ¬ 0 < brd t l ∧ ¬ en < lEnd t l hx hy st := by
  constructor
  · intro h
    by_cases hv : veh hx hy cap st en = 0
    rotate_left
    · rw [chkF_2 hv] at h; cases h
    by_cases hr : fgood (reqG t) t.length = t.length
    rotate_left
    · unfold chkF at h; rw [decide_eq_true hv, decide_eq_false hr] at h; cases h
    have hall := fgood_eq hr
    rw [chkF_t hv hall] at h
    by_cases hs : fgood (stG t l hx hy cap st) l.length = l.length
    rotate_left
    · exfalso
      unfold chkT at h; rw [decide_eq_false hs] at h
      have hlt : fgood (stG t l hx hy cap st) l.length < l.length := Nat.lt_of_le_of_ne (fgood_le _ _) hs
      have key : ∀ n, fgood (stG t l hx hy cap st) n < n → stG t l hx hy cap st (fgood (stG t l hx hy cap st) n) = false := by
        intro n
        induction n with
        | zero => intro h; exact absurd h (Nat.not_lt_zero _)
        | succ n ih =>
          intro h
          simp only [fgood] at h ⊢
          by_cases h1 : fgood (stG t l hx hy cap st) n < n
          · rw [decide_eq_true h1, cond_true]; exact ih h1
          · rw [decide_eq_false h1, cond_false] at h ⊢
            cases h2 : stG t l hx hy cap st n with
            | true => rw [h2, cond_true] at h; omega
            | false => rw [cond_false]; exact h2
      have hb := key _ hlt
      have h0 : stE t l hx hy cap st (fgood (stG t l hx hy cap st) l.length) = 0 := h
      unfold stG at hb
      rw [decide_eq_true (by exact h0)] at hb; cases hb
    have hg := fgood_eq hs
    by_cases h8 : 0 < brd t l
    · rw [chkT_8 hg h8] at h; cases h
    by_cases h9 : en < lEnd t l hx hy st
    · rw [chkT_9 hg h8 h9] at h; cases h
    exact ⟨hv, hall, hg, h8, h9⟩
  · rintro ⟨h1, h2, h3, h4, h5⟩
    rw [chkF_t h1 h2, chkT_0 h3 h4 h5]
/-- The load on board, request by request. -/
def sumT (f : Nat → Int) : Nat → Int
  | 0 => 0
  | n + 1 => sumT f n + f n
theorem sumT_same {f g : Nat → Int} : ∀ {n : Nat}, (∀ i, i < n → f i = g i) → sumT f n = sumT g n
  | 0, _ => rfl
  | n + 1, h => by simp only [sumT]; rw [sumT_same fun i hi => h i (by omega), h n (by omega)]
theorem sumT_one {f g : Nat → Int} {q : Nat} {d : Int} (hq : g q = f q + d) (h : ∀ i, i ≠ q → g i = f i) : ∀ n, q < n → sumT g n = sumT f n + d
  | 0, h0 => absurd h0 (Nat.not_lt_zero _)
  | n + 1, hn => by
    simp only [sumT]
    by_cases e : q = n
    · rw [sumT_same (f := g) (g := f) fun i hi => h i (by omega), ← e, hq]; omega
    · rw [sumT_one hq h n (by omega), h n (fun e' => e e'.symm)]; omega
theorem sumT_le {f : Nat → Int} : ∀ {n : Nat}, (∀ i, i < n → 0 ≤ f i) → ∀ i, i < n → f i ≤ sumT f n
  | 0, _, i, hi => absurd hi (Nat.not_lt_zero _)
  | n + 1, h, i, hi => by
    have nn : ∀ m, m ≤ n → 0 ≤ sumT f m := by
      intro m
      induction m with
      | zero => intro _; exact Int.le_refl _
      | succ m ih => intro hm; have := ih (by omega); have := h m (by omega); simp only [sumT]; omega
    have h0 := nn n (Nat.le_refl _)
    have h1 := h n (by omega)
    simp only [sumT]
    by_cases e : i = n
    · subst e; omega
    · have := sumT_le (fun i hi => h i (Nat.lt_succ_of_lt hi)) i (show i < n by omega); omega
def onB (t l : List (List Value)) (n : Nat) (r : Nat) : Int := rf t (r : Int) 8 * (cnt (r : Int) 0 (l.take n) - cnt (r : Int) 1 (l.take n))
theorem brd_sum (hr : ∀ i, i < l.length → inR t (geti (l.getD i []) 0) (geti (l.getD i []) 1) = true) : ∀ n, n ≤ l.length → brd t (l.take n) = sumT (onB t l n) t.length
  | 0, _ => by
    have : ∀ m, sumT (onB t l 0) m = 0 := by
      intro m
      induction m with
      | zero => rfl
      | succ m ih => simp only [sumT, ih, onB, List.take_zero, cnt]; simp
    rw [this]; rfl
  | n + 1, hn => by
    have ih := brd_sum hr n (by omega)
    have hi := inR_iff.1 (hr n (by omega))
    rw [brd_snoc t (by omega), ih]
    obtain ⟨q, hq⟩ := Int.eq_ofNat_of_zero_le hi.1
    refine (sumT_one (q := q) ?_ ?_ t.length (by omega)).symm
    · unfold onB
      rw [cnt_snoc _ 0 (by omega), cnt_snoc _ 1 (by omega)]
      have rq : rf t (geti (l.getD n []) 0) 8 = rf t (q : Int) 8 := by rw [hq]
      rcases hi.2.2 with hk | hk
      · rw [isS_iff.2 ⟨hq, hk⟩, isS_no (.inr (by omega)), cond_true, cond_false]
        unfold brd1; rw [decide_eq_true hk, cond_true, rq]
        rw [show cnt (q : Int) 0 (l.take n) + 1 - (cnt (q : Int) 1 (l.take n) + 0) = cnt (q : Int) 0 (l.take n) - cnt (q : Int) 1 (l.take n) + 1 by omega, Int.mul_add, Int.mul_one]
      · rw [isS_iff.2 ⟨hq, hk⟩, isS_no (.inr (by omega)), cond_true, cond_false]
        unfold brd1; rw [decide_eq_false (by omega), cond_false, rq]
        rw [show cnt (q : Int) 0 (l.take n) + 0 - (cnt (q : Int) 1 (l.take n) + 1) = cnt (q : Int) 0 (l.take n) - cnt (q : Int) 1 (l.take n) + (-1) by omega, Int.mul_add, Int.mul_neg, Int.mul_one]
        omega
    · intro r hne
      unfold onB
      rw [cnt_snoc _ 0 (by omega), cnt_snoc _ 1 (by omega), isS_no (.inl (by omega)), isS_no (.inl (by omega))]
      simp
theorem stOk_step {i : Nat} (h : StOk t l hx hy cap st i) : stepOk l i := by
  have o2 := h.ok
  unfold okS stB at o2
  simp only [Bool.and_eq_true, decide_eq_true_eq] at o2
  obtain ⟨o3, o4, o5⟩ := o2
  have o6 := inR_iff.1 o3
  refine ⟨o6.1, ?_⟩
  have e1 : sq l i = geti (l.getD i []) 0 := rfl
  have e2 : sk l i = geti (l.getD i []) 1 := rfl
  rw [e1] at o4 o5; rw [e2] at o4 o6
  rcases o6.2.2 with o7 | o7
  · exact .inl ⟨o7, by omega, o5⟩
  · exact .inr ⟨o7, by omega, o5⟩
theorem cnt_out (hr : ∀ i, i < l.length → inR t (geti (l.getD i []) 0) (geti (l.getD i []) 1) = true) {r : Int} (h : ¬ (0 ≤ r ∧ r < (t.length : Int))) (k : Int) : cnt r k l = 0 := by
  have hb := cnt_bd r k l
  rcases Int.lt_or_le 0 (cnt r k l) with h0 | h0
  · obtain ⟨i, hi, h1, _⟩ := cnt_pos h0
    have := inR_iff.1 (hr i hi)
    omega
  · omega
theorem mayB_iff : mayB hx hy cap st en l t = true ↔ veh hx hy cap st en = 0 ∧ checkE l = 0 ∧ reqsOk t = true ∧ rngs l t = true ∧ ∀ i, i < l.length → brd t (l.take (i + 1)) ≤ cap := by
  simp only [mayB, Bool.and_eq_true, decide_eq_true_eq, List.all_eq_true, List.mem_range, boB]
theorem checkE_0 {l : List (List Value)} (h : checkE l = 0) : l.length ≤ 16 ∧ okB l = true := by
  by_cases h16 : 16 < (l.length : Int)
  · rw [checkE_11 h16] at h; cases h
  · refine ⟨by omega, ?_⟩
    cases ho : okB l with
    | true => rfl
    | false => rw [(checkE_ok h16).2 (by rw [ho]; decide)] at h; cases h
theorem chk_may (h : (chkF hx hy cap st en l t).c = 0) : mayB hx hy cap st en l t = true := by
  obtain ⟨h1, h2, h3, h4, h5⟩ := chk_c0.1 h
  have hs : ∀ i, i < l.length → StOk t l hx hy cap st i := fun i hi => stG_iff.1 (h3 i hi)
  have hq := reqs_all h2
  have hr : ∀ i, i < l.length → inR t (geti (l.getD i []) 0) (geti (l.getD i []) 1) = true := fun i hi => (hs i hi).inr
  have hst : ∀ i, i < l.length → stepOk l i := fun i hi => stOk_step (hs i hi)
  have hin : ∀ i, i < l.length → inL t (geti (l.getD i []) 0) = true := fun i hi => by
    have := inR_iff.1 (hr i hi); exact inL_of ⟨this.1, this.2.1⟩
  refine mayB_iff.2 ⟨h1, ?_, hq, rngs_of hin, fun i hi => (hs i hi).b⟩
  have h16 : ¬ 16 < (l.length : Int) := by
    rcases Nat.lt_or_ge 16 l.length with g | g
    · have := (hs 16 g).lt; omega
    · omega
  refine (checkE_ok h16).1 (ok_of hst fun r => ?_)
  by_cases hrr : 0 ≤ r ∧ r < (t.length : Int)
  · obtain ⟨q, rfl⟩ := Int.eq_ofNat_of_zero_le hrr.1
    have hq' : q < t.length := by omega
    have le := fun r => step_le (n := l.length) (Nat.le_refl _) hst r
    simp only [List.take_length] at le
    have pos : ∀ i, i < t.length → 0 ≤ onB t l l.length i := fun i hi => by
      have p := pkIn hq (inL_of (t := t) (q := (i : Int)) (by omega)) 0
      have d0 := p.d0
      unfold onB; rw [List.take_length]
      exact Int.mul_nonneg (by omega) (by have := (le (i : Int)).2; omega)
    have hsum := brd_sum hr l.length (Nat.le_refl _)
    rw [List.take_length] at hsum
    have hle := sumT_le pos q hq'
    have p := pkIn hq (inL_of (t := t) (q := (q : Int)) (by omega)) 0
    have d0 := p.d0
    have hq0 : onB t l l.length q ≤ 0 := by omega
    unfold onB at hq0; rw [List.take_length] at hq0
    have h2' := (le (q : Int)).2
    rcases Int.lt_or_le 0 (cnt (q : Int) 0 l - cnt (q : Int) 1 l) with g | g
    · exfalso
      have := Int.mul_pos (show 0 < rf t (q : Int) 8 by omega) g
      omega
    · omega
  · rw [cnt_out hr hrr 0, cnt_out hr hrr 1]
theorem may_brd (hm : mayB hx hy cap st en l t = true) : brd t l = 0 := by
  obtain ⟨h1, h2, h3, h4, h5⟩ := mayB_iff.1 hm
  obtain ⟨h16, ho⟩ := checkE_0 h2
  have hr : ∀ i, i < l.length → inR t (geti (l.getD i []) 0) (geti (l.getD i []) 1) = true := fun i hi => by
    have := inL_iff.1 (rngs_at h4 hi)
    have := (okAt_iff.1 (okB_iff.1 ho i hi)).2.1
    exact inR_yes (by omega)
  have hsum := brd_sum hr l.length (Nat.le_refl _)
  rw [List.take_length] at hsum
  rw [hsum]
  have : ∀ m, sumT (onB t l l.length) m = 0 := by
    intro m
    induction m with
    | zero => rfl
    | succ m ih => simp only [sumT, ih, onB, List.take_length]; rw [ok_eq ho (m : Int)]; simp
  exact this _
theorem may_okS (hm : mayB hx hy cap st en l t = true) {i : Nat} (hi : i < l.length) : okS t l i = true := by
  obtain ⟨h1, h2, h3, h4, h5⟩ := mayB_iff.1 hm
  obtain ⟨h16, ho⟩ := checkE_0 h2
  have := inL_iff.1 (rngs_at h4 hi)
  have := (okAt_iff.1 (okB_iff.1 ho i hi)).2.1
  have hs := (ok_step ho i hi).2
  unfold okS stB
  simp only [Bool.and_eq_true, decide_eq_true_eq]
  refine ⟨inR_yes (by unfold sq sk; omega), ?_, ?_⟩ <;> unfold sq <;> (try unfold sk) <;> omega
theorem rOk_iff {i : Nat} : rOk t l ts hx hy st i = true ↔ rN ts st i + dist (lX t l hx hy st i) (lY t l hx hy st i) (pk t (sq l i) (sk l i) 0 2) (pk t (sq l i) (sk l i) 1 3) ≤ geti (ts.getD i []) 0 ∧ geti (ts.getD i []) 0 ≤ geti (ts.getD i []) 1 ∧ pk t (sq l i) (sk l i) 4 6 ≤ geti (ts.getD i []) 1 ∧ geti (ts.getD i []) 1 ≤ pk t (sq l i) (sk l i) 5 7 ∧ geti (ts.getD i []) 2 = geti (ts.getD i []) 1 + rf t (sq l i) 9 := by
  unfold rOk; exact decide_eq_true_iff
theorem lN_le : ∀ k, k ≤ l.length → (∀ j, j < k → rOk t l ts hx hy st j = true) → lN t l hx hy st k ≤ rN ts st k
  | 0, _, _ => Int.le_refl _
  | k + 1, hk, h => by
    have ih := lN_le k (by omega) fun j hj => h j (by omega)
    obtain ⟨g1, g2, g3, g4, g5⟩ := rOk_iff.1 (h k (by omega))
    have e : lN t l hx hy st (k + 1) = max (lN t l hx hy st k + dist (lX t l hx hy st k) (lY t l hx hy st k) (pk t (sq l k) (sk l k) 0 2) (pk t (sq l k) (sk l k) 1 3)) (pk t (sq l k) (sk l k) 4 6) + rf t (sq l k) 9 := rfl
    have e2 : rN ts st (k + 1) = geti (ts.getD k []) 2 := rfl
    omega
theorem may_chk (hm : mayB hx hy cap st en l t = true) (hr : ∀ j, j < l.length → rOk t l ts hx hy st j = true) (he : rEnd t l ts hx hy st ≤ en) : (chkF hx hy cap st en l t).c = 0 := by
  obtain ⟨h1, h2, h3, h4, h5⟩ := mayB_iff.1 hm
  obtain ⟨h16, ho⟩ := checkE_0 h2
  refine chk_c0.2 ⟨h1, fun j hj => decide_eq_true (reqsOk_at h3 hj), fun i hi => ?_, by have := may_brd hm; omega, ?_⟩
  · refine decide_eq_true (stE_0 (by omega) (may_okS hm hi) (by have := h5 i hi; omega) ?_).symm
    have := lN_le i (by omega) fun j hj => hr j (by omega)
    obtain ⟨g1, g2, g3, g4, g5⟩ := rOk_iff.1 (hr i hi)
    have e : lB t l hx hy st (i + 1) = max (lN t l hx hy st i + dist (lX t l hx hy st i) (lY t l hx hy st i) (pk t (sq l i) (sk l i) 0 2) (pk t (sq l i) (sk l i) 1 3)) (pk t (sq l i) (sk l i) 4 6) := rfl
    omega
  · have := lN_le l.length (Nat.le_refl _) hr
    unfold rEnd at he
    unfold lEnd
    omega
theorem rightB_iff : rightB hx hy cap st en l t ts = true ↔ mayB hx hy cap st en l t = true ∧ ts.length = l.length ∧ (∀ i, i < l.length → rOk t l ts hx hy st i = true) ∧ rEnd t l ts hx hy st ≤ en := by
  simp only [rightB, Bool.and_eq_true, decide_eq_true_eq, List.all_eq_true, List.mem_range]
theorem rightB_no (h : ¬ (mayB hx hy cap st en l t = true ∧ ts.length = l.length ∧ (∀ i, i < l.length → rOk t l ts hx hy st i = true) ∧ rEnd t l ts hx hy st ≤ en)) : false = rightB hx hy cap st en l t ts := by
  cases hb : rightB hx hy cap st en l t ts with
  | false => rfl
  | true => exact absurd (rightB_iff.1 hb) h
theorem rN_in (hq : reqsOk t = true) (hin : ∀ i, i < l.length → inL t (geti (l.getD i []) 0) = true) (hs : 0 ≤ st ∧ st ≤ 1048576) : ∀ k, k ≤ l.length → (∀ j, j < k → rOk t l ts hx hy st j = true) → 0 ≤ rN ts st k ∧ rN ts st k ≤ 1049576
  | 0, _, _ => by show 0 ≤ st ∧ st ≤ _; omega
  | k + 1, hk, h => by
    obtain ⟨g1, g2, g3, g4, g5⟩ := rOk_iff.1 (h k (by omega))
    obtain ⟨p1, p2, p3, p4, p5, _, _⟩ := pkIn hq (hin k (by omega)) (geti (l.getD k []) 1)
    have e2 : rN ts st (k + 1) = geti (ts.getD k []) 2 := rfl
    have q1 : pk t (sq l k) (sk l k) 4 6 = pk t (geti (l.getD k []) 0) (geti (l.getD k []) 1) 4 6 := rfl
    have q2 : pk t (sq l k) (sk l k) 5 7 = pk t (geti (l.getD k []) 0) (geti (l.getD k []) 1) 5 7 := rfl
    have q3 : rf t (sq l k) 9 = rf t (geti (l.getD k []) 0) 9 := rfl
    omega
end
set_option maxHeartbeats 4000000 in
theorem okTdE : CtrOk Tryd.prog 18 kTdE := good_of okG36 mixed (fun ((p, xs), _) => noLoops) 100 fun ((p, xs), _) hf hn => by
  refine ⟨rfl, Eq.mpr (tTdE p xs) ?_⟩
  have hp := hn.1
  (simp only [eq_self_iff_true, true_and, and_true, false_and, and_false, Bool.or_not_self, Bool.not_or_self, Bool.cond_self, cond_true, cond_false, Bool.cond_true_right, Bool.cond_true_left, Bool.cond_false_right, Bool.cond_false_left, Bool.or_true, Bool.true_or, Bool.or_false, Bool.false_or, Bool.and_true, Bool.true_and, Bool.and_false, Bool.false_and, Bool.not_not, forall_eq, ← Bool.decide_and, ← Bool.decide_or, ← decide_not, cDecF, cDecT, cDecFl, Decidable.not_not, Bool.not_true, Bool.not_false, Bool.false_eq_true, imp_false, not_true_eq_false, not_false_eq_true, forall_const, true_implies, false_implies, implies_true, decide_true, decide_false]; try simp only [cDec, eq_self_iff_true, true_and, and_true, false_and, and_false, Bool.or_not_self, Bool.not_or_self, Bool.cond_self, cond_true, cond_false, Bool.cond_true_right, Bool.cond_true_left, Bool.cond_false_right, Bool.cond_false_left, Bool.or_true, Bool.true_or, Bool.or_false, Bool.false_or, Bool.and_true, Bool.true_and, Bool.and_false, Bool.false_and, Bool.not_not, forall_eq, ← Bool.decide_and, ← Bool.decide_or, ← decide_not, cDecF, cDecT, cDecFl, Decidable.not_not, Bool.not_true, Bool.not_false, Bool.false_eq_true, imp_false, not_true_eq_false, not_false_eq_true, forall_const, true_implies, false_implies, implies_true, decide_true, decide_false])
  rw [hp]; trivial
theorem okG37 : PCok Tryd.prog G37 := addPC_ok okG36 okTdE
set_option maxHeartbeats 4000000 in
theorem okTdI : CtrOk Tryd.prog 18 kTdI := good_of okG37 mixed (fun ((a, b, d, _), _) => noLoops) 100 fun ((a, b, d, _), _) hf hn => by
  refine ⟨rfl, Eq.mpr (tTdI a b d) ?_⟩
  (simp only [eq_self_iff_true, true_and, and_true, false_and, and_false, Bool.or_not_self, Bool.not_or_self, Bool.cond_self, cond_true, cond_false, Bool.cond_true_right, Bool.cond_true_left, Bool.cond_false_right, Bool.cond_false_left, Bool.or_true, Bool.true_or, Bool.or_false, Bool.false_or, Bool.and_true, Bool.true_and, Bool.and_false, Bool.false_and, Bool.not_not, forall_eq, ← Bool.decide_and, ← Bool.decide_or, ← decide_not, cDecF, cDecT, cDecFl, Decidable.not_not, Bool.not_true, Bool.not_false, Bool.false_eq_true, imp_false, not_true_eq_false, not_false_eq_true, forall_const, true_implies, false_implies, implies_true, decide_true, decide_false]; try simp only [cDec, eq_self_iff_true, true_and, and_true, false_and, and_false, Bool.or_not_self, Bool.not_or_self, Bool.cond_self, cond_true, cond_false, Bool.cond_true_right, Bool.cond_true_left, Bool.cond_false_right, Bool.cond_false_left, Bool.or_true, Bool.true_or, Bool.or_false, Bool.false_or, Bool.and_true, Bool.true_and, Bool.and_false, Bool.false_and, Bool.not_not, forall_eq, ← Bool.decide_and, ← Bool.decide_or, ← decide_not, cDecF, cDecT, cDecFl, Decidable.not_not, Bool.not_true, Bool.not_false, Bool.false_eq_true, imp_false, not_true_eq_false, not_false_eq_true, forall_const, true_implies, false_implies, implies_true, decide_true, decide_false])
theorem okG38 : PCok Tryd.prog G38 := addPC_ok okG37 okTdI
theorem okTold : CtrOk Tryd.prog 18 kTold := good_or okTdE okTdI
theorem okG39 : PCok Tryd.prog G39 := addPC_ok okG38 okTold
set_option maxHeartbeats 4000000 in
theorem okAl : CtrOk Tryd.prog 12 kAl := good_of okG39 mixed (fun ((hx, hy, cap, st, en, _), l, t, _) => noLoops) 100 fun ((hx, hy, cap, st, en, _), l, t, _) hf hn => by
  refine ⟨rfl, Eq.mpr (tAl hx hy cap st en l t) ?_⟩
  (simp only [eq_self_iff_true, true_and, and_true, false_and, and_false, Bool.or_not_self, Bool.not_or_self, Bool.cond_self, cond_true, cond_false, Bool.cond_true_right, Bool.cond_true_left, Bool.cond_false_right, Bool.cond_false_left, Bool.or_true, Bool.true_or, Bool.or_false, Bool.false_or, Bool.and_true, Bool.true_and, Bool.and_false, Bool.false_and, Bool.not_not, forall_eq, ← Bool.decide_and, ← Bool.decide_or, ← decide_not, cDecF, cDecT, cDecFl, Decidable.not_not, Bool.not_true, Bool.not_false, Bool.false_eq_true, imp_false, not_true_eq_false, not_false_eq_true, forall_const, true_implies, false_implies, implies_true, decide_true, decide_false]; try simp only [cDec, eq_self_iff_true, true_and, and_true, false_and, and_false, Bool.or_not_self, Bool.not_or_self, Bool.cond_self, cond_true, cond_false, Bool.cond_true_right, Bool.cond_true_left, Bool.cond_false_right, Bool.cond_false_left, Bool.or_true, Bool.true_or, Bool.or_false, Bool.false_or, Bool.and_true, Bool.true_and, Bool.and_false, Bool.false_and, Bool.not_not, forall_eq, ← Bool.decide_and, ← Bool.decide_or, ← decide_not, cDecF, cDecT, cDecFl, Decidable.not_not, Bool.not_true, Bool.not_false, Bool.false_eq_true, imp_false, not_true_eq_false, not_false_eq_true, forall_const, true_implies, false_implies, implies_true, decide_true, decide_false])
  refine ⟨fun h => decide_eq_true h, fun h => ⟨by omega, ?_⟩⟩
  have : fltR (chkF hx hy cap st en l t) = [[.int .i64 (chkF hx hy cap st en l t).c, .int .i64 (chkF hx hy cap st en l t).p, .int .i64 (chkF hx hy cap st en l t).i]] := by unfold fltR; rw [decide_eq_false h]; rfl
  rw [this]
  simp [geti, h]
theorem okG40 : PCok Tryd.prog G40 := addPC_ok okG39 okAl
set_option maxHeartbeats 4000000 in
theorem okQmy : CtrOk Tryd.prog 33 kQmy := good_of okG40 mixed (fun ((hx, hy, cap, st, en, _), l, t, _) => myL t l cap) 100 fun ((hx, hy, cap, st, en, _), l, t, _) hf hn => by
  refine ⟨rfl, Eq.mpr (tQmy hx hy cap st en l t) ?_⟩
  have hml : (l.length : Int) ≤ 9223372036854775807 := len63 hf.2.1.2
  have hmt : (t.length : Int) ≤ 9223372036854775807 := len63 hf.2.2.1.2
  (simp only [eq_self_iff_true, true_and, and_true, false_and, and_false, Bool.or_not_self, Bool.not_or_self, Bool.cond_self, cond_true, cond_false, Bool.cond_true_right, Bool.cond_true_left, Bool.cond_false_right, Bool.cond_false_left, Bool.or_true, Bool.true_or, Bool.or_false, Bool.false_or, Bool.and_true, Bool.true_and, Bool.and_false, Bool.false_and, Bool.not_not, forall_eq, ← Bool.decide_and, ← Bool.decide_or, ← decide_not, cDecF, cDecT, cDecFl, Decidable.not_not, Bool.not_true, Bool.not_false, Bool.false_eq_true, imp_false, not_true_eq_false, not_false_eq_true, forall_const, true_implies, false_implies, implies_true, decide_true, decide_false]; try simp only [cDec, eq_self_iff_true, true_and, and_true, false_and, and_false, Bool.or_not_self, Bool.not_or_self, Bool.cond_self, cond_true, cond_false, Bool.cond_true_right, Bool.cond_true_left, Bool.cond_false_right, Bool.cond_false_left, Bool.or_true, Bool.true_or, Bool.or_false, Bool.false_or, Bool.and_true, Bool.true_and, Bool.and_false, Bool.false_and, Bool.not_not, forall_eq, ← Bool.decide_and, ← Bool.decide_or, ← decide_not, cDecF, cDecT, cDecFl, Decidable.not_not, Bool.not_true, Bool.not_false, Bool.false_eq_true, imp_false, not_true_eq_false, not_false_eq_true, forall_const, true_implies, false_implies, implies_true, decide_true, decide_false])
  have no : ¬ mayB hx hy cap st en l t = true → false = mayB hx hy cap st en l t := fun h => (Bool.eq_false_iff.2 h).symm
  refine ⟨fun h => no fun g => ?_, fun h => ?_⟩
  · obtain ⟨g1, g2, _⟩ := mayB_iff.1 g
    rcases h with h | h
    · exact h g1
    · exact h g2
  have hv : veh hx hy cap st en = 0 := by
    by_cases g : veh hx hy cap st en = 0
    · exact g
    · exact absurd (.inl g) h
  have hc : checkE l = 0 := by
    by_cases g : checkE l = 0
    · exact g
    · exact absurd (.inr g) h
  obtain ⟨h16, ho⟩ := checkE_0 hc
  refine ⟨0, ⟨by omega, by omega, fun j hj => by simp at hj⟩, ⟨rfl, by omega, by omega⟩, ?_⟩
  rintro k ⟨k0, k1, kh⟩
  refine ⟨fun hlt => ⟨⟨k0, hlt⟩, fun hb => no fun g => ?_, fun hg => ⟨k + 1, ⟨by omega, by omega, fun j hj => ?_⟩, by omega, wr64 _ (by omega), by omega, by omega⟩⟩, fun hge => ?_⟩
  · obtain ⟨_, _, g3, _⟩ := mayB_iff.1 g
    exact hb (reqsOk_at g3 (show k.toNat < t.length by omega))
  · by_cases hjk : j < k.toNat
    · exact kh j hjk
    · rw [show j = k.toNat by omega]; exact decide_eq_true hg
  have hq := reqs_all fun j hj => kh j (by omega)
  refine ⟨0, ⟨by omega, by omega, fun j hj => by simp at hj⟩, ⟨rfl, by omega, by omega⟩, ?_⟩
  rintro i ⟨i0, i1, ih⟩
  refine ⟨fun hlt => ⟨⟨i0, hlt⟩, fun hb => no fun g => ?_, fun hg => ⟨i + 1, ⟨by omega, by omega, fun j hj => ?_⟩, by omega, wr64 _ (by omega), by omega, by omega⟩⟩, fun hge => ?_⟩
  · obtain ⟨_, _, _, g4, _⟩ := mayB_iff.1 g
    have := inL_iff.1 (rngs_at g4 (show i.toNat < l.length by omega))
    omega
  · by_cases hji : j < i.toNat
    · exact ih j hji
    · rw [show j = i.toNat by omega]; show geti (l.getD i.toNat []) 0 < (t.length : Int); omega
  have hin : ∀ j, j < l.length → inL t (geti (l.getD j []) 0) = true := fun j hj => by
    have h1 : geti (l.getD j []) 0 < (t.length : Int) := ih j (by omega)
    have h2 := (okAt_iff.1 (okB_iff.1 ho j hj)).1
    exact inL_of ⟨h2, h1⟩
  refine ⟨0, ⟨by omega, by omega, fun j hj => by simp at hj⟩, ⟨rfl, by omega, by omega⟩, ?_⟩
  rintro m ⟨m0, m1, mh⟩
  refine ⟨fun hlt => ?_, fun hge => (mayB_iff.2 ⟨hv, hc, hq, rngs_of hin, fun j hj => of_decide_eq_true (mh j (by omega))⟩).symm⟩
  have ew : IntKind.i64.wrap (m + 1) = m + 1 := wr64 _ (by omega)
  have et : (l.drop 0).take (m + 1 - 0).toNat = l.take (m.toNat + 1) := by rw [List.drop_zero]; congr 1; omega
  have hl : (l.take (m.toNat + 1)).length = m.toNat + 1 := by rw [List.length_take]; omega
  have hr : rngs (l.take (m.toNat + 1)) t = true := rngs_of fun j hj => by rw [hl] at hj; rw [getD_take hj]; exact hin j (by omega)
  have hb := brd_in hq _ hr
  rw [hl] at hb
  have eW : W (brd t (l.take (m.toNat + 1))) = brd t (l.take (m.toNat + 1)) := wr64 _ (by omega)
  rw [ew, et, hr, eW, cond_true]
  refine ⟨by omega, fun hb => no fun g => ?_, fun hg => ⟨m + 1, ⟨by omega, by omega, fun j hj => ?_⟩, by omega, rfl, by omega, by omega⟩⟩
  · obtain ⟨_, _, _, _, g5⟩ := mayB_iff.1 g
    have := g5 m.toNat (by omega)
    omega
  · by_cases hjm : j < m.toNat
    · exact mh j hjm
    · rw [show j = m.toNat by omega]; exact decide_eq_true (by omega)
theorem okG41 : PCok Tryd.prog G41 := addPC_ok okG40 okQmy
set_option maxHeartbeats 4000000 in
theorem okQri : CtrOk Tryd.prog 15 kQri := good_of okG41 mixed (fun ((hx, hy, cap, st, en, _), l, t, ts, _) => riL t l ts hx hy st) 100 fun ((hx, hy, cap, st, en, _), l, t, ts, _) hf hn => by
  refine ⟨rfl, Eq.mpr (tQri hx hy cap st en l t ts) ?_⟩
  have hml : (l.length : Int) ≤ 9223372036854775807 := len63 hf.2.1.2
  (simp only [eq_self_iff_true, true_and, and_true, false_and, and_false, Bool.or_not_self, Bool.not_or_self, Bool.cond_self, cond_true, cond_false, Bool.cond_true_right, Bool.cond_true_left, Bool.cond_false_right, Bool.cond_false_left, Bool.or_true, Bool.true_or, Bool.or_false, Bool.false_or, Bool.and_true, Bool.true_and, Bool.and_false, Bool.false_and, Bool.not_not, forall_eq, ← Bool.decide_and, ← Bool.decide_or, ← decide_not, cDecF, cDecT, cDecFl, Decidable.not_not, Bool.not_true, Bool.not_false, Bool.false_eq_true, imp_false, not_true_eq_false, not_false_eq_true, forall_const, true_implies, false_implies, implies_true, decide_true, decide_false]; try simp only [cDec, eq_self_iff_true, true_and, and_true, false_and, and_false, Bool.or_not_self, Bool.not_or_self, Bool.cond_self, cond_true, cond_false, Bool.cond_true_right, Bool.cond_true_left, Bool.cond_false_right, Bool.cond_false_left, Bool.or_true, Bool.true_or, Bool.or_false, Bool.false_or, Bool.and_true, Bool.true_and, Bool.and_false, Bool.false_and, Bool.not_not, forall_eq, ← Bool.decide_and, ← Bool.decide_or, ← decide_not, cDecF, cDecT, cDecFl, Decidable.not_not, Bool.not_true, Bool.not_false, Bool.false_eq_true, imp_false, not_true_eq_false, not_false_eq_true, forall_const, true_implies, false_implies, implies_true, decide_true, decide_false])
  cases hm : mayB hx hy cap st en l t with
  | false => exact rightB_no fun g => by rw [hm] at g; cases g.1
  | true =>
    by_cases hlen : ts.length = l.length
    rotate_left
    · rw [decide_eq_true (show ¬ (ts.length : Int) = l.length by omega)]
      exact rightB_no fun g => hlen g.2.1
    rw [decide_eq_false (by omega)]
    show ∃ s : Int, _
    obtain ⟨h1, h2, hq, hr, h5⟩ := mayB_iff.1 hm
    have vb := veh_in' h1
    refine ⟨0, ⟨by omega, by omega, fun j hj => by simp at hj⟩, ⟨⟨rfl, by omega, by omega⟩, ⟨rfl, vb.1.1, by show st ≤ 1100000; omega⟩, rfl, rfl⟩, ?_⟩

    rintro k ⟨k0, k1, kh⟩
    have e : (k + 1).toNat = k.toNat + 1 := by omega
    refine ⟨fun hlt => ?_, fun hge => ?_⟩
    rotate_left
    · have hk : k.toNat = l.length := by omega
      rw [hk] at kh ⊢
      by_cases he : rEnd t l ts hx hy st ≤ en
      · rw [rightB_iff.2 ⟨hm, hlen, kh, he⟩]; exact decide_eq_true he
      · rw [← rightB_no fun g => he g.2.2.2]; exact decide_eq_false he
    have hin := rngs_at hr (show k.toNat < l.length by omega)
    have hq' := inL_iff.1 hin
    obtain ⟨p1, p2, p3, p4, p5, _, _⟩ := pkIn hq hin (geti (l.getD k.toNat []) 1)
    have hn := rN_in hq (fun i hi => rngs_at hr hi) vb.1 k.toNat (by omega) kh
    have bad : rOk t l ts hx hy st k.toNat = false → false = rightB hx hy cap st en l t ts := fun h => rightB_no fun g => by rw [g.2.2.1 k.toNat (by omega)] at h; cases h
    have ew : IntKind.i64.wrap (k + 1) = k + 1 := wr64 _ (by omega)
    have er : geti (t.getD (geti (l.getD k.toNat []) 0).toNat []) 9 = rf t (sq l k.toNat) 9 := rfl
    have next : rOk t l ts hx hy st k.toNat = true → ∃ s : Int, (0 ≤ s ∧ s ≤ (l.length : Int) ∧ ∀ z : Nat, z < s.toNat → rOk t l ts hx hy st z = true) ∧ ((l.length : Int) - s).toNat < ((l.length : Int) - k).toNat ∧ (IntKind.i64.wrap (k + 1) = s ∧ 0 ≤ s ∧ s ≤ 9223372036854775807) ∧
        (geti (ts.getD k.toNat []) 2 = rN ts st s.toNat ∧ 0 ≤ rN ts st s.toNat ∧ rN ts st s.toNat ≤ 1100000) ∧ pk t (sq l k.toNat) (sk l k.toNat) 0 2 = lX t l hx hy st s.toNat ∧ pk t (sq l k.toNat) (sk l k.toNat) 1 3 = lY t l hx hy st s.toNat := fun h => by
      have kh' : ∀ j, j < (k + 1).toNat → rOk t l ts hx hy st j = true := fun j hj => by
        by_cases hjk : j < k.toNat
        · exact kh j hjk
        · rw [show j = k.toNat by omega]; exact h
      have hn2 := rN_in hq (fun i hi => rngs_at hr hi) vb.1 (k + 1).toNat (by omega) kh'
      refine ⟨k + 1, ⟨by omega, by omega, kh'⟩, by omega, ⟨ew, by omega, by omega⟩, ⟨?_, by omega, by omega⟩, ?_, ?_⟩ <;> rw [e] <;> rfl
    rw [er]
    have q46 : pk t (geti (l.getD k.toNat []) 0) (geti (l.getD k.toNat []) 1) 4 6 = pk t (sq l k.toNat) (sk l k.toNat) 4 6 := rfl
    have q57 : pk t (geti (l.getD k.toNat []) 0) (geti (l.getD k.toNat []) 1) 5 7 = pk t (sq l k.toNat) (sk l k.toNat) 5 7 := rfl
    have q02 : pk t (geti (l.getD k.toNat []) 0) (geti (l.getD k.toNat []) 1) 0 2 = pk t (sq l k.toNat) (sk l k.toNat) 0 2 := rfl
    have q13 : pk t (geti (l.getD k.toNat []) 0) (geti (l.getD k.toNat []) 1) 1 3 = pk t (sq l k.toNat) (sk l k.toNat) 1 3 := rfl
    have q9 : rf t (geti (l.getD k.toNat []) 0) 9 = rf t (sq l k.toNat) 9 := rfl

    rw [hin]
    simp only [cond_true, q46, q57, q02, q13]

    rw [q9] at p4 p5
    rw [q46] at p1 p2
    rw [q57] at p2 p3
    generalize hA : geti (ts.getD k.toNat []) 0 = a at *
    generalize hB : geti (ts.getD k.toNat []) 1 = b at *
    generalize hC : geti (ts.getD k.toNat []) 2 = d at *
    have eR : rOk t l ts hx hy st k.toNat = true ↔ rN ts st k.toNat + dist (lX t l hx hy st k.toNat) (lY t l hx hy st k.toNat) (pk t (sq l k.toNat) (sk l k.toNat) 0 2) (pk t (sq l k.toNat) (sk l k.toNat) 1 3) ≤ a ∧ a ≤ b ∧ pk t (sq l k.toNat) (sk l k.toNat) 4 6 ≤ b ∧ b ≤ pk t (sq l k.toNat) (sk l k.toNat) 5 7 ∧ d = b + rf t (sq l k.toNat) 9 := by rw [rOk_iff, hA, hB, hC]
    have eF : ¬ (rN ts st k.toNat + dist (lX t l hx hy st k.toNat) (lY t l hx hy st k.toNat) (pk t (sq l k.toNat) (sk l k.toNat) 0 2) (pk t (sq l k.toNat) (sk l k.toNat) 1 3) ≤ a ∧ a ≤ b ∧ pk t (sq l k.toNat) (sk l k.toNat) 4 6 ≤ b ∧ b ≤ pk t (sq l k.toNat) (sk l k.toNat) 5 7 ∧ d = b + rf t (sq l k.toNat) 9) → rOk t l ts hx hy st k.toNat = false := fun h => Bool.eq_false_iff.2 fun g => h (eR.1 g)
    generalize rN ts st k.toNat + dist (lX t l hx hy st k.toNat) (lY t l hx hy st k.toNat) (pk t (sq l k.toNat) (sk l k.toNat) 0 2) (pk t (sq l k.toNat) (sk l k.toNat) 1 3) = nn at *
    generalize pk t (sq l k.toNat) (sk l k.toNat) 4 6 = ee at *
    generalize pk t (sq l k.toNat) (sk l k.toNat) 5 7 = ww at *
    generalize rf t (sq l k.toNat) 9 = ss at *
    have ewb : ee ≤ b → b ≤ ww → IntKind.i64.wrap (b + ss) = b + ss := fun h1 h2 => wr64 _ (by omega)

    refine ⟨⟨k0, hlt⟩, ⟨k0, hlt⟩, ⟨k0, by omega⟩, .inl ⟨k0, hlt⟩, .inl hq', fun hbd => bad (eF fun g => ?_), fun hgd => next (eR.2 ?_)⟩
    · rw [ewb (by omega) (by omega)] at hbd; omega
    · rw [ewb (by omega) (by omega)] at hgd; omega
theorem okG42 : PCok Tryd.prog G42 := addPC_ok okG41 okQri
set_option maxHeartbeats 4000000 in
theorem okFri : CtrOk Tryd.prog 14 kFri := good_of okG42 mixed (fun ((hx, hy, cap, st, en, _), l, t, ts, _) => riL t l ts hx hy st) 100 fun ((hx, hy, cap, st, en, _), l, t, ts, _) hf hn => by
  refine ⟨rfl, Eq.mpr (tFri hx hy cap st en l t ts) ?_⟩
  have hml : (l.length : Int) ≤ 9223372036854775807 := len63 hf.2.1.2
  (simp only [eq_self_iff_true, true_and, and_true, false_and, and_false, Bool.or_not_self, Bool.not_or_self, Bool.cond_self, cond_true, cond_false, Bool.cond_true_right, Bool.cond_true_left, Bool.cond_false_right, Bool.cond_false_left, Bool.or_true, Bool.true_or, Bool.or_false, Bool.false_or, Bool.and_true, Bool.true_and, Bool.and_false, Bool.false_and, Bool.not_not, forall_eq, ← Bool.decide_and, ← Bool.decide_or, ← decide_not, cDecF, cDecT, cDecFl, Decidable.not_not, Bool.not_true, Bool.not_false, Bool.false_eq_true, imp_false, not_true_eq_false, not_false_eq_true, forall_const, true_implies, false_implies, implies_true, decide_true, decide_false]; try simp only [cDec, eq_self_iff_true, true_and, and_true, false_and, and_false, Bool.or_not_self, Bool.not_or_self, Bool.cond_self, cond_true, cond_false, Bool.cond_true_right, Bool.cond_true_left, Bool.cond_false_right, Bool.cond_false_left, Bool.or_true, Bool.true_or, Bool.or_false, Bool.false_or, Bool.and_true, Bool.true_and, Bool.and_false, Bool.false_and, Bool.not_not, forall_eq, ← Bool.decide_and, ← Bool.decide_or, ← decide_not, cDecF, cDecT, cDecFl, Decidable.not_not, Bool.not_true, Bool.not_false, Bool.false_eq_true, imp_false, not_true_eq_false, not_false_eq_true, forall_const, true_implies, false_implies, implies_true, decide_true, decide_false])
  refine ⟨fun h => rightB_no fun g => h (by rw [g.2.1]), fun hlen' => ⟨hlen', hlen', hlen', fun h => rightB_no fun g => h (may_chk g.1 g.2.2.1 g.2.2.2), fun hc => ?_⟩⟩
  have hlen : ts.length = l.length := by omega
  have hm := chk_may hc
  show ∃ s : Int, _
  · obtain ⟨h1, h2, hq, hr, h5⟩ := mayB_iff.1 hm
    have vb := veh_in' h1
    refine ⟨0, ⟨by omega, by omega, fun j hj => by simp at hj⟩, ⟨⟨rfl, by omega, by omega⟩, ⟨rfl, vb.1.1, by show st ≤ 1100000; omega⟩, rfl, rfl⟩, ?_⟩

    rintro k ⟨k0, k1, kh⟩
    have e : (k + 1).toNat = k.toNat + 1 := by omega
    refine ⟨fun hlt => ?_, fun hge => ?_⟩
    rotate_left
    · have hk : k.toNat = l.length := by omega
      rw [hk] at kh ⊢
      by_cases he : rEnd t l ts hx hy st ≤ en
      · rw [rightB_iff.2 ⟨hm, hlen, kh, he⟩]; exact decide_eq_true he
      · rw [← rightB_no fun g => he g.2.2.2]; exact decide_eq_false he
    have hin := rngs_at hr (show k.toNat < l.length by omega)
    have hq' := inL_iff.1 hin
    obtain ⟨p1, p2, p3, p4, p5, _, _⟩ := pkIn hq hin (geti (l.getD k.toNat []) 1)
    have hn := rN_in hq (fun i hi => rngs_at hr hi) vb.1 k.toNat (by omega) kh
    have bad : rOk t l ts hx hy st k.toNat = false → false = rightB hx hy cap st en l t ts := fun h => rightB_no fun g => by rw [g.2.2.1 k.toNat (by omega)] at h; cases h
    have ew : IntKind.i64.wrap (k + 1) = k + 1 := wr64 _ (by omega)
    have er : geti (t.getD (geti (l.getD k.toNat []) 0).toNat []) 9 = rf t (sq l k.toNat) 9 := rfl
    have next : rOk t l ts hx hy st k.toNat = true → ∃ s : Int, (0 ≤ s ∧ s ≤ (l.length : Int) ∧ ∀ z : Nat, z < s.toNat → rOk t l ts hx hy st z = true) ∧ ((l.length : Int) - s).toNat < ((l.length : Int) - k).toNat ∧ (IntKind.i64.wrap (k + 1) = s ∧ 0 ≤ s ∧ s ≤ 9223372036854775807) ∧
        (geti (ts.getD k.toNat []) 2 = rN ts st s.toNat ∧ 0 ≤ rN ts st s.toNat ∧ rN ts st s.toNat ≤ 1100000) ∧ pk t (sq l k.toNat) (sk l k.toNat) 0 2 = lX t l hx hy st s.toNat ∧ pk t (sq l k.toNat) (sk l k.toNat) 1 3 = lY t l hx hy st s.toNat := fun h => by
      have kh' : ∀ j, j < (k + 1).toNat → rOk t l ts hx hy st j = true := fun j hj => by
        by_cases hjk : j < k.toNat
        · exact kh j hjk
        · rw [show j = k.toNat by omega]; exact h
      have hn2 := rN_in hq (fun i hi => rngs_at hr hi) vb.1 (k + 1).toNat (by omega) kh'
      refine ⟨k + 1, ⟨by omega, by omega, kh'⟩, by omega, ⟨ew, by omega, by omega⟩, ⟨?_, by omega, by omega⟩, ?_, ?_⟩ <;> rw [e] <;> rfl
    rw [er]
    have q46 : pk t (geti (l.getD k.toNat []) 0) (geti (l.getD k.toNat []) 1) 4 6 = pk t (sq l k.toNat) (sk l k.toNat) 4 6 := rfl
    have q57 : pk t (geti (l.getD k.toNat []) 0) (geti (l.getD k.toNat []) 1) 5 7 = pk t (sq l k.toNat) (sk l k.toNat) 5 7 := rfl
    have q02 : pk t (geti (l.getD k.toNat []) 0) (geti (l.getD k.toNat []) 1) 0 2 = pk t (sq l k.toNat) (sk l k.toNat) 0 2 := rfl
    have q13 : pk t (geti (l.getD k.toNat []) 0) (geti (l.getD k.toNat []) 1) 1 3 = pk t (sq l k.toNat) (sk l k.toNat) 1 3 := rfl
    have q9 : rf t (geti (l.getD k.toNat []) 0) 9 = rf t (sq l k.toNat) 9 := rfl

    have b02 : (bif decide (geti (l.getD k.toNat []) 1 = 0) then geti (t.getD (geti (l.getD k.toNat []) 0).toNat []) 0 else geti (t.getD (geti (l.getD k.toNat []) 0).toNat []) 2) = pk t (sq l k.toNat) (sk l k.toNat) 0 2 := rfl
    have b13 : (bif decide (geti (l.getD k.toNat []) 1 = 0) then geti (t.getD (geti (l.getD k.toNat []) 0).toNat []) 1 else geti (t.getD (geti (l.getD k.toNat []) 0).toNat []) 3) = pk t (sq l k.toNat) (sk l k.toNat) 1 3 := rfl
    have b46 : (bif decide (geti (l.getD k.toNat []) 1 = 0) then geti (t.getD (geti (l.getD k.toNat []) 0).toNat []) 4 else geti (t.getD (geti (l.getD k.toNat []) 0).toNat []) 6) = pk t (sq l k.toNat) (sk l k.toNat) 4 6 := rfl
    have b57 : (bif decide (geti (l.getD k.toNat []) 1 = 0) then geti (t.getD (geti (l.getD k.toNat []) 0).toNat []) 5 else geti (t.getD (geti (l.getD k.toNat []) 0).toNat []) 7) = pk t (sq l k.toNat) (sk l k.toNat) 5 7 := rfl
    simp only [b02, b13, b46, b57]

    rw [q9] at p4 p5
    rw [q46] at p1 p2
    rw [q57] at p2 p3
    generalize hA : geti (ts.getD k.toNat []) 0 = a at *
    generalize hB : geti (ts.getD k.toNat []) 1 = b at *
    generalize hC : geti (ts.getD k.toNat []) 2 = d at *
    have eR : rOk t l ts hx hy st k.toNat = true ↔ rN ts st k.toNat + dist (lX t l hx hy st k.toNat) (lY t l hx hy st k.toNat) (pk t (sq l k.toNat) (sk l k.toNat) 0 2) (pk t (sq l k.toNat) (sk l k.toNat) 1 3) ≤ a ∧ a ≤ b ∧ pk t (sq l k.toNat) (sk l k.toNat) 4 6 ≤ b ∧ b ≤ pk t (sq l k.toNat) (sk l k.toNat) 5 7 ∧ d = b + rf t (sq l k.toNat) 9 := by rw [rOk_iff, hA, hB, hC]
    have eF : ¬ (rN ts st k.toNat + dist (lX t l hx hy st k.toNat) (lY t l hx hy st k.toNat) (pk t (sq l k.toNat) (sk l k.toNat) 0 2) (pk t (sq l k.toNat) (sk l k.toNat) 1 3) ≤ a ∧ a ≤ b ∧ pk t (sq l k.toNat) (sk l k.toNat) 4 6 ≤ b ∧ b ≤ pk t (sq l k.toNat) (sk l k.toNat) 5 7 ∧ d = b + rf t (sq l k.toNat) 9) → rOk t l ts hx hy st k.toNat = false := fun h => Bool.eq_false_iff.2 fun g => h (eR.1 g)
    generalize rN ts st k.toNat + dist (lX t l hx hy st k.toNat) (lY t l hx hy st k.toNat) (pk t (sq l k.toNat) (sk l k.toNat) 0 2) (pk t (sq l k.toNat) (sk l k.toNat) 1 3) = nn at *
    generalize pk t (sq l k.toNat) (sk l k.toNat) 4 6 = ee at *
    generalize pk t (sq l k.toNat) (sk l k.toNat) 5 7 = ww at *
    generalize rf t (sq l k.toNat) 9 = ss at *
    have ewb : ee ≤ b → b ≤ ww → IntKind.i64.wrap (b + ss) = b + ss := fun h1 h2 => wr64 _ (by omega)

    refine ⟨⟨k0, hlt⟩, hq', ⟨k0, by omega⟩, .inl hq', fun hbd => bad (eF fun g => ?_), fun hgd => next (eR.2 ?_)⟩
    · rw [ewb (by omega) (by omega)] at hbd; omega
    · rw [ewb (by omega) (by omega)] at hgd; omega
theorem okG43 : PCok Tryd.prog G43 := addPC_ok okG42 okFri
set_option maxHeartbeats 4000000 in
theorem okTol : CtrOk Tryd.prog 20 kTol := good_of okG43 mixed (fun ((p, xs), a, b, d, _) => noLoops) 100 fun ((p, xs), a, b, d, _) hf hn => by
  refine ⟨rfl, Eq.mpr (tTol p xs a b d) ?_⟩
  (simp only [eq_self_iff_true, true_and, and_true, false_and, and_false, Bool.or_not_self, Bool.not_or_self, Bool.cond_self, cond_true, cond_false, Bool.cond_true_right, Bool.cond_true_left, Bool.cond_false_right, Bool.cond_false_left, Bool.or_true, Bool.true_or, Bool.or_false, Bool.false_or, Bool.and_true, Bool.true_and, Bool.and_false, Bool.false_and, Bool.not_not, forall_eq, ← Bool.decide_and, ← Bool.decide_or, ← decide_not, cDecF, cDecT, cDecFl, Decidable.not_not, Bool.not_true, Bool.not_false, Bool.false_eq_true, imp_false, not_true_eq_false, not_false_eq_true, forall_const, true_implies, false_implies, implies_true, decide_true, decide_false]; try simp only [cDec, eq_self_iff_true, true_and, and_true, false_and, and_false, Bool.or_not_self, Bool.not_or_self, Bool.cond_self, cond_true, cond_false, Bool.cond_true_right, Bool.cond_true_left, Bool.cond_false_right, Bool.cond_false_left, Bool.or_true, Bool.true_or, Bool.or_false, Bool.false_or, Bool.and_true, Bool.true_and, Bool.and_false, Bool.false_and, Bool.not_not, forall_eq, ← Bool.decide_and, ← Bool.decide_or, ← decide_not, cDecF, cDecT, cDecFl, Decidable.not_not, Bool.not_true, Bool.not_false, Bool.false_eq_true, imp_false, not_true_eq_false, not_false_eq_true, forall_const, true_implies, false_implies, implies_true, decide_true, decide_false])
  rw [Bool.eq_iff_iff]; simp
theorem okG44 : PCok Tryd.prog G44 := addPC_ok okG43 okTol
theorem okGW : PCok Tryd.prog GW := litPC_ok okG44
set_option maxHeartbeats 4000000 in
theorem okWk : CtrOk Tryd.prog 16 kWk := good_of okGW mixed (fun _ => noLoops) 400 fun _ hf hn => by
  refine ⟨rfl, Eq.mpr (tWk ) ?_⟩
  exact ⟨rfl, trivial⟩
theorem okG45 : PCok Tryd.prog G45 := addPC_ok okG44 okWk
end Go.Proofs.YtfhjnececgoadaaDoor
