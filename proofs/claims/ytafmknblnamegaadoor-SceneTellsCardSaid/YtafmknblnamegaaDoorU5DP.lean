/- These contracts hold. No condition. -/
import Derived.Test.YtafmknblnamegaaDoorU5DT
import Derived.Test.YtafmknblnamegaaDoorV8N
namespace Go.Proofs.YtafmknblnamegaaDoor
open Go.Eng
set_option linter.unusedSimpArgs false
theorem nx_in (bs : Rw) (a n : Int) (h : 1 ≤ n) : 0 ≤ nx bs a n ∧ nx bs a n < n := by
  unfold nx
  cases decide (lenI bs = 0) <;> exact ⟨Int.emod_nonneg _ (by omega), Int.emod_lt_of_pos _ (by omega)⟩
theorem dTs_succ (bs : Rw) (k : Nat) : dTs bs (k + 1) = dTs bs k ++ [dRq bs (10 * (k : Int))] := by simp [dTs, List.range_succ]
theorem dTs_len (bs : Rw) (k : Nat) : (dTs bs k).length = k := by simp [dTs]
theorem dFl_succ (bs : Rw) (t : Int) (k : Nat) : dFl bs t (k + 1) = dFl bs t k ++ [dVe bs (t + 5 * (k : Int))] := by simp [dFl, List.range_succ]
theorem dFl_len (bs : Rw) (t : Int) (k : Nat) : (dFl bs t k).length = k := by simp [dFl]
theorem dDr_succ (bs : Rw) (t : Int) (k : Nat) : dDr bs t (k + 1) = dDr bs t k ++ [[Value.int .u64 (nx bs (t + (k : Int) + 1) 250)]] := by simp [dDr, List.range_succ]
theorem dDr_len (bs : Rw) (t : Int) (k : Nat) : (dDr bs t k).length = k := by simp [dDr]
theorem dC0_succ (bs : Rw) (N : Int) (k : Nat) : dC0 bs N (k + 1) = dC0 bs N k ++ [[cFl bs N k, []]] := by simp [dC0, List.range_succ]
theorem dC0_len (bs : Rw) (N : Int) (k : Nat) : (dC0 bs N k).length = k := by simp [dC0]
theorem dDs_succ (bs : Rw) (N : Int) (k : Nat) : dDs bs N (k + 1) = dDs bs N k ++ [[cDr bs N k]] := by simp [dDs, List.range_succ]
theorem dDs_len (bs : Rw) (N : Int) (k : Nat) : (dDs bs N k).length = k := by simp [dDs]
theorem vN_in (bs : Rw) (t : Int) : 1 ≤ vN bs t ∧ vN bs t ≤ 2 := by have := nx_in bs (t + 1) 2 (by decide); unfold vN; omega
theorem qN_in (bs : Rw) (t : Int) : 0 ≤ qN bs t ∧ qN bs t ≤ 3 := by have := nx_in bs (t + 2 + 5 * vN bs t) 4 (by decide); unfold qN; omega
theorem cT_in (bs : Rw) (N : Int) : ∀ c : Nat, 10 * N ≤ cT bs N c ∧ cT bs N c ≤ 10 * N + 15 * (c : Int)
  | 0 => by unfold cT; omega
  | c + 1 => by
    have h := cT_in bs N c
    have hv := vN_in bs (cT bs N c)
    have hq := qN_in bs (cT bs N c)
    unfold cT; omega
theorem lT_in (bs : Rw) (t : Int) : ∀ i : Nat, t ≤ lT bs t i ∧ lT bs t i ≤ t + 3 * (i : Int)
  | 0 => by unfold lT; omega
  | i + 1 => by
    have h := lT_in bs t i
    unfold lT
    by_cases hp : 0 < nx bs (lT bs t i + 2) 3
    · rw [if_pos hp]; omega
    · rw [if_neg hp]; omega
theorem dLs_len (bs : Rw) (t : Int) : ∀ i : Nat, (dLs bs t i).length ≤ i
  | 0 => Nat.le_refl _
  | i + 1 => by
    have h := dLs_len bs t i
    unfold dLs
    by_cases hp : 0 < nx bs (lT bs t i + 2) 3
    · rw [if_pos hp, List.length_append]; simp only [List.length_cons, List.length_nil]; omega
    · rw [if_neg hp]; omega
theorem dOw_succ (bs : Rw) (t C : Int) (i c : Nat) : dOw bs t C (i + 1) c = if who bs t C i = (c : Int) then dOw bs t C i c ++ [[Value.int .i64 (i : Int)]] else dOw bs t C i c := by
  unfold dOw
  rw [List.range_succ, List.filter_append, List.map_append]
  by_cases h : who bs t C i = (c : Int)
  · rw [if_pos h]; simp [h]
  · rw [if_neg h]; simp [h]
theorem dOw_len (bs : Rw) (t C : Int) (i c : Nat) : (dOw bs t C i c).length ≤ i := by
  unfold dOw
  rw [List.length_map]
  exact Nat.le_trans (List.length_filter_le _ _) (by simp)
theorem dCs_len (bs : Rw) (N C : Int) (i : Nat) : (dCs bs N C i).length = C.toNat := by simp [dCs]
theorem dCs_get (bs : Rw) (N C : Int) (i : Nat) {k : Nat} (h : k < C.toNat) : (dCs bs N C i).getD k [] = [cFl bs N k, dOw bs (cT bs N C.toNat) C i k] := by
  rw [getD_get (by rw [dCs_len]; exact h)]; simp [dCs]
theorem dCs_set (bs : Rw) (N C : Int) (i : Nat) {k : Nat} (h : k < C.toNat) (hk : who bs (cT bs N C.toNat) C i = (k : Int)) :
    (dCs bs N C i).set k (((dCs bs N C i).getD k []).take 1 ++ [((dCs bs N C i).getD k []).getD 1 [] ++ [[Value.int .i64 (i : Int)]]] ++ ((dCs bs N C i).getD k []).drop (1 + [((dCs bs N C i).getD k []).getD 1 [] ++ [[Value.int .i64 (i : Int)]]].length)) = dCs bs N C (i + 1) := by
  rw [dCs_get bs N C i h]
  show (dCs bs N C i).set k [cFl bs N k, dOw bs (cT bs N C.toNat) C i k ++ [[Value.int .i64 (i : Int)]]] = _
  apply List.ext_getElem
  · rw [List.length_set, dCs_len, dCs_len]
  · intro j g1 g2
    rw [List.getElem_set]
    by_cases hj : k = j
    · subst hj
      rw [if_pos rfl]; simp only [dCs, List.getElem_map, List.getElem_range]
      rw [dOw_succ, if_pos hk]
    · rw [if_neg hj]; simp only [dCs, List.getElem_map, List.getElem_range]
      rw [dOw_succ, if_neg (by rw [hk]; omega)]
set_option maxHeartbeats 4000000 in
theorem okDnx : CtrOk Tryd.prog 23 kDnx := good_ofM okG25 mixed (fun ((bs, x, y, z, a, _), n, _) => noLoops) 100 fun ((bs, x, y, z, a, _), n, _) hf hn => by
  refine ⟨rfl, Eq.mpr (tDnx bs x y z a n) ?_⟩
  obtain ⟨h0, h1, h2, h3⟩ := of_decide_eq_true hn.1
  (simp only [eq_self_iff_true, true_and, and_true, false_and, and_false, Bool.or_not_self, Bool.not_or_self, Bool.cond_self, cond_true, cond_false, Bool.cond_true_right, Bool.cond_true_left, Bool.cond_false_right, Bool.cond_false_left, Bool.or_true, Bool.true_or, Bool.or_false, Bool.false_or, Bool.and_true, Bool.true_and, Bool.and_false, Bool.false_and, Bool.not_not, forall_eq, ← Bool.decide_and, ← Bool.decide_or, ← decide_not, cDecF, cDecT, cDecFl, Decidable.not_not, Bool.not_true, Bool.not_false, Bool.false_eq_true, imp_false, not_true_eq_false, not_false_eq_true, forall_const, true_implies, false_implies, implies_true, decide_true, decide_false]; try simp only [cDec, eq_self_iff_true, true_and, and_true, false_and, and_false, Bool.or_not_self, Bool.not_or_self, Bool.cond_self, cond_true, cond_false, Bool.cond_true_right, Bool.cond_true_left, Bool.cond_false_right, Bool.cond_false_left, Bool.or_true, Bool.true_or, Bool.or_false, Bool.false_or, Bool.and_true, Bool.true_and, Bool.and_false, Bool.false_and, Bool.not_not, forall_eq, ← Bool.decide_and, ← Bool.decide_or, ← decide_not, cDecF, cDecT, cDecFl, Decidable.not_not, Bool.not_true, Bool.not_false, Bool.false_eq_true, imp_false, not_true_eq_false, not_false_eq_true, forall_const, true_implies, false_implies, implies_true, decide_true, decide_false])
  have hb := nx_in bs (a + 1) n h2
  refine ⟨fun h => ⟨by omega, ⟨?_, by omega, by omega⟩, by omega, by omega⟩, fun h => ?_⟩
  · unfold nx; rw [lenI_eq, decide_eq_true h, cond_true, Int.tmod_eq_emod_of_nonneg (by omega)]
  · have hp : (0 : Int) < bs.length := by omega
    have ht : (a + 1).tmod bs.length = (a + 1) % bs.length := Int.tmod_eq_emod_of_nonneg (by omega)
    have hr : 0 ≤ (a + 1) % bs.length ∧ (a + 1) % bs.length < bs.length := ⟨Int.emod_nonneg _ (by omega), Int.emod_lt_of_pos _ hp⟩
    rw [ht]
    have b0 := geti_bd (hf.1.1.1 _ (getD_in (d := []) (show ((a + 1) % bs.length).toNat < bs.length by omega))) (j := 0) (K := .u8) rfl
    have q0 : kmin IntKind.u8 = 0 := rfl
    rw [q0] at b0
    have b1 : 0 ≤ geti (bs.getD ((a + 1) % bs.length).toNat []) 0 := b0.1
    have hq : 0 ≤ (a + 1) / bs.length := Int.ediv_nonneg (by omega) (by omega)
    refine ⟨h, hr, h, by omega, ⟨?_, by omega, by omega⟩, by omega, by omega⟩
    rw [Int.tmod_eq_emod_of_nonneg (by omega)]
    unfold nx
    rw [lenI_eq, decide_eq_false h]; rfl
theorem okG26 : PCok Tryd.prog G26 := addPC_ok okG25 okDnx
set_option maxHeartbeats 4000000 in
theorem okDpl : CtrOk Tryd.prog 21 kDpl := good_ofM okG26 mixed (fun ((bs, x, y, z, a, _), _) => noLoops) 100 fun ((bs, x, y, z, a, _), _) hf hn => by
  refine ⟨rfl, Eq.mpr (tDpl bs x y z a) ?_⟩
  have h0 := of_decide_eq_true hn.1
  (simp only [eq_self_iff_true, true_and, and_true, false_and, and_false, Bool.or_not_self, Bool.not_or_self, Bool.cond_self, cond_true, cond_false, Bool.cond_true_right, Bool.cond_true_left, Bool.cond_false_right, Bool.cond_false_left, Bool.or_true, Bool.true_or, Bool.or_false, Bool.false_or, Bool.and_true, Bool.true_and, Bool.and_false, Bool.false_and, Bool.not_not, forall_eq, ← Bool.decide_and, ← Bool.decide_or, ← decide_not, cDecF, cDecT, cDecFl, Decidable.not_not, Bool.not_true, Bool.not_false, Bool.false_eq_true, imp_false, not_true_eq_false, not_false_eq_true, forall_const, true_implies, false_implies, implies_true, decide_true, decide_false]; try simp only [cDec, eq_self_iff_true, true_and, and_true, false_and, and_false, Bool.or_not_self, Bool.not_or_self, Bool.cond_self, cond_true, cond_false, Bool.cond_true_right, Bool.cond_true_left, Bool.cond_false_right, Bool.cond_false_left, Bool.or_true, Bool.true_or, Bool.or_false, Bool.false_or, Bool.and_true, Bool.true_and, Bool.and_false, Bool.false_and, Bool.not_not, forall_eq, ← Bool.decide_and, ← Bool.decide_or, ← decide_not, cDecF, cDecT, cDecFl, Decidable.not_not, Bool.not_true, Bool.not_false, Bool.false_eq_true, imp_false, not_true_eq_false, not_false_eq_true, forall_const, true_implies, false_implies, implies_true, decide_true, decide_false])
  have z2 : a + 1 + 1 = a + 2 := by omega
  rw [z2]
  exact ⟨by omega, by omega, rfl, rfl⟩
theorem okG27 : PCok Tryd.prog G27 := addPC_ok okG26 okDpl
set_option maxHeartbeats 4000000 in
theorem okDwn : CtrOk Tryd.prog 22 kDwn := good_ofM okG27 mixed (fun ((bs, x, y, z, a, _), f, n, _) => noLoops) 100 fun ((bs, x, y, z, a, _), f, n, _) hf hn => by
  refine ⟨rfl, Eq.mpr (tDwn bs x y z a f n) ?_⟩
  have h0 := of_decide_eq_true hn.1
  (simp only [eq_self_iff_true, true_and, and_true, false_and, and_false, Bool.or_not_self, Bool.not_or_self, Bool.cond_self, cond_true, cond_false, Bool.cond_true_right, Bool.cond_true_left, Bool.cond_false_right, Bool.cond_false_left, Bool.or_true, Bool.true_or, Bool.or_false, Bool.false_or, Bool.and_true, Bool.true_and, Bool.and_false, Bool.false_and, Bool.not_not, forall_eq, ← Bool.decide_and, ← Bool.decide_or, ← decide_not, cDecF, cDecT, cDecFl, Decidable.not_not, Bool.not_true, Bool.not_false, Bool.false_eq_true, imp_false, not_true_eq_false, not_false_eq_true, forall_const, true_implies, false_implies, implies_true, decide_true, decide_false]; try simp only [cDec, eq_self_iff_true, true_and, and_true, false_and, and_false, Bool.or_not_self, Bool.not_or_self, Bool.cond_self, cond_true, cond_false, Bool.cond_true_right, Bool.cond_true_left, Bool.cond_false_right, Bool.cond_false_left, Bool.or_true, Bool.true_or, Bool.or_false, Bool.false_or, Bool.and_true, Bool.true_and, Bool.and_false, Bool.false_and, Bool.not_not, forall_eq, ← Bool.decide_and, ← Bool.decide_or, ← decide_not, cDecF, cDecT, cDecFl, Decidable.not_not, Bool.not_true, Bool.not_false, Bool.false_eq_true, imp_false, not_true_eq_false, not_false_eq_true, forall_const, true_implies, false_implies, implies_true, decide_true, decide_false])
  have z2 : a + 1 + 1 = a + 2 := by omega
  rw [z2]
  have hx := nx_in bs (a + 1) n (by omega)
  have hy := nx_in bs (a + 2) 120 (by omega)
  have w1 : IntKind.i64.wrap (f + 4 * nx bs (a + 1) n) = f + 4 * nx bs (a + 1) n := wr64 _ (by omega)
  have w2 : IntKind.i64.wrap (f + 4 * nx bs (a + 1) n + 10) = f + 4 * nx bs (a + 1) n + 10 := wr64 _ (by omega)
  have w3 : IntKind.i64.wrap (f + 4 * nx bs (a + 1) n + 10 + 3 * nx bs (a + 2) 120) = f + 4 * nx bs (a + 1) n + 10 + 3 * nx bs (a + 2) 120 := wr64 _ (by omega)
  rw [w1, w2, w3]
  exact ⟨by omega, by omega, ⟨⟨rfl, by omega, by omega⟩, rfl, by omega, by omega⟩, rfl⟩
theorem okG28 : PCok Tryd.prog G28 := addPC_ok okG27 okDwn
set_option maxHeartbeats 4000000 in
theorem okDs : CtrOk Tryd.prog 7 kDs := good_ofM okG28 mixed (fun ((bs, x, y, z, a, _), _) => dsL bs x y z) 100 fun ((bs, x, y, z, a, _), _) hf hn => by
  refine ⟨rfl, Eq.mpr (tDs bs x y z a) ?_⟩
  (simp only [eq_self_iff_true, true_and, and_true, false_and, and_false, Bool.or_not_self, Bool.not_or_self, Bool.cond_self, cond_true, cond_false, Bool.cond_true_right, Bool.cond_true_left, Bool.cond_false_right, Bool.cond_false_left, Bool.or_true, Bool.true_or, Bool.or_false, Bool.false_or, Bool.and_true, Bool.true_and, Bool.and_false, Bool.false_and, Bool.not_not, forall_eq, ← Bool.decide_and, ← Bool.decide_or, ← decide_not, cDecF, cDecT, cDecFl, Decidable.not_not, Bool.not_true, Bool.not_false, Bool.false_eq_true, imp_false, not_true_eq_false, not_false_eq_true, forall_const, true_implies, false_implies, implies_true, decide_true, decide_false]; try simp only [cDec, eq_self_iff_true, true_and, and_true, false_and, and_false, Bool.or_not_self, Bool.not_or_self, Bool.cond_self, cond_true, cond_false, Bool.cond_true_right, Bool.cond_true_left, Bool.cond_false_right, Bool.cond_false_left, Bool.or_true, Bool.true_or, Bool.or_false, Bool.false_or, Bool.and_true, Bool.true_and, Bool.and_false, Bool.false_and, Bool.not_not, forall_eq, ← Bool.decide_and, ← Bool.decide_or, ← decide_not, cDecF, cDecT, cDecFl, Decidable.not_not, Bool.not_true, Bool.not_false, Bool.false_eq_true, imp_false, not_true_eq_false, not_false_eq_true, forall_const, true_implies, false_implies, implies_true, decide_true, decide_false])
  have hN : 0 ≤ rN y ∧ rN y < 13 := ⟨Int.emod_nonneg _ (by decide), Int.emod_lt_of_pos _ (by decide)⟩
  have hC : 1 ≤ cN x ∧ cN x ≤ 6 := by unfold cN; omega
  rw [show y % 13 = rN y from rfl, show 1 + x % 6 = cN x from rfl]
  generalize rN y = N at *
  generalize cN x = C at *
  refine ⟨0, ⟨by omega, by omega⟩, ⟨⟨rfl, by omega, by omega⟩, by omega, ⟨rfl, rfl, rfl⟩, rfl⟩, ?_⟩
  rintro k ⟨ka, kb⟩
  refine ⟨fun hlt => ?_, fun hge => ?_⟩
  · refine ⟨by omega, by omega, by omega, by omega, by omega, by omega, ?_, k + 1, ⟨by omega, by omega⟩, by unfold twMu; omega, ⟨rfl, by omega, by omega⟩, by omega, ?_⟩
    · rw [lenI_eq, dTs_len]; omega
    · rw [show (k + 1).toNat = k.toNat + 1 by omega, dTs_succ, show ((k.toNat : Nat) : Int) = k by omega]
      simp only [dRq, Int.add_assoc, Int.zero_add, Int.reduceAdd]
  have ek : k = N := by omega
  subst ek
  refine ⟨0, ⟨by omega, by omega⟩, ⟨⟨rfl, by omega, by omega⟩, rfl, rfl, rfl, rfl⟩, ?_⟩
  rintro c ⟨ca, cb⟩
  refine ⟨fun hlt => ?_, fun hge => ?_⟩
  · have hb := cT_in bs k c.toNat
    have ht : 0 ≤ t0N bs k c ∧ t0N bs k c ≤ 210 := by unfold t0N; omega
    have hv : 1 ≤ vK bs k c ∧ vK bs k c ≤ 2 := vN_in _ _
    have hq : 0 ≤ qK bs k c ∧ qK bs k c ≤ 3 := qN_in _ _
    have e0 : 1 + nx bs (t0N bs k c + 1) 2 = vK bs k c := rfl
    have e4 : nx bs (t0N bs k c + 2 + 5 * vK bs k c) 4 = qK bs k c := rfl
    have ec : (c + 1).toNat = c.toNat + 1 := by omega
    have e1 : t0N bs k (c + 1) = t0N bs k c + 2 + 5 * vK bs k c + qK bs k c := by unfold t0N; rw [ec]; rfl
    have e2 : dC0 bs k (c + 1).toNat = dC0 bs k c.toNat ++ [[dFl bs (t0N bs k c + 1) (vK bs k c).toNat, []]] := by rw [ec, dC0_succ]; rfl
    have e3 : dDs bs k (c + 1).toNat = dDs bs k c.toNat ++ [[dDr bs (t0N bs k c + 2 + 5 * vK bs k c) (qK bs k c).toNat]] := by rw [ec, dDs_succ]; rfl
    generalize t0N bs k c = t at *
    generalize vK bs k c = v at *
    generalize qK bs k c = q at *
    refine ⟨by omega, v, ⟨by omega, by omega⟩, ⟨⟨e0, by omega, by omega⟩, by omega, by rw [show (v - v).toNat = 0 by omega]; rfl⟩, ?_⟩
    rintro i ⟨ia, ib⟩
    refine ⟨fun hi => ?_, fun hi => ?_⟩
    · refine ⟨by omega, by omega, by omega, by omega, ?_, i - 1, ⟨by omega, by omega⟩, by omega, ⟨rfl, by omega, by omega⟩, by omega, ?_⟩
      · rw [lenI_eq, dFl_len]; omega
      · rw [show (v - (i - 1)).toNat = (v - i).toNat + 1 by omega, dFl_succ, show (((v - i).toNat : Nat) : Int) = v - i by omega]
        simp only [dVe, Int.add_assoc, Int.reduceAdd]
    · obtain rfl : i = 0 := by omega
      rw [show t + 1 + 5 * (v - 0) + 1 = t + 2 + 5 * v by omega]
      refine ⟨by omega, q, ⟨by omega, by omega⟩, ⟨⟨e4, by omega, by omega⟩, by omega, by rw [show (q - q).toNat = 0 by omega]; rfl⟩, ?_⟩
      rintro j ⟨ja, jb⟩
      refine ⟨fun hj => ?_, fun hj => ?_⟩
      · refine ⟨by omega, ?_, j - 1, ⟨by omega, by omega⟩, by omega, ⟨rfl, by omega, by omega⟩, by omega, ?_⟩
        · rw [lenI_eq, dDr_len]; omega
        · rw [show (q - (j - 1)).toNat = (q - j).toNat + 1 by omega, dDr_succ, show (((q - j).toNat : Nat) : Int) = q - j by omega]
      · obtain rfl : j = 0 := by omega
        refine ⟨by rw [dC0_len]; omega, by rw [dDs_len]; omega, c + 1, ⟨by omega, by omega⟩, by unfold twMu; omega, ⟨rfl, by omega, by omega⟩, by rw [e1]; omega, ?_, ?_⟩
        · rw [show (v - 0).toNat = v.toNat by omega]; exact e2.symm
        · rw [show (q - 0).toNat = q.toNat by omega]; exact e3.symm
  · have ec : c = C := by omega
    subst ec
    refine ⟨0, ⟨by omega, by omega⟩, ⟨⟨rfl, by omega, by omega⟩, rfl, rfl, rfl, rfl⟩, ?_⟩
    rintro i ⟨ia, ib⟩
    refine ⟨fun hlt => ?_, fun hge => by rw [show i = k by omega]; exact ⟨rfl, rfl, rfl⟩⟩
    have hb := cT_in bs k c.toNat
    have hl := lT_in bs (cT bs k c.toNat) i.toNat
    have ei : (i + 1).toNat = i.toNat + 1 := by omega
    have ej : ((i.toNat : Nat) : Int) = i := by omega
    have hw := nx_in bs (l5T bs k c i + 1) c (by omega)
    have ew : who bs (cT bs k c.toNat) c i.toNat = (((nx bs (l5T bs k c i + 1) c).toNat : Nat) : Int) := by
      show nx bs (l5T bs k c i + 1) c = _
      omega
    have hset := dCs_set bs k c i.toNat (k := (nx bs (l5T bs k c i + 1) c).toNat) (by omega) ew
    rw [ej] at hset
    have hlen := dLs_len bs (cT bs k c.toNat) i.toNat
    have hT : 0 ≤ l5T bs k c i ∧ l5T bs k c i ≤ 246 := by unfold l5T; omega
    have e1 : l5T bs k c (i + 1) = l5T bs k c i + (if 0 < nx bs (l5T bs k c i + 2) 3 then 3 else 2) := by unfold l5T; rw [ei]; rfl
    have e2 : dLs bs (cT bs k c.toNat) (i + 1).toNat = if 0 < nx bs (l5T bs k c i + 2) 3 then dLs bs (cT bs k c.toNat) i.toNat ++ [[Value.int .i64 i, Value.int .i64 (nx bs (l5T bs k c i + 3) 250)]] else dLs bs (cT bs k c.toNat) i.toNat := by
      rw [ei]; show (if _ then dLs bs (cT bs k c.toNat) i.toNat ++ [[Value.int .i64 ((i.toNat : Nat) : Int), _]] else _) = _; rw [ej]; rfl
    have hol : lenI (((dCs bs k c i.toNat).getD (nx bs (l5T bs k c i + 1) c).toNat []).getD 1 []) ≤ 8796093022208 := by
      rw [dCs_get bs k c i.toNat (by omega), lenI_eq]
      have := dOw_len bs (cT bs k c.toNat) c i.toNat (nx bs (l5T bs k c i + 1) c).toNat
      show ((dOw _ _ _ _ _).length : Int) ≤ _
      omega
    have hin : 0 ≤ nx bs (l5T bs k c i + 1) c ∧ nx bs (l5T bs k c i + 1) c < ((dCs bs k c i.toNat).length : Int) := by rw [dCs_len]; omega
    have z2 : l5T bs k c i + 1 + 1 = l5T bs k c i + 2 := by omega
    have z3 : l5T bs k c i + 2 + 1 = l5T bs k c i + 3 := by omega
    rw [z2, z3, hset]
    refine ⟨by omega, hin, hol, hin, fun hl => ⟨hl, by omega, fun hp => ?_, fun hp => ?_⟩, fun hl => absurd hl (by omega)⟩
    · rw [if_pos hp] at e1 e2
      exact ⟨by omega, by rw [lenI_eq]; omega, i + 1, ⟨by omega, by omega⟩, by unfold twMu; omega, ⟨rfl, by omega, by omega⟩, e1.symm, by rw [ei], e2.symm⟩
    · rw [if_neg hp] at e1 e2
      exact ⟨i + 1, ⟨by omega, by omega⟩, by unfold twMu; omega, ⟨rfl, by omega, by omega⟩, e1.symm, by rw [ei], e2.symm⟩
theorem okG29 : PCok Tryd.prog G29 := addPC_ok okG28 okDs
end Go.Proofs.YtafmknblnamegaaDoor
