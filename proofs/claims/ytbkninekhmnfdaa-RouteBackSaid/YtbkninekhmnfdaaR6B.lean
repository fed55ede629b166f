/- The law RouteBack, run by the engine, answers true: for all arguments. No condition. -/
import Derived.Test.YtbkninekhmnfdaaR6BT
namespace Go.Proofs.Ytbkninekhmnfdaa
open Go.Eng
set_option linter.unusedSimpArgs false
namespace routeBack
set_option maxHeartbeats 4000000 in
theorem fallI (x0 : List (List Value)) (x1 : Int) (x2 : Int) (x3 : Int) (b0 : ∀ x ∈ x0, Fa [.int .u8] x) (c0 : x0.length ≤ maxLen) (b1 : (0 : Int) ≤ x1 ∧ x1 ≤ 255) (b2 : (0 : Int) ≤ x2 ∧ x2 ≤ 255) (b3 : (0 : Int) ≤ x3 ∧ x3 ≤ 255) : ∃ ss, leSVs [.row 0, .agg [.i .u8 x1 (0) 255, .i .u8 x2 (0) 255], .i .u8 x3 (0) 255] ss ∧ ∃ Λ n, fnS Try.prog G18 Λ n 6 ss [.ror [.int .u8] x0 false] fun u _ => isYes u := by
  refine ⟨_, leSVs_refl _, noLoops, 200, Eq.mpr (tRB x0 x1 x2 x3) ?_⟩
  (simp only [eq_self_iff_true, true_and, and_true, false_and, and_false, Bool.or_not_self, Bool.not_or_self, Bool.cond_self, cond_true, cond_false, Bool.cond_true_right, Bool.cond_true_left, Bool.cond_false_right, Bool.cond_false_left, Bool.or_true, Bool.true_or, Bool.or_false, Bool.false_or, Bool.and_true, Bool.true_and, Bool.and_false, Bool.false_and, Bool.not_not, forall_eq, ← Bool.decide_and, ← Bool.decide_or, ← decide_not, cDecF, cDecT, cDecFl, Decidable.not_not, Bool.not_true, Bool.not_false, Bool.false_eq_true, imp_false, not_true_eq_false, not_false_eq_true, forall_const, true_implies, false_implies, implies_true, decide_true, decide_false]; try simp only [cDec, eq_self_iff_true, true_and, and_true, false_and, and_false, Bool.or_not_self, Bool.not_or_self, Bool.cond_self, cond_true, cond_false, Bool.cond_true_right, Bool.cond_true_left, Bool.cond_false_right, Bool.cond_false_left, Bool.or_true, Bool.true_or, Bool.or_false, Bool.false_or, Bool.and_true, Bool.true_and, Bool.and_false, Bool.false_and, Bool.not_not, forall_eq, ← Bool.decide_and, ← Bool.decide_or, ← decide_not, cDecF, cDecT, cDecFl, Decidable.not_not, Bool.not_true, Bool.not_false, Bool.false_eq_true, imp_false, not_true_eq_false, not_false_eq_true, forall_const, true_implies, false_implies, implies_true, decide_true, decide_false])
  have hm := made_ok x0
  have hk := hm.len
  have hl : (made x0).length ≤ 12 := by omega
  have hc := check_ok hm.ok (by omega)
  have hd : dB True = true := dB_intro trivial
  have ew1 : IntKind.i64.wrap (((made x0).length : Int) + 1) = (made x0).length + 1 := wr64 _ (by omega)
  have ew2 : IntKind.i64.wrap (((made x0).length : Int) + 2) = (made x0).length + 2 := wr64 _ (by omega)
  have ew3 : IntKind.i64.wrap (((made x0).length : Int) / 2 + 1) = (made x0).length / 2 + 1 := wr64 _ (by omega)
  simp only [ew1, ew2, ew3]
  have t1 : 0 ≤ x1.tmod ((made x0).length + 1) ∧ x1.tmod ((made x0).length + 1) < (made x0).length + 1 := by rw [Int.tmod_eq_emod_of_nonneg b1.1]; exact ⟨Int.emod_nonneg _ (by omega), Int.emod_lt_of_pos _ (by omega)⟩
  have t2 : 0 ≤ x2.tmod ((made x0).length + 1) ∧ x2.tmod ((made x0).length + 1) < (made x0).length + 1 := by rw [Int.tmod_eq_emod_of_nonneg b2.1]; exact ⟨Int.emod_nonneg _ (by omega), Int.emod_lt_of_pos _ (by omega)⟩
  have hij : 0 ≤ min (x1.tmod ((made x0).length + 1)) (x2.tmod ((made x0).length + 1)) ∧ min (x1.tmod ((made x0).length + 1)) (x2.tmod ((made x0).length + 1)) ≤ max (x1.tmod ((made x0).length + 1)) (x2.tmod ((made x0).length + 1)) ∧ max (x1.tmod ((made x0).length + 1)) (x2.tmod ((made x0).length + 1)) ≤ (made x0).length := by omega
  generalize min (x1.tmod ((made x0).length + 1)) (x2.tmod ((made x0).length + 1)) = i at hij ⊢
  generalize max (x1.tmod ((made x0).length + 1)) (x2.tmod ((made x0).length + 1)) = j at hij ⊢
  clear t1 t2
  have hn50 := hm.new 50 (by omega)
  have hw : wOk (made x0) 50 i j = true := wOk_iff.2 ⟨hij.1, hij.2.1, hij.2.2, by decide, by omega, hn50⟩
  obtain ⟨A, B, C, e1, e2, e3, e4⟩ := wth_parts hw
  have hn := hn50
  rw [e1] at hn
  have hno := hn
  rw [hasR_append, hasR_append, Bool.or_eq_false_iff, Bool.or_eq_false_iff] at hn
  have g1 : checkE (wth (made x0) 50 i j) = 0 := by
    rw [e2]
    refine check_ok (ok_ins (by decide) (e1 ▸ hm.ok) hno) ?_
    have := congrArg List.length e1
    simp only [List.length_append, List.length_cons] at this ⊢; omega
  have g2 : (wth (made x0) 50 i j).length = (made x0).length + 2 := by
    rw [e2]
    have := congrArg List.length e1
    simp only [List.length_append, List.length_cons] at this ⊢; omega
  have g3 : flt 50 (wth (made x0) 50 i j) = made x0 := by rw [e2, flt_ins hn.1 hn.2.1 hn.2.2, ← e1]
  have g4 := (idx_ins (C := C) hn.1 hn.2.1).1
  have g5 := (idx_ins (C := C) hn.1 hn.2.1).2
  rw [← e2] at g4 g5
  have g6 : (rq (wth (made x0) 50 i j)).length = (made x0).length / 2 + 1 := by
    unfold rq
    rw [g1, decide_eq_true rfl, cond_true, e2, rqs_ins, ← e1, hm.rq]; omega
  have g7 : lenI (wth (made x0) 50 i j) ≤ 1000000 := by rw [lenI_eq, g2]; omega
  have g8 : lenI (made x0) ≤ 1000000 := by rw [lenI_eq]; omega
  have g9 : ((((made x0).length + 2 : Nat)) : Int) = (made x0).length + 2 := by omega
  have g10 : ((((made x0).length / 2 + 1 : Nat)) : Int) = ((made x0).length : Int) / 2 + 1 := by omega
  simp only [take_fltz, hw, g1, g2, g3, g4, g5, g6, g7, g8, g9, g10, hd, e3]
  have e4' : i + (B.length : Int) = j := by omega
  have g11 : List.take (made x0).length (fltz 50 (wth (made x0) 50 i j)) = made x0 := by
    have := take_fltz 50 (wth (made x0) 50 i j)
    rwa [g3, List.drop_zero] at this
  simp
  refine ⟨by omega, by rw [g11]; exact dB_intro rfl, fun _ => ⟨e4', fun hne => ?_⟩, fun h => absurd e4' h⟩
  have hpos : 0 < (made x0).length := List.length_pos_iff.2 hne
  have t3 : 0 ≤ x3.tmod (made x0).length ∧ x3.tmod (made x0).length < (made x0).length := by rw [Int.tmod_eq_emod_of_nonneg b3.1]; exact ⟨Int.emod_nonneg _ (by omega), Int.emod_lt_of_pos _ (by omega)⟩
  have hr : hasR (geti ((made x0)[(x3.tmod (made x0).length).toNat]?.getD []) 0) (made x0) = true := hasR_at (k := (x3.tmod (made x0).length).toNat) (by omega) rfl
  generalize geti ((made x0)[(x3.tmod (made x0).length).toNat]?.getD []) 0 = r at hr ⊢
  obtain ⟨A', B', C', p1, n1, n2, n3, r0⟩ := parts_of hm.ok hm.wk hr
  have f1 : flt r (made x0) = A' ++ (B' ++ C') := by rw [p1, flt_ins n1 n2 n3]
  have f2 := (idx_ins (C := C') n1 n2).1
  have f3 := (idx_ins (C := C') n1 n2).2
  rw [← p1] at f2 f3
  have f4 := ok_flt (r := r) hm.ok
  have hlen : (made x0).length = A'.length + (B'.length + C'.length) + 2 := by
    have := congrArg List.length p1
    simp only [List.length_append, List.length_cons] at this ⊢; omega
  rw [f1] at f4
  have f5 : (A' ++ (B' ++ C')).length = A'.length + (B'.length + C'.length) := by simp
  have nF : hasR r (A' ++ (B' ++ C')) = false := by rw [hasR_append, hasR_append, n1, n2, n3]; rfl
  have f6 : (A'.length : Int) + B'.length + 1 - 1 = A'.length + B'.length := by omega
  have y := wOk_yes (xs := A' ++ (B' ++ C')) (r := r) (i := A'.length) (j := A'.length + B'.length) ⟨by omega, by omega, by rw [f5]; omega, r0, by rw [f5]; omega, nF⟩
  have f7 : wRow (A' ++ (B' ++ C')) r A'.length (A'.length + B'.length) = made x0 := by
    rw [p1]
    unfold wRow
    rw [show (((A'.length : Int) + B'.length) - A'.length).toNat = B'.length by omega, show ((A'.length : Int) + B'.length).toNat = A'.length + B'.length by omega, Int.toNat_natCast]
    simp
  rw [f1, f2, f3, f6, y.1, y.2, f7, check_ok f4 (by rw [f5]; omega), f5]
  exact ⟨hne, t3, by rw [lenI_eq, f5]; omega, ⟨⟨rfl, by omega⟩, rfl⟩, dB_intro rfl⟩
def shapes : List (Bool × List Kd2) := [(false, [.sl [.int .u8]]), (true, [.k (.int .u8), .k (.int .u8)]), (false, [.k (.int .u8)])]
theorem fall (ss : List SV) (bs : List Blk) (h : ParsOk 0 shapes ss bs) : ∃ ss1, leSVs ss ss1 ∧ ∃ Λ n, fnS Try.prog G18 Λ n 6 ss1 bs fun u _ => isYes u := by
  obtain ⟨s0, r0, d0, e0, rfl, rfl, p0, h⟩ := ps_cons h
  obtain ⟨s1, r1, d1, e1, rfl, rfl, p1, h⟩ := ps_cons h
  obtain ⟨s2, r2, d2, e2, rfl, rfl, p2, h⟩ := ps_cons h
  obtain ⟨rfl, rfl⟩ := ps_nil h
  have q0 := par_one p0
  obtain ⟨x0, _, t0, he0, rfl, b0, c0, q0⟩ := fa_sl q0
  obtain ⟨rfl, rfl⟩ := fa_nil q0
  simp only [List.cons.injEq, and_true] at he0
  subst he0
  obtain ⟨l1, rfl, q1⟩ := par_agg p1
  obtain ⟨x1, _, rfl, b1, q1⟩ := fa_int q1
  obtain ⟨x2, _, rfl, b2, q1⟩ := fa_int q1
  obtain ⟨rfl, rfl⟩ := fa_nil q1
  have q2 := par_one p2
  obtain ⟨x3, _, he2, b3, q2⟩ := fa_int q2
  obtain ⟨rfl, rfl⟩ := fa_nil q2
  simp only [List.cons.injEq, and_true] at he2
  subst he2
  exact fallI x0 x1 x2 x3 b0 c0 b1 b2 b3
end routeBack
end Go.Proofs.Ytbkninekhmnfdaa
