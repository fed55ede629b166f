/- The law FeasOdd, run by the engine, answers true: for all arguments. No condition. -/
import Derived.Test.YtfhjnececgoadaaDoorF9OT
namespace Go.Proofs.YtfhjnececgoadaaDoor
open Go.Eng
set_option linter.unusedSimpArgs false
namespace feasOdd
set_option maxHeartbeats 4000000 in
theorem fallI (x0 : Int) (x1 : Int) (x2 : Int) (x3 : Int) (x4 : Int) (x5 : List (List Value)) (x6 : List (List Value)) (x7 : List (List Value)) (b0 : (-9223372036854775808 : Int) ≤ x0 ∧ x0 ≤ 9223372036854775807) (b1 : (-9223372036854775808 : Int) ≤ x1 ∧ x1 ≤ 9223372036854775807) (b2 : (-9223372036854775808 : Int) ≤ x2 ∧ x2 ≤ 9223372036854775807) (b3 : (-9223372036854775808 : Int) ≤ x3 ∧ x3 ≤ 9223372036854775807) (b4 : (-9223372036854775808 : Int) ≤ x4 ∧ x4 ≤ 9223372036854775807) (b5 : ∀ x ∈ x5, Fa [.int .i64, .int .i64] x) (c5 : x5.length ≤ maxLen) (b6 : ∀ x ∈ x6, Fa [.int .i64, .int .i64, .int .i64, .int .i64, .int .i64, .int .i64, .int .i64, .int .i64, .int .i64, .int .i64] x) (c6 : x6.length ≤ maxLen) (b7 : ∀ x ∈ x7, Fa [.int .i64, .int .i64, .int .i64] x) (c7 : x7.length ≤ maxLen) : ∃ ss, leSVs [.agg [.i .i64 x0 (-9223372036854775808) 9223372036854775807, .i .i64 x1 (-9223372036854775808) 9223372036854775807, .i .i64 x2 (-9223372036854775808) 9223372036854775807, .i .i64 x3 (-9223372036854775808) 9223372036854775807, .i .i64 x4 (-9223372036854775808) 9223372036854775807], .row 0, .row 1, .row 2] ss ∧ ∃ Λ n, fnS Tryd.prog G45 Λ n 4 ss [.ror [.int .i64, .int .i64] x5 false, .ror [.int .i64, .int .i64, .int .i64, .int .i64, .int .i64, .int .i64, .int .i64, .int .i64, .int .i64, .int .i64] x6 false, .ror [.int .i64, .int .i64, .int .i64] x7 false] fun u _ => isYes u := by
  refine ⟨_, leSVs_refl _, _, 200, Eq.mpr (tFO x0 x1 x2 x3 x4 x5 x6 x7) ?_⟩
  (simp only [eq_self_iff_true, true_and, and_true, false_and, and_false, Bool.or_not_self, Bool.not_or_self, Bool.cond_self, cond_true, cond_false, Bool.cond_true_right, Bool.cond_true_left, Bool.cond_false_right, Bool.cond_false_left, Bool.or_true, Bool.true_or, Bool.or_false, Bool.false_or, Bool.and_true, Bool.true_and, Bool.and_false, Bool.false_and, Bool.not_not, forall_eq, ← Bool.decide_and, ← Bool.decide_or, ← decide_not, cDecF, cDecT, cDecFl, Decidable.not_not, Bool.not_true, Bool.not_false, Bool.false_eq_true, imp_false, not_true_eq_false, not_false_eq_true, forall_const, true_implies, false_implies, implies_true, decide_true, decide_false]; try simp only [cDec, eq_self_iff_true, true_and, and_true, false_and, and_false, Bool.or_not_self, Bool.not_or_self, Bool.cond_self, cond_true, cond_false, Bool.cond_true_right, Bool.cond_true_left, Bool.cond_false_right, Bool.cond_false_left, Bool.or_true, Bool.true_or, Bool.or_false, Bool.false_or, Bool.and_true, Bool.true_and, Bool.and_false, Bool.false_and, Bool.not_not, forall_eq, ← Bool.decide_and, ← Bool.decide_or, ← decide_not, cDecF, cDecT, cDecFl, Decidable.not_not, Bool.not_true, Bool.not_false, Bool.false_eq_true, imp_false, not_true_eq_false, not_false_eq_true, forall_const, true_implies, false_implies, implies_true, decide_true, decide_false])
  refine ⟨by omega, by omega, by omega, by simp⟩
def shapes : List (Bool × List Kd2) := [(true, [.k (.int .i64), .k (.int .i64), .k (.int .i64), .k (.int .i64), .k (.int .i64)]), (false, [.sl [.int .i64, .int .i64]]), (false, [.sl [.int .i64, .int .i64, .int .i64, .int .i64, .int .i64, .int .i64, .int .i64, .int .i64, .int .i64, .int .i64]]), (false, [.sl [.int .i64, .int .i64, .int .i64]])]
theorem fall (ss : List SV) (bs : List Blk) (h : ParsOk 0 shapes ss bs) : ∃ ss1, leSVs ss ss1 ∧ ∃ Λ n, fnS Tryd.prog G45 Λ n 4 ss1 bs fun u _ => isYes u := by
  obtain ⟨s0, r0, d0, e0, rfl, rfl, p0, h⟩ := ps_cons h
  obtain ⟨s1, r1, d1, e1, rfl, rfl, p1, h⟩ := ps_cons h
  obtain ⟨s2, r2, d2, e2, rfl, rfl, p2, h⟩ := ps_cons h
  obtain ⟨s3, r3, d3, e3, rfl, rfl, p3, h⟩ := ps_cons h
  obtain ⟨rfl, rfl⟩ := ps_nil h
  obtain ⟨l0, rfl, q0⟩ := par_agg p0
  obtain ⟨x0, _, rfl, b0, q0⟩ := fa_int q0
  obtain ⟨x1, _, rfl, b1, q0⟩ := fa_int q0
  obtain ⟨x2, _, rfl, b2, q0⟩ := fa_int q0
  obtain ⟨x3, _, rfl, b3, q0⟩ := fa_int q0
  obtain ⟨x4, _, rfl, b4, q0⟩ := fa_int q0
  obtain ⟨rfl, rfl⟩ := fa_nil q0
  have q1 := par_one p1
  obtain ⟨x5, _, t5, he1, rfl, b5, c5, q1⟩ := fa_sl q1
  obtain ⟨rfl, rfl⟩ := fa_nil q1
  simp only [List.cons.injEq, and_true] at he1
  subst he1
  have q2 := par_one p2
  obtain ⟨x6, _, t6, he2, rfl, b6, c6, q2⟩ := fa_sl q2
  obtain ⟨rfl, rfl⟩ := fa_nil q2
  simp only [List.cons.injEq, and_true] at he2
  subst he2
  have q3 := par_one p3
  obtain ⟨x7, _, t7, he3, rfl, b7, c7, q3⟩ := fa_sl q3
  obtain ⟨rfl, rfl⟩ := fa_nil q3
  simp only [List.cons.injEq, and_true] at he3
  subst he3
  exact fallI x0 x1 x2 x3 x4 x5 x6 x7 b0 b1 b2 b3 b4 b5 c5 b6 c6 b7 c7
end feasOdd
end Go.Proofs.YtfhjnececgoadaaDoor
