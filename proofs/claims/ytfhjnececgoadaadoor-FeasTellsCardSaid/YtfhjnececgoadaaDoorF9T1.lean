/- The law FeasTells, run by the engine, answers true: for all arguments. No condition. -/
import Derived.Test.YtfhjnececgoadaaDoorF9T1T
namespace Go.Proofs.YtfhjnececgoadaaDoor
open Go.Eng
set_option linter.unusedSimpArgs false
namespace feasTells
set_option maxRecDepth 100000 in
set_option maxHeartbeats 4000000 in
theorem fallI (x0 : List (List Value)) (x1 : Int) (x2 : Int) (x3 : Int) (x4 : List (List Value)) (x5 : Int) (x6 : Int) (x7 : Int) (x8 : List (List Value)) (x9 : List (List Value)) (x10 : List (List Value)) (b0 : ∀ x ∈ x0, Fa [.int .u8] x) (c0 : x0.length ≤ maxLen) (b1 : (0 : Int) ≤ x1 ∧ x1 ≤ 255) (b2 : (0 : Int) ≤ x2 ∧ x2 ≤ 255) (b3 : (-9223372036854775808 : Int) ≤ x3 ∧ x3 ≤ 9223372036854775807) (b4 : ∀ x ∈ x4, Fa [.int .u8] x) (c4 : x4.length ≤ maxLen) (b5 : (0 : Int) ≤ x5 ∧ x5 ≤ 255) (b6 : (0 : Int) ≤ x6 ∧ x6 ≤ 255) (b7 : (-128 : Int) ≤ x7 ∧ x7 ≤ 127) (b8 : ∀ x ∈ x8, Fa [.int .i64, .int .i64] x) (c8 : x8.length ≤ maxLen) (b9 : ∀ x ∈ x9, Fa [.int .i64, .int .i64, .int .i64, .int .i64, .int .i64, .int .i64, .int .i64, .int .i64, .int .i64, .int .i64] x) (c9 : x9.length ≤ maxLen) (b10 : ∀ x ∈ x10, Fa [.int .i64, .int .i64, .int .i64] x) (c10 : x10.length ≤ maxLen) : ∃ ss, leSVs [.agg [.row 0, .i .u8 x1 (0) 255, .i .u8 x2 (0) 255, .i .i64 x3 (-9223372036854775808) 9223372036854775807], .agg [.row 1, .i .u8 x5 (0) 255, .i .u8 x6 (0) 255, .i .i8 x7 (-128) 127], .row 2, .row 3, .row 4] ss ∧ ∃ Λ n, fnS Tryd.prog G46 Λ n 3 ss [.ror [.int .u8] x0 false, .ror [.int .u8] x4 false, .ror [.int .i64, .int .i64] x8 false, .ror [.int .i64, .int .i64, .int .i64, .int .i64, .int .i64, .int .i64, .int .i64, .int .i64, .int .i64, .int .i64] x9 false, .ror [.int .i64, .int .i64, .int .i64] x10 false] fun u _ => isYes u := by
  refine ⟨_, leSVs_refl _, _, 300, Eq.mpr (tFT x0 x1 x2 x3 x4 x5 x6 x7 x8 x9 x10) ?_⟩
  (simp only [eq_self_iff_true, true_and, and_true, false_and, and_false, Bool.or_not_self, Bool.not_or_self, Bool.cond_self, cond_true, cond_false, Bool.cond_true_right, Bool.cond_true_left, Bool.cond_false_right, Bool.cond_false_left, Bool.or_true, Bool.true_or, Bool.or_false, Bool.false_or, Bool.and_true, Bool.true_and, Bool.and_false, Bool.false_and, Bool.not_not, forall_eq, ← Bool.decide_and, ← Bool.decide_or, ← decide_not, cDecF, cDecT, cDecFl, Decidable.not_not, Bool.not_true, Bool.not_false, Bool.false_eq_true, imp_false, not_true_eq_false, not_false_eq_true, forall_const, true_implies, false_implies, implies_true, decide_true, decide_false]; try simp only [cDec, eq_self_iff_true, true_and, and_true, false_and, and_false, Bool.or_not_self, Bool.not_or_self, Bool.cond_self, cond_true, cond_false, Bool.cond_true_right, Bool.cond_true_left, Bool.cond_false_right, Bool.cond_false_left, Bool.or_true, Bool.true_or, Bool.or_false, Bool.false_or, Bool.and_true, Bool.true_and, Bool.and_false, Bool.false_and, Bool.not_not, forall_eq, ← Bool.decide_and, ← Bool.decide_or, ← decide_not, cDecF, cDecT, cDecFl, Decidable.not_not, Bool.not_true, Bool.not_false, Bool.false_eq_true, imp_false, not_true_eq_false, not_false_eq_true, forall_const, true_implies, false_implies, implies_true, decide_true, decide_false])
  have h12 := own_12 x0 x1
  have hst := draft_st x0 x1
  have hp := pT_len (dTs x0 x1 x2) (dOwn x0 x1) x4 (dVx x0 x1) (dVy x0 x1) (dVs x0 x1) x5 x6 x7
  rw [own_rngs, dTs_ok]
  simp only [beq_self_eq_true, Bool.not_true, Bool.or_self, Bool.or_false, cond_true, cond_false, List.nil_append, lenI_eq, hp]
  repeat' (first | apply And.intro | trivial | omega)
def shapes : List (Bool × List Kd2) := [(true, [.sl [.int .u8], .k (.int .u8), .k (.int .u8), .k (.int .i64)]), (true, [.sl [.int .u8], .k (.int .u8), .k (.int .u8), .k (.int .i8)]), (false, [.sl [.int .i64, .int .i64]]), (false, [.sl [.int .i64, .int .i64, .int .i64, .int .i64, .int .i64, .int .i64, .int .i64, .int .i64, .int .i64, .int .i64]]), (false, [.sl [.int .i64, .int .i64, .int .i64]])]
theorem fall (ss : List SV) (bs : List Blk) (h : ParsOk 0 shapes ss bs) : ∃ ss1, leSVs ss ss1 ∧ ∃ Λ n, fnS Tryd.prog G46 Λ n 3 ss1 bs fun u _ => isYes u := by
  obtain ⟨s0, r0, d0, e0, rfl, rfl, p0, h⟩ := ps_cons h
  obtain ⟨s1, r1, d1, e1, rfl, rfl, p1, h⟩ := ps_cons h
  obtain ⟨s2, r2, d2, e2, rfl, rfl, p2, h⟩ := ps_cons h
  obtain ⟨s3, r3, d3, e3, rfl, rfl, p3, h⟩ := ps_cons h
  obtain ⟨s4, r4, d4, e4, rfl, rfl, p4, h⟩ := ps_cons h
  obtain ⟨rfl, rfl⟩ := ps_nil h
  obtain ⟨l0, rfl, q0⟩ := par_agg p0
  obtain ⟨x0, _, t0, rfl, rfl, b0, c0, q0⟩ := fa_sl q0
  obtain ⟨x1, _, rfl, b1, q0⟩ := fa_int q0
  obtain ⟨x2, _, rfl, b2, q0⟩ := fa_int q0
  obtain ⟨x3, _, rfl, b3, q0⟩ := fa_int q0
  obtain ⟨rfl, rfl⟩ := fa_nil q0
  obtain ⟨l1, rfl, q1⟩ := par_agg p1
  obtain ⟨x4, _, t4, rfl, rfl, b4, c4, q1⟩ := fa_sl q1
  obtain ⟨x5, _, rfl, b5, q1⟩ := fa_int q1
  obtain ⟨x6, _, rfl, b6, q1⟩ := fa_int q1
  obtain ⟨x7, _, rfl, b7, q1⟩ := fa_int q1
  obtain ⟨rfl, rfl⟩ := fa_nil q1
  have q2 := par_one p2
  obtain ⟨x8, _, t8, he2, rfl, b8, c8, q2⟩ := fa_sl q2
  obtain ⟨rfl, rfl⟩ := fa_nil q2
  simp only [List.cons.injEq, and_true] at he2
  subst he2
  have q3 := par_one p3
  obtain ⟨x9, _, t9, he3, rfl, b9, c9, q3⟩ := fa_sl q3
  obtain ⟨rfl, rfl⟩ := fa_nil q3
  simp only [List.cons.injEq, and_true] at he3
  subst he3
  have q4 := par_one p4
  obtain ⟨x10, _, t10, he4, rfl, b10, c10, q4⟩ := fa_sl q4
  obtain ⟨rfl, rfl⟩ := fa_nil q4
  simp only [List.cons.injEq, and_true] at he4
  subst he4
  exact fallI x0 x1 x2 x3 x4 x5 x6 x7 x8 x9 x10 b0 c0 b1 b2 b3 b4 c4 b5 b6 b7 b8 c8 b9 c9 b10 c10
end feasTells
end Go.Proofs.YtfhjnececgoadaaDoor
