/- The law SlackTells, run by the engine, answers true: for all arguments. No condition. -/
import Derived.Test.YtojdfjmkdplpkaaS1LT
namespace Go.Proofs.Ytojdfjmkdplpkaa
open Go.Eng
set_option linter.unusedSimpArgs false
namespace slackTells
set_option maxHeartbeats 4000000 in
theorem fallI (x0 : Int) (x1 : Int) (x2 : List (List Value)) (x3 : List (List Value)) (x4 : Int) (x5 : Int) (x6 : List (List Value)) (x7 : Int) (x8 : Int) (x9 : Int) (x10 : Int) (x11 : Int) (x12 : Int) (x13 : Int) (b0 : (0 : Int) ≤ x0 ∧ x0 ≤ 255) (b1 : (0 : Int) ≤ x1 ∧ x1 ≤ 255) (b2 : ∀ x ∈ x2, Fa [.int .u8, .int .u8, .int .u8, .int .u8, .int .u8, .int .u8] x) (c2 : x2.length ≤ maxLen) (b3 : ∀ x ∈ x3, Fa [.int .u8] x) (c3 : x3.length ≤ maxLen) (b4 : (0 : Int) ≤ x4 ∧ x4 ≤ 255) (b5 : (0 : Int) ≤ x5 ∧ x5 ≤ 65535) (b6 : ∀ x ∈ x6, Fa [.int .i64, .int .i64] x) (c6 : x6.length ≤ maxLen) (b7 : (-9223372036854775808 : Int) ≤ x7 ∧ x7 ≤ 9223372036854775807) (b8 : (-9223372036854775808 : Int) ≤ x8 ∧ x8 ≤ 9223372036854775807) (b9 : (-9223372036854775808 : Int) ≤ x9 ∧ x9 ≤ 9223372036854775807) (b10 : (-9223372036854775808 : Int) ≤ x10 ∧ x10 ≤ 9223372036854775807) (b11 : (-9223372036854775808 : Int) ≤ x11 ∧ x11 ≤ 9223372036854775807) (b12 : (-9223372036854775808 : Int) ≤ x12 ∧ x12 ≤ 9223372036854775807) (b13 : (-9223372036854775808 : Int) ≤ x13 ∧ x13 ≤ 9223372036854775807) : ∃ ss, leSVs [.agg [.i .u8 x0 (0) 255, .i .u8 x1 (0) 255, .row 0, .row 1, .i .u8 x4 (0) 255, .i .u16 x5 (0) 65535], .agg [.row 2, .i .i64 x7 (-9223372036854775808) 9223372036854775807, .i .i64 x8 (-9223372036854775808) 9223372036854775807, .i .i64 x9 (-9223372036854775808) 9223372036854775807, .i .i64 x10 (-9223372036854775808) 9223372036854775807, .i .i64 x11 (-9223372036854775808) 9223372036854775807], .agg [.i .i64 x12 (-9223372036854775808) 9223372036854775807, .i .i64 x13 (-9223372036854775808) 9223372036854775807]] ss ∧ ∃ Λ n, fnS Try.prog G40 Λ n 3 ss [.ror [.int .u8, .int .u8, .int .u8, .int .u8, .int .u8, .int .u8] x2 false, .ror [.int .u8] x3 false, .ror [.int .i64, .int .i64] x6 false] fun u _ => isYes u := by
  refine ⟨_, leSVs_refl _, _, 200, Eq.mpr (tST x0 x1 x2 x3 x4 x5 x6 x7 x8 x9 x10 x11 x12 x13) ?_⟩
  (simp only [eq_self_iff_true, true_and, and_true, false_and, and_false, Bool.or_not_self, Bool.not_or_self, Bool.cond_self, cond_true, cond_false, Bool.cond_true_right, Bool.cond_true_left, Bool.cond_false_right, Bool.cond_false_left, Bool.or_true, Bool.true_or, Bool.or_false, Bool.false_or, Bool.and_true, Bool.true_and, Bool.and_false, Bool.false_and, Bool.not_not, forall_eq, ← Bool.decide_and, ← Bool.decide_or, ← decide_not, cDecF, cDecT, cDecFl, Decidable.not_not, Bool.not_true, Bool.not_false, Bool.false_eq_true, imp_false, not_true_eq_false, not_false_eq_true, forall_const, true_implies, false_implies, implies_true, decide_true, decide_false]; try simp only [cDec, eq_self_iff_true, true_and, and_true, false_and, and_false, Bool.or_not_self, Bool.not_or_self, Bool.cond_self, cond_true, cond_false, Bool.cond_true_right, Bool.cond_true_left, Bool.cond_false_right, Bool.cond_false_left, Bool.or_true, Bool.true_or, Bool.or_false, Bool.false_or, Bool.and_true, Bool.true_and, Bool.and_false, Bool.false_and, Bool.not_not, forall_eq, ← Bool.decide_and, ← Bool.decide_or, ← decide_not, cDecF, cDecT, cDecFl, Decidable.not_not, Bool.not_true, Bool.not_false, Bool.false_eq_true, imp_false, not_true_eq_false, not_false_eq_true, forall_const, true_implies, false_implies, implies_true, decide_true, decide_false])
  have hq : ∀ (xs : List (List Value)) m, (qAdd xs m).length = xs.length + m := by
    intro xs m
    induction m generalizing xs with
    | zero => rfl
    | succ m ih => simp only [qAdd]; rw [ih, List.length_append, List.length_singleton]; omega
  have h12 : (qs x1 x2).length ≤ 12 := by simp only [qs, List.length_map, List.length_take]; omega
  have hl : (pTs x1 x2).length = (qs x1 x2).length + (6 - (qs x1 x2).length) := hq _ _
  have hlen : 6 ≤ (pTs x1 x2).length ∧ (pTs x1 x2).length ≤ 12 := by omega
  rw [List.nil_append]
  have hu : 0 ≤ IntKind.u64.wrap x12 := by
    have : IntKind.u64.wrap x12 = x12 % 18446744073709551616 := rfl
    rw [this]; omega
  have ht := Int.tmod_lt_of_pos (IntKind.u64.wrap x12) (show 0 < ((pTs x1 x2).length : Int) by omega)
  have ht0 := Int.tmod_nonneg ((pTs x1 x2).length : Int) hu
  rw [wr64 _ (by omega)]
  exact ⟨by rw [lenI_eq]; omega, by omega, ⟨ht0, ht⟩, by omega, by omega⟩
def shapes : List (Bool × List Kd2) := [(true, [.k (.int .u8), .k (.int .u8), .sl [.int .u8, .int .u8, .int .u8, .int .u8, .int .u8, .int .u8], .sl [.int .u8], .k (.int .u8), .k (.int .u16)]), (true, [.sl [.int .i64, .int .i64], .k (.int .i64), .k (.int .i64), .k (.int .i64), .k (.int .i64), .k (.int .i64)]), (true, [.k (.int .i64), .k (.int .i64)])]
theorem fall (ss : List SV) (bs : List Blk) (h : ParsOk 0 shapes ss bs) : ∃ ss1, leSVs ss ss1 ∧ ∃ Λ n, fnS Try.prog G40 Λ n 3 ss1 bs fun u _ => isYes u := by
  obtain ⟨s0, r0, d0, e0, rfl, rfl, p0, h⟩ := ps_cons h
  obtain ⟨s1, r1, d1, e1, rfl, rfl, p1, h⟩ := ps_cons h
  obtain ⟨s2, r2, d2, e2, rfl, rfl, p2, h⟩ := ps_cons h
  obtain ⟨rfl, rfl⟩ := ps_nil h
  obtain ⟨l0, rfl, q0⟩ := par_agg p0
  obtain ⟨x0, _, rfl, b0, q0⟩ := fa_int q0
  obtain ⟨x1, _, rfl, b1, q0⟩ := fa_int q0
  obtain ⟨x2, _, t2, rfl, rfl, b2, c2, q0⟩ := fa_sl q0
  obtain ⟨x3, _, t3, rfl, rfl, b3, c3, q0⟩ := fa_sl q0
  obtain ⟨x4, _, rfl, b4, q0⟩ := fa_int q0
  obtain ⟨x5, _, rfl, b5, q0⟩ := fa_int q0
  obtain ⟨rfl, rfl⟩ := fa_nil q0
  obtain ⟨l1, rfl, q1⟩ := par_agg p1
  obtain ⟨x6, _, t6, rfl, rfl, b6, c6, q1⟩ := fa_sl q1
  obtain ⟨x7, _, rfl, b7, q1⟩ := fa_int q1
  obtain ⟨x8, _, rfl, b8, q1⟩ := fa_int q1
  obtain ⟨x9, _, rfl, b9, q1⟩ := fa_int q1
  obtain ⟨x10, _, rfl, b10, q1⟩ := fa_int q1
  obtain ⟨x11, _, rfl, b11, q1⟩ := fa_int q1
  obtain ⟨rfl, rfl⟩ := fa_nil q1
  obtain ⟨l2, rfl, q2⟩ := par_agg p2
  obtain ⟨x12, _, rfl, b12, q2⟩ := fa_int q2
  obtain ⟨x13, _, rfl, b13, q2⟩ := fa_int q2
  obtain ⟨rfl, rfl⟩ := fa_nil q2
  exact fallI x0 x1 x2 x3 x4 x5 x6 x7 x8 x9 x10 x11 x12 x13 b0 b1 b2 c2 b3 c3 b4 b5 b6 c6 b7 b8 b9 b10 b11 b12 b13
end slackTells
end Go.Proofs.Ytojdfjmkdplpkaa
