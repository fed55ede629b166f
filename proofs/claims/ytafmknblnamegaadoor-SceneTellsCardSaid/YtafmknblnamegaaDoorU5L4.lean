/- The law SceneTells, run by the engine, answers true: for all arguments. No condition. -/
import Derived.Test.YtafmknblnamegaaDoorU5L4T
namespace Go.Proofs.YtafmknblnamegaaDoor
open Go.Eng
set_option linter.unusedSimpArgs false
namespace sceneTells
set_option maxRecDepth 100000 in
set_option maxHeartbeats 4000000 in
theorem fallI (x0 : List (List Value)) (x1 : Int) (x2 : Int) (x3 : Int) (x4 : Int) (x5 : Int) (x6 : Int) (x7 : Int) (x8 : List (List Value)) (x9 : List (List (List (List Value)))) (x10 : List (List Value)) (x11 : Int) (x12 : Int) (x13 : Int) (x14 : List (List (List (List Value)))) (b0 : ∀ x ∈ x0, Fa [.int .u8] x) (c0 : x0.length ≤ maxLen) (b1 : (0 : Int) ≤ x1 ∧ x1 ≤ 255) (b2 : (0 : Int) ≤ x2 ∧ x2 ≤ 255) (b3 : (0 : Int) ≤ x3 ∧ x3 ≤ 255) (b4 : (-9223372036854775808 : Int) ≤ x4 ∧ x4 ≤ 9223372036854775807) (b5 : (0 : Int) ≤ x5 ∧ x5 ≤ 255) (b6 : (0 : Int) ≤ x6 ∧ x6 ≤ 255) (b7 : (-9223372036854775808 : Int) ≤ x7 ∧ x7 ≤ 9223372036854775807) (b8 : ∀ x ∈ x8, Fa [.int .i64, .int .i64, .int .i64, .int .i64, .int .i64, .int .i64, .int .i64, .int .i64, .int .i64, .int .i64] x) (c8 : x8.length ≤ maxLen) (b9 : RfF [.sl 57 [.int .i64, .int .i64, .int .i64, .int .i64, .int .i64], .sl 3 [.int .i64]] x9) (b10 : ∀ x ∈ x10, Fa [.int .i64, .int .i64] x) (c10 : x10.length ≤ maxLen) (b11 : (-9223372036854775808 : Int) ≤ x11 ∧ x11 ≤ 9223372036854775807) (b12 : (-9223372036854775808 : Int) ≤ x12 ∧ x12 ≤ 9223372036854775807) (b13 : (-9223372036854775808 : Int) ≤ x13 ∧ x13 ≤ 9223372036854775807) (b14 : RfF [.sl 74 [.int .u64]] x14) : ∃ ss, leSVs [.agg [.row 0, .i .u8 x1 (0) 255, .i .u8 x2 (0) 255, .i .u8 x3 (0) 255, .i .i64 x4 (-9223372036854775808) 9223372036854775807], .agg [.i .u8 x5 (0) 255, .i .u8 x6 (0) 255, .i .i64 x7 (-9223372036854775808) 9223372036854775807], .agg [.row 1, .row 3, .row 4, .i .i64 x11 (-9223372036854775808) 9223372036854775807, .i .i64 x12 (-9223372036854775808) 9223372036854775807, .i .i64 x13 (-9223372036854775808) 9223372036854775807, .row 6]] ss ∧ ∃ Λ n, fnS Tryd.prog G34 Λ n 3 ss [.ror [.int .u8] x0 false, .ror [.int .i64, .int .i64, .int .i64, .int .i64, .int .i64, .int .i64, .int .i64, .int .i64, .int .i64, .int .i64] x8 false, .rfm [.sl 57 [.int .i64, .int .i64, .int .i64, .int .i64, .int .i64], .sl 3 [.int .i64]] x9, .rof 2, .ror [.int .i64, .int .i64] x10 false, .rfm [.sl 74 [.int .u64]] x14, .rof 5] fun u _ => isYes u := by
  have hN : 0 ≤ rN x2 ∧ rN x2 < 13 := ⟨Int.emod_nonneg _ (by decide), Int.emod_lt_of_pos _ (by decide)⟩
  have hC : 1 ≤ cN x1 ∧ cN x1 ≤ 6 := by unfold cN; omega
  have hm : maxLen = 9223372036854775807 := by decide
  refine ⟨_, leSVs_refl _, teL x9, 400, Eq.mpr (tTE x0 x1 x2 x3 x4 x5 x6 x7 x8 x9 x10 x11 x12 x13 x14) ?_⟩
  (simp only [eq_self_iff_true, true_and, and_true, false_and, and_false, Bool.or_not_self, Bool.not_or_self, Bool.cond_self, cond_true, cond_false, Bool.cond_true_right, Bool.cond_true_left, Bool.cond_false_right, Bool.cond_false_left, Bool.or_true, Bool.true_or, Bool.or_false, Bool.false_or, Bool.and_true, Bool.true_and, Bool.and_false, Bool.false_and, Bool.not_not, forall_eq, ← Bool.decide_and, ← Bool.decide_or, ← decide_not, cDecF, cDecT, cDecFl, Decidable.not_not, Bool.not_true, Bool.not_false, Bool.false_eq_true, imp_false, not_true_eq_false, not_false_eq_true, forall_const, true_implies, false_implies, implies_true, decide_true, decide_false]; try simp only [cDec, eq_self_iff_true, true_and, and_true, false_and, and_false, Bool.or_not_self, Bool.not_or_self, Bool.cond_self, cond_true, cond_false, Bool.cond_true_right, Bool.cond_true_left, Bool.cond_false_right, Bool.cond_false_left, Bool.or_true, Bool.true_or, Bool.or_false, Bool.false_or, Bool.and_true, Bool.true_and, Bool.and_false, Bool.false_and, Bool.not_not, forall_eq, ← Bool.decide_and, ← Bool.decide_or, ← decide_not, cDecF, cDecT, cDecFl, Decidable.not_not, Bool.not_true, Bool.not_false, Bool.false_eq_true, imp_false, not_true_eq_false, not_false_eq_true, forall_const, true_implies, false_implies, implies_true, decide_true, decide_false])
  generalize rN x2 = N at *
  generalize cN x1 = C at *
  have l1 : lenI (dTs x0 N.toNat) ≤ 1000 := by rw [lenI_eq, dTs_len]; omega
  have l2 : lenI (tnTs x5 x6 x7 (dTs x0 N.toNat)) ≤ 1000 := by rw [lenI_eq, tnTs_len, dTs_len]; omega
  have l3 : lenI (List.take (min (x8.length : Int) (70 : Int) - 0).toNat (List.drop 0 x8)) ≤ 1000 := by rw [lenI_eq, List.length_take]; omega
  rw [te_need x0 N C x6 hN hC b6.1, cond_true]
  refine ⟨by omega, by omega, 0, ⟨by omega, by omega, by omega⟩, ⟨⟨rfl, by omega, by omega⟩, rfl⟩, ?_⟩
  rintro k ⟨ka, kb, kc⟩
  refine ⟨fun hlt => ?_, fun _ => ?_⟩
  · refine ⟨⟨ka, hlt.1⟩, by omega, by omega, ?_, k + 1, ⟨by omega, by omega, by omega⟩, by unfold cuMu; omega, ⟨rfl, by omega, by omega⟩, ?_⟩
    · rw [cutC_len]; omega
    · have t5 : ∀ xs : Rw, List.take (min (xs.length : Int) (5 : Int) - 0).toNat (List.drop 0 xs) = xs.take 5 := fun xs => tk_min xs 5
      have t20 : ∀ xs : Rw, List.take (min (xs.length : Int) (20 : Int) - 0).toNat (List.drop 0 xs) = xs.take 20 := fun xs => tk_min xs 20
      rw [cutC_succ x9 ka, t5, t20]; rfl
  · simp only [td_fl, intsB_refl, cond_true, cond_false, Bool.not_true, Bool.or_self]
    repeat' (first | trivial | apply And.intro | assumption)
def shapes : List (Bool × List Kd2) := [(true, [.sl [.int .u8], .k (.int .u8), .k (.int .u8), .k (.int .u8), .k (.int .i64)]), (true, [.k (.int .u8), .k (.int .u8), .k (.int .i64)]), (true, [.sl [.int .i64, .int .i64, .int .i64, .int .i64, .int .i64, .int .i64, .int .i64, .int .i64, .int .i64, .int .i64], .rf [.sl 57 [.int .i64, .int .i64, .int .i64, .int .i64, .int .i64], .sl 3 [.int .i64]], .sl [.int .i64, .int .i64], .k (.int .i64), .k (.int .i64), .k (.int .i64), .rf [.sl 74 [.int .u64]]])]
theorem fall (ss : List SV) (bs : List Blk) (h : ParsOk 0 shapes ss bs) : ∃ ss1, leSVs ss ss1 ∧ ∃ Λ n, fnS Tryd.prog G34 Λ n 3 ss1 bs fun u _ => isYes u := by
  obtain ⟨s0, r0, d0, e0, rfl, rfl, p0, h⟩ := ps_cons h
  obtain ⟨s1, r1, d1, e1, rfl, rfl, p1, h⟩ := ps_cons h
  obtain ⟨s2, r2, d2, e2, rfl, rfl, p2, h⟩ := ps_cons h
  obtain ⟨rfl, rfl⟩ := ps_nil h
  obtain ⟨l0, rfl, q0⟩ := par_agg p0
  obtain ⟨x0, _, t0, rfl, rfl, b0, c0, q0⟩ := fa_sl q0
  obtain ⟨x1, _, rfl, b1, q0⟩ := fa_int q0
  obtain ⟨x2, _, rfl, b2, q0⟩ := fa_int q0
  obtain ⟨x3, _, rfl, b3, q0⟩ := fa_int q0
  obtain ⟨x4, _, rfl, b4, q0⟩ := fa_int q0
  obtain ⟨rfl, rfl⟩ := fa_nil q0
  obtain ⟨l1, rfl, q1⟩ := par_agg p1
  obtain ⟨x5, _, rfl, b5, q1⟩ := fa_int q1
  obtain ⟨x6, _, rfl, b6, q1⟩ := fa_int q1
  obtain ⟨x7, _, rfl, b7, q1⟩ := fa_int q1
  obtain ⟨rfl, rfl⟩ := fa_nil q1
  obtain ⟨l2, rfl, q2⟩ := par_agg p2
  obtain ⟨x8, _, t8, rfl, rfl, b8, c8, q2⟩ := fa_sl q2
  obtain ⟨x9, _, t9, rfl, rfl, b9, q2⟩ := fa_rf q2
  obtain ⟨x10, _, t10, rfl, rfl, b10, c10, q2⟩ := fa_sl q2
  obtain ⟨x11, _, rfl, b11, q2⟩ := fa_int q2
  obtain ⟨x12, _, rfl, b12, q2⟩ := fa_int q2
  obtain ⟨x13, _, rfl, b13, q2⟩ := fa_int q2
  obtain ⟨x14, _, t14, rfl, rfl, b14, q2⟩ := fa_rf q2
  obtain ⟨rfl, rfl⟩ := fa_nil q2
  exact fallI x0 x1 x2 x3 x4 x5 x6 x7 x8 x9 x10 x11 x12 x13 x14 b0 c0 b1 b2 b3 b4 b5 b6 b7 b8 c8 b9 b10 c10 b11 b12 b13 b14
end sceneTells
end Go.Proofs.YtafmknblnamegaaDoor
