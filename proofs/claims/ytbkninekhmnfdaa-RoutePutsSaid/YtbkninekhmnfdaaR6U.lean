/- The law RoutePuts, run by the engine, answers true: for all arguments. No condition. -/
import Derived.Test.YtbkninekhmnfdaaR6UT
namespace Go.Proofs.Ytbkninekhmnfdaa
open Go.Eng
set_option linter.unusedSimpArgs false
namespace routePuts
set_option maxHeartbeats 4000000 in
theorem fallI (x0 : List (List Value)) (x1 : List (List Value)) (x2 : Int) (x3 : Int) (x4 : Int) (b0 : ∀ x ∈ x0, Fa [.int .i64, .int .i64] x) (c0 : x0.length ≤ maxLen) (b1 : ∀ x ∈ x1, Fa [.int .u8] x) (c1 : x1.length ≤ maxLen) (b2 : (-9223372036854775808 : Int) ≤ x2 ∧ x2 ≤ 9223372036854775807) (b3 : (-9223372036854775808 : Int) ≤ x3 ∧ x3 ≤ 9223372036854775807) (b4 : (-9223372036854775808 : Int) ≤ x4 ∧ x4 ≤ 9223372036854775807) : ∃ ss, leSVs [.row 0, .row 1, .agg [.i .i64 x2 (-9223372036854775808) 9223372036854775807, .i .i64 x3 (-9223372036854775808) 9223372036854775807, .i .i64 x4 (-9223372036854775808) 9223372036854775807]] ss ∧ ∃ Λ n, fnS Try.prog G18 Λ n 5 ss [.ror [.int .i64, .int .i64] x0 false, .ror [.int .u8] x1 false] fun u _ => isYes u := by
  refine ⟨_, leSVs_refl _, noLoops, 200, Eq.mpr (tRU x0 x1 x2 x3 x4) ?_⟩
  intro z6 h6 z8 h8
  have hM : (List.take (z8 - (0 : Int)).toNat (List.drop 0 x0)).length ≤ 30 := by simp; omega
  have h0 : (decide ((0 : Int) ≤ z8) && decide (z8 ≤ (x0.length : Int))) = true := by simp; omega
  have hN := near_len x0
  have hQ : (made x1).length ≤ 12 := by have := (made_ok x1).len; omega
  generalize List.take (z8 - (0 : Int)).toNat (List.drop 0 x0) = M at hM ⊢
  generalize near x0 = N at hN ⊢
  generalize made x1 = Q at hQ ⊢
  have hd : dB True = true := dB_intro trivial
  have gM : (lenI M ≤ 1000000) = True := by rw [lenI_eq]; simp; omega
  have gN : (lenI N ≤ 1000000) = True := by rw [lenI_eq]; simp; omega
  have gQ : (lenI Q ≤ 1000000) = True := by rw [lenI_eq]; simp; omega
  have hb : ∀ b : Bool, (!b == b) = false := by decide
  set_option maxRecDepth 100000 in simp only [forall_eq, h0, gM, gN, gQ, hd, take_fltz, hb, decide_true, Bool.not_true, Bool.not_false, Bool.or_true, Bool.true_or, Bool.or_false, Bool.and_true, Bool.true_and, cond_true, cond_false, eq_self_iff_true, Bool.cond_self]
def shapes : List (Bool × List Kd2) := [(false, [.sl [.int .i64, .int .i64]]), (false, [.sl [.int .u8]]), (true, [.k (.int .i64), .k (.int .i64), .k (.int .i64)])]
theorem fall (ss : List SV) (bs : List Blk) (h : ParsOk 0 shapes ss bs) : ∃ ss1, leSVs ss ss1 ∧ ∃ Λ n, fnS Try.prog G18 Λ n 5 ss1 bs fun u _ => isYes u := by
  obtain ⟨s0, r0, d0, e0, rfl, rfl, p0, h⟩ := ps_cons h
  obtain ⟨s1, r1, d1, e1, rfl, rfl, p1, h⟩ := ps_cons h
  obtain ⟨s2, r2, d2, e2, rfl, rfl, p2, h⟩ := ps_cons h
  obtain ⟨rfl, rfl⟩ := ps_nil h
  have q0 := par_one p0
  obtain ⟨x0, _, t0, he0, rfl, b0, c0, q0⟩ := fa_sl q0
  obtain ⟨rfl, rfl⟩ := fa_nil q0
  simp only [List.cons.injEq, and_true] at he0
  subst he0
  have q1 := par_one p1
  obtain ⟨x1, _, t1, he1, rfl, b1, c1, q1⟩ := fa_sl q1
  obtain ⟨rfl, rfl⟩ := fa_nil q1
  simp only [List.cons.injEq, and_true] at he1
  subst he1
  obtain ⟨l2, rfl, q2⟩ := par_agg p2
  obtain ⟨x2, _, rfl, b2, q2⟩ := fa_int q2
  obtain ⟨x3, _, rfl, b3, q2⟩ := fa_int q2
  obtain ⟨x4, _, rfl, b4, q2⟩ := fa_int q2
  obtain ⟨rfl, rfl⟩ := fa_nil q2
  exact fallI x0 x1 x2 x3 x4 b0 c0 b1 c1 b2 b3 b4
end routePuts
end Go.Proofs.Ytbkninekhmnfdaa
