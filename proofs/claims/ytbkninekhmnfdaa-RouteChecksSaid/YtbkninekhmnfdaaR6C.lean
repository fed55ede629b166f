/- The law RouteChecks, run by the engine, answers true: for all arguments. No condition. -/
import Derived.Test.YtbkninekhmnfdaaR6CT
namespace Go.Proofs.Ytbkninekhmnfdaa
open Go.Eng
set_option linter.unusedSimpArgs false
namespace routeChecks
set_option maxHeartbeats 4000000 in
theorem fallI (x0 : List (List Value)) (x1 : List (List Value)) (x2 : Int) (x3 : Int) (x4 : Int) (b0 : ∀ x ∈ x0, Fa [.int .i64, .int .i64] x) (c0 : x0.length ≤ maxLen) (b1 : ∀ x ∈ x1, Fa [.int .u8] x) (c1 : x1.length ≤ maxLen) (b2 : (0 : Int) ≤ x2 ∧ x2 ≤ 255) (b3 : (0 : Int) ≤ x3 ∧ x3 ≤ 255) (b4 : (0 : Int) ≤ x4 ∧ x4 ≤ 255) : ∃ ss, leSVs [.row 0, .row 1, .agg [.i .u8 x2 (0) 255, .i .u8 x3 (0) 255, .i .u8 x4 (0) 255]] ss ∧ ∃ Λ n, fnS Try.prog G18 Λ n 3 ss [.ror [.int .i64, .int .i64] x0 false, .ror [.int .u8] x1 false] fun u _ => isYes u := by
  refine ⟨_, leSVs_refl _, noLoops, 200, Eq.mpr (tRC x0 x1 x2 x3 x4) ?_⟩
  (simp only [eq_self_iff_true, true_and, and_true, false_and, and_false, Bool.or_not_self, Bool.not_or_self, Bool.cond_self, cond_true, cond_false, Bool.cond_true_right, Bool.cond_true_left, Bool.cond_false_right, Bool.cond_false_left, Bool.or_true, Bool.true_or, Bool.or_false, Bool.false_or, Bool.and_true, Bool.true_and, Bool.and_false, Bool.false_and, Bool.not_not, forall_eq, ← Bool.decide_and, ← Bool.decide_or, ← decide_not, cDecF, cDecT, cDecFl, Decidable.not_not, Bool.not_true, Bool.not_false, Bool.false_eq_true, imp_false, not_true_eq_false, not_false_eq_true, forall_const, true_implies, false_implies, implies_true, decide_true, decide_false]; try simp only [cDec, eq_self_iff_true, true_and, and_true, false_and, and_false, Bool.or_not_self, Bool.not_or_self, Bool.cond_self, cond_true, cond_false, Bool.cond_true_right, Bool.cond_true_left, Bool.cond_false_right, Bool.cond_false_left, Bool.or_true, Bool.true_or, Bool.or_false, Bool.false_or, Bool.and_true, Bool.true_and, Bool.and_false, Bool.false_and, Bool.not_not, forall_eq, ← Bool.decide_and, ← Bool.decide_or, ← decide_not, cDecF, cDecT, cDecFl, Decidable.not_not, Bool.not_true, Bool.not_false, Bool.false_eq_true, imp_false, not_true_eq_false, not_false_eq_true, forall_const, true_implies, false_implies, implies_true, decide_true, decide_false])
  have hm := made_ok x1
  have hl : (made x1).length ≤ 12 := by have := hm.len; omega
  have hc := check_ok hm.ok (by omega)
  have hd : dB True = true := dB_intro trivial
  simp only [List.nil_append, hd, hc, Bool.not_true, cond_false, List.length_set, decide_true]
  generalize made x1 = M at *
  refine ⟨by rw [lenI_eq]; omega, fun h => ?_, fun h => ?_⟩
  · have t1 : 0 ≤ x2.tmod M.length ∧ x2.tmod M.length < M.length := by rw [Int.tmod_eq_emod_of_nonneg b2.1]; exact ⟨Int.emod_nonneg _ (by omega), Int.emod_lt_of_pos _ h⟩
    have t2 : 0 ≤ x3.tmod M.length ∧ x3.tmod M.length < M.length := by rw [Int.tmod_eq_emod_of_nonneg b3.1]; exact ⟨Int.emod_nonneg _ (by omega), Int.emod_lt_of_pos _ h⟩
    (repeat' (first | apply And.intro | intro _))
    all_goals first | omega | trivial
  · (repeat' (first | apply And.intro | intro _))
    all_goals first | omega | trivial
def shapes : List (Bool × List Kd2) := [(false, [.sl [.int .i64, .int .i64]]), (false, [.sl [.int .u8]]), (true, [.k (.int .u8), .k (.int .u8), .k (.int .u8)])]
theorem fall (ss : List SV) (bs : List Blk) (h : ParsOk 0 shapes ss bs) : ∃ ss1, leSVs ss ss1 ∧ ∃ Λ n, fnS Try.prog G18 Λ n 3 ss1 bs fun u _ => isYes u := by
  obtain ⟨s0, r0, d0, e0, rfl, rfl, p0, h⟩ := ps_cons h
  obtain ⟨s1, r1, d1, e1, rfl, rfl, p1, h⟩ := ps_cons h
  obtain ⟨s2, r2, d2, e2, rfl, rfl, p2, h⟩ := ps_cons h
  obtain ⟨rfl, rfl⟩ := ps_nil h
  have q0 := par_one p0
  obtain ⟨x0, _, t0, he0, rfl, b0, c0, q0⟩ := fa_sl q0
  obtain ⟨rfl, rfl⟩ := fa_nil q0
  simp only [List.cons.injEq, and_true] at he0
  subst he0
  have q1 := par_one p1
  obtain ⟨x1, _, t1, he1, rfl, b1, c1, q1⟩ := fa_sl q1
  obtain ⟨rfl, rfl⟩ := fa_nil q1
  simp only [List.cons.injEq, and_true] at he1
  subst he1
  obtain ⟨l2, rfl, q2⟩ := par_agg p2
  obtain ⟨x2, _, rfl, b2, q2⟩ := fa_int q2
  obtain ⟨x3, _, rfl, b3, q2⟩ := fa_int q2
  obtain ⟨x4, _, rfl, b4, q2⟩ := fa_int q2
  obtain ⟨rfl, rfl⟩ := fa_nil q2
  exact fallI x0 x1 x2 x3 x4 b0 c0 b1 c1 b2 b3 b4
end routeChecks
end Go.Proofs.Ytbkninekhmnfdaa
