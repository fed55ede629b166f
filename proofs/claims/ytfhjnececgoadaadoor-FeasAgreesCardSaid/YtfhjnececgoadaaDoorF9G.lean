/- The law FeasAgrees, run by the engine, answers true: for all arguments. No condition. -/
import Derived.Test.YtfhjnececgoadaaDoorF9GT
namespace Go.Proofs.YtfhjnececgoadaaDoor
open Go.Eng
set_option linter.unusedSimpArgs false
namespace feasAgrees
set_option maxRecDepth 100000 in
set_option maxHeartbeats 4000000 in
theorem fallI (x0 : List (List Value)) (x1 : Int) (x2 : Int) (x3 : Int) (x4 : Int) (b0 : ∀ x ∈ x0, Fa [.int .u8] x) (c0 : x0.length ≤ maxLen) (b1 : (0 : Int) ≤ x1 ∧ x1 ≤ 255) (b2 : (0 : Int) ≤ x2 ∧ x2 ≤ 255) (b3 : (-9223372036854775808 : Int) ≤ x3 ∧ x3 ≤ 9223372036854775807) (b4 : (0 : Int) ≤ x4 ∧ x4 ≤ 255) : ∃ ss, leSVs [.agg [.row 0, .i .u8 x1 (0) 255, .i .u8 x2 (0) 255, .i .i64 x3 (-9223372036854775808) 9223372036854775807], .i .u8 x4 (0) 255] ss ∧ ∃ Λ n, fnS Tryd.prog G49 Λ n 10 ss [.ror [.int .u8] x0 false] fun u _ => isYes u := by
  refine ⟨_, leSVs_refl _, _, 300, Eq.mpr (tFG x0 x1 x2 x3 x4) ?_⟩
  (simp only [eq_self_iff_true, true_and, and_true, false_and, and_false, Bool.or_not_self, Bool.not_or_self, Bool.cond_self, cond_true, cond_false, Bool.cond_true_right, Bool.cond_true_left, Bool.cond_false_right, Bool.cond_false_left, Bool.or_true, Bool.true_or, Bool.or_false, Bool.false_or, Bool.and_true, Bool.true_and, Bool.and_false, Bool.false_and, Bool.not_not, forall_eq, ← Bool.decide_and, ← Bool.decide_or, ← decide_not, cDecF, cDecT, cDecFl, Decidable.not_not, Bool.not_true, Bool.not_false, Bool.false_eq_true, imp_false, not_true_eq_false, not_false_eq_true, forall_const, true_implies, false_implies, implies_true, decide_true, decide_false]; try simp only [cDec, eq_self_iff_true, true_and, and_true, false_and, and_false, Bool.or_not_self, Bool.not_or_self, Bool.cond_self, cond_true, cond_false, Bool.cond_true_right, Bool.cond_true_left, Bool.cond_false_right, Bool.cond_false_left, Bool.or_true, Bool.true_or, Bool.or_false, Bool.false_or, Bool.and_true, Bool.true_and, Bool.and_false, Bool.false_and, Bool.not_not, forall_eq, ← Bool.decide_and, ← Bool.decide_or, ← decide_not, cDecF, cDecT, cDecFl, Decidable.not_not, Bool.not_true, Bool.not_false, Bool.false_eq_true, imp_false, not_true_eq_false, not_false_eq_true, forall_const, true_implies, false_implies, implies_true, decide_true, decide_false])
  have A := agrees (draft_told x0 x1 x2 (1 + x4 % 40) (by omega))
  generalize dVx x0 x1 = hx at *
  generalize dVy x0 x1 = hy at *
  generalize (1 + x4 % 40) = cap at *
  generalize dVs x0 x1 = st at *
  generalize dVe x0 x1 = en at *
  generalize dOwn x0 x1 = l at *
  generalize dTs x0 x1 x2 = t at *
  have hr : ¬ (chkF hx hy cap st en l t).c = 0 → geti ((fltR (chkF hx hy cap st en l t)).getD 0 []) 0 = (chkF hx hy cap st en l t).c ∧ geti ((fltR (chkF hx hy cap st en l t)).getD 0 []) 1 = (chkF hx hy cap st en l t).p ∧ geti ((fltR (chkF hx hy cap st en l t)).getD 0 []) 2 = (chkF hx hy cap st en l t).i := fun h => by
    unfold fltR; rw [decide_eq_false h]; exact ⟨rfl, rfl, rfl⟩
  cases A with
  | ok c e f => rw [c, e, f]; simp
  | full c p i f =>
    obtain ⟨g0, g1, g2⟩ := hr (by omega)
    rw [g0, g1, g2, c, p, i, f]
    simp
  | late c e f =>
    obtain ⟨g0, g1, g2⟩ := hr (by omega)
    rw [g0, g1, g2, c, e]
    rcases f with f | ⟨p, f⟩
    · rw [f]; simp
    · rw [p]; simp; omega
def shapes : List (Bool × List Kd2) := [(true, [.sl [.int .u8], .k (.int .u8), .k (.int .u8), .k (.int .i64)]), (false, [.k (.int .u8)])]
theorem fall (ss : List SV) (bs : List Blk) (h : ParsOk 0 shapes ss bs) : ∃ ss1, leSVs ss ss1 ∧ ∃ Λ n, fnS Tryd.prog G49 Λ n 10 ss1 bs fun u _ => isYes u := by
  obtain ⟨s0, r0, d0, e0, rfl, rfl, p0, h⟩ := ps_cons h
  obtain ⟨s1, r1, d1, e1, rfl, rfl, p1, h⟩ := ps_cons h
  obtain ⟨rfl, rfl⟩ := ps_nil h
  obtain ⟨l0, rfl, q0⟩ := par_agg p0
  obtain ⟨x0, _, t0, rfl, rfl, b0, c0, q0⟩ := fa_sl q0
  obtain ⟨x1, _, rfl, b1, q0⟩ := fa_int q0
  obtain ⟨x2, _, rfl, b2, q0⟩ := fa_int q0
  obtain ⟨x3, _, rfl, b3, q0⟩ := fa_int q0
  obtain ⟨rfl, rfl⟩ := fa_nil q0
  have q1 := par_one p1
  obtain ⟨x4, _, he1, b4, q1⟩ := fa_int q1
  obtain ⟨rfl, rfl⟩ := fa_nil q1
  simp only [List.cons.injEq, and_true] at he1
  subst he1
  exact fallI x0 x1 x2 x3 x4 b0 c0 b1 b2 b3 b4
end feasAgrees
end Go.Proofs.YtfhjnececgoadaaDoor
