/- WindowTells answers true at every input. No condition. -/
import Derived.Test.YtpafjmedjlcgcaaW3Tt
import Derived.Test.YtpafjmedjlcgcaaW3P
import Derived.Test.YtpafjmedjlcgcaaEngM
namespace Go.Proofs.Ytpafjmedjlcgcaa
open Go.Eng
namespace windowTells
set_option maxHeartbeats 4000000 in
set_option maxRecDepth 100000 in
theorem fallI (a0 a1 b0 b1 t : Int) : fnS Try.prog G13 noLoops 100 5 [win a0 a1, win b0 b1, I t] [] fun v _ => isYes v := by
  refine Eq.mpr (t5 a0 a1 b0 b1 t isYes) ?_
  simp only [↓forall_eq, beq_self_eq_true, decide_true, Bool.and_self, Bool.not_true, Bool.not_false, Bool.true_or, Bool.or_true, Bool.or_self, ↓cond_true, ↓cond_false, isYes]
def shapes : List (Bool × List Kd2) := [(true, [.k (.int .i64), .k (.int .i64)]), (true, [.k (.int .i64), .k (.int .i64)]), (false, [.k (.int .i64)])]
theorem fall (ss : List SV) (h : ParsOk shapes ss) : fnS Try.prog G13 noLoops 100 5 ss [] fun u _ => isYes u := by
  obtain ⟨s0, r0, rfl, p0, h⟩ := ps_cons h
  obtain ⟨s1, r1, rfl, p1, h⟩ := ps_cons h
  obtain ⟨s2, r2, rfl, p2, h⟩ := ps_cons h
  obtain rfl := ps_nil h
  obtain ⟨l0, rfl, q0⟩ := par_agg p0
  obtain ⟨x0, _, rfl, b0, q0⟩ := fa_int q0
  obtain ⟨x1, _, rfl, b1, q0⟩ := fa_int q0
  obtain rfl := fa_nil q0
  obtain ⟨l1, rfl, q1⟩ := par_agg p1
  obtain ⟨x2, _, rfl, b2, q1⟩ := fa_int q1
  obtain ⟨x3, _, rfl, b3, q1⟩ := fa_int q1
  obtain rfl := fa_nil q1
  have q2 := par_one p2
  obtain ⟨x4, _, he2, b4, q2⟩ := fa_int q2
  obtain rfl := fa_nil q2
  simp only [List.cons.injEq, and_true] at he2
  subst he2
  exact fallI x0 x1 x2 x3 x4
end windowTells
end Go.Proofs.Ytpafjmedjlcgcaa
