/- OrderAlone answers true at every input. No condition. -/
import Derived.Test.YtgjjjcihiahpoaaO4Oa
import Derived.Test.YtgjjjcihiahpoaaO4P
import Derived.Test.YtgjjjcihiahpoaaEngM
namespace Go.Proofs.Ytgjjjcihiahpoaa
open Go.Eng
namespace orderAlone
set_option maxHeartbeats 4000000 in
set_option maxRecDepth 100000 in
theorem fallI (fx fy tx ty pe pl de dl lo se hx hy cap st en : Int) : fnS Try.prog G29 noLoops 100 4 [req fx fy tx ty pe pl de dl lo se, vehS hx hy cap st en] [] fun v _ => isYes v := by
  refine Eq.mpr (t4 fx fy tx ty pe pl de dl lo se hx hy cap st en isYes) ?_
  simp only [↓forall_eq, beq_self_eq_true, decide_true, Bool.and_self, Bool.not_true, Bool.not_false, Bool.true_or, Bool.or_true, Bool.or_self, ↓cond_true, ↓cond_false, Bool.cond_self, isYes]
def shapes : List (Bool × List Kd2) := [(true, [.k (.int .i64), .k (.int .i64), .k (.int .i64), .k (.int .i64), .k (.int .i64), .k (.int .i64), .k (.int .i64), .k (.int .i64), .k (.int .i64), .k (.int .i64)]), (true, [.k (.int .i64), .k (.int .i64), .k (.int .i64), .k (.int .i64), .k (.int .i64)])]
theorem fall (ss : List SV) (h : ParsOk shapes ss) : fnS Try.prog G29 noLoops 100 4 ss [] fun u _ => isYes u := by
  obtain ⟨s0, r0, rfl, p0, h⟩ := ps_cons h
  obtain ⟨s1, r1, rfl, p1, h⟩ := ps_cons h
  obtain rfl := ps_nil h
  obtain ⟨l0, rfl, q0⟩ := par_agg p0
  obtain ⟨x0, _, rfl, b0, q0⟩ := fa_int q0
  obtain ⟨x1, _, rfl, b1, q0⟩ := fa_int q0
  obtain ⟨x2, _, rfl, b2, q0⟩ := fa_int q0
  obtain ⟨x3, _, rfl, b3, q0⟩ := fa_int q0
  obtain ⟨x4, _, rfl, b4, q0⟩ := fa_int q0
  obtain ⟨x5, _, rfl, b5, q0⟩ := fa_int q0
  obtain ⟨x6, _, rfl, b6, q0⟩ := fa_int q0
  obtain ⟨x7, _, rfl, b7, q0⟩ := fa_int q0
  obtain ⟨x8, _, rfl, b8, q0⟩ := fa_int q0
  obtain ⟨x9, _, rfl, b9, q0⟩ := fa_int q0
  obtain rfl := fa_nil q0
  obtain ⟨l1, rfl, q1⟩ := par_agg p1
  obtain ⟨x10, _, rfl, b10, q1⟩ := fa_int q1
  obtain ⟨x11, _, rfl, b11, q1⟩ := fa_int q1
  obtain ⟨x12, _, rfl, b12, q1⟩ := fa_int q1
  obtain ⟨x13, _, rfl, b13, q1⟩ := fa_int q1
  obtain ⟨x14, _, rfl, b14, q1⟩ := fa_int q1
  obtain rfl := fa_nil q1
  exact fallI x0 x1 x2 x3 x4 x5 x6 x7 x8 x9 x10 x11 x12 x13 x14
end orderAlone
end Go.Proofs.Ytgjjjcihiahpoaa
