/- The contracts hold. No condition. -/
import Derived.Test.YtpafjmedjlcgcaaW3T
namespace Go.Proofs.Ytpafjmedjlcgcaa
open Go.Eng
set_option linter.unusedSimpArgs false
theorem mixed : Try.prog.follows .mixedOrders = true := by kernel_rfl
theorem okG0 : PCok Try.prog G0 := noPC_ok
set_option maxHeartbeats 4000000 in
theorem pMay25 : Pure Try.prog G0 noLoops 100 25 kMay25 := pure_of fun ((a, b, _), _) hf _ => by
  simp only [pWin, pI, wout, T20, I, May, ParL.cons, ParL.nil, Par.agg, Par.int, Par.intAny, Par.bool, Par.str, Par.ro] at hf
  refine ⟨rfl, Eq.mpr (t25 a b fun u => leSV u (.b (decide (May a b)))) ?_⟩
  repeat' (first | refine need1 ?_ | refine need2 ?_ | refine need3 ?_ | refine need4 ?_ | refine need5 ?_ | refine need6 ?_ | refine need7 ?_ | intro _ | (refine bif_intro (fun _ => ?_) (fun _ => ?_)))
  all_goals subst_vars
  all_goals simp only [pWin, pI, wout, T20, I, May, cond_or, leSV, leSVs, leVal, decide_true, decide_false, cond_true, cond_false, Bool.not_eq_eq_eq_not, Bool.not_true, Bool.not_false, Bool.not_not, Bool.true_and, Bool.and_true, Bool.false_and, Bool.and_false, Bool.or_true, Bool.true_or, Bool.or_false, Bool.false_or, Bool.not_eq_true, Bool.not_eq_false, decide_eq_true_eq, decide_eq_false_iff_not, decide_eq_decide, Bool.and_eq_true, Bool.or_eq_true, Bool.and_eq_false_iff, Bool.or_eq_false_iff, ← Bool.decide_and, ← Bool.decide_or, ← decide_not, Bool.decide_eq_true, beq_iff_eq, beq_eq_false_iff_ne, ne_eq, and_true, true_and, true_eq_decide_iff, false_eq_decide_iff, if_true, if_false, IntKind.min, eq_self, kmin, kmax, Bool.true_eq, Bool.false_eq, decide_eq_true_iff, Bool.cond_true_left, Bool.cond_false_left, Bool.cond_true_right, Bool.cond_false_right] at *
  all_goals (try omega)
theorem okG1 : PCok Try.prog G1 := addPC_ok okG0 mixed pMay25
set_option maxHeartbeats 4000000 in
theorem pMay15 : Pure Try.prog G1 noLoops 100 15 kMay15 := pure_of fun ((a, b, _), _) hf _ => by
  simp only [pWin, pI, wout, T20, I, May, ParL.cons, ParL.nil, Par.agg, Par.int, Par.intAny, Par.bool, Par.str, Par.ro] at hf
  refine ⟨rfl, Eq.mpr (t15 a b fun u => leSV u (.b (decide (May a b)))) ?_⟩
  repeat' (first | refine need1 ?_ | refine need2 ?_ | refine need3 ?_ | refine need4 ?_ | refine need5 ?_ | refine need6 ?_ | refine need7 ?_ | intro _ | (refine bif_intro (fun _ => ?_) (fun _ => ?_)))
  all_goals subst_vars
  all_goals simp only [pWin, pI, wout, T20, I, May, cond_or, leSV, leSVs, leVal, decide_true, decide_false, cond_true, cond_false, Bool.not_eq_eq_eq_not, Bool.not_true, Bool.not_false, Bool.not_not, Bool.true_and, Bool.and_true, Bool.false_and, Bool.and_false, Bool.or_true, Bool.true_or, Bool.or_false, Bool.false_or, Bool.not_eq_true, Bool.not_eq_false, decide_eq_true_eq, decide_eq_false_iff_not, decide_eq_decide, Bool.and_eq_true, Bool.or_eq_true, Bool.and_eq_false_iff, Bool.or_eq_false_iff, ← Bool.decide_and, ← Bool.decide_or, ← decide_not, Bool.decide_eq_true, beq_iff_eq, beq_eq_false_iff_ne, ne_eq, and_true, true_and, true_eq_decide_iff, false_eq_decide_iff, if_true, if_false, IntKind.min, eq_self, kmin, kmax, Bool.true_eq, Bool.false_eq, decide_eq_true_iff, Bool.cond_true_left, Bool.cond_false_left, Bool.cond_true_right, Bool.cond_false_right] at *
  all_goals (try omega)
theorem okG2 : PCok Try.prog G2 := addPC_ok okG1 mixed pMay15
set_option maxHeartbeats 4000000 in
theorem pMay14 : Pure Try.prog G2 noLoops 100 14 kMay14 := pure_of fun ((a, b, _), _) hf _ => by
  simp only [pWin, pI, wout, T20, I, May, ParL.cons, ParL.nil, Par.agg, Par.int, Par.intAny, Par.bool, Par.str, Par.ro] at hf
  refine ⟨rfl, Eq.mpr (t14 a b fun u => leSV u (.b (decide (May a b)))) ?_⟩
  repeat' (first | refine need1 ?_ | refine need2 ?_ | refine need3 ?_ | refine need4 ?_ | refine need5 ?_ | refine need6 ?_ | refine need7 ?_ | intro _ | (refine bif_intro (fun _ => ?_) (fun _ => ?_)))
  all_goals subst_vars
  all_goals simp only [pWin, pI, wout, T20, I, May, cond_or, leSV, leSVs, leVal, decide_true, decide_false, cond_true, cond_false, Bool.not_eq_eq_eq_not, Bool.not_true, Bool.not_false, Bool.not_not, Bool.true_and, Bool.and_true, Bool.false_and, Bool.and_false, Bool.or_true, Bool.true_or, Bool.or_false, Bool.false_or, Bool.not_eq_true, Bool.not_eq_false, decide_eq_true_eq, decide_eq_false_iff_not, decide_eq_decide, Bool.and_eq_true, Bool.or_eq_true, Bool.and_eq_false_iff, Bool.or_eq_false_iff, ← Bool.decide_and, ← Bool.decide_or, ← decide_not, Bool.decide_eq_true, beq_iff_eq, beq_eq_false_iff_ne, ne_eq, and_true, true_and, true_eq_decide_iff, false_eq_decide_iff, if_true, if_false, IntKind.min, eq_self, kmin, kmax, Bool.true_eq, Bool.false_eq, decide_eq_true_iff, Bool.cond_true_left, Bool.cond_false_left, Bool.cond_true_right, Bool.cond_false_right] at *
  all_goals (try omega)
theorem okG3 : PCok Try.prog G3 := addPC_ok okG2 mixed pMay14
set_option maxHeartbeats 4000000 in
theorem pMeet9 : Pure Try.prog G3 noLoops 100 9 kMeet9 := pure_of fun ((a, b, _), (c, d, _), _) hf _ => by
  simp only [pWin, pI, wout, T20, I, May, Meet, meetE, meetL, Has, Wait, waitN, Shift, shiftE, shiftL, ParL.cons, ParL.nil, Par.agg, Par.int, Par.intAny, Par.bool, Par.str, Par.ro] at hf
  refine ⟨rfl, Eq.mpr (t9 a b c d fun u => leSV u (.tup [wout (meetE a b c d) (meetL a b c d), .b (decide (Meet a b c d))])) ?_⟩
  repeat' (first | refine need1 ?_ | refine need2 ?_ | refine need3 ?_ | refine need4 ?_ | refine need5 ?_ | refine need6 ?_ | refine need7 ?_ | intro _ | (refine bif_intro (fun _ => ?_) (fun _ => ?_)))
  all_goals subst_vars
  all_goals simp only [pWin, pI, wout, T20, I, May, Meet, meetE, meetL, Has, Wait, waitN, Shift, shiftE, shiftL, cond_or, leSV, leSVs, leVal, decide_true, decide_false, cond_true, cond_false, Bool.not_eq_eq_eq_not, Bool.not_true, Bool.not_false, Bool.not_not, Bool.true_and, Bool.and_true, Bool.false_and, Bool.and_false, Bool.or_true, Bool.true_or, Bool.or_false, Bool.false_or, Bool.not_eq_true, Bool.not_eq_false, decide_eq_true_eq, decide_eq_false_iff_not, decide_eq_decide, Bool.and_eq_true, Bool.or_eq_true, Bool.and_eq_false_iff, Bool.or_eq_false_iff, ← Bool.decide_and, ← Bool.decide_or, ← decide_not, Bool.decide_eq_true, beq_iff_eq, beq_eq_false_iff_ne, ne_eq, and_true, true_and, true_eq_decide_iff, false_eq_decide_iff, if_true, if_false, IntKind.min, eq_self, kmin, kmax, Bool.true_eq, Bool.false_eq, decide_eq_true_iff, Bool.cond_true_left, Bool.cond_false_left, Bool.cond_true_right, Bool.cond_false_right] at *
  all_goals (try omega)
theorem okG4 : PCok Try.prog G4 := addPC_ok okG3 mixed pMeet9
set_option maxHeartbeats 4000000 in
theorem pMeet13 : Pure Try.prog G4 noLoops 100 13 kMeet13 := pure_of fun ((a, b, _), (c, d, _), _) hf _ => by
  simp only [pWin, pI, wout, T20, I, May, Meet, meetE, meetL, Has, Wait, waitN, Shift, shiftE, shiftL, ParL.cons, ParL.nil, Par.agg, Par.int, Par.intAny, Par.bool, Par.str, Par.ro] at hf
  refine ⟨rfl, Eq.mpr (t13 a b c d fun u => leSV u (.tup [wout (meetE a b c d) (meetL a b c d), .b (decide (Meet a b c d))])) ?_⟩
  repeat' (first | refine need1 ?_ | refine need2 ?_ | refine need3 ?_ | refine need4 ?_ | refine need5 ?_ | refine need6 ?_ | refine need7 ?_ | intro _ | (refine bif_intro (fun _ => ?_) (fun _ => ?_)))
  all_goals subst_vars
  all_goals simp only [pWin, pI, wout, T20, I, May, Meet, meetE, meetL, Has, Wait, waitN, Shift, shiftE, shiftL, cond_or, leSV, leSVs, leVal, decide_true, decide_false, cond_true, cond_false, Bool.not_eq_eq_eq_not, Bool.not_true, Bool.not_false, Bool.not_not, Bool.true_and, Bool.and_true, Bool.false_and, Bool.and_false, Bool.or_true, Bool.true_or, Bool.or_false, Bool.false_or, Bool.not_eq_true, Bool.not_eq_false, decide_eq_true_eq, decide_eq_false_iff_not, decide_eq_decide, Bool.and_eq_true, Bool.or_eq_true, Bool.and_eq_false_iff, Bool.or_eq_false_iff, ← Bool.decide_and, ← Bool.decide_or, ← decide_not, Bool.decide_eq_true, beq_iff_eq, beq_eq_false_iff_ne, ne_eq, and_true, true_and, true_eq_decide_iff, false_eq_decide_iff, if_true, if_false, IntKind.min, eq_self, kmin, kmax, Bool.true_eq, Bool.false_eq, decide_eq_true_iff, Bool.cond_true_left, Bool.cond_false_left, Bool.cond_true_right, Bool.cond_false_right] at *
  all_goals (try omega)
theorem okG5 : PCok Try.prog G5 := addPC_ok okG4 mixed pMeet13
set_option maxHeartbeats 4000000 in
theorem pHas10 : Pure Try.prog G5 noLoops 100 10 kHas10 := pure_of fun ((a, b, _), t, _) hf _ => by
  simp only [pWin, pI, wout, T20, I, May, Meet, meetE, meetL, Has, Wait, waitN, Shift, shiftE, shiftL, ParL.cons, ParL.nil, Par.agg, Par.int, Par.intAny, Par.bool, Par.str, Par.ro] at hf
  refine ⟨rfl, Eq.mpr (t10 a b t fun u => leSV u (.b (decide (Has a b t)))) ?_⟩
  repeat' (first | refine need1 ?_ | refine need2 ?_ | refine need3 ?_ | refine need4 ?_ | refine need5 ?_ | refine need6 ?_ | refine need7 ?_ | intro _ | (refine bif_intro (fun _ => ?_) (fun _ => ?_)))
  all_goals subst_vars
  all_goals simp only [pWin, pI, wout, T20, I, May, Meet, meetE, meetL, Has, Wait, waitN, Shift, shiftE, shiftL, cond_or, leSV, leSVs, leVal, decide_true, decide_false, cond_true, cond_false, Bool.not_eq_eq_eq_not, Bool.not_true, Bool.not_false, Bool.not_not, Bool.true_and, Bool.and_true, Bool.false_and, Bool.and_false, Bool.or_true, Bool.true_or, Bool.or_false, Bool.false_or, Bool.not_eq_true, Bool.not_eq_false, decide_eq_true_eq, decide_eq_false_iff_not, decide_eq_decide, Bool.and_eq_true, Bool.or_eq_true, Bool.and_eq_false_iff, Bool.or_eq_false_iff, ← Bool.decide_and, ← Bool.decide_or, ← decide_not, Bool.decide_eq_true, beq_iff_eq, beq_eq_false_iff_ne, ne_eq, and_true, true_and, true_eq_decide_iff, false_eq_decide_iff, if_true, if_false, IntKind.min, eq_self, kmin, kmax, Bool.true_eq, Bool.false_eq, decide_eq_true_iff, Bool.cond_true_left, Bool.cond_false_left, Bool.cond_true_right, Bool.cond_false_right] at *
  all_goals (try omega)
theorem okG6 : PCok Try.prog G6 := addPC_ok okG5 mixed pHas10
set_option maxHeartbeats 4000000 in
theorem pHas18 : Pure Try.prog G6 noLoops 100 18 kHas18 := pure_of fun ((a, b, _), t, _) hf _ => by
  simp only [pWin, pI, wout, T20, I, May, Meet, meetE, meetL, Has, Wait, waitN, Shift, shiftE, shiftL, ParL.cons, ParL.nil, Par.agg, Par.int, Par.intAny, Par.bool, Par.str, Par.ro] at hf
  refine ⟨rfl, Eq.mpr (t18 a b t fun u => leSV u (.b (decide (Has a b t)))) ?_⟩
  repeat' (first | refine need1 ?_ | refine need2 ?_ | refine need3 ?_ | refine need4 ?_ | refine need5 ?_ | refine need6 ?_ | refine need7 ?_ | intro _ | (refine bif_intro (fun _ => ?_) (fun _ => ?_)))
  all_goals subst_vars
  all_goals simp only [pWin, pI, wout, T20, I, May, Meet, meetE, meetL, Has, Wait, waitN, Shift, shiftE, shiftL, cond_or, leSV, leSVs, leVal, decide_true, decide_false, cond_true, cond_false, Bool.not_eq_eq_eq_not, Bool.not_true, Bool.not_false, Bool.not_not, Bool.true_and, Bool.and_true, Bool.false_and, Bool.and_false, Bool.or_true, Bool.true_or, Bool.or_false, Bool.false_or, Bool.not_eq_true, Bool.not_eq_false, decide_eq_true_eq, decide_eq_false_iff_not, decide_eq_decide, Bool.and_eq_true, Bool.or_eq_true, Bool.and_eq_false_iff, Bool.or_eq_false_iff, ← Bool.decide_and, ← Bool.decide_or, ← decide_not, Bool.decide_eq_true, beq_iff_eq, beq_eq_false_iff_ne, ne_eq, and_true, true_and, true_eq_decide_iff, false_eq_decide_iff, if_true, if_false, IntKind.min, eq_self, kmin, kmax, Bool.true_eq, Bool.false_eq, decide_eq_true_iff, Bool.cond_true_left, Bool.cond_false_left, Bool.cond_true_right, Bool.cond_false_right] at *
  all_goals (try omega)
theorem okG7 : PCok Try.prog G7 := addPC_ok okG6 mixed pHas18
set_option maxHeartbeats 4000000 in
theorem pWait11 : Pure Try.prog G7 noLoops 100 11 kWait11 := pure_of fun ((a, b, _), t, _) hf _ => by
  simp only [pWin, pI, wout, T20, I, May, Meet, meetE, meetL, Has, Wait, waitN, Shift, shiftE, shiftL, ParL.cons, ParL.nil, Par.agg, Par.int, Par.intAny, Par.bool, Par.str, Par.ro] at hf
  refine ⟨rfl, Eq.mpr (t11 a b t fun u => leSV u (.tup [T20 (waitN a b t), .b (decide (Wait a b t))])) ?_⟩
  repeat' (first | refine need1 ?_ | refine need2 ?_ | refine need3 ?_ | refine need4 ?_ | refine need5 ?_ | refine need6 ?_ | refine need7 ?_ | intro _ | (refine bif_intro (fun _ => ?_) (fun _ => ?_)))
  all_goals subst_vars
  all_goals simp only [pWin, pI, wout, T20, I, May, Meet, meetE, meetL, Has, Wait, waitN, Shift, shiftE, shiftL, cond_or, leSV, leSVs, leVal, decide_true, decide_false, cond_true, cond_false, Bool.not_eq_eq_eq_not, Bool.not_true, Bool.not_false, Bool.not_not, Bool.true_and, Bool.and_true, Bool.false_and, Bool.and_false, Bool.or_true, Bool.true_or, Bool.or_false, Bool.false_or, Bool.not_eq_true, Bool.not_eq_false, decide_eq_true_eq, decide_eq_false_iff_not, decide_eq_decide, Bool.and_eq_true, Bool.or_eq_true, Bool.and_eq_false_iff, Bool.or_eq_false_iff, ← Bool.decide_and, ← Bool.decide_or, ← decide_not, Bool.decide_eq_true, beq_iff_eq, beq_eq_false_iff_ne, ne_eq, and_true, true_and, true_eq_decide_iff, false_eq_decide_iff, if_true, if_false, IntKind.min, eq_self, kmin, kmax, Bool.true_eq, Bool.false_eq, decide_eq_true_iff, Bool.cond_true_left, Bool.cond_false_left, Bool.cond_true_right, Bool.cond_false_right] at *
  all_goals (try omega)
theorem okG8 : PCok Try.prog G8 := addPC_ok okG7 mixed pWait11
set_option maxHeartbeats 4000000 in
theorem pWait16 : Pure Try.prog G8 noLoops 100 16 kWait16 := pure_of fun ((a, b, _), t, _) hf _ => by
  simp only [pWin, pI, wout, T20, I, May, Meet, meetE, meetL, Has, Wait, waitN, Shift, shiftE, shiftL, ParL.cons, ParL.nil, Par.agg, Par.int, Par.intAny, Par.bool, Par.str, Par.ro] at hf
  refine ⟨rfl, Eq.mpr (t16 a b t fun u => leSV u (.tup [T20 (waitN a b t), .b (decide (Wait a b t))])) ?_⟩
  repeat' (first | refine need1 ?_ | refine need2 ?_ | refine need3 ?_ | refine need4 ?_ | refine need5 ?_ | refine need6 ?_ | refine need7 ?_ | intro _ | (refine bif_intro (fun _ => ?_) (fun _ => ?_)))
  all_goals subst_vars
  all_goals simp only [pWin, pI, wout, T20, I, May, Meet, meetE, meetL, Has, Wait, waitN, Shift, shiftE, shiftL, cond_or, leSV, leSVs, leVal, decide_true, decide_false, cond_true, cond_false, Bool.not_eq_eq_eq_not, Bool.not_true, Bool.not_false, Bool.not_not, Bool.true_and, Bool.and_true, Bool.false_and, Bool.and_false, Bool.or_true, Bool.true_or, Bool.or_false, Bool.false_or, Bool.not_eq_true, Bool.not_eq_false, decide_eq_true_eq, decide_eq_false_iff_not, decide_eq_decide, Bool.and_eq_true, Bool.or_eq_true, Bool.and_eq_false_iff, Bool.or_eq_false_iff, ← Bool.decide_and, ← Bool.decide_or, ← decide_not, Bool.decide_eq_true, beq_iff_eq, beq_eq_false_iff_ne, ne_eq, and_true, true_and, true_eq_decide_iff, false_eq_decide_iff, if_true, if_false, IntKind.min, eq_self, kmin, kmax, Bool.true_eq, Bool.false_eq, decide_eq_true_iff, Bool.cond_true_left, Bool.cond_false_left, Bool.cond_true_right, Bool.cond_false_right] at *
  all_goals (try omega)
theorem okG9 : PCok Try.prog G9 := addPC_ok okG8 mixed pWait16
set_option maxHeartbeats 4000000 in
theorem pShift12 : Pure Try.prog G9 noLoops 100 12 kShift12 := pure_of fun ((a, b, _), t, _) hf _ => by
  simp only [pWin, pI, wout, T20, I, May, Meet, meetE, meetL, Has, Wait, waitN, Shift, shiftE, shiftL, ParL.cons, ParL.nil, Par.agg, Par.int, Par.intAny, Par.bool, Par.str, Par.ro] at hf
  have h1 := wr64 (0 - a)
  have h2 := wr64 (1048576 - b)
  have h3 := wr64 (a + t)
  have h4 := wr64 (b + t)
  refine ⟨rfl, Eq.mpr (t12 a b t fun u => leSV u (.tup [wout (shiftE a b t) (shiftL a b t), .b (decide (Shift a b t))])) ?_⟩
  repeat' (first | refine need1 ?_ | refine need2 ?_ | refine need3 ?_ | refine need4 ?_ | refine need5 ?_ | refine need6 ?_ | refine need7 ?_ | intro _ | (refine bif_intro (fun _ => ?_) (fun _ => ?_)))
  all_goals subst_vars
  all_goals simp only [pWin, pI, wout, T20, I, May, Meet, meetE, meetL, Has, Wait, waitN, Shift, shiftE, shiftL, cond_or, leSV, leSVs, leVal, decide_true, decide_false, cond_true, cond_false, Bool.not_eq_eq_eq_not, Bool.not_true, Bool.not_false, Bool.not_not, Bool.true_and, Bool.and_true, Bool.false_and, Bool.and_false, Bool.or_true, Bool.true_or, Bool.or_false, Bool.false_or, Bool.not_eq_true, Bool.not_eq_false, decide_eq_true_eq, decide_eq_false_iff_not, decide_eq_decide, Bool.and_eq_true, Bool.or_eq_true, Bool.and_eq_false_iff, Bool.or_eq_false_iff, ← Bool.decide_and, ← Bool.decide_or, ← decide_not, Bool.decide_eq_true, beq_iff_eq, beq_eq_false_iff_ne, ne_eq, and_true, true_and, true_eq_decide_iff, false_eq_decide_iff, if_true, if_false, IntKind.min, eq_self, kmin, kmax, Bool.true_eq, Bool.false_eq, decide_eq_true_iff, Bool.cond_true_left, Bool.cond_false_left, Bool.cond_true_right, Bool.cond_false_right] at *
  all_goals (try omega)
theorem okG10 : PCok Try.prog G10 := addPC_ok okG9 mixed pShift12
set_option maxHeartbeats 4000000 in
theorem pShift17 : Pure Try.prog G10 noLoops 100 17 kShift17 := pure_of fun ((a, b, _), t, _) hf _ => by
  simp only [pWin, pI, wout, T20, I, May, Meet, meetE, meetL, Has, Wait, waitN, Shift, shiftE, shiftL, ParL.cons, ParL.nil, Par.agg, Par.int, Par.intAny, Par.bool, Par.str, Par.ro] at hf
  have h1 := wr64 (0 - a)
  have h2 := wr64 (1048576 - b)
  have h3 := wr64 (a + t)
  have h4 := wr64 (b + t)
  refine ⟨rfl, Eq.mpr (t17 a b t fun u => leSV u (.tup [wout (shiftE a b t) (shiftL a b t), .b (decide (Shift a b t))])) ?_⟩
  repeat' (first | refine need1 ?_ | refine need2 ?_ | refine need3 ?_ | refine need4 ?_ | refine need5 ?_ | refine need6 ?_ | refine need7 ?_ | intro _ | (refine bif_intro (fun _ => ?_) (fun _ => ?_)))
  all_goals subst_vars
  all_goals simp only [pWin, pI, wout, T20, I, May, Meet, meetE, meetL, Has, Wait, waitN, Shift, shiftE, shiftL, cond_or, leSV, leSVs, leVal, decide_true, decide_false, cond_true, cond_false, Bool.not_eq_eq_eq_not, Bool.not_true, Bool.not_false, Bool.not_not, Bool.true_and, Bool.and_true, Bool.false_and, Bool.and_false, Bool.or_true, Bool.true_or, Bool.or_false, Bool.false_or, Bool.not_eq_true, Bool.not_eq_false, decide_eq_true_eq, decide_eq_false_iff_not, decide_eq_decide, Bool.and_eq_true, Bool.or_eq_true, Bool.and_eq_false_iff, Bool.or_eq_false_iff, ← Bool.decide_and, ← Bool.decide_or, ← decide_not, Bool.decide_eq_true, beq_iff_eq, beq_eq_false_iff_ne, ne_eq, and_true, true_and, true_eq_decide_iff, false_eq_decide_iff, if_true, if_false, IntKind.min, eq_self, kmin, kmax, Bool.true_eq, Bool.false_eq, decide_eq_true_iff, Bool.cond_true_left, Bool.cond_false_left, Bool.cond_true_right, Bool.cond_false_right] at *
  all_goals (try omega)
theorem okG11 : PCok Try.prog G11 := addPC_ok okG10 mixed pShift17
set_option maxHeartbeats 4000000 in
theorem pSpan : Pure Try.prog G11 noLoops 100 8 kSpan := pure_of fun ((a, la, ha), (b, lb, hb), _) hf _ => by
  simp only [pWin, pI, wout, T20, I, ParL.cons, ParL.nil, Par.agg, Par.int, Par.intAny, Par.bool, Par.str, Par.ro] at hf
  refine ⟨rfl, Eq.mpr (t8 a b fun u => leSV u (.agg [.i .i64 a la ha, .i .i64 b lb hb])) ?_⟩
  repeat' (first | refine need1 ?_ | refine need2 ?_ | refine need3 ?_ | refine need4 ?_ | refine need5 ?_ | refine need6 ?_ | refine need7 ?_ | intro _ | (refine bif_intro (fun _ => ?_) (fun _ => ?_)))
  all_goals subst_vars
  all_goals simp only [pWin, pI, wout, T20, I, cond_or, leSV, leSVs, leVal, decide_true, decide_false, cond_true, cond_false, Bool.not_eq_eq_eq_not, Bool.not_true, Bool.not_false, Bool.not_not, Bool.true_and, Bool.and_true, Bool.false_and, Bool.and_false, Bool.or_true, Bool.true_or, Bool.or_false, Bool.false_or, Bool.not_eq_true, Bool.not_eq_false, decide_eq_true_eq, decide_eq_false_iff_not, decide_eq_decide, Bool.and_eq_true, Bool.or_eq_true, Bool.and_eq_false_iff, Bool.or_eq_false_iff, ← Bool.decide_and, ← Bool.decide_or, ← decide_not, Bool.decide_eq_true, beq_iff_eq, beq_eq_false_iff_ne, ne_eq, and_true, true_and, true_eq_decide_iff, false_eq_decide_iff, if_true, if_false, IntKind.min, eq_self, kmin, kmax, Bool.true_eq, Bool.false_eq, decide_eq_true_iff, Bool.cond_true_left, Bool.cond_false_left, Bool.cond_true_right, Bool.cond_false_right] at *
  all_goals (try omega)
theorem okG12 : PCok Try.prog G12 := addPC_ok okG11 mixed pSpan
set_option maxHeartbeats 4000000 in
theorem pWorks : Pure Try.prog G12 noLoops 100 7 kWorks := pure_of fun _ hf _ => by
  simp only [ParL.cons, ParL.nil, Par.agg, Par.int, Par.intAny, Par.bool, Par.str, Par.ro] at hf
  refine ⟨rfl, Eq.mpr (t7  fun u => leSV u (.v (.bool true))) ?_⟩
  repeat' (first | refine need1 ?_ | refine need2 ?_ | refine need3 ?_ | refine need4 ?_ | refine need5 ?_ | refine need6 ?_ | refine need7 ?_ | intro _ | (refine bif_intro (fun _ => ?_) (fun _ => ?_)))
  all_goals rfl
theorem okG13 : PCok Try.prog G13 := addPC_ok okG12 mixed pWorks
end Go.Proofs.Ytpafjmedjlcgcaa
