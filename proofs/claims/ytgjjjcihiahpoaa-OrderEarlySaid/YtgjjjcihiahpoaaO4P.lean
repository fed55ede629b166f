/- The contracts hold. No condition. -/
import Derived.Test.YtgjjjcihiahpoaaO4T
namespace Go.Proofs.Ytgjjjcihiahpoaa
open Go.Eng
set_option linter.unusedSimpArgs false
theorem mixed : Try.prog.follows .mixedOrders = true := by kernel_rfl
theorem okG0 : PCok Try.prog G0 := noPC_ok
set_option maxHeartbeats 4000000 in
theorem pOn36 : Pure Try.prog G0 36 kOn36 := pure_of (fun (a, _) => noLoops) 100 fun (a, _) hf _ => by
  simp only [pPl, pI, pReq, pVeh, req, vehS, plS, I, B, T20, ParL.cons, ParL.nil, Par.agg, Par.int, Par.intR, Par.intAny, Par.bool, Par.str, Par.ro, Par.rs] at hf
  refine ⟨rfl, Eq.mpr (t36 a fun u => leSV u (.b (decide (0 ≤ a ∧ a ≤ 1023)))) ?_⟩
  repeat' (first | (refine introW64 ?_; intro _ _ _ _ _) | (refine introWu64 ?_; intro _ _) | refine need1 ?_ | refine need2 ?_ | refine need3 ?_ | refine need4 ?_ | refine need5 ?_ | refine need6 ?_ | refine need7 ?_ | intro _ | (refine bif_intro (fun _ => ?_) (fun _ => ?_)))
  all_goals subst_vars
  all_goals simp only [pPl, pI, pReq, pVeh, req, vehS, plS, I, B, T20, cond_or, leSV, leSVs, leVal, decide_true, decide_false, cond_true, cond_false, Bool.not_eq_eq_eq_not, Bool.not_true, Bool.not_false, Bool.not_not, Bool.true_and, Bool.and_true, Bool.false_and, Bool.and_false, Bool.or_true, Bool.true_or, Bool.or_false, Bool.false_or, Bool.not_eq_true, Bool.not_eq_false, decide_eq_true_eq, decide_eq_false_iff_not, decide_eq_decide, Bool.and_eq_true, Bool.or_eq_true, Bool.and_eq_false_iff, Bool.or_eq_false_iff, ← Bool.decide_and, ← Bool.decide_or, ← decide_not, Bool.decide_eq_true, beq_iff_eq, beq_eq_false_iff_ne, ne_eq, and_true, true_and, true_eq_decide_iff, false_eq_decide_iff, if_true, if_false, IntKind.min, eq_self, kmin, kmax, Bool.true_eq, Bool.false_eq, decide_eq_true_iff, Bool.cond_true_left, Bool.cond_false_left, Bool.cond_true_right, Bool.cond_false_right] at *
  all_goals (try omega)
theorem okG1 : PCok Try.prog G1 := addPC_ok okG0 mixed pOn36
set_option maxHeartbeats 4000000 in
theorem pPM26 : Pure Try.prog G1 26 kPM26 := pure_of (fun ((a, b, _), _) => noLoops) 100 fun ((a, b, _), _) hf _ => by
  simp only [pPl, pI, pReq, pVeh, req, vehS, plS, I, B, T20, PM, ParL.cons, ParL.nil, Par.agg, Par.int, Par.intR, Par.intAny, Par.bool, Par.str, Par.ro, Par.rs] at hf
  refine ⟨rfl, Eq.mpr (t26 a b fun u => leSV u (.b (decide (PM a b)))) ?_⟩
  repeat' (first | (refine introW64 ?_; intro _ _ _ _ _) | (refine introWu64 ?_; intro _ _) | refine need1 ?_ | refine need2 ?_ | refine need3 ?_ | refine need4 ?_ | refine need5 ?_ | refine need6 ?_ | refine need7 ?_ | intro _ | (refine bif_intro (fun _ => ?_) (fun _ => ?_)))
  all_goals subst_vars
  all_goals simp only [pPl, pI, pReq, pVeh, req, vehS, plS, I, B, T20, PM, cond_or, leSV, leSVs, leVal, decide_true, decide_false, cond_true, cond_false, Bool.not_eq_eq_eq_not, Bool.not_true, Bool.not_false, Bool.not_not, Bool.true_and, Bool.and_true, Bool.false_and, Bool.and_false, Bool.or_true, Bool.true_or, Bool.or_false, Bool.false_or, Bool.not_eq_true, Bool.not_eq_false, decide_eq_true_eq, decide_eq_false_iff_not, decide_eq_decide, Bool.and_eq_true, Bool.or_eq_true, Bool.and_eq_false_iff, Bool.or_eq_false_iff, ← Bool.decide_and, ← Bool.decide_or, ← decide_not, Bool.decide_eq_true, beq_iff_eq, beq_eq_false_iff_ne, ne_eq, and_true, true_and, true_eq_decide_iff, false_eq_decide_iff, if_true, if_false, IntKind.min, eq_self, kmin, kmax, Bool.true_eq, Bool.false_eq, decide_eq_true_iff, Bool.cond_true_left, Bool.cond_false_left, Bool.cond_true_right, Bool.cond_false_right] at *
  all_goals (try omega)
theorem okG2 : PCok Try.prog G2 := addPC_ok okG1 mixed pPM26
set_option maxHeartbeats 4000000 in
theorem pPM29 : Pure Try.prog G2 29 kPM29 := pure_of (fun ((a, b, _), _) => noLoops) 100 fun ((a, b, _), _) hf _ => by
  simp only [pPl, pI, pReq, pVeh, req, vehS, plS, I, B, T20, PM, ParL.cons, ParL.nil, Par.agg, Par.int, Par.intR, Par.intAny, Par.bool, Par.str, Par.ro, Par.rs] at hf
  refine ⟨rfl, Eq.mpr (t29 a b fun u => leSV u (.b (decide (PM a b)))) ?_⟩
  repeat' (first | (refine introW64 ?_; intro _ _ _ _ _) | (refine introWu64 ?_; intro _ _) | refine need1 ?_ | refine need2 ?_ | refine need3 ?_ | refine need4 ?_ | refine need5 ?_ | refine need6 ?_ | refine need7 ?_ | intro _ | (refine bif_intro (fun _ => ?_) (fun _ => ?_)))
  all_goals subst_vars
  all_goals simp only [pPl, pI, pReq, pVeh, req, vehS, plS, I, B, T20, PM, cond_or, leSV, leSVs, leVal, decide_true, decide_false, cond_true, cond_false, Bool.not_eq_eq_eq_not, Bool.not_true, Bool.not_false, Bool.not_not, Bool.true_and, Bool.and_true, Bool.false_and, Bool.and_false, Bool.or_true, Bool.true_or, Bool.or_false, Bool.false_or, Bool.not_eq_true, Bool.not_eq_false, decide_eq_true_eq, decide_eq_false_iff_not, decide_eq_decide, Bool.and_eq_true, Bool.or_eq_true, Bool.and_eq_false_iff, Bool.or_eq_false_iff, ← Bool.decide_and, ← Bool.decide_or, ← decide_not, Bool.decide_eq_true, beq_iff_eq, beq_eq_false_iff_ne, ne_eq, and_true, true_and, true_eq_decide_iff, false_eq_decide_iff, if_true, if_false, IntKind.min, eq_self, kmin, kmax, Bool.true_eq, Bool.false_eq, decide_eq_true_iff, Bool.cond_true_left, Bool.cond_false_left, Bool.cond_true_right, Bool.cond_false_right] at *
  all_goals (try omega)
theorem okG3 : PCok Try.prog G3 := addPC_ok okG2 mixed pPM29
set_option maxHeartbeats 4000000 in
theorem pWM27 : Pure Try.prog G3 27 kWM27 := pure_of (fun ((a, b, _), _) => noLoops) 100 fun ((a, b, _), _) hf _ => by
  simp only [pPl, pI, pReq, pVeh, req, vehS, plS, I, B, T20, WM, ParL.cons, ParL.nil, Par.agg, Par.int, Par.intR, Par.intAny, Par.bool, Par.str, Par.ro, Par.rs] at hf
  refine ⟨rfl, Eq.mpr (t27 a b fun u => leSV u (.b (decide (WM a b)))) ?_⟩
  repeat' (first | (refine introW64 ?_; intro _ _ _ _ _) | (refine introWu64 ?_; intro _ _) | refine need1 ?_ | refine need2 ?_ | refine need3 ?_ | refine need4 ?_ | refine need5 ?_ | refine need6 ?_ | refine need7 ?_ | intro _ | (refine bif_intro (fun _ => ?_) (fun _ => ?_)))
  all_goals subst_vars
  all_goals simp only [pPl, pI, pReq, pVeh, req, vehS, plS, I, B, T20, WM, cond_or, leSV, leSVs, leVal, decide_true, decide_false, cond_true, cond_false, Bool.not_eq_eq_eq_not, Bool.not_true, Bool.not_false, Bool.not_not, Bool.true_and, Bool.and_true, Bool.false_and, Bool.and_false, Bool.or_true, Bool.true_or, Bool.or_false, Bool.false_or, Bool.not_eq_true, Bool.not_eq_false, decide_eq_true_eq, decide_eq_false_iff_not, decide_eq_decide, Bool.and_eq_true, Bool.or_eq_true, Bool.and_eq_false_iff, Bool.or_eq_false_iff, ← Bool.decide_and, ← Bool.decide_or, ← decide_not, Bool.decide_eq_true, beq_iff_eq, beq_eq_false_iff_ne, ne_eq, and_true, true_and, true_eq_decide_iff, false_eq_decide_iff, if_true, if_false, IntKind.min, eq_self, kmin, kmax, Bool.true_eq, Bool.false_eq, decide_eq_true_iff, Bool.cond_true_left, Bool.cond_false_left, Bool.cond_true_right, Bool.cond_false_right] at *
  all_goals (try omega)
theorem okG4 : PCok Try.prog G4 := addPC_ok okG3 mixed pWM27
set_option maxHeartbeats 4000000 in
theorem pWM30 : Pure Try.prog G4 30 kWM30 := pure_of (fun ((a, b, _), _) => noLoops) 100 fun ((a, b, _), _) hf _ => by
  simp only [pPl, pI, pReq, pVeh, req, vehS, plS, I, B, T20, WM, ParL.cons, ParL.nil, Par.agg, Par.int, Par.intR, Par.intAny, Par.bool, Par.str, Par.ro, Par.rs] at hf
  refine ⟨rfl, Eq.mpr (t30 a b fun u => leSV u (.b (decide (WM a b)))) ?_⟩
  repeat' (first | (refine introW64 ?_; intro _ _ _ _ _) | (refine introWu64 ?_; intro _ _) | refine need1 ?_ | refine need2 ?_ | refine need3 ?_ | refine need4 ?_ | refine need5 ?_ | refine need6 ?_ | refine need7 ?_ | intro _ | (refine bif_intro (fun _ => ?_) (fun _ => ?_)))
  all_goals subst_vars
  all_goals simp only [pPl, pI, pReq, pVeh, req, vehS, plS, I, B, T20, WM, cond_or, leSV, leSVs, leVal, decide_true, decide_false, cond_true, cond_false, Bool.not_eq_eq_eq_not, Bool.not_true, Bool.not_false, Bool.not_not, Bool.true_and, Bool.and_true, Bool.false_and, Bool.and_false, Bool.or_true, Bool.true_or, Bool.or_false, Bool.false_or, Bool.not_eq_true, Bool.not_eq_false, decide_eq_true_eq, decide_eq_false_iff_not, decide_eq_decide, Bool.and_eq_true, Bool.or_eq_true, Bool.and_eq_false_iff, Bool.or_eq_false_iff, ← Bool.decide_and, ← Bool.decide_or, ← decide_not, Bool.decide_eq_true, beq_iff_eq, beq_eq_false_iff_ne, ne_eq, and_true, true_and, true_eq_decide_iff, false_eq_decide_iff, if_true, if_false, IntKind.min, eq_self, kmin, kmax, Bool.true_eq, Bool.false_eq, decide_eq_true_iff, Bool.cond_true_left, Bool.cond_false_left, Bool.cond_true_right, Bool.cond_false_right] at *
  all_goals (try omega)
theorem okG5 : PCok Try.prog G5 := addPC_ok okG4 mixed pWM30
set_option maxHeartbeats 4000000 in
theorem pIn28 : Pure Try.prog G5 28 kIn28 := pure_of (fun (n, a, b, _) => noLoops) 100 fun (n, a, b, _) hf _ => by
  simp only [pPl, pI, pReq, pVeh, req, vehS, plS, I, B, T20, ParL.cons, ParL.nil, Par.agg, Par.int, Par.intR, Par.intAny, Par.bool, Par.str, Par.ro, Par.rs] at hf
  refine ⟨rfl, Eq.mpr (t28 n a b fun u => leSV u (.b (decide (a ≤ n ∧ n ≤ b)))) ?_⟩
  repeat' (first | (refine introW64 ?_; intro _ _ _ _ _) | (refine introWu64 ?_; intro _ _) | refine need1 ?_ | refine need2 ?_ | refine need3 ?_ | refine need4 ?_ | refine need5 ?_ | refine need6 ?_ | refine need7 ?_ | intro _ | (refine bif_intro (fun _ => ?_) (fun _ => ?_)))
  all_goals subst_vars
  all_goals simp only [pPl, pI, pReq, pVeh, req, vehS, plS, I, B, T20, cond_or, leSV, leSVs, leVal, decide_true, decide_false, cond_true, cond_false, Bool.not_eq_eq_eq_not, Bool.not_true, Bool.not_false, Bool.not_not, Bool.true_and, Bool.and_true, Bool.false_and, Bool.and_false, Bool.or_true, Bool.true_or, Bool.or_false, Bool.false_or, Bool.not_eq_true, Bool.not_eq_false, decide_eq_true_eq, decide_eq_false_iff_not, decide_eq_decide, Bool.and_eq_true, Bool.or_eq_true, Bool.and_eq_false_iff, Bool.or_eq_false_iff, ← Bool.decide_and, ← Bool.decide_or, ← decide_not, Bool.decide_eq_true, beq_iff_eq, beq_eq_false_iff_ne, ne_eq, and_true, true_and, true_eq_decide_iff, false_eq_decide_iff, if_true, if_false, IntKind.min, eq_self, kmin, kmax, Bool.true_eq, Bool.false_eq, decide_eq_true_iff, Bool.cond_true_left, Bool.cond_false_left, Bool.cond_true_right, Bool.cond_false_right] at *
  all_goals (try omega)
theorem okG6 : PCok Try.prog G6 := addPC_ok okG5 mixed pIn28
set_option maxHeartbeats 4000000 in
theorem pFirst25a : Pure Try.prog G6 25 kFirst25a := pure_of (fun ((a, x, b, y, c, z, _), _) => noLoops) 100 fun ((a, x, b, y, c, z, _), _) hf _ => by
  simp only [pPl, pI, pReq, pVeh, req, vehS, plS, I, B, T20, p23, E23, nd3, nd2, ParL.cons, ParL.nil, Par.agg, Par.int, Par.intR, Par.intAny, Par.bool, Par.str, Par.ro, Par.rs] at hf
  refine ⟨rfl, Eq.mpr (t25a a b c x y z fun u => leSV u (E23 (nd3 a b c x y z))) ?_⟩
  repeat' (first | (refine introW64 ?_; intro _ _ _ _ _) | (refine introWu64 ?_; intro _ _) | refine need1 ?_ | refine need2 ?_ | refine need3 ?_ | refine need4 ?_ | refine need5 ?_ | refine need6 ?_ | refine need7 ?_ | intro _ | (refine bif_intro (fun _ => ?_) (fun _ => ?_)))
  all_goals simp only [p23, E23, nd3, nd2] at *
  all_goals (cases a <;> cases b <;> (try cases c) <;> simp_all [leSV, E23, nd3, nd2] <;> omega)
set_option maxHeartbeats 4000000 in
theorem pFirst25b : Pure Try.prog G6 25 kFirst25b := pure_of (fun ((a, x, b, y, _), _) => noLoops) 100 fun ((a, x, b, y, _), _) hf _ => by
  simp only [pPl, pI, pReq, pVeh, req, vehS, plS, I, B, T20, p23, E23, nd3, nd2, ParL.cons, ParL.nil, Par.agg, Par.int, Par.intR, Par.intAny, Par.bool, Par.str, Par.ro, Par.rs] at hf
  refine ⟨rfl, Eq.mpr (t25b a b x y fun u => leSV u (E23 (nd2 a b x y))) ?_⟩
  repeat' (first | (refine introW64 ?_; intro _ _ _ _ _) | (refine introWu64 ?_; intro _ _) | refine need1 ?_ | refine need2 ?_ | refine need3 ?_ | refine need4 ?_ | refine need5 ?_ | refine need6 ?_ | refine need7 ?_ | intro _ | (refine bif_intro (fun _ => ?_) (fun _ => ?_)))
  all_goals simp only [p23, E23, nd3, nd2] at *
  all_goals (cases a <;> cases b <;> (try cases c) <;> simp_all [leSV, E23, nd3, nd2] <;> omega)
theorem okG7 : PCok Try.prog G7 := addPC_ok okG6 mixed (pure_or pFirst25a pFirst25b)
theorem apart_in {a b : Int} (ha : 0 ≤ a ∧ a ≤ 1023) (hb : 0 ≤ b ∧ b ≤ 1023) : 0 ≤ apart a b ∧ apart a b ≤ 1023 := by unfold apart; omega
theorem btw_in (n l g : Int) (h : l ≤ g) : l ≤ btw n l g ∧ btw n l g ≤ g := by
  unfold btw
  have h1 := Int.emod_nonneg (n % 18446744073709551616) (b := g - l + 1) (by omega)
  have h2 := Int.emod_lt_of_pos (n % 18446744073709551616) (b := g - l + 1) (by omega)
  omega
theorem dist_in (a b x y : Int) : 0 ≤ dist a b x y ∧ dist a b x y ≤ 2046 := by
  unfold dist
  split
  · rename_i h
    have h1 := apart_in (a := a) (b := x) ⟨h.1.1, h.1.2.1⟩ ⟨h.2.1, h.2.2.1⟩
    have h2 := apart_in (a := b) (b := y) ⟨h.1.2.2.1, h.1.2.2.2⟩ ⟨h.2.2.2.1, h.2.2.2.2⟩
    omega
  · omega
theorem introDist {a b x y : Int} {p : Int → Prop} (h : ∀ z : Int, z = dist a b x y → 0 ≤ z → z ≤ 2046 → p z) : ∀ z : Int, z = dist a b x y → p z := by
  rintro _ rfl
  exact h _ rfl (dist_in a b x y).1 (dist_in a b x y).2
theorem introWait {a b t : Int} {p : Int → Prop} (h : ∀ z : Int, ((0 ≤ a ∧ a ≤ b ∧ b ≤ 1048576 ∧ z = max t a ∧ z ≤ b) ∨ (z = 0 ∧ ¬ Wait a b t)) → p z) : ∀ z : Int, z = waitN a b t → p z := by
  rintro _ rfl
  refine h _ ?_
  unfold waitN
  split
  · rename_i h; simp only [Wait, WM] at h; left; omega
  · rename_i h; exact .inr ⟨rfl, h⟩
theorem chk0 (fx fy tx ty pe pl de dl lo se : Int) : chk fx fy tx ty pe pl de dl lo se = 0 ↔ Chk fx fy tx ty pe pl de dl lo se := by unfold chk; simp only [Chk]; omega
theorem introChk {fx fy tx ty pe pl de dl lo se : Int} {p : Int → Prop} (h : ∀ z : Int, z = chk fx fy tx ty pe pl de dl lo se → (z = 0 → Chk fx fy tx ty pe pl de dl lo se) → p z) : ∀ z : Int, z = chk fx fy tx ty pe pl de dl lo se → p z := by
  rintro _ rfl
  exact h _ rfl (chk0 fx fy tx ty pe pl de dl lo se).1
theorem alone_no {fx fy tx ty pe pl de dl lo se hx hy cap st en : Int} (h : ¬ Alone fx fy tx ty pe pl de dl lo se hx hy cap st en) : leSV (.tup [.v (.int .i64 0), .v (.bool false)]) (.tup [T20 (alone fx fy tx ty pe pl de dl lo se hx hy cap st en), .b (decide (Alone fx fy tx ty pe pl de dl lo se hx hy cap st en))]) := by
  have : alone fx fy tx ty pe pl de dl lo se hx hy cap st en = 0 := if_neg h
  rw [this, decide_eq_false h]
  simp [leSV, leSVs, leVal, T20]
theorem alone_yes {fx fy tx ty pe pl de dl lo se hx hy cap st en z a b : Int} (h : Alone fx fy tx ty pe pl de dl lo se hx hy cap st en) (hz : z = home fx fy tx ty pe de se hx hy st) (h0 : 0 ≤ z ∧ z ≤ 1048576) : leSV (.tup [.i .i64 z a b, .v (.bool true)]) (.tup [T20 (alone fx fy tx ty pe pl de dl lo se hx hy cap st en), .b (decide (Alone fx fy tx ty pe pl de dl lo se hx hy cap st en))]) := by
  have : alone fx fy tx ty pe pl de dl lo se hx hy cap st en = z := by rw [hz]; exact if_pos h
  rw [this, decide_eq_true h]
  refine ⟨⟨rfl, ?_⟩, rfl, trivial⟩
  show cond (decide (0 ≤ a) && decide (b ≤ 1048576)) True (0 ≤ z ∧ z ≤ 1048576)
  cases (decide (0 ≤ a) && decide (b ≤ 1048576))
  · exact h0
  · trivial
theorem veh0 (hx hy cap st en : Int) : veh hx hy cap st en = 0 ↔ (PM hx hy ∧ (1 ≤ cap ∧ cap ≤ 100000) ∧ (0 ≤ st ∧ st ≤ en) ∧ (0 ≤ en ∧ en ≤ 1048576)) := by unfold veh; omega
theorem introVeh {hx hy cap st en : Int} {p : Int → Prop} (h : ∀ z : Int, z = veh hx hy cap st en → (z = 0 → (PM hx hy ∧ (1 ≤ cap ∧ cap ≤ 100000) ∧ (0 ≤ st ∧ st ≤ en) ∧ (0 ≤ en ∧ en ≤ 1048576))) → p z) : ∀ z : Int, z = veh hx hy cap st en → p z := by
  rintro _ rfl
  exact h _ rfl (veh0 hx hy cap st en).1
set_option maxHeartbeats 4000000 in
theorem pChk10 : Pure Try.prog G7 10 kChk10 := pure_of (fun ((fx, fy, tx, ty, pe, pl, de, dl, lo, se, _), _) => noLoops) 100 fun ((fx, fy, tx, ty, pe, pl, de, dl, lo, se, _), _) hf _ => by
  simp only [pPl, pI, pReq, pVeh, req, vehS, plS, I, B, T20, p23, E23, nd3, nd2, PM, WM, chk, ParL.cons, ParL.nil, Par.agg, Par.int, Par.intR, Par.intAny, Par.bool, Par.str, Par.ro, Par.rs] at hf
  refine ⟨rfl, Eq.mpr (t10 fx fy tx ty pe pl de dl lo se fun u => leSV u (B (chk fx fy tx ty pe pl de dl lo se) 0 6)) ?_⟩
  repeat' (first | (refine introW64 ?_; intro _ _ _ _ _) | (refine introWu64 ?_; intro _ _) | refine need1 ?_ | refine need2 ?_ | refine need3 ?_ | refine need4 ?_ | refine need5 ?_ | refine need6 ?_ | refine need7 ?_ | intro _ | (refine bif_intro (fun _ => ?_) (fun _ => ?_)))
  all_goals subst_vars
  all_goals simp only [pPl, pI, pReq, pVeh, req, vehS, plS, I, B, T20, p23, E23, nd3, nd2, PM, WM, chk, cond_or, leSV, leSVs, leVal, decide_true, decide_false, cond_true, cond_false, Bool.not_eq_eq_eq_not, Bool.not_true, Bool.not_false, Bool.not_not, Bool.true_and, Bool.and_true, Bool.false_and, Bool.and_false, Bool.or_true, Bool.true_or, Bool.or_false, Bool.false_or, Bool.not_eq_true, Bool.not_eq_false, decide_eq_true_eq, decide_eq_false_iff_not, decide_eq_decide, Bool.and_eq_true, Bool.or_eq_true, Bool.and_eq_false_iff, Bool.or_eq_false_iff, ← Bool.decide_and, ← Bool.decide_or, ← decide_not, Bool.decide_eq_true, beq_iff_eq, beq_eq_false_iff_ne, ne_eq, and_true, true_and, true_eq_decide_iff, false_eq_decide_iff, if_true, if_false, IntKind.min, eq_self, kmin, kmax, Bool.true_eq, Bool.false_eq, decide_eq_true_iff, Bool.cond_true_left, Bool.cond_false_left, Bool.cond_true_right, Bool.cond_false_right] at *
  all_goals (try omega)
theorem okG8 : PCok Try.prog G8 := addPC_ok okG7 mixed pChk10
set_option maxHeartbeats 4000000 in
theorem pChk11 : Pure Try.prog G8 11 kChk11 := pure_of (fun ((fx, fy, tx, ty, pe, pl, de, dl, lo, se, _), _) => noLoops) 100 fun ((fx, fy, tx, ty, pe, pl, de, dl, lo, se, _), _) hf _ => by
  simp only [pPl, pI, pReq, pVeh, req, vehS, plS, I, B, T20, p23, E23, nd3, nd2, PM, WM, chk, ParL.cons, ParL.nil, Par.agg, Par.int, Par.intR, Par.intAny, Par.bool, Par.str, Par.ro, Par.rs] at hf
  refine ⟨rfl, Eq.mpr (t11 fx fy tx ty pe pl de dl lo se fun u => leSV u (B (chk fx fy tx ty pe pl de dl lo se) 0 6)) ?_⟩
  repeat' (first | (refine introW64 ?_; intro _ _ _ _ _) | (refine introWu64 ?_; intro _ _) | refine need1 ?_ | refine need2 ?_ | refine need3 ?_ | refine need4 ?_ | refine need5 ?_ | refine need6 ?_ | refine need7 ?_ | intro _ | (refine bif_intro (fun _ => ?_) (fun _ => ?_)))
  all_goals subst_vars
  all_goals simp only [pPl, pI, pReq, pVeh, req, vehS, plS, I, B, T20, p23, E23, nd3, nd2, PM, WM, chk, cond_or, leSV, leSVs, leVal, decide_true, decide_false, cond_true, cond_false, Bool.not_eq_eq_eq_not, Bool.not_true, Bool.not_false, Bool.not_not, Bool.true_and, Bool.and_true, Bool.false_and, Bool.and_false, Bool.or_true, Bool.true_or, Bool.or_false, Bool.false_or, Bool.not_eq_true, Bool.not_eq_false, decide_eq_true_eq, decide_eq_false_iff_not, decide_eq_decide, Bool.and_eq_true, Bool.or_eq_true, Bool.and_eq_false_iff, Bool.or_eq_false_iff, ← Bool.decide_and, ← Bool.decide_or, ← decide_not, Bool.decide_eq_true, beq_iff_eq, beq_eq_false_iff_ne, ne_eq, and_true, true_and, true_eq_decide_iff, false_eq_decide_iff, if_true, if_false, IntKind.min, eq_self, kmin, kmax, Bool.true_eq, Bool.false_eq, decide_eq_true_iff, Bool.cond_true_left, Bool.cond_false_left, Bool.cond_true_right, Bool.cond_false_right] at *
  all_goals (try omega)
theorem okG9 : PCok Try.prog G9 := addPC_ok okG8 mixed pChk11
set_option maxHeartbeats 4000000 in
theorem pVeh12 : Pure Try.prog G9 12 kVeh12 := pure_of (fun ((hx, hy, cap, st, en, _), _) => noLoops) 100 fun ((hx, hy, cap, st, en, _), _) hf _ => by
  simp only [pPl, pI, pReq, pVeh, req, vehS, plS, I, B, T20, p23, E23, nd3, nd2, PM, veh, ParL.cons, ParL.nil, Par.agg, Par.int, Par.intR, Par.intAny, Par.bool, Par.str, Par.ro, Par.rs] at hf
  refine ⟨rfl, Eq.mpr (t12 hx hy cap st en fun u => leSV u (B (veh hx hy cap st en) 0 7)) ?_⟩
  repeat' (first | (refine introW64 ?_; intro _ _ _ _ _) | (refine introWu64 ?_; intro _ _) | refine need1 ?_ | refine need2 ?_ | refine need3 ?_ | refine need4 ?_ | refine need5 ?_ | refine need6 ?_ | refine need7 ?_ | intro _ | (refine bif_intro (fun _ => ?_) (fun _ => ?_)))
  all_goals subst_vars
  all_goals simp only [pPl, pI, pReq, pVeh, req, vehS, plS, I, B, T20, p23, E23, nd3, nd2, PM, veh, cond_or, leSV, leSVs, leVal, decide_true, decide_false, cond_true, cond_false, Bool.not_eq_eq_eq_not, Bool.not_true, Bool.not_false, Bool.not_not, Bool.true_and, Bool.and_true, Bool.false_and, Bool.and_false, Bool.or_true, Bool.true_or, Bool.or_false, Bool.false_or, Bool.not_eq_true, Bool.not_eq_false, decide_eq_true_eq, decide_eq_false_iff_not, decide_eq_decide, Bool.and_eq_true, Bool.or_eq_true, Bool.and_eq_false_iff, Bool.or_eq_false_iff, ← Bool.decide_and, ← Bool.decide_or, ← decide_not, Bool.decide_eq_true, beq_iff_eq, beq_eq_false_iff_ne, ne_eq, and_true, true_and, true_eq_decide_iff, false_eq_decide_iff, if_true, if_false, IntKind.min, eq_self, kmin, kmax, Bool.true_eq, Bool.false_eq, decide_eq_true_iff, Bool.cond_true_left, Bool.cond_false_left, Bool.cond_true_right, Bool.cond_false_right] at *
  all_goals (try omega)
theorem okG10 : PCok Try.prog G10 := addPC_ok okG9 mixed pVeh12
set_option maxHeartbeats 4000000 in
theorem pVeh13 : Pure Try.prog G10 13 kVeh13 := pure_of (fun ((hx, hy, cap, st, en, _), _) => noLoops) 100 fun ((hx, hy, cap, st, en, _), _) hf _ => by
  simp only [pPl, pI, pReq, pVeh, req, vehS, plS, I, B, T20, p23, E23, nd3, nd2, PM, veh, ParL.cons, ParL.nil, Par.agg, Par.int, Par.intR, Par.intAny, Par.bool, Par.str, Par.ro, Par.rs] at hf
  refine ⟨rfl, Eq.mpr (t13 hx hy cap st en fun u => leSV u (B (veh hx hy cap st en) 0 7)) ?_⟩
  repeat' (first | (refine introW64 ?_; intro _ _ _ _ _) | (refine introWu64 ?_; intro _ _) | refine need1 ?_ | refine need2 ?_ | refine need3 ?_ | refine need4 ?_ | refine need5 ?_ | refine need6 ?_ | refine need7 ?_ | intro _ | (refine bif_intro (fun _ => ?_) (fun _ => ?_)))
  all_goals subst_vars
  all_goals simp only [pPl, pI, pReq, pVeh, req, vehS, plS, I, B, T20, p23, E23, nd3, nd2, PM, veh, cond_or, leSV, leSVs, leVal, decide_true, decide_false, cond_true, cond_false, Bool.not_eq_eq_eq_not, Bool.not_true, Bool.not_false, Bool.not_not, Bool.true_and, Bool.and_true, Bool.false_and, Bool.and_false, Bool.or_true, Bool.true_or, Bool.or_false, Bool.false_or, Bool.not_eq_true, Bool.not_eq_false, decide_eq_true_eq, decide_eq_false_iff_not, decide_eq_decide, Bool.and_eq_true, Bool.or_eq_true, Bool.and_eq_false_iff, Bool.or_eq_false_iff, ← Bool.decide_and, ← Bool.decide_or, ← decide_not, Bool.decide_eq_true, beq_iff_eq, beq_eq_false_iff_ne, ne_eq, and_true, true_and, true_eq_decide_iff, false_eq_decide_iff, if_true, if_false, IntKind.min, eq_self, kmin, kmax, Bool.true_eq, Bool.false_eq, decide_eq_true_iff, Bool.cond_true_left, Bool.cond_false_left, Bool.cond_true_right, Bool.cond_false_right] at *
  all_goals (try omega)
theorem okG11 : PCok Try.prog G11 := addPC_ok okG10 mixed pVeh13
set_option maxHeartbeats 4000000 in
theorem pAp40 : Pure Try.prog G11 40 kAp40 := pure_of (fun (a, b, _) => noLoops) 100 fun (a, b, _) hf _ => by
  simp only [pPl, pI, pReq, pVeh, req, vehS, plS, I, B, T20, apart, ParL.cons, ParL.nil, Par.agg, Par.int, Par.intR, Par.intAny, Par.bool, Par.str, Par.ro, Par.rs] at hf
  refine ⟨rfl, Eq.mpr (t40 a b fun u => leSV u (I (IntKind.i64.wrap (apart a b)))) ?_⟩
  repeat' (first | refine need1 ?_ | refine need2 ?_ | refine need3 ?_ | refine need4 ?_ | refine need5 ?_ | refine need6 ?_ | refine need7 ?_ | intro _ | (refine bif_intro (fun _ => ?_) (fun _ => ?_)))
  all_goals subst_vars
  all_goals simp only [pPl, pI, pReq, pVeh, req, vehS, plS, I, B, T20, apart, cond_or, leSV, leSVs, leVal, decide_true, decide_false, cond_true, cond_false, Bool.not_eq_eq_eq_not, Bool.not_true, Bool.not_false, Bool.not_not, Bool.true_and, Bool.and_true, Bool.false_and, Bool.and_false, Bool.or_true, Bool.true_or, Bool.or_false, Bool.false_or, Bool.not_eq_true, Bool.not_eq_false, decide_eq_true_eq, decide_eq_false_iff_not, decide_eq_decide, Bool.and_eq_true, Bool.or_eq_true, Bool.and_eq_false_iff, Bool.or_eq_false_iff, ← Bool.decide_and, ← Bool.decide_or, ← decide_not, Bool.decide_eq_true, beq_iff_eq, beq_eq_false_iff_ne, ne_eq, and_true, true_and, true_eq_decide_iff, false_eq_decide_iff, if_true, if_false, IntKind.min, eq_self, kmin, kmax, Bool.true_eq, Bool.false_eq, decide_eq_true_iff, Bool.cond_true_left, Bool.cond_false_left, Bool.cond_true_right, Bool.cond_false_right] at *
  all_goals (try omega)
theorem okG12 : PCok Try.prog G12 := addPC_ok okG11 mixed pAp40
set_option maxHeartbeats 4000000 in
theorem pAp41 : Pure Try.prog G12 41 kAp41 := pure_of (fun (a, b, _) => apLoops 41 a b) 100 fun (a, b, _) hf _ => by
  simp only [pI, ParL.cons, ParL.nil, Par.int] at hf
  refine ⟨rfl, Eq.mpr (t41 a b fun u => leSV u (I (IntKind.i64.wrap (apart a b)))) ?_⟩
  rintro z4 rfl
  refine ⟨min a b, by omega, ⟨⟨?_, ?_⟩, ⟨rfl, trivial⟩, trivial⟩, ?_⟩
  · rw [show min a b - min a b = 0 from by omega, wr64 0 (by omega)]
  · rw [show min a b - min a b = 0 from by omega, wr64 0 (by omega)]; omega
  intro i hi z9 hz9 b11 hb
  have e1 := wrE (i - min a b)
  have e2 := wrE (i + 1 - min a b)
  refine bif_intro (fun hc => ?_) (fun hc => ?_)
  · rw [hb] at hc
    simp only [decide_eq_true_eq] at hc
    refine introW64 ?_
    intro z13 j hj _ _
    refine introW64 ?_
    intro z15 j' hj' _ _
    refine ⟨i + 1, by omega, ?_, ⟨by omega, trivial⟩, ⟨by omega, trivial⟩, trivial⟩
    show (max a b - (i + 1)).toNat < (max a b - i).toNat
    omega
  · rw [hb] at hc
    simp only [decide_eq_false_iff_not] at hc
    have : i - min a b = apart a b := by unfold apart; omega
    rw [this]
    simp only [leSV, I, decide_true, Bool.and_self, cond_true]
    trivial
theorem okG13 : PCok Try.prog G13 := addPC_ok okG12 mixed pAp41
set_option maxHeartbeats 4000000 in
theorem pDist33 : Pure Try.prog G13 33 kDist33 := pure_of (fun ((a, b, _), (x, y, _), _) => noLoops) 100 fun ((a, b, _), (x, y, _), _) hf _ => by
  simp only [pPl, pI, pReq, pVeh, req, vehS, plS, I, B, T20, PM, dist, apart, ParL.cons, ParL.nil, Par.agg, Par.int, Par.intR, Par.intAny, Par.bool, Par.str, Par.ro, Par.rs] at hf
  refine ⟨rfl, Eq.mpr (t33 a b x y fun u => leSV u (B (dist a b x y) 0 2046)) ?_⟩
  repeat' (first | (refine introW64 ?_; intro _ _ _ _ _) | (refine introWu64 ?_; intro _ _) | refine need1 ?_ | refine need2 ?_ | refine need3 ?_ | refine need4 ?_ | refine need5 ?_ | refine need6 ?_ | refine need7 ?_ | intro _ | (refine bif_intro (fun _ => ?_) (fun _ => ?_)))
  all_goals subst_vars
  all_goals simp only [pPl, pI, pReq, pVeh, req, vehS, plS, I, B, T20, PM, dist, apart, cond_or, leSV, leSVs, leVal, decide_true, decide_false, cond_true, cond_false, Bool.not_eq_eq_eq_not, Bool.not_true, Bool.not_false, Bool.not_not, Bool.true_and, Bool.and_true, Bool.false_and, Bool.and_false, Bool.or_true, Bool.true_or, Bool.or_false, Bool.false_or, Bool.not_eq_true, Bool.not_eq_false, decide_eq_true_eq, decide_eq_false_iff_not, decide_eq_decide, Bool.and_eq_true, Bool.or_eq_true, Bool.and_eq_false_iff, Bool.or_eq_false_iff, ← Bool.decide_and, ← Bool.decide_or, ← decide_not, Bool.decide_eq_true, beq_iff_eq, beq_eq_false_iff_ne, ne_eq, and_true, true_and, true_eq_decide_iff, false_eq_decide_iff, if_true, if_false, IntKind.min, eq_self, kmin, kmax, Bool.true_eq, Bool.false_eq, decide_eq_true_iff, Bool.cond_true_left, Bool.cond_false_left, Bool.cond_true_right, Bool.cond_false_right] at *
  all_goals (try omega)
theorem okG14 : PCok Try.prog G14 := addPC_ok okG13 mixed pDist33
set_option maxHeartbeats 4000000 in
theorem pDist34 : Pure Try.prog G14 34 kDist34 := pure_of (fun ((a, b, _), (x, y, _), _) => noLoops) 100 fun ((a, b, _), (x, y, _), _) hf _ => by
  simp only [pPl, pI, pReq, pVeh, req, vehS, plS, I, B, T20, PM, dist, apart, ParL.cons, ParL.nil, Par.agg, Par.int, Par.intR, Par.intAny, Par.bool, Par.str, Par.ro, Par.rs] at hf
  refine ⟨rfl, Eq.mpr (t34 a b x y fun u => leSV u (B (dist a b x y) 0 2046)) ?_⟩
  repeat' (first | (refine introW64 ?_; intro _ _ _ _ _) | (refine introWu64 ?_; intro _ _) | refine need1 ?_ | refine need2 ?_ | refine need3 ?_ | refine need4 ?_ | refine need5 ?_ | refine need6 ?_ | refine need7 ?_ | intro _ | (refine bif_intro (fun _ => ?_) (fun _ => ?_)))
  all_goals subst_vars
  all_goals simp only [pPl, pI, pReq, pVeh, req, vehS, plS, I, B, T20, PM, dist, apart, cond_or, leSV, leSVs, leVal, decide_true, decide_false, cond_true, cond_false, Bool.not_eq_eq_eq_not, Bool.not_true, Bool.not_false, Bool.not_not, Bool.true_and, Bool.and_true, Bool.false_and, Bool.and_false, Bool.or_true, Bool.true_or, Bool.or_false, Bool.false_or, Bool.not_eq_true, Bool.not_eq_false, decide_eq_true_eq, decide_eq_false_iff_not, decide_eq_decide, Bool.and_eq_true, Bool.or_eq_true, Bool.and_eq_false_iff, Bool.or_eq_false_iff, ← Bool.decide_and, ← Bool.decide_or, ← decide_not, Bool.decide_eq_true, beq_iff_eq, beq_eq_false_iff_ne, ne_eq, and_true, true_and, true_eq_decide_iff, false_eq_decide_iff, if_true, if_false, IntKind.min, eq_self, kmin, kmax, Bool.true_eq, Bool.false_eq, decide_eq_true_iff, Bool.cond_true_left, Bool.cond_false_left, Bool.cond_true_right, Bool.cond_false_right] at *
  all_goals (try omega)
theorem okG15 : PCok Try.prog G15 := addPC_ok okG14 mixed pDist34
set_option maxHeartbeats 4000000 in
theorem pWait32 : Pure Try.prog G15 32 kWait32 := pure_of (fun ((a, b, _), t, _) => noLoops) 100 fun ((a, b, _), t, _) hf _ => by
  simp only [pPl, pI, pReq, pVeh, req, vehS, plS, I, B, T20, WM, Wait, waitN, ParL.cons, ParL.nil, Par.agg, Par.int, Par.intR, Par.intAny, Par.bool, Par.str, Par.ro, Par.rs] at hf
  refine ⟨rfl, Eq.mpr (t32 a b t fun u => leSV u (.tup [T20 (waitN a b t), .b (decide (Wait a b t))])) ?_⟩
  repeat' (first | (refine introW64 ?_; intro _ _ _ _ _) | (refine introWu64 ?_; intro _ _) | refine need1 ?_ | refine need2 ?_ | refine need3 ?_ | refine need4 ?_ | refine need5 ?_ | refine need6 ?_ | refine need7 ?_ | intro _ | (refine bif_intro (fun _ => ?_) (fun _ => ?_)))
  all_goals subst_vars
  all_goals simp only [pPl, pI, pReq, pVeh, req, vehS, plS, I, B, T20, WM, Wait, waitN, cond_or, leSV, leSVs, leVal, decide_true, decide_false, cond_true, cond_false, Bool.not_eq_eq_eq_not, Bool.not_true, Bool.not_false, Bool.not_not, Bool.true_and, Bool.and_true, Bool.false_and, Bool.and_false, Bool.or_true, Bool.true_or, Bool.or_false, Bool.false_or, Bool.not_eq_true, Bool.not_eq_false, decide_eq_true_eq, decide_eq_false_iff_not, decide_eq_decide, Bool.and_eq_true, Bool.or_eq_true, Bool.and_eq_false_iff, Bool.or_eq_false_iff, ← Bool.decide_and, ← Bool.decide_or, ← decide_not, Bool.decide_eq_true, beq_iff_eq, beq_eq_false_iff_ne, ne_eq, and_true, true_and, true_eq_decide_iff, false_eq_decide_iff, if_true, if_false, IntKind.min, eq_self, kmin, kmax, Bool.true_eq, Bool.false_eq, decide_eq_true_iff, Bool.cond_true_left, Bool.cond_false_left, Bool.cond_true_right, Bool.cond_false_right] at *
  all_goals (try omega)
theorem okG16 : PCok Try.prog G16 := addPC_ok okG15 mixed pWait32
set_option maxHeartbeats 4000000 in
theorem pBtw35 : Pure Try.prog G16 35 kBtw35 := pure_of (fun ((fx, fy, tx, ty, pe, pl, de, dl, lo, se, _), _) => noLoops) 100 fun ((fx, fy, tx, ty, pe, pl, de, dl, lo, se, _), _) hf _ => by
  simp only [pPl, pI, pReq, pVeh, req, vehS, plS, I, B, T20, ParL.cons, ParL.nil, Par.agg, Par.int, Par.intR, Par.intAny, Par.bool, Par.str, Par.ro, Par.rs] at hf
  refine ⟨rfl, Eq.mpr (t35 fx fy tx ty pe pl de dl lo se fun u => leSV u (I (IntKind.i64.wrap (se + dist fx fy tx ty)))) ?_⟩
  repeat' (first | refine need1 ?_ | refine need2 ?_ | refine need3 ?_ | refine need4 ?_ | refine need5 ?_ | refine need6 ?_ | refine need7 ?_ | intro _ | (refine bif_intro (fun _ => ?_) (fun _ => ?_)))
  all_goals subst_vars
  all_goals simp only [pPl, pI, pReq, pVeh, req, vehS, plS, I, B, T20, cond_or, leSV, leSVs, leVal, decide_true, decide_false, cond_true, cond_false, Bool.not_eq_eq_eq_not, Bool.not_true, Bool.not_false, Bool.not_not, Bool.true_and, Bool.and_true, Bool.false_and, Bool.and_false, Bool.or_true, Bool.true_or, Bool.or_false, Bool.false_or, Bool.not_eq_true, Bool.not_eq_false, decide_eq_true_eq, decide_eq_false_iff_not, decide_eq_decide, Bool.and_eq_true, Bool.or_eq_true, Bool.and_eq_false_iff, Bool.or_eq_false_iff, ← Bool.decide_and, ← Bool.decide_or, ← decide_not, Bool.decide_eq_true, beq_iff_eq, beq_eq_false_iff_ne, ne_eq, and_true, true_and, true_eq_decide_iff, false_eq_decide_iff, if_true, if_false, IntKind.min, eq_self, kmin, kmax, Bool.true_eq, Bool.false_eq, decide_eq_true_iff, Bool.cond_true_left, Bool.cond_false_left, Bool.cond_true_right, Bool.cond_false_right] at *
  all_goals (try omega)
theorem okG17 : PCok Try.prog G17 := addPC_ok okG16 mixed pBtw35
set_option maxHeartbeats 4000000 in
theorem pAlone15 : Pure Try.prog G17 15 kAlone15 := pure_of (fun ((fx, fy, tx, ty, pe, pl, de, dl, lo, se, _), (hx, hy, cap, st, en, _), _) => noLoops) 100 fun ((fx, fy, tx, ty, pe, pl, de, dl, lo, se, _), (hx, hy, cap, st, en, _), _) hf _ => by
  simp only [pPl, pI, pReq, pVeh, req, vehS, plS, I, B, T20, ParL.cons, ParL.nil, Par.agg, Par.int, Par.intR, Par.intAny, Par.bool, Par.str, Par.ro, Par.rs] at hf
  refine ⟨rfl, Eq.mpr (t15 fx fy tx ty pe pl de dl lo se hx hy cap st en fun u => leSV u (.tup [T20 (alone fx fy tx ty pe pl de dl lo se hx hy cap st en), .b (decide (Alone fx fy tx ty pe pl de dl lo se hx hy cap st en))])) ?_⟩
  repeat' (first | (refine introWx (by omega) ?_; intro _ _) | (refine introW64 ?_; intro _ _ _ _ _) | (refine introWu64 ?_; intro _ _) | refine introB ?_ | refine need1 ?_ | refine need2 ?_ | refine need3 ?_ | refine need4 ?_ | refine need5 ?_ | refine need6 ?_ | refine need7 ?_ | (refine introDist ?_; intro _ _ _ _) | (refine introWait ?_; intro _ _) | (refine introChk ?_; intro _ _ _) | (refine introVeh ?_; intro _ _ _) | intro _ _ | (refine bif_intro (fun h => ?_) (fun h => ?_) <;> simp only [cond_or, leSV, leSVs, leVal, decide_true, decide_false, cond_true, cond_false, Bool.not_eq_eq_eq_not, Bool.not_true, Bool.not_false, Bool.not_not, Bool.true_and, Bool.and_true, Bool.false_and, Bool.and_false, Bool.or_true, Bool.true_or, Bool.or_false, Bool.false_or, Bool.not_eq_true, Bool.not_eq_false, decide_eq_true_eq, decide_eq_false_iff_not, decide_eq_decide, Bool.and_eq_true, Bool.or_eq_true, Bool.and_eq_false_iff, Bool.or_eq_false_iff, ← Bool.decide_and, ← Bool.decide_or, ← decide_not, Bool.decide_eq_true, beq_iff_eq, beq_eq_false_iff_ne, ne_eq, and_true, true_and, true_eq_decide_iff, false_eq_decide_iff, if_true, if_false, IntKind.min, eq_self, kmin, kmax, Bool.true_eq, Bool.false_eq, decide_eq_true_iff, Bool.cond_true_left, Bool.cond_false_left, Bool.cond_true_right, Bool.cond_false_right] at h))
  all_goals first
    | (refine alone_no ?_; simp only [Alone, home, other, there, Wait, WM] at *; omega)
    | (refine alone_yes ?_ ?_ ?_ <;> (simp only [Alone, home, other, there] at *; omega))
theorem okG18 : PCok Try.prog G18 := addPC_ok okG17 mixed pAlone15
set_option maxHeartbeats 4000000 in
theorem pAlone16 : Pure Try.prog G18 16 kAlone16 := pure_of (fun ((fx, fy, tx, ty, pe, pl, de, dl, lo, se, _), (hx, hy, cap, st, en, _), _) => noLoops) 100 fun ((fx, fy, tx, ty, pe, pl, de, dl, lo, se, _), (hx, hy, cap, st, en, _), _) hf _ => by
  simp only [pPl, pI, pReq, pVeh, req, vehS, plS, I, B, T20, ParL.cons, ParL.nil, Par.agg, Par.int, Par.intR, Par.intAny, Par.bool, Par.str, Par.ro, Par.rs] at hf
  refine ⟨rfl, Eq.mpr (t16 fx fy tx ty pe pl de dl lo se hx hy cap st en fun u => leSV u (.tup [T20 (alone fx fy tx ty pe pl de dl lo se hx hy cap st en), .b (decide (Alone fx fy tx ty pe pl de dl lo se hx hy cap st en))])) ?_⟩
  repeat' (first | (refine introWx (by omega) ?_; intro _ _) | (refine introW64 ?_; intro _ _ _ _ _) | (refine introWu64 ?_; intro _ _) | refine introB ?_ | refine need1 ?_ | refine need2 ?_ | refine need3 ?_ | refine need4 ?_ | refine need5 ?_ | refine need6 ?_ | refine need7 ?_ | (refine introDist ?_; intro _ _ _ _) | (refine introWait ?_; intro _ _) | (refine introChk ?_; intro _ _ _) | (refine introVeh ?_; intro _ _ _) | intro _ _ | (refine bif_intro (fun h => ?_) (fun h => ?_) <;> simp only [cond_or, leSV, leSVs, leVal, decide_true, decide_false, cond_true, cond_false, Bool.not_eq_eq_eq_not, Bool.not_true, Bool.not_false, Bool.not_not, Bool.true_and, Bool.and_true, Bool.false_and, Bool.and_false, Bool.or_true, Bool.true_or, Bool.or_false, Bool.false_or, Bool.not_eq_true, Bool.not_eq_false, decide_eq_true_eq, decide_eq_false_iff_not, decide_eq_decide, Bool.and_eq_true, Bool.or_eq_true, Bool.and_eq_false_iff, Bool.or_eq_false_iff, ← Bool.decide_and, ← Bool.decide_or, ← decide_not, Bool.decide_eq_true, beq_iff_eq, beq_eq_false_iff_ne, ne_eq, and_true, true_and, true_eq_decide_iff, false_eq_decide_iff, if_true, if_false, IntKind.min, eq_self, kmin, kmax, Bool.true_eq, Bool.false_eq, decide_eq_true_iff, Bool.cond_true_left, Bool.cond_false_left, Bool.cond_true_right, Bool.cond_false_right] at h))
  all_goals first
    | (refine alone_no ?_; simp only [Alone, home, other, there, Wait, WM] at *; omega)
    | (refine alone_yes ?_ ?_ ?_ <;> (simp only [Alone, home, other, there] at *; omega))
theorem okG19 : PCok Try.prog G19 := addPC_ok okG18 mixed pAlone16
set_option maxHeartbeats 4000000 in
theorem pLeast19 : Pure Try.prog G19 19 kLeast19 := pure_of (fun ((fx, fy, tx, ty, pe, pl, de, dl, lo, se, _), _) => noLoops) 100 fun ((fx, fy, tx, ty, pe, pl, de, dl, lo, se, _), _) hf _ => by
  simp only [pPl, pI, pReq, pVeh, req, vehS, plS, I, B, T20, least, chk0, Chk, WM, PM, ParL.cons, ParL.nil, Par.agg, Par.int, Par.intR, Par.intAny, Par.bool, Par.str, Par.ro, Par.rs] at hf
  have d2 := dist_in fx fy tx ty
  refine ⟨rfl, Eq.mpr (t19 fx fy tx ty pe pl de dl lo se fun u => leSV u (B (least fx fy tx ty pe pl de dl lo se) 0 4046)) ?_⟩
  repeat' (first | (refine introW64 ?_; intro _ _ _ _ _) | (refine introWu64 ?_; intro _ _) | refine need1 ?_ | refine need2 ?_ | refine need3 ?_ | refine need4 ?_ | refine need5 ?_ | refine need6 ?_ | refine need7 ?_ | intro _ | (refine bif_intro (fun _ => ?_) (fun _ => ?_)))
  all_goals subst_vars
  all_goals simp only [pPl, pI, pReq, pVeh, req, vehS, plS, I, B, T20, least, chk0, Chk, WM, PM, cond_or, leSV, leSVs, leVal, decide_true, decide_false, cond_true, cond_false, Bool.not_eq_eq_eq_not, Bool.not_true, Bool.not_false, Bool.not_not, Bool.true_and, Bool.and_true, Bool.false_and, Bool.and_false, Bool.or_true, Bool.true_or, Bool.or_false, Bool.false_or, Bool.not_eq_true, Bool.not_eq_false, decide_eq_true_eq, decide_eq_false_iff_not, decide_eq_decide, Bool.and_eq_true, Bool.or_eq_true, Bool.and_eq_false_iff, Bool.or_eq_false_iff, ← Bool.decide_and, ← Bool.decide_or, ← decide_not, Bool.decide_eq_true, beq_iff_eq, beq_eq_false_iff_ne, ne_eq, and_true, true_and, true_eq_decide_iff, false_eq_decide_iff, if_true, if_false, IntKind.min, eq_self, kmin, kmax, Bool.true_eq, Bool.false_eq, decide_eq_true_iff, Bool.cond_true_left, Bool.cond_false_left, Bool.cond_true_right, Bool.cond_false_right] at *
  all_goals (try omega)
theorem okG20 : PCok Try.prog G20 := addPC_ok okG19 mixed pLeast19
set_option maxHeartbeats 4000000 in
theorem pLeast20 : Pure Try.prog G20 20 kLeast20 := pure_of (fun ((fx, fy, tx, ty, pe, pl, de, dl, lo, se, _), _) => noLoops) 100 fun ((fx, fy, tx, ty, pe, pl, de, dl, lo, se, _), _) hf _ => by
  simp only [pPl, pI, pReq, pVeh, req, vehS, plS, I, B, T20, least, chk0, Chk, WM, PM, ParL.cons, ParL.nil, Par.agg, Par.int, Par.intR, Par.intAny, Par.bool, Par.str, Par.ro, Par.rs] at hf
  have d2 := dist_in fx fy tx ty
  refine ⟨rfl, Eq.mpr (t20 fx fy tx ty pe pl de dl lo se fun u => leSV u (B (least fx fy tx ty pe pl de dl lo se) 0 4046)) ?_⟩
  repeat' (first | (refine introW64 ?_; intro _ _ _ _ _) | (refine introWu64 ?_; intro _ _) | refine need1 ?_ | refine need2 ?_ | refine need3 ?_ | refine need4 ?_ | refine need5 ?_ | refine need6 ?_ | refine need7 ?_ | intro _ | (refine bif_intro (fun _ => ?_) (fun _ => ?_)))
  all_goals subst_vars
  all_goals simp only [pPl, pI, pReq, pVeh, req, vehS, plS, I, B, T20, least, chk0, Chk, WM, PM, cond_or, leSV, leSVs, leVal, decide_true, decide_false, cond_true, cond_false, Bool.not_eq_eq_eq_not, Bool.not_true, Bool.not_false, Bool.not_not, Bool.true_and, Bool.and_true, Bool.false_and, Bool.and_false, Bool.or_true, Bool.true_or, Bool.or_false, Bool.false_or, Bool.not_eq_true, Bool.not_eq_false, decide_eq_true_eq, decide_eq_false_iff_not, decide_eq_decide, Bool.and_eq_true, Bool.or_eq_true, Bool.and_eq_false_iff, Bool.or_eq_false_iff, ← Bool.decide_and, ← Bool.decide_or, ← decide_not, Bool.decide_eq_true, beq_iff_eq, beq_eq_false_iff_ne, ne_eq, and_true, true_and, true_eq_decide_iff, false_eq_decide_iff, if_true, if_false, IntKind.min, eq_self, kmin, kmax, Bool.true_eq, Bool.false_eq, decide_eq_true_iff, Bool.cond_true_left, Bool.cond_false_left, Bool.cond_true_right, Bool.cond_false_right] at *
  all_goals (try omega)
theorem okG21 : PCok Try.prog G21 := addPC_ok okG20 mixed pLeast20
set_option maxHeartbeats 4000000 in
theorem pTight17 : Pure Try.prog G21 17 kTight17 := pure_of (fun ((fx, fy, tx, ty, pe, pl, de, dl, lo, se, _), _) => noLoops) 100 fun ((fx, fy, tx, ty, pe, pl, de, dl, lo, se, _), _) hf _ => by
  simp only [pPl, pI, pReq, pVeh, req, vehS, plS, I, B, T20, tight, Tight, tg, ParL.cons, ParL.nil, Par.agg, Par.int, Par.intR, Par.intAny, Par.bool, Par.str, Par.ro, Par.rs] at hf
  have d2 := dist_in fx fy tx ty
  refine ⟨rfl, Eq.mpr (t17 fx fy tx ty pe pl de dl lo se fun u => leSV u (.tup [tight fx fy tx ty pe pl de dl lo se, .b (decide (Tight fx fy tx ty pe pl de dl lo se))])) ?_⟩
  repeat' (first | (refine introWx (by omega) ?_; intro _ _) | (refine introW64 ?_; intro _ _ _ _ _) | (refine introWu64 ?_; intro _ _) | refine introB ?_ | refine need1 ?_ | refine need2 ?_ | refine need3 ?_ | refine need4 ?_ | refine need5 ?_ | refine need6 ?_ | refine need7 ?_ | (refine introDist ?_; intro _ _ _ _) | (refine introWait ?_; intro _ _) | (refine introChk ?_; intro _ _ _) | (refine introVeh ?_; intro _ _ _) | intro _ _ | (refine bif_intro (fun h => ?_) (fun h => ?_) <;> simp only [cond_or, leSV, leSVs, leVal, decide_true, decide_false, cond_true, cond_false, Bool.not_eq_eq_eq_not, Bool.not_true, Bool.not_false, Bool.not_not, Bool.true_and, Bool.and_true, Bool.false_and, Bool.and_false, Bool.or_true, Bool.true_or, Bool.or_false, Bool.false_or, Bool.not_eq_true, Bool.not_eq_false, decide_eq_true_eq, decide_eq_false_iff_not, decide_eq_decide, Bool.and_eq_true, Bool.or_eq_true, Bool.and_eq_false_iff, Bool.or_eq_false_iff, ← Bool.decide_and, ← Bool.decide_or, ← decide_not, Bool.decide_eq_true, beq_iff_eq, beq_eq_false_iff_ne, ne_eq, and_true, true_and, true_eq_decide_iff, false_eq_decide_iff, if_true, if_false, IntKind.min, eq_self, kmin, kmax, Bool.true_eq, Bool.false_eq, decide_eq_true_iff, Bool.cond_true_left, Bool.cond_false_left, Bool.cond_true_right, Bool.cond_false_right] at h))
  all_goals first
    | (have hT : Tight fx fy tx ty pe pl de dl lo se := by simp only [Tight, PM, WM, Chk] at *; omega
       have hl : (lo == 0) = false := beq_eq_false_iff_ne.2 (by simp only [Tight, PM, WM, Chk] at *; omega)
       simp only [pPl, pI, pReq, pVeh, req, vehS, plS, I, B, T20, tight, tg, if_pos hT, hT, hl, not_true_eq_false, cond_or, leSV, leSVs, leVal, decide_true, decide_false, cond_true, cond_false, Bool.not_eq_eq_eq_not, Bool.not_true, Bool.not_false, Bool.not_not, Bool.true_and, Bool.and_true, Bool.false_and, Bool.and_false, Bool.or_true, Bool.true_or, Bool.or_false, Bool.false_or, Bool.not_eq_true, Bool.not_eq_false, decide_eq_true_eq, decide_eq_false_iff_not, decide_eq_decide, Bool.and_eq_true, Bool.or_eq_true, Bool.and_eq_false_iff, Bool.or_eq_false_iff, ← Bool.decide_and, ← Bool.decide_or, ← decide_not, Bool.decide_eq_true, beq_iff_eq, beq_eq_false_iff_ne, ne_eq, and_true, true_and, true_eq_decide_iff, false_eq_decide_iff, if_true, if_false, IntKind.min, eq_self, kmin, kmax, Bool.true_eq, Bool.false_eq, decide_eq_true_iff, Bool.cond_true_left, Bool.cond_false_left, Bool.cond_true_right, Bool.cond_false_right]
       simp only [PM, WM, Chk] at *
       (first | omega | (refine ⟨?_, trivial⟩; omega)))
    | (have hT : ¬ Tight fx fy tx ty pe pl de dl lo se := by simp only [Tight, PM, WM, Chk] at *; omega
       simp only [pPl, pI, pReq, pVeh, req, vehS, plS, I, B, T20, tight, tg, if_neg hT, hT, cond_or, leSV, leSVs, leVal, decide_true, decide_false, cond_true, cond_false, Bool.not_eq_eq_eq_not, Bool.not_true, Bool.not_false, Bool.not_not, Bool.true_and, Bool.and_true, Bool.false_and, Bool.and_false, Bool.or_true, Bool.true_or, Bool.or_false, Bool.false_or, Bool.not_eq_true, Bool.not_eq_false, decide_eq_true_eq, decide_eq_false_iff_not, decide_eq_decide, Bool.and_eq_true, Bool.or_eq_true, Bool.and_eq_false_iff, Bool.or_eq_false_iff, ← Bool.decide_and, ← Bool.decide_or, ← decide_not, Bool.decide_eq_true, beq_iff_eq, beq_eq_false_iff_ne, ne_eq, and_true, true_and, true_eq_decide_iff, false_eq_decide_iff, if_true, if_false, IntKind.min, eq_self, kmin, kmax, Bool.true_eq, Bool.false_eq, decide_eq_true_iff, Bool.cond_true_left, Bool.cond_false_left, Bool.cond_true_right, Bool.cond_false_right]
       omega)
theorem okG22 : PCok Try.prog G22 := addPC_ok okG21 mixed pTight17
set_option maxHeartbeats 4000000 in
theorem pTight18 : Pure Try.prog G22 18 kTight18 := pure_of (fun ((fx, fy, tx, ty, pe, pl, de, dl, lo, se, _), _) => noLoops) 100 fun ((fx, fy, tx, ty, pe, pl, de, dl, lo, se, _), _) hf _ => by
  simp only [pPl, pI, pReq, pVeh, req, vehS, plS, I, B, T20, tight, Tight, tg, ParL.cons, ParL.nil, Par.agg, Par.int, Par.intR, Par.intAny, Par.bool, Par.str, Par.ro, Par.rs] at hf
  have d2 := dist_in fx fy tx ty
  refine ⟨rfl, Eq.mpr (t18 fx fy tx ty pe pl de dl lo se fun u => leSV u (.tup [tight fx fy tx ty pe pl de dl lo se, .b (decide (Tight fx fy tx ty pe pl de dl lo se))])) ?_⟩
  repeat' (first | (refine introWx (by omega) ?_; intro _ _) | (refine introW64 ?_; intro _ _ _ _ _) | (refine introWu64 ?_; intro _ _) | refine introB ?_ | refine need1 ?_ | refine need2 ?_ | refine need3 ?_ | refine need4 ?_ | refine need5 ?_ | refine need6 ?_ | refine need7 ?_ | (refine introDist ?_; intro _ _ _ _) | (refine introWait ?_; intro _ _) | (refine introChk ?_; intro _ _ _) | (refine introVeh ?_; intro _ _ _) | intro _ _ | (refine bif_intro (fun h => ?_) (fun h => ?_) <;> simp only [cond_or, leSV, leSVs, leVal, decide_true, decide_false, cond_true, cond_false, Bool.not_eq_eq_eq_not, Bool.not_true, Bool.not_false, Bool.not_not, Bool.true_and, Bool.and_true, Bool.false_and, Bool.and_false, Bool.or_true, Bool.true_or, Bool.or_false, Bool.false_or, Bool.not_eq_true, Bool.not_eq_false, decide_eq_true_eq, decide_eq_false_iff_not, decide_eq_decide, Bool.and_eq_true, Bool.or_eq_true, Bool.and_eq_false_iff, Bool.or_eq_false_iff, ← Bool.decide_and, ← Bool.decide_or, ← decide_not, Bool.decide_eq_true, beq_iff_eq, beq_eq_false_iff_ne, ne_eq, and_true, true_and, true_eq_decide_iff, false_eq_decide_iff, if_true, if_false, IntKind.min, eq_self, kmin, kmax, Bool.true_eq, Bool.false_eq, decide_eq_true_iff, Bool.cond_true_left, Bool.cond_false_left, Bool.cond_true_right, Bool.cond_false_right] at h))
  all_goals first
    | (have hT : Tight fx fy tx ty pe pl de dl lo se := by simp only [Tight, PM, WM, Chk] at *; omega
       have hl : (lo == 0) = false := beq_eq_false_iff_ne.2 (by simp only [Tight, PM, WM, Chk] at *; omega)
       simp only [pPl, pI, pReq, pVeh, req, vehS, plS, I, B, T20, tight, tg, if_pos hT, hT, hl, not_true_eq_false, cond_or, leSV, leSVs, leVal, decide_true, decide_false, cond_true, cond_false, Bool.not_eq_eq_eq_not, Bool.not_true, Bool.not_false, Bool.not_not, Bool.true_and, Bool.and_true, Bool.false_and, Bool.and_false, Bool.or_true, Bool.true_or, Bool.or_false, Bool.false_or, Bool.not_eq_true, Bool.not_eq_false, decide_eq_true_eq, decide_eq_false_iff_not, decide_eq_decide, Bool.and_eq_true, Bool.or_eq_true, Bool.and_eq_false_iff, Bool.or_eq_false_iff, ← Bool.decide_and, ← Bool.decide_or, ← decide_not, Bool.decide_eq_true, beq_iff_eq, beq_eq_false_iff_ne, ne_eq, and_true, true_and, true_eq_decide_iff, false_eq_decide_iff, if_true, if_false, IntKind.min, eq_self, kmin, kmax, Bool.true_eq, Bool.false_eq, decide_eq_true_iff, Bool.cond_true_left, Bool.cond_false_left, Bool.cond_true_right, Bool.cond_false_right]
       simp only [PM, WM, Chk] at *
       (first | omega | (refine ⟨?_, trivial⟩; omega)))
    | (have hT : ¬ Tight fx fy tx ty pe pl de dl lo se := by simp only [Tight, PM, WM, Chk] at *; omega
       simp only [pPl, pI, pReq, pVeh, req, vehS, plS, I, B, T20, tight, tg, if_neg hT, hT, cond_or, leSV, leSVs, leVal, decide_true, decide_false, cond_true, cond_false, Bool.not_eq_eq_eq_not, Bool.not_true, Bool.not_false, Bool.not_not, Bool.true_and, Bool.and_true, Bool.false_and, Bool.and_false, Bool.or_true, Bool.true_or, Bool.or_false, Bool.false_or, Bool.not_eq_true, Bool.not_eq_false, decide_eq_true_eq, decide_eq_false_iff_not, decide_eq_decide, Bool.and_eq_true, Bool.or_eq_true, Bool.and_eq_false_iff, Bool.or_eq_false_iff, ← Bool.decide_and, ← Bool.decide_or, ← decide_not, Bool.decide_eq_true, beq_iff_eq, beq_eq_false_iff_ne, ne_eq, and_true, true_and, true_eq_decide_iff, false_eq_decide_iff, if_true, if_false, IntKind.min, eq_self, kmin, kmax, Bool.true_eq, Bool.false_eq, decide_eq_true_iff, Bool.cond_true_left, Bool.cond_false_left, Bool.cond_true_right, Bool.cond_false_right]
       omega)
theorem okG23 : PCok Try.prog G23 := addPC_ok okG22 mixed pTight18
set_option maxHeartbeats 4000000 in
theorem pB23 : Pure Try.prog G23 23 kB23 := pure_of (fun (n, l, (g, glo, ghi), _) => noLoops) 100 fun (n, l, (g, glo, ghi), _) hf _ => by
  simp only [pPl, pI, pReq, pVeh, req, vehS, plS, I, B, T20, btw, ParL.cons, ParL.nil, Par.agg, Par.int, Par.intR, Par.intAny, Par.bool, Par.str, Par.ro, Par.rs] at hf
  refine ⟨rfl, Eq.mpr (t23 n l g ghi fun u => leSV u (B (btw n l g) 0 ghi)) ?_⟩
  repeat' (first | (refine introW64 ?_; intro _ _ _ _ _) | (refine introWu64 ?_; intro _ _) | refine need1 ?_ | refine need2 ?_ | refine need3 ?_ | refine need4 ?_ | refine need5 ?_ | refine need6 ?_ | refine need7 ?_ | intro _ | (refine bif_intro (fun _ => ?_) (fun _ => ?_)))
  all_goals subst_vars
  all_goals simp only [pPl, pI, pReq, pVeh, req, vehS, plS, I, B, T20, cond_or, leSV, leSVs, leVal, decide_true, decide_false, cond_true, cond_false, Bool.not_eq_eq_eq_not, Bool.not_true, Bool.not_false, Bool.not_not, Bool.true_and, Bool.and_true, Bool.false_and, Bool.and_false, Bool.or_true, Bool.true_or, Bool.or_false, Bool.false_or, Bool.not_eq_true, Bool.not_eq_false, decide_eq_true_eq, decide_eq_false_iff_not, decide_eq_decide, Bool.and_eq_true, Bool.or_eq_true, Bool.and_eq_false_iff, Bool.or_eq_false_iff, ← Bool.decide_and, ← Bool.decide_or, ← decide_not, Bool.decide_eq_true, beq_iff_eq, beq_eq_false_iff_ne, ne_eq, and_true, true_and, true_eq_decide_iff, false_eq_decide_iff, if_true, if_false, IntKind.min, eq_self, kmin, kmax, Bool.true_eq, Bool.false_eq, decide_eq_true_iff, Bool.cond_true_left, Bool.cond_false_left, Bool.cond_true_right, Bool.cond_false_right] at *
  all_goals (have h := btw_in n l g (by omega); simp only [btw] at *; exact ⟨trivial, .inr (by omega)⟩)
theorem okG24 : PCok Try.prog G24 := addPC_ok okG23 mixed pB23
set_option maxHeartbeats 4000000 in
theorem pP22 : Pure Try.prog G24 22 kP22 := pure_of (fun ((a, b, _), _) => noLoops) 100 fun ((a, b, _), _) hf _ => by
  simp only [pPl, pI, pReq, pVeh, req, vehS, plS, I, B, T20, ParL.cons, ParL.nil, Par.agg, Par.int, Par.intR, Par.intAny, Par.bool, Par.str, Par.ro, Par.rs] at hf
  refine ⟨rfl, Eq.mpr (t22 a b fun u => leSV u (.agg [B (btw a 0 1023) 0 1023, B (btw b 0 1023) 0 1023])) ?_⟩
  repeat' (first | (refine introW64 ?_; intro _ _ _ _ _) | (refine introWu64 ?_; intro _ _) | refine need1 ?_ | refine need2 ?_ | refine need3 ?_ | refine need4 ?_ | refine need5 ?_ | refine need6 ?_ | refine need7 ?_ | intro _ | (refine bif_intro (fun _ => ?_) (fun _ => ?_)))
  all_goals subst_vars
  all_goals simp only [pPl, pI, pReq, pVeh, req, vehS, plS, I, B, T20, cond_or, leSV, leSVs, leVal, decide_true, decide_false, cond_true, cond_false, Bool.not_eq_eq_eq_not, Bool.not_true, Bool.not_false, Bool.not_not, Bool.true_and, Bool.and_true, Bool.false_and, Bool.and_false, Bool.or_true, Bool.true_or, Bool.or_false, Bool.false_or, Bool.not_eq_true, Bool.not_eq_false, decide_eq_true_eq, decide_eq_false_iff_not, decide_eq_decide, Bool.and_eq_true, Bool.or_eq_true, Bool.and_eq_false_iff, Bool.or_eq_false_iff, ← Bool.decide_and, ← Bool.decide_or, ← decide_not, Bool.decide_eq_true, beq_iff_eq, beq_eq_false_iff_ne, ne_eq, and_true, true_and, true_eq_decide_iff, false_eq_decide_iff, if_true, if_false, IntKind.min, eq_self, kmin, kmax, Bool.true_eq, Bool.false_eq, decide_eq_true_iff, Bool.cond_true_left, Bool.cond_false_left, Bool.cond_true_right, Bool.cond_false_right] at *
  all_goals (try omega)
theorem okG25 : PCok Try.prog G25 := addPC_ok okG24 mixed pP22
set_option maxHeartbeats 4000000 in
theorem pW24 : Pure Try.prog G25 24 kW24 := pure_of (fun ((a, b, _), (g, glo, ghi), _) => noLoops) 100 fun ((a, b, _), (g, glo, ghi), _) hf _ => by
  simp only [pPl, pI, pReq, pVeh, req, vehS, plS, I, B, T20, ParL.cons, ParL.nil, Par.agg, Par.int, Par.intR, Par.intAny, Par.bool, Par.str, Par.ro, Par.rs] at hf
  refine ⟨rfl, Eq.mpr (t24 a b g ghi fun u => leSV u (.agg [B (min (btw a 0 g) (btw b 0 g)) 0 ghi, B (max (btw a 0 g) (btw b 0 g)) 0 ghi])) ?_⟩
  repeat' (first | (refine introW64 ?_; intro _ _ _ _ _) | (refine introWu64 ?_; intro _ _) | refine need1 ?_ | refine need2 ?_ | refine need3 ?_ | refine need4 ?_ | refine need5 ?_ | refine need6 ?_ | refine need7 ?_ | intro _ | (refine bif_intro (fun _ => ?_) (fun _ => ?_)))
  all_goals subst_vars
  all_goals simp only [pPl, pI, pReq, pVeh, req, vehS, plS, I, B, T20, cond_or, leSV, leSVs, leVal, decide_true, decide_false, cond_true, cond_false, Bool.not_eq_eq_eq_not, Bool.not_true, Bool.not_false, Bool.not_not, Bool.true_and, Bool.and_true, Bool.false_and, Bool.and_false, Bool.or_true, Bool.true_or, Bool.or_false, Bool.false_or, Bool.not_eq_true, Bool.not_eq_false, decide_eq_true_eq, decide_eq_false_iff_not, decide_eq_decide, Bool.and_eq_true, Bool.or_eq_true, Bool.and_eq_false_iff, Bool.or_eq_false_iff, ← Bool.decide_and, ← Bool.decide_or, ← decide_not, Bool.decide_eq_true, beq_iff_eq, beq_eq_false_iff_ne, ne_eq, and_true, true_and, true_eq_decide_iff, false_eq_decide_iff, if_true, if_false, IntKind.min, eq_self, kmin, kmax, Bool.true_eq, Bool.false_eq, decide_eq_true_iff, Bool.cond_true_left, Bool.cond_false_left, Bool.cond_true_right, Bool.cond_false_right] at *
  all_goals (have h1 := btw_in a 0 g (by omega); have h2 := btw_in b 0 g (by omega); omega)
theorem okG26 : PCok Try.prog G26 := addPC_ok okG25 mixed pW24
set_option maxHeartbeats 4000000 in
theorem pRight8 : Pure Try.prog G26 8 kRight8 := pure_of (fun ((fx, fy, tx, ty, pe, pl, de, dl, lo, se, _), sm, _) => noLoops) 100 fun ((fx, fy, tx, ty, pe, pl, de, dl, lo, se, _), sm, _) hf _ => by
  simp only [pPl, pI, pReq, pVeh, req, vehS, plS, I, B, T20, right, vright, most, sm30, wE, wL, rLo, rSe, vCap, vSt, vEn, iff, ParL.cons, ParL.nil, Par.agg, Par.int, Par.intR, Par.intAny, Par.bool, Par.str, Par.ro, Par.rs] at hf
  refine ⟨rfl, Eq.mpr (t8 fx fy tx ty pe pl de dl lo se sm fun u => leSV u (right fx fy tx ty pe pl de dl lo se sm)) ?_⟩
  repeat' (first | (refine introW64 ?_; intro _ _ _ _ _) | (refine introWu64 ?_; intro _ _) | refine need1 ?_ | refine need2 ?_ | refine need3 ?_ | refine need4 ?_ | refine need5 ?_ | refine need6 ?_ | refine need7 ?_ | intro _ | (refine bif_intro (fun _ => ?_) (fun _ => ?_)))
  all_goals subst_vars
  all_goals simp only [pPl, pI, pReq, pVeh, req, vehS, plS, I, B, T20, right, vright, most, sm30, wE, wL, rLo, rSe, vCap, vSt, vEn, iff, cond_or, leSV, leSVs, leVal, decide_true, decide_false, cond_true, cond_false, Bool.not_eq_eq_eq_not, Bool.not_true, Bool.not_false, Bool.not_not, Bool.true_and, Bool.and_true, Bool.false_and, Bool.and_false, Bool.or_true, Bool.true_or, Bool.or_false, Bool.false_or, Bool.not_eq_true, Bool.not_eq_false, decide_eq_true_eq, decide_eq_false_iff_not, decide_eq_decide, Bool.and_eq_true, Bool.or_eq_true, Bool.and_eq_false_iff, Bool.or_eq_false_iff, ← Bool.decide_and, ← Bool.decide_or, ← decide_not, Bool.decide_eq_true, beq_iff_eq, beq_eq_false_iff_ne, ne_eq, and_true, true_and, true_eq_decide_iff, false_eq_decide_iff, if_true, if_false, IntKind.min, eq_self, kmin, kmax, Bool.true_eq, Bool.false_eq, decide_eq_true_iff, Bool.cond_true_left, Bool.cond_false_left, Bool.cond_true_right, Bool.cond_false_right] at *
  all_goals (try omega)
theorem okG27 : PCok Try.prog G27 := addPC_ok okG26 mixed pRight8
set_option maxHeartbeats 4000000 in
theorem pVeh9 : Pure Try.prog G27 9 kVeh9 := pure_of (fun ((hx, hy, cap, st, en, _), sm, _) => noLoops) 100 fun ((hx, hy, cap, st, en, _), sm, _) hf _ => by
  simp only [pPl, pI, pReq, pVeh, req, vehS, plS, I, B, T20, right, vright, most, sm30, wE, wL, rLo, rSe, vCap, vSt, vEn, iff, ParL.cons, ParL.nil, Par.agg, Par.int, Par.intR, Par.intAny, Par.bool, Par.str, Par.ro, Par.rs] at hf
  refine ⟨rfl, Eq.mpr (t9 hx hy cap st en sm fun u => leSV u (vright hx hy cap st en sm)) ?_⟩
  repeat' (first | (refine introW64 ?_; intro _ _ _ _ _) | (refine introWu64 ?_; intro _ _) | refine need1 ?_ | refine need2 ?_ | refine need3 ?_ | refine need4 ?_ | refine need5 ?_ | refine need6 ?_ | refine need7 ?_ | intro _ | (refine bif_intro (fun _ => ?_) (fun _ => ?_)))
  all_goals subst_vars
  all_goals simp only [pPl, pI, pReq, pVeh, req, vehS, plS, I, B, T20, right, vright, most, sm30, wE, wL, rLo, rSe, vCap, vSt, vEn, iff, cond_or, leSV, leSVs, leVal, decide_true, decide_false, cond_true, cond_false, Bool.not_eq_eq_eq_not, Bool.not_true, Bool.not_false, Bool.not_not, Bool.true_and, Bool.and_true, Bool.false_and, Bool.and_false, Bool.or_true, Bool.true_or, Bool.or_false, Bool.false_or, Bool.not_eq_true, Bool.not_eq_false, decide_eq_true_eq, decide_eq_false_iff_not, decide_eq_decide, Bool.and_eq_true, Bool.or_eq_true, Bool.and_eq_false_iff, Bool.or_eq_false_iff, ← Bool.decide_and, ← Bool.decide_or, ← decide_not, Bool.decide_eq_true, beq_iff_eq, beq_eq_false_iff_ne, ne_eq, and_true, true_and, true_eq_decide_iff, false_eq_decide_iff, if_true, if_false, IntKind.min, eq_self, kmin, kmax, Bool.true_eq, Bool.false_eq, decide_eq_true_iff, Bool.cond_true_left, Bool.cond_false_left, Bool.cond_true_right, Bool.cond_false_right] at *
  all_goals (try omega)
theorem okG28 : PCok Try.prog G28 := addPC_ok okG27 mixed pVeh9
set_option maxHeartbeats 4000000 in
theorem pWorks : Pure Try.prog G28 14 kWorks := pure_of (fun _ => noLoops) 100 fun _ hf _ => by
  simp only [ParL.cons, ParL.nil, Par.agg, Par.int, Par.intR, Par.intAny, Par.bool, Par.str, Par.ro, Par.rs] at hf
  refine ⟨rfl, Eq.mpr (t14  fun u => leSV u (.v (.bool true))) ?_⟩
  repeat' (first | (refine introW64 ?_; intro _ _ _ _ _) | (refine introWu64 ?_; intro _ _) | refine need1 ?_ | refine need2 ?_ | refine need3 ?_ | refine need4 ?_ | refine need5 ?_ | refine need6 ?_ | refine need7 ?_ | intro _ | (refine bif_intro (fun _ => ?_) (fun _ => ?_)))
  all_goals rfl
theorem okG29 : PCok Try.prog G29 := addPC_ok okG28 mixed pWorks
end Go.Proofs.Ytgjjjcihiahpoaa
