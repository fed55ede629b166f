/- OrderTight answers true at every input. No condition. -/
import Derived.Test.YtgjjjcihiahpoaaO4Ot
import Derived.Test.YtgjjjcihiahpoaaO4P
import Derived.Test.YtgjjjcihiahpoaaEngM
namespace Go.Proofs.Ytgjjjcihiahpoaa
open Go.Eng
namespace orderTight
theorem sm30_in (sm : Bool) (x : Int) : 0 ≤ sm30 sm x ∧ sm30 sm x ≤ 1023 := by
  have h := btw_in x 0 1023 (by omega)
  cases sm <;> simp only [sm30, iff, cond_true, cond_false] <;> omega
theorem most_in (sm : Bool) : 300 ≤ most sm ∧ most sm ≤ 1048576 := by cases sm <;> simp [most, iff]
theorem win_in (sm : Bool) (a b : Int) : 0 ≤ wE sm a b ∧ wE sm a b ≤ wL sm a b ∧ wL sm a b ≤ 1048576 := by
  have hm := most_in sm
  have h1 := btw_in a 0 (most sm) (by omega)
  have h2 := btw_in b 0 (most sm) (by omega)
  unfold wE wL
  omega
theorem rLo_in (sm : Bool) (x : Int) : 1 ≤ rLo sm x ∧ rLo sm x ≤ 1000 := by
  have h := btw_in x 1 1000 (by omega)
  cases sm <;> simp only [rLo, iff, cond_true, cond_false] <;> omega
theorem rSe_in (sm : Bool) (x : Int) : 0 ≤ rSe sm x ∧ rSe sm x ≤ 1000 := by
  have h := btw_in x 0 1000 (by omega)
  cases sm <;> simp only [rSe, iff, cond_true, cond_false] <;> omega
theorem vCap_in (sm : Bool) (x : Int) : 1 ≤ vCap sm x ∧ vCap sm x ≤ 100000 ∧ (sm = true → vCap sm x ≤ 40) := by
  have h := btw_in x 1 100000 (by omega)
  cases sm <;> simp [vCap, iff] <;> omega
theorem vWin_in (sm : Bool) (a b : Int) : 0 ≤ vSt sm a b ∧ vSt sm a b ≤ vEn sm a b ∧ vEn sm a b ≤ 1048576 ∧ (sm = true → vEn sm a b ≤ 499) := by
  have h1 := btw_in a 0 1048576 (by omega)
  have h2 := btw_in b 0 1048576 (by omega)
  cases sm
  · simp only [vSt, vEn, iff, cond_false]; exact ⟨by omega, by omega, by omega, fun h => by cases h⟩
  · simp only [vSt, vEn, iff, cond_true]; exact ⟨by omega, by omega, by omega, fun _ => by omega⟩
theorem right_chk (sm : Bool) (fx fy tx ty pe pl de dl lo se : Int) : Chk (sm30 sm fx) (sm30 sm fy) (sm30 sm tx) (sm30 sm ty) (wE sm pe pl) (wL sm pe pl) (wE sm de dl) (wL sm de dl) (rLo sm lo) (rSe sm se) := by
  have a := sm30_in sm fx; have b := sm30_in sm fy; have c := sm30_in sm tx; have d := sm30_in sm ty
  have e := win_in sm pe pl; have f := win_in sm de dl; have g := rLo_in sm lo; have h := rSe_in sm se
  exact ⟨⟨a.1, a.2, b.1, b.2⟩, ⟨c.1, c.2, d.1, d.2⟩, e, f, g, h⟩
theorem vright_veh (sm : Bool) (hx hy cap st en : Int) : veh (sm30 sm hx) (sm30 sm hy) (vCap sm cap) (vSt sm st en) (vEn sm st en) = 0 := by
  have a := sm30_in sm hx; have b := sm30_in sm hy; have c := vCap_in sm cap; have d := vWin_in sm st en
  exact (veh0 _ _ _ _ _).2 ⟨⟨a.1, a.2, b.1, b.2⟩, ⟨c.1, c.2.1⟩, ⟨d.1, d.2.1⟩, by omega, d.2.2.1⟩
theorem tight_chk {fx fy tx ty pe pl de dl lo se : Int} (h : Tight fx fy tx ty pe pl de dl lo se) : Chk fx fy tx ty pe (min pl (dl - (se + dist fx fy tx ty))) (max de (pe + (se + dist fx fy tx ty))) dl lo se := by
  have d := dist_in fx fy tx ty
  have c := (chk0 fx fy tx ty pe pl de dl lo se).1 h.1
  simp only [Tight, Chk, PM, WM] at *
  omega
theorem tight_again {fx fy tx ty pe pl de dl lo se : Int} (h : Tight fx fy tx ty pe pl de dl lo se) : Tight fx fy tx ty pe (min pl (dl - (se + dist fx fy tx ty))) (max de (pe + (se + dist fx fy tx ty))) dl lo se ∧ min (min pl (dl - (se + dist fx fy tx ty))) (dl - (se + dist fx fy tx ty)) = min pl (dl - (se + dist fx fy tx ty)) ∧
    max (max de (pe + (se + dist fx fy tx ty))) (pe + (se + dist fx fy tx ty)) = max de (pe + (se + dist fx fy tx ty)) := by
  refine ⟨⟨(chk0 _ _ _ _ _ _ _ _ _ _).2 (tight_chk h), ?_⟩, ?_, ?_⟩
  · have := h.2; omega
  · omega
  · omega
theorem tight_alone {fx fy tx ty pe pl de dl lo se hx hy cap st en : Int} (h : Tight fx fy tx ty pe pl de dl lo se) : (Alone fx fy tx ty pe (min pl (dl - (se + dist fx fy tx ty))) (max de (pe + (se + dist fx fy tx ty))) dl lo se hx hy cap st en ↔ Alone fx fy tx ty pe pl de dl lo se hx hy cap st en) ∧ alone fx fy tx ty pe (min pl (dl - (se + dist fx fy tx ty))) (max de (pe + (se + dist fx fy tx ty))) dl lo se hx hy cap st en = alone fx fy tx ty pe pl de dl lo se hx hy cap st en := by
  have c1 := (chk0 fx fy tx ty pe (min pl (dl - (se + dist fx fy tx ty))) (max de (pe + (se + dist fx fy tx ty))) dl lo se).2 (tight_chk h)
  have hA : Alone fx fy tx ty pe (min pl (dl - (se + dist fx fy tx ty))) (max de (pe + (se + dist fx fy tx ty))) dl lo se hx hy cap st en ↔ Alone fx fy tx ty pe pl de dl lo se hx hy cap st en := by
    simp only [Alone, c1, h.1, true_and]
    simp only [home, other, there]
    have := h.2
    omega
  refine ⟨hA, ?_⟩
  unfold alone
  by_cases k : Alone fx fy tx ty pe pl de dl lo se hx hy cap st en
  · rw [if_pos k, if_pos (hA.2 k)]
    simp only [Alone, home, other, there] at *
    omega
  · rw [if_neg k, if_neg fun q => k (hA.1 q)]
theorem not_tight {fx fy tx ty pe pl de dl lo se hx hy cap st en : Int} (c : Chk fx fy tx ty pe pl de dl lo se) (h : ¬ Tight fx fy tx ty pe pl de dl lo se) : ¬ Alone fx fy tx ty pe pl de dl lo se hx hy cap st en := by
  intro k
  apply h
  refine ⟨k.1, ?_⟩
  have k := k.2.2.2
  simp only [home, other, there] at k
  omega
set_option maxHeartbeats 4000000 in
set_option maxRecDepth 100000 in
theorem fallI (fx fy tx ty pe pl de dl lo se hx hy cap st en : Int) (sm : Bool) : fnS Try.prog G29 noLoops 100 5 [req fx fy tx ty pe pl de dl lo se, vehS hx hy cap st en, .b sm] [] fun v _ => isYes v := by
  refine Eq.mpr (t5 fx fy tx ty pe pl de dl lo se hx hy cap st en sm isYes) ?_
  intro z18 e18 z20 e20 z22 e22 z24 e24 z26 e26 z28 e28 z30 e30 z32 e32 z34 e34 z36 e36 z38 e38 z40 e40 z42 e42 z44 e44 z46 e46
  have hc : Chk z18 z20 z22 z24 z26 z28 z30 z32 z34 z36 := by subst_vars; exact right_chk sm fx fy tx ty pe pl de dl lo se
  have hv : veh z38 z40 z42 z44 z46 = 0 := by subst_vars; exact vright_veh sm hx hy cap st en
  clear e18 e20 e22 e24 e26 e28 e30 e32 e34 e36 e38 e40 e42 e44 e46
  by_cases hT : Tight z18 z20 z22 z24 z26 z28 z30 z32 z34 z36
  · have h1 := tight_chk hT
    have h2 := tight_again hT
    have h3 := tight_alone (hx := z38) (hy := z40) (cap := z42) (st := z44) (en := z46) hT
    have h4 := (chk0 z18 z20 z22 z24 z26 (min z28 (z32 - (z36 + dist z18 z20 z22 z24))) (max z30 (z26 + (z36 + dist z18 z20 z22 z24))) z32 z34 z36).2 h1
    have h5 : least z18 z20 z22 z24 z26 (min z28 (z32 - (z36 + dist z18 z20 z22 z24))) (max z30 (z26 + (z36 + dist z18 z20 z22 z24))) z32 z34 z36 = z36 + dist z18 z20 z22 z24 + z36 := if_pos h4
    have h7 : min z28 (z32 - (z36 + dist z18 z20 z22 z24)) ≤ z28 := by omega
    have h8 : z30 ≤ max z30 (z26 + (z36 + dist z18 z20 z22 z24)) := by omega
    have h9 : min z28 (z32 - (z36 + dist z18 z20 z22 z24)) + (z36 + dist z18 z20 z22 z24 + z36) - z36 ≤ z32 := by omega
    simp only [↓forall_eq, tg, eq_true hT, if_true, decide_true, Bool.not_true, ↓cond_true, ↓cond_false]
    simp only [↓forall_eq, eq_true h2.1, if_true, h2.2.1, h2.2.2, h3.2, h3.1, h4, h5, eq_true h7, eq_true h8, eq_true h9, decide_true, beq_self_eq_true, Bool.and_self, Bool.true_or, Bool.or_true, Bool.or_self, ↓cond_true, ↓cond_false, Bool.cond_self, isYes]
  · have h1 := not_tight (hx := z38) (hy := z40) (cap := z42) (st := z44) (en := z46) hc hT
    simp only [↓forall_eq, eq_false hT, eq_false h1, decide_false, Bool.not_false, ↓cond_true, isYes]
def shapes : List (Bool × List Kd2) := [(true, [.k (.int .i64), .k (.int .i64), .k (.int .i64), .k (.int .i64), .k (.int .i64), .k (.int .i64), .k (.int .i64), .k (.int .i64), .k (.int .i64), .k (.int .i64)]), (true, [.k (.int .i64), .k (.int .i64), .k (.int .i64), .k (.int .i64), .k (.int .i64)]), (false, [.k .bool])]
theorem fall (ss : List SV) (h : ParsOk shapes ss) : fnS Try.prog G29 noLoops 100 5 ss [] fun u _ => isYes u := by
  obtain ⟨s0, r0, rfl, p0, h⟩ := ps_cons h
  obtain ⟨s1, r1, rfl, p1, h⟩ := ps_cons h
  obtain ⟨s2, r2, rfl, p2, h⟩ := ps_cons h
  obtain rfl := ps_nil h
  obtain ⟨l0, rfl, q0⟩ := par_agg p0
  obtain ⟨x0, _, rfl, b0, q0⟩ := fa_int q0
  obtain ⟨x1, _, rfl, b1, q0⟩ := fa_int q0
  obtain ⟨x2, _, rfl, b2, q0⟩ := fa_int q0
  obtain ⟨x3, _, rfl, b3, q0⟩ := fa_int q0
  obtain ⟨x4, _, rfl, b4, q0⟩ := fa_int q0
  obtain ⟨x5, _, rfl, b5, q0⟩ := fa_int q0
  obtain ⟨x6, _, rfl, b6, q0⟩ := fa_int q0
  obtain ⟨x7, _, rfl, b7, q0⟩ := fa_int q0
  obtain ⟨x8, _, rfl, b8, q0⟩ := fa_int q0
  obtain ⟨x9, _, rfl, b9, q0⟩ := fa_int q0
  obtain rfl := fa_nil q0
  obtain ⟨l1, rfl, q1⟩ := par_agg p1
  obtain ⟨x10, _, rfl, b10, q1⟩ := fa_int q1
  obtain ⟨x11, _, rfl, b11, q1⟩ := fa_int q1
  obtain ⟨x12, _, rfl, b12, q1⟩ := fa_int q1
  obtain ⟨x13, _, rfl, b13, q1⟩ := fa_int q1
  obtain ⟨x14, _, rfl, b14, q1⟩ := fa_int q1
  obtain rfl := fa_nil q1
  have q2 := par_one p2
  obtain ⟨x15, _, he2, q2⟩ := fa_bool q2
  obtain rfl := fa_nil q2
  simp only [List.cons.injEq, and_true] at he2
  subst he2
  exact fallI x0 x1 x2 x3 x4 x5 x6 x7 x8 x9 x10 x11 x12 x13 x14 x15
end orderTight
end Go.Proofs.Ytgjjjcihiahpoaa
