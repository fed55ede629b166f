/- OrderEarly answers true at every input. No condition. -/
import Derived.Test.YtgjjjcihiahpoaaO4Oe
import Derived.Test.YtgjjjcihiahpoaaO4P
import Derived.Test.YtgjjjcihiahpoaaEngM
namespace Go.Proofs.Ytgjjjcihiahpoaa
open Go.Eng
namespace orderEarly
theorem sm30_in (sm : Bool) (x : Int) : 0 ≤ sm30 sm x ∧ sm30 sm x ≤ 1023 := by
  have h := btw_in x 0 1023 (by omega)
  cases sm <;> simp only [sm30, iff, cond_true, cond_false] <;> omega
theorem most_in (sm : Bool) : 300 ≤ most sm ∧ most sm ≤ 1048576 := by cases sm <;> simp [most, iff]
theorem win_in (sm : Bool) (a b : Int) : 0 ≤ wE sm a b ∧ wE sm a b ≤ wL sm a b ∧ wL sm a b ≤ 1048576 := by
  have hm := most_in sm
  have h1 := btw_in a 0 (most sm) (by omega)
  have h2 := btw_in b 0 (most sm) (by omega)
  unfold wE wL
  omega
theorem rLo_in (sm : Bool) (x : Int) : 1 ≤ rLo sm x ∧ rLo sm x ≤ 1000 := by
  have h := btw_in x 1 1000 (by omega)
  cases sm <;> simp only [rLo, iff, cond_true, cond_false] <;> omega
theorem rSe_in (sm : Bool) (x : Int) : 0 ≤ rSe sm x ∧ rSe sm x ≤ 1000 := by
  have h := btw_in x 0 1000 (by omega)
  cases sm <;> simp only [rSe, iff, cond_true, cond_false] <;> omega
theorem vCap_in (sm : Bool) (x : Int) : 1 ≤ vCap sm x ∧ vCap sm x ≤ 100000 ∧ (sm = true → vCap sm x ≤ 40) := by
  have h := btw_in x 1 100000 (by omega)
  cases sm <;> simp [vCap, iff] <;> omega
theorem vWin_in (sm : Bool) (a b : Int) : 0 ≤ vSt sm a b ∧ vSt sm a b ≤ vEn sm a b ∧ vEn sm a b ≤ 1048576 ∧ (sm = true → vEn sm a b ≤ 499) := by
  have h1 := btw_in a 0 1048576 (by omega)
  have h2 := btw_in b 0 1048576 (by omega)
  cases sm
  · simp only [vSt, vEn, iff, cond_false]; exact ⟨by omega, by omega, by omega, fun h => by cases h⟩
  · simp only [vSt, vEn, iff, cond_true]; exact ⟨by omega, by omega, by omega, fun _ => by omega⟩
theorem right_chk (sm : Bool) (fx fy tx ty pe pl de dl lo se : Int) : Chk (sm30 sm fx) (sm30 sm fy) (sm30 sm tx) (sm30 sm ty) (wE sm pe pl) (wL sm pe pl) (wE sm de dl) (wL sm de dl) (rLo sm lo) (rSe sm se) := by
  have a := sm30_in sm fx; have b := sm30_in sm fy; have c := sm30_in sm tx; have d := sm30_in sm ty
  have e := win_in sm pe pl; have f := win_in sm de dl; have g := rLo_in sm lo; have h := rSe_in sm se
  exact ⟨⟨a.1, a.2, b.1, b.2⟩, ⟨c.1, c.2, d.1, d.2⟩, e, f, g, h⟩
theorem vright_veh (sm : Bool) (hx hy cap st en : Int) : veh (sm30 sm hx) (sm30 sm hy) (vCap sm cap) (vSt sm st en) (vEn sm st en) = 0 := by
  have a := sm30_in sm hx; have b := sm30_in sm hy; have c := vCap_in sm cap; have d := vWin_in sm st en
  exact (veh0 _ _ _ _ _).2 ⟨⟨a.1, a.2, b.1, b.2⟩, ⟨c.1, c.2.1⟩, ⟨d.1, d.2.1⟩, by omega, d.2.2.1⟩
theorem early {fx fy tx ty pe pl de dl lo se hx hy cap st en cap' st' en' : Int} (hw : veh hx hy cap' st' en' = 0) (h1 : st' ≤ st) (h2 : cap ≤ cap') (h3 : en ≤ en') (h : Alone fx fy tx ty pe pl de dl lo se hx hy cap st en) :
    Alone fx fy tx ty pe pl de dl lo se hx hy cap' st' en' ∧ alone fx fy tx ty pe pl de dl lo se hx hy cap' st' en' ≤ alone fx fy tx ty pe pl de dl lo se hx hy cap st en ∧ st + least fx fy tx ty pe pl de dl lo se ≤ alone fx fy tx ty pe pl de dl lo se hx hy cap st en ∧ alone fx fy tx ty pe pl de dl lo se hx hy cap st en ≤ en := by
  have k : Alone fx fy tx ty pe pl de dl lo se hx hy cap' st' en' := by
    refine ⟨h.1, hw, by have := h.2.2.1; omega, ?_⟩
    have := h.2.2.2
    simp only [home, other, there] at *
    omega
  have d1 := dist_in hx hy fx fy
  have d3 := dist_in tx ty hx hy
  refine ⟨k, ?_⟩
  have e1 : alone fx fy tx ty pe pl de dl lo se hx hy cap' st' en' = _ := if_pos k
  have e2 : alone fx fy tx ty pe pl de dl lo se hx hy cap st en = _ := if_pos h
  have e3 : least fx fy tx ty pe pl de dl lo se = _ := if_pos h.1
  rw [e1, e2, e3]
  have := h.2.2.2
  simp only [home, other, there] at *
  omega
set_option maxHeartbeats 4000000 in
set_option maxRecDepth 100000 in
theorem fallI (fx fy tx ty pe pl de dl lo se hx hy cap st en : Int) (m0 m1 m2 : Int) (b0 : 0 ≤ m0 ∧ m0 ≤ 255) (b1 : 0 ≤ m1 ∧ m1 ≤ 255) (b2 : 0 ≤ m2 ∧ m2 ≤ 255) : fnS Try.prog G29 noLoops 100 6 [req fx fy tx ty pe pl de dl lo se, vehS hx hy cap st en, .agg [.i .u8 m0 0 255, .i .u8 m1 0 255, .i .u8 m2 0 255]] [] fun v _ => isYes v := by
  refine Eq.mpr (t6 fx fy tx ty pe pl de dl lo se hx hy cap st en m0 m1 m2 isYes) ?_
  intro z20 e20 z22 e22 z24 e24 z26 e26 z28 e28 z30 e30 z32 e32 z34 e34 z36 e36 z38 e38 z40 e40 z42 e42 z44 e44 z46 e46 z48 e48
  have hc : Chk z20 z22 z24 z26 z28 z30 z32 z34 z36 z38 := by subst_vars; exact right_chk true fx fy tx ty pe pl de dl lo se
  have hv : veh z40 z42 z44 z46 z48 = 0 := by subst_vars; exact vright_veh true hx hy cap st en
  have hm : z44 ≤ 40 ∧ z48 ≤ 499 := by subst_vars; exact ⟨(vCap_in true cap).2.2 rfl, (vWin_in true st en).2.2.2 rfl⟩
  clear e20 e22 e24 e26 e28 e30 e32 e34 e36 e38 e40 e42 e44 e46 e48
  have hv' := (veh0 z40 z42 z44 z46 z48).1 hv
  have hw : veh z40 z42 (z44 + m1) (max 0 (z46 - m0)) (z48 + m2) = 0 := (veh0 _ _ _ _ _).2 (by simp only [PM] at *; omega)
  by_cases hA : Alone z20 z22 z24 z26 z28 z30 z32 z34 z36 z38 z40 z42 z44 z46 z48
  · obtain ⟨h1, h2, h3, h4⟩ := early hw (by omega) (by omega) (by omega) hA
    simp only [↓forall_eq, eq_true hA, eq_true h1, eq_true h2, eq_true h3, eq_true h4, decide_true, Bool.not_true, Bool.not_false, Bool.and_self, Bool.true_or, Bool.or_true, Bool.or_self, Bool.true_and, ↓cond_true, ↓cond_false, Bool.cond_self, isYes]
  · simp only [↓forall_eq, eq_false hA, decide_false, Bool.not_true, Bool.not_false, Bool.and_self, Bool.true_or, Bool.or_true, Bool.or_self, Bool.false_and, ↓cond_true, ↓cond_false, Bool.cond_self, isYes]
def shapes : List (Bool × List Kd2) := [(true, [.k (.int .i64), .k (.int .i64), .k (.int .i64), .k (.int .i64), .k (.int .i64), .k (.int .i64), .k (.int .i64), .k (.int .i64), .k (.int .i64), .k (.int .i64)]), (true, [.k (.int .i64), .k (.int .i64), .k (.int .i64), .k (.int .i64), .k (.int .i64)]), (true, [.k (.int .u8), .k (.int .u8), .k (.int .u8)])]
theorem fall (ss : List SV) (h : ParsOk shapes ss) : fnS Try.prog G29 noLoops 100 6 ss [] fun u _ => isYes u := by
  obtain ⟨s0, r0, rfl, p0, h⟩ := ps_cons h
  obtain ⟨s1, r1, rfl, p1, h⟩ := ps_cons h
  obtain ⟨s2, r2, rfl, p2, h⟩ := ps_cons h
  obtain rfl := ps_nil h
  obtain ⟨l0, rfl, q0⟩ := par_agg p0
  obtain ⟨x0, _, rfl, b0, q0⟩ := fa_int q0
  obtain ⟨x1, _, rfl, b1, q0⟩ := fa_int q0
  obtain ⟨x2, _, rfl, b2, q0⟩ := fa_int q0
  obtain ⟨x3, _, rfl, b3, q0⟩ := fa_int q0
  obtain ⟨x4, _, rfl, b4, q0⟩ := fa_int q0
  obtain ⟨x5, _, rfl, b5, q0⟩ := fa_int q0
  obtain ⟨x6, _, rfl, b6, q0⟩ := fa_int q0
  obtain ⟨x7, _, rfl, b7, q0⟩ := fa_int q0
  obtain ⟨x8, _, rfl, b8, q0⟩ := fa_int q0
  obtain ⟨x9, _, rfl, b9, q0⟩ := fa_int q0
  obtain rfl := fa_nil q0
  obtain ⟨l1, rfl, q1⟩ := par_agg p1
  obtain ⟨x10, _, rfl, b10, q1⟩ := fa_int q1
  obtain ⟨x11, _, rfl, b11, q1⟩ := fa_int q1
  obtain ⟨x12, _, rfl, b12, q1⟩ := fa_int q1
  obtain ⟨x13, _, rfl, b13, q1⟩ := fa_int q1
  obtain ⟨x14, _, rfl, b14, q1⟩ := fa_int q1
  obtain rfl := fa_nil q1
  obtain ⟨l2, rfl, q2⟩ := par_agg p2
  obtain ⟨x15, _, rfl, b15, q2⟩ := fa_int q2
  obtain ⟨x16, _, rfl, b16, q2⟩ := fa_int q2
  obtain ⟨x17, _, rfl, b17, q2⟩ := fa_int q2
  obtain rfl := fa_nil q2
  exact fallI x0 x1 x2 x3 x4 x5 x6 x7 x8 x9 x10 x11 x12 x13 x14 x15 x16 x17 b15 b16 b17
end orderEarly
end Go.Proofs.Ytgjjjcihiahpoaa
