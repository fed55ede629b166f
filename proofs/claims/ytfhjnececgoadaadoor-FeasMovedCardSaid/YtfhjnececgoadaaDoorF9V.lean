/- The law FeasMoved, run by the engine, answers true: for all arguments. No condition. -/
import Derived.Test.YtfhjnececgoadaaDoorF9VT
namespace Go.Proofs.YtfhjnececgoadaaDoor
open Go.Eng
set_option linter.unusedSimpArgs false
namespace feasMoved
set_option maxRecDepth 100000 in
set_option maxHeartbeats 4000000 in
theorem fallI (x0 : List (List Value)) (x1 : Int) (x2 : Int) (x3 : Int) (x4 : List (List Value)) (x5 : Int) (x6 : Int) (x7 : Int) (x8 : Int) (b0 : ∀ x ∈ x0, Fa [.int .u8] x) (c0 : x0.length ≤ maxLen) (b1 : (0 : Int) ≤ x1 ∧ x1 ≤ 255) (b2 : (0 : Int) ≤ x2 ∧ x2 ≤ 255) (b3 : (-9223372036854775808 : Int) ≤ x3 ∧ x3 ≤ 9223372036854775807) (b4 : ∀ x ∈ x4, Fa [.int .u8] x) (c4 : x4.length ≤ maxLen) (b5 : (0 : Int) ≤ x5 ∧ x5 ≤ 255) (b6 : (0 : Int) ≤ x6 ∧ x6 ≤ 255) (b7 : (-128 : Int) ≤ x7 ∧ x7 ≤ 127) (b8 : (0 : Int) ≤ x8 ∧ x8 ≤ 65535) : ∃ ss, leSVs [.agg [.row 0, .i .u8 x1 (0) 255, .i .u8 x2 (0) 255, .i .i64 x3 (-9223372036854775808) 9223372036854775807], .agg [.row 1, .i .u8 x5 (0) 255, .i .u8 x6 (0) 255, .i .i8 x7 (-128) 127], .i .u16 x8 (0) 65535] ss ∧ ∃ Λ n, fnS Tryd.prog G46 Λ n 6 ss [.ror [.int .u8] x0 false, .ror [.int .u8] x4 false] fun u _ => isYes u := by
  refine ⟨_, leSVs_refl _, _, 300, Eq.mpr (tFV x0 x1 x2 x3 x4 x5 x6 x7 x8) ?_⟩
  (simp only [eq_self_iff_true, true_and, and_true, false_and, and_false, Bool.or_not_self, Bool.not_or_self, Bool.cond_self, cond_true, cond_false, Bool.cond_true_right, Bool.cond_true_left, Bool.cond_false_right, Bool.cond_false_left, Bool.or_true, Bool.true_or, Bool.or_false, Bool.false_or, Bool.and_true, Bool.true_and, Bool.and_false, Bool.false_and, Bool.not_not, forall_eq, ← Bool.decide_and, ← Bool.decide_or, ← decide_not, cDecF, cDecT, cDecFl, Decidable.not_not, Bool.not_true, Bool.not_false, Bool.false_eq_true, imp_false, not_true_eq_false, not_false_eq_true, forall_const, true_implies, false_implies, implies_true, decide_true, decide_false]; try simp only [cDec, eq_self_iff_true, true_and, and_true, false_and, and_false, Bool.or_not_self, Bool.not_or_self, Bool.cond_self, cond_true, cond_false, Bool.cond_true_right, Bool.cond_true_left, Bool.cond_false_right, Bool.cond_false_left, Bool.or_true, Bool.true_or, Bool.or_false, Bool.false_or, Bool.and_true, Bool.true_and, Bool.and_false, Bool.false_and, Bool.not_not, forall_eq, ← Bool.decide_and, ← Bool.decide_or, ← decide_not, cDecF, cDecT, cDecFl, Decidable.not_not, Bool.not_true, Bool.not_false, Bool.false_eq_true, imp_false, not_true_eq_false, not_false_eq_true, forall_const, true_implies, false_implies, implies_true, decide_true, decide_false])
  have h12 := own_12 x0 x1
  have hst := draft_st x0 x1
  have hve := draft_veh x0 x1
  have hp := pT_len (dTs x0 x1 x2) (dOwn x0 x1) x4 (dVx x0 x1) (dVy x0 x1) (dVs x0 x1) x5 x6 x7
  have hq := dTs_ok x0 x1 x2
  have hrg := own_rngs x0 x1 x2
  have h6 : (dTs x0 x1 x2).length ≤ 6 := by have := dN_in x1; rw [dTs_len]; omega
  have hm5 := fun x hx => dTs_5 (bs := x0) (N := x1) (w := x2) (x := x) hx
  have hm7 := fun x hx => (dTs_mem (bs := x0) (N := x1) (w := x2) (x := x) hx).2
  have hpin := fun i hi => pT_in (a := x5) (w := x6) (hx := dVx x0 x1) (hy := dVy x0 x1) b4 hq (fun i hi => rngs_at hrg hi) hst (by omega) b7 (i := i) hi
  rw [hrg, hq]
  generalize dVx x0 x1 = hx at *
  generalize dVy x0 x1 = hy at *
  generalize hcc : dVc x0 x1 = cap at *
  generalize dVs x0 x1 = st at *
  generalize dVe x0 x1 = en at *
  generalize dOwn x0 x1 = l at *
  generalize dTs x0 x1 x2 = t at *
  generalize hpp : pT t l x4 hx hy st x5 x6 x7 = p at *
  have hv := hve.1
  have hv2 := hve.2
  have v0 := (veh0 _ _ _ _ _).1 hv
  have row : ∀ i, i < t.length → Chk (rf t i 0) (rf t i 1) (rf t i 2) (rf t i 3) (rf t i 4) (rf t i 5) (rf t i 6) (rf t i 7) (rf t i 8) (rf t i 9) := fun i hi => rq_of hq (inL_of (by omega))
  have fld : ∀ i, i < t.length → 0 ≤ geti (t.getD i []) 4 ∧ geti (t.getD i []) 4 ≤ geti (t.getD i []) 5 ∧ geti (t.getD i []) 5 ≤ 2000 ∧ 0 ≤ geti (t.getD i []) 6 ∧ geti (t.getD i []) 6 ≤ geti (t.getD i []) 7 ∧ geti (t.getD i []) 7 ≤ 2000 := fun i hi => by
    have hmem : t.getD i [] ∈ t := getD_in hi
    have h1 := hm5 _ hmem
    obtain ⟨h2, h3, h4⟩ := hm7 _ hmem
    obtain ⟨_, _, w1, w2, _⟩ := row i hi
    have e4 : rf t (i : Int) 4 = geti (t.getD i []) 4 := by unfold rf; rw [Int.toNat_natCast]
    have e5 : rf t (i : Int) 5 = geti (t.getD i []) 5 := by unfold rf; rw [Int.toNat_natCast]
    rw [e4, e5] at w1
    obtain ⟨w1a, w1b, _⟩ := w1
    omega
  simp only [cond_true]
  rw [lenI_eq, lenI_eq, lenI_eq]
  refine ⟨hst, by omega, by omega, by omega, 0, ⟨by omega, by omega⟩, ⟨⟨rfl, by omega, by omega⟩, by rw [List.nil_append]; exact (mapN_0 _ _).symm⟩, ?_⟩
  rintro k ⟨k0, k1⟩
  have e : (k + 1).toNat = k.toNat + 1 := by omega
  refine ⟨fun hlt => ?_, fun hge => ?_⟩
  · rw [mapN_len] at hlt
    have hk : k.toNat < t.length := by omega
    obtain ⟨s1, s2⟩ := mapN_step (mvR x8) hk
    obtain ⟨f1, f2, f3, f4, f5, f6⟩ := fld _ hk
    have w4 : IntKind.i64.wrap (geti (t.getD k.toNat []) 4 + x8) = geti (t.getD k.toNat []) 4 + x8 := wr64 _ (by omega)
    have w5 : IntKind.i64.wrap (geti (t.getD k.toNat []) 5 + x8) = geti (t.getD k.toNat []) 5 + x8 := wr64 _ (by omega)
    have w6 : IntKind.i64.wrap (geti (t.getD k.toNat []) 6 + x8) = geti (t.getD k.toNat []) 6 + x8 := wr64 _ (by omega)
    have w7 : IntKind.i64.wrap (geti (t.getD k.toNat []) 7 + x8) = geti (t.getD k.toNat []) 7 + x8 := wr64 _ (by omega)
    have hb : k.toNat < (mapN (mvR x8) t k.toNat).length := by rw [mapN_len]; exact hk
    simp only [List.length_set, set_get hb, List.set_set, mapN_len, s1, w4, w5, w6, w7]
    refine ⟨⟨k0, hlt⟩, ⟨k0, hlt⟩, ⟨k0, hlt⟩, ⟨k0, hlt⟩, ⟨k0, hlt⟩, ⟨k0, hlt⟩, k + 1, ⟨by omega, by omega⟩, by omega, ⟨wr64 _ (by omega), by omega, by omega⟩, ?_⟩
    rw [e, ← s2]; rfl
  have hk : k.toNat = t.length := by rw [mapN_len] at hge; omega
  rw [hk, mapN_all]
  clear hge k0 k1 e hk k
  refine ⟨0, ⟨by omega, by omega⟩, ⟨⟨rfl, by omega, by omega⟩, by rw [List.nil_append]; exact (mapN_0 _ _).symm⟩, ?_⟩
  rintro k ⟨k0, k1⟩
  have e : (k + 1).toNat = k.toNat + 1 := by omega
  refine ⟨fun hlt => ?_, fun hge => ?_⟩
  · rw [mapN_len] at hlt ⊢
    have hk : k.toNat < p.length := by omega
    obtain ⟨s1, s2⟩ := mapN_step (mvT x8) hk
    refine ⟨⟨k0, hlt⟩, ⟨k0, hlt⟩, ⟨k0, hlt⟩, ⟨k0, hlt⟩, k + 1, ⟨by omega, by omega⟩, by omega, ⟨wr64 _ (by omega), by omega, by omega⟩, ?_⟩
    rw [e, ← s2]; rfl
  have hk : k.toNat = p.length := by rw [mapN_len] at hge; omega
  rw [hk, mapN_all]
  have S : Shift x8 t (t.map (mvR x8)) := by
    refine ⟨⟨by simp, fun i j hj => ?_⟩, fun i j hi hj => ?_⟩
    · by_cases hi : i < t.length
      · rw [map_get _ hi]
        rcases hj with rfl | rfl | rfl | rfl | rfl | rfl <;> rfl
      · exact map_none _ hi j
    · rw [map_get _ hi]
      rcases hj with rfl | rfl | rfl | rfl <;> rfl
  have hq2 : reqsOk (t.map (mvR x8)) = true := reqs_all fun i hi => by
    rw [List.length_map] at hi
    obtain ⟨c1, c2, c3, c4, c5, c6⟩ := row i hi
    obtain ⟨f1, f2, f3, f4, f5, f6⟩ := fld i hi
    have er : ∀ j, rf t (i : Int) j = geti (t.getD i []) j := fun j => by unfold rf; rw [Int.toNat_natCast]
    simp only [er] at c1 c2 c5 c6
    unfold reqG
    rw [map_get _ hi]
    refine decide_eq_true ((chk0 _ _ _ _ _ _ _ _ _ _).2 ⟨c1, c2, ?_, ?_, c5, c6⟩)
    · show WM (geti (t.getD i []) 4 + x8) (geti (t.getD i []) 5 + x8); simp only [WM]; omega
    · show WM (geti (t.getD i []) 6 + x8) (geti (t.getD i []) 7 + x8); simp only [WM]; omega
  have hv3 : veh hx hy cap (st + x8) (en + x8) = 0 := (veh0 _ _ _ _ _).2 ⟨v0.1, by omega, by omega, by omega⟩
  have hin := fun i hi => rngs_at hrg (i := i) hi
  have hC := shift_chk S hin hq hq2 hv hv3
  have hR := shift_right (p := p) (p' := p.map (mvT x8)) S hin hq hq2 hv hv3 (by simp) (fun i j hi hj => by
    rw [map_get _ hi]
    have hpi := hpin i (by omega)
    rcases hj with rfl | rfl | rfl
    · exact wr64 _ (by have := hpi 0 (.inl rfl); omega)
    · exact wr64 _ (by have := hpi 1 (.inr (.inl rfl)); omega)
    · exact wr64 _ (by have := hpi 2 (.inr (.inr rfl)); omega))
  rw [hC, hR]
  refine ⟨fun h => ?_, fun h => ?_⟩
  · have hc : (chkF hx hy cap st en l t).c = 0 := by omega
    rw [decide_eq_true ⟨hc, hc⟩]; simp
  · have hc : ¬ (chkF hx hy cap st en l t).c = 0 := fun g => h (.inl g)
    have hr : rightB hx hy cap st en l t p = false := by
      cases g : rightB hx hy cap st en l t p with
      | false => rfl
      | true => exact absurd (right_chk g) hc
    rw [hr]
    exact ⟨hc, hc, by simp⟩
def shapes : List (Bool × List Kd2) := [(true, [.sl [.int .u8], .k (.int .u8), .k (.int .u8), .k (.int .i64)]), (true, [.sl [.int .u8], .k (.int .u8), .k (.int .u8), .k (.int .i8)]), (false, [.k (.int .u16)])]
theorem fall (ss : List SV) (bs : List Blk) (h : ParsOk 0 shapes ss bs) : ∃ ss1, leSVs ss ss1 ∧ ∃ Λ n, fnS Tryd.prog G46 Λ n 6 ss1 bs fun u _ => isYes u := by
  obtain ⟨s0, r0, d0, e0, rfl, rfl, p0, h⟩ := ps_cons h
  obtain ⟨s1, r1, d1, e1, rfl, rfl, p1, h⟩ := ps_cons h
  obtain ⟨s2, r2, d2, e2, rfl, rfl, p2, h⟩ := ps_cons h
  obtain ⟨rfl, rfl⟩ := ps_nil h
  obtain ⟨l0, rfl, q0⟩ := par_agg p0
  obtain ⟨x0, _, t0, rfl, rfl, b0, c0, q0⟩ := fa_sl q0
  obtain ⟨x1, _, rfl, b1, q0⟩ := fa_int q0
  obtain ⟨x2, _, rfl, b2, q0⟩ := fa_int q0
  obtain ⟨x3, _, rfl, b3, q0⟩ := fa_int q0
  obtain ⟨rfl, rfl⟩ := fa_nil q0
  obtain ⟨l1, rfl, q1⟩ := par_agg p1
  obtain ⟨x4, _, t4, rfl, rfl, b4, c4, q1⟩ := fa_sl q1
  obtain ⟨x5, _, rfl, b5, q1⟩ := fa_int q1
  obtain ⟨x6, _, rfl, b6, q1⟩ := fa_int q1
  obtain ⟨x7, _, rfl, b7, q1⟩ := fa_int q1
  obtain ⟨rfl, rfl⟩ := fa_nil q1
  have q2 := par_one p2
  obtain ⟨x8, _, he2, b8, q2⟩ := fa_int q2
  obtain ⟨rfl, rfl⟩ := fa_nil q2
  simp only [List.cons.injEq, and_true] at he2
  subst he2
  exact fallI x0 x1 x2 x3 x4 x5 x6 x7 x8 b0 c0 b1 b2 b3 b4 c4 b5 b6 b7 b8
end feasMoved
end Go.Proofs.YtfhjnececgoadaaDoor
