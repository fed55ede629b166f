/- The law FeasLess, run by the engine, answers true: for all arguments. No condition. -/
import Derived.Test.YtfhjnececgoadaaDoorF9LT
namespace Go.Proofs.YtfhjnececgoadaaDoor
open Go.Eng
set_option linter.unusedSimpArgs false
namespace feasLess
set_option maxRecDepth 100000 in
set_option maxHeartbeats 4000000 in
theorem fallI (x0 : List (List Value)) (x1 : Int) (x2 : Int) (x3 : Int) (x4 : List (List Value)) (x5 : Int) (x6 : Int) (x7 : Int) (x8 : Int) (b0 : ∀ x ∈ x0, Fa [.int .u8] x) (c0 : x0.length ≤ maxLen) (b1 : (0 : Int) ≤ x1 ∧ x1 ≤ 255) (b2 : (0 : Int) ≤ x2 ∧ x2 ≤ 255) (b3 : (-9223372036854775808 : Int) ≤ x3 ∧ x3 ≤ 9223372036854775807) (b4 : ∀ x ∈ x4, Fa [.int .u8] x) (c4 : x4.length ≤ maxLen) (b5 : (0 : Int) ≤ x5 ∧ x5 ≤ 255) (b6 : (0 : Int) ≤ x6 ∧ x6 ≤ 255) (b7 : (-128 : Int) ≤ x7 ∧ x7 ≤ 127) (b8 : (0 : Int) ≤ x8 ∧ x8 ≤ 255) : ∃ ss, leSVs [.agg [.row 0, .i .u8 x1 (0) 255, .i .u8 x2 (0) 255, .i .i64 x3 (-9223372036854775808) 9223372036854775807], .agg [.row 1, .i .u8 x5 (0) 255, .i .u8 x6 (0) 255, .i .i8 x7 (-128) 127], .i .u8 x8 (0) 255] ss ∧ ∃ Λ n, fnS Tryd.prog G51 Λ n 8 ss [.ror [.int .u8] x0 false, .ror [.int .u8] x4 false] fun u _ => isYes u := by
  refine ⟨_, leSVs_refl _, _, 300, Eq.mpr (tFL x0 x1 x2 x3 x4 x5 x6 x7 x8) ?_⟩
  (simp only [eq_self_iff_true, true_and, and_true, false_and, and_false, Bool.or_not_self, Bool.not_or_self, Bool.cond_self, cond_true, cond_false, Bool.cond_true_right, Bool.cond_true_left, Bool.cond_false_right, Bool.cond_false_left, Bool.or_true, Bool.true_or, Bool.or_false, Bool.false_or, Bool.and_true, Bool.true_and, Bool.and_false, Bool.false_and, Bool.not_not, forall_eq, ← Bool.decide_and, ← Bool.decide_or, ← decide_not, cDecF, cDecT, cDecFl, Decidable.not_not, Bool.not_true, Bool.not_false, Bool.false_eq_true, imp_false, not_true_eq_false, not_false_eq_true, forall_const, true_implies, false_implies, implies_true, decide_true, decide_false]; try simp only [cDec, eq_self_iff_true, true_and, and_true, false_and, and_false, Bool.or_not_self, Bool.not_or_self, Bool.cond_self, cond_true, cond_false, Bool.cond_true_right, Bool.cond_true_left, Bool.cond_false_right, Bool.cond_false_left, Bool.or_true, Bool.true_or, Bool.or_false, Bool.false_or, Bool.and_true, Bool.true_and, Bool.and_false, Bool.false_and, Bool.not_not, forall_eq, ← Bool.decide_and, ← Bool.decide_or, ← decide_not, cDecF, cDecT, cDecFl, Decidable.not_not, Bool.not_true, Bool.not_false, Bool.false_eq_true, imp_false, not_true_eq_false, not_false_eq_true, forall_const, true_implies, false_implies, implies_true, decide_true, decide_false])
  refine ⟨fun h => ?_, fun h => ⟨h, ?_⟩⟩
  · obtain ⟨g1, g2⟩ := empty_ok x0 x1 x2 (by omega)
    rw [g1, g2]; rfl
  have h12 := own_12 x0 x1
  have hst := draft_st x0 x1
  have hp := pT_len (dTs x0 x1 x2) (dOwn x0 x1) x4 (dVx x0 x1) (dVy x0 x1) (dVs x0 x1) x5 x6 x7
  rw [own_rngs, dTs_ok]
  have hx8 : 0 ≤ x8 ∧ x8 ≤ 255 := b8
  have hp0 : (0 : Int) < (dTs x0 x1 x2).length := by omega
  have hreq : inL (dTs x0 x1 x2) (x8.tmod (dTs x0 x1 x2).length) = true := by
    rw [Int.tmod_eq_emod_of_nonneg hx8.1]
    exact inL_of ⟨Int.emod_nonneg _ h, Int.emod_lt_of_pos _ hp0⟩
  generalize dVx x0 x1 = hx at *
  generalize dVy x0 x1 = hy at *
  generalize dVc x0 x1 = cap at *
  generalize dVs x0 x1 = st at *
  generalize dVe x0 x1 = en at *
  generalize dOwn x0 x1 = l at *
  generalize dTs x0 x1 x2 = t at *
  generalize pT t l x4 hx hy st x5 x6 x7 = p at *
  generalize x8.tmod t.length = r at *
  simp only [cond_true, take_fltz]
  rw [lenI_eq]
  refine ⟨hst, by omega, 0, ⟨by omega, by omega⟩, ⟨⟨rfl, by omega, by omega⟩, rfl⟩, ?_⟩
  rintro k ⟨k0, k1⟩
  have e : (k + 1).toNat = k.toNat + 1 := by omega
  have ew : k < (l.length : Int) → IntKind.i64.wrap (k + 1) = k + 1 := fun _ => wr64 _ (by omega)
  have hrl := rst_len l p r k.toNat
  refine ⟨fun hlt => ⟨⟨k0, hlt⟩, fun hr => ⟨⟨k0, by omega⟩, by rw [lenI_eq]; omega, k + 1, ⟨by omega, by omega⟩, by omega, ⟨ew hlt, by omega, by omega⟩, ?_⟩, fun hr => ⟨k + 1, ⟨by omega, by omega⟩, by omega, ⟨ew hlt, by omega, by omega⟩, ?_⟩⟩, fun hge => ⟨by omega, ?_⟩⟩
  · rw [e]; simp only [rst]; rw [decide_eq_false hr]; rfl
  · rw [e]; simp only [rst]; rw [decide_eq_true hr]; simp
  · rw [show k.toNat = l.length by omega]
    have hn : (rightB hx hy cap st en l t p && !rightB hx hy cap st en (flt r l) t (rst l p r l.length)) = false := by
      cases hc : rightB hx hy cap st en l t p with
      | false => rfl
      | true => rw [less_right hc hreq]; rfl
    rw [hn]
    exact fun hc => ⟨hc, hc, hc, decide_eq_true (less_chk hc hreq)⟩
def shapes : List (Bool × List Kd2) := [(true, [.sl [.int .u8], .k (.int .u8), .k (.int .u8), .k (.int .i64)]), (true, [.sl [.int .u8], .k (.int .u8), .k (.int .u8), .k (.int .i8)]), (false, [.k (.int .u8)])]
theorem fall (ss : List SV) (bs : List Blk) (h : ParsOk 0 shapes ss bs) : ∃ ss1, leSVs ss ss1 ∧ ∃ Λ n, fnS Tryd.prog G51 Λ n 8 ss1 bs fun u _ => isYes u := by
  obtain ⟨s0, r0, d0, e0, rfl, rfl, p0, h⟩ := ps_cons h
  obtain ⟨s1, r1, d1, e1, rfl, rfl, p1, h⟩ := ps_cons h
  obtain ⟨s2, r2, d2, e2, rfl, rfl, p2, h⟩ := ps_cons h
  obtain ⟨rfl, rfl⟩ := ps_nil h
  obtain ⟨l0, rfl, q0⟩ := par_agg p0
  obtain ⟨x0, _, t0, rfl, rfl, b0, c0, q0⟩ := fa_sl q0
  obtain ⟨x1, _, rfl, b1, q0⟩ := fa_int q0
  obtain ⟨x2, _, rfl, b2, q0⟩ := fa_int q0
  obtain ⟨x3, _, rfl, b3, q0⟩ := fa_int q0
  obtain ⟨rfl, rfl⟩ := fa_nil q0
  obtain ⟨l1, rfl, q1⟩ := par_agg p1
  obtain ⟨x4, _, t4, rfl, rfl, b4, c4, q1⟩ := fa_sl q1
  obtain ⟨x5, _, rfl, b5, q1⟩ := fa_int q1
  obtain ⟨x6, _, rfl, b6, q1⟩ := fa_int q1
  obtain ⟨x7, _, rfl, b7, q1⟩ := fa_int q1
  obtain ⟨rfl, rfl⟩ := fa_nil q1
  have q2 := par_one p2
  obtain ⟨x8, _, he2, b8, q2⟩ := fa_int q2
  obtain ⟨rfl, rfl⟩ := fa_nil q2
  simp only [List.cons.injEq, and_true] at he2
  subst he2
  exact fallI x0 x1 x2 x3 x4 x5 x6 x7 x8 b0 c0 b1 b2 b3 b4 c4 b5 b6 b7 b8
end feasLess
end Go.Proofs.YtfhjnececgoadaaDoor
