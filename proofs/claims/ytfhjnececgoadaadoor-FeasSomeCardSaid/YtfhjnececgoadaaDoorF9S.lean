/- The law FeasSome, run by the engine, answers true: for all arguments. No condition. -/
import Derived.Test.YtfhjnececgoadaaDoorF9ST
namespace Go.Proofs.YtfhjnececgoadaaDoor
open Go.Eng
set_option linter.unusedSimpArgs false
namespace feasSome
set_option maxRecDepth 100000 in
set_option maxHeartbeats 4000000 in
theorem fallI (x0 : List (List Value)) (x1 : Int) (x2 : Int) (x3 : Int) (x4 : List (List Value)) (x5 : Int) (x6 : Int) (x7 : Int) (b0 : ∀ x ∈ x0, Fa [.int .u8] x) (c0 : x0.length ≤ maxLen) (b1 : (0 : Int) ≤ x1 ∧ x1 ≤ 255) (b2 : (0 : Int) ≤ x2 ∧ x2 ≤ 255) (b3 : (-9223372036854775808 : Int) ≤ x3 ∧ x3 ≤ 9223372036854775807) (b4 : ∀ x ∈ x4, Fa [.int .u8] x) (c4 : x4.length ≤ maxLen) (b5 : (0 : Int) ≤ x5 ∧ x5 ≤ 255) (b6 : (0 : Int) ≤ x6 ∧ x6 ≤ 255) (b7 : (-128 : Int) ≤ x7 ∧ x7 ≤ 127) : ∃ ss, leSVs [.agg [.row 0, .i .u8 x1 (0) 255, .i .u8 x2 (0) 255, .i .i64 x3 (-9223372036854775808) 9223372036854775807], .agg [.row 1, .i .u8 x5 (0) 255, .i .u8 x6 (0) 255, .i .i8 x7 (-128) 127]] ss ∧ ∃ Λ n, fnS Tryd.prog G46 Λ n 9 ss [.ror [.int .u8] x0 false, .ror [.int .u8] x4 false] fun u _ => isYes u := by
  refine ⟨_, leSVs_refl _, _, 300, Eq.mpr (tFS x0 x1 x2 x3 x4 x5 x6 x7) ?_⟩
  (simp only [eq_self_iff_true, true_and, and_true, false_and, and_false, Bool.or_not_self, Bool.not_or_self, Bool.cond_self, cond_true, cond_false, Bool.cond_true_right, Bool.cond_true_left, Bool.cond_false_right, Bool.cond_false_left, Bool.or_true, Bool.true_or, Bool.or_false, Bool.false_or, Bool.and_true, Bool.true_and, Bool.and_false, Bool.false_and, Bool.not_not, forall_eq, ← Bool.decide_and, ← Bool.decide_or, ← decide_not, cDecF, cDecT, cDecFl, Decidable.not_not, Bool.not_true, Bool.not_false, Bool.false_eq_true, imp_false, not_true_eq_false, not_false_eq_true, forall_const, true_implies, false_implies, implies_true, decide_true, decide_false]; try simp only [cDec, eq_self_iff_true, true_and, and_true, false_and, and_false, Bool.or_not_self, Bool.not_or_self, Bool.cond_self, cond_true, cond_false, Bool.cond_true_right, Bool.cond_true_left, Bool.cond_false_right, Bool.cond_false_left, Bool.or_true, Bool.true_or, Bool.or_false, Bool.false_or, Bool.and_true, Bool.true_and, Bool.and_false, Bool.false_and, Bool.not_not, forall_eq, ← Bool.decide_and, ← Bool.decide_or, ← decide_not, cDecF, cDecT, cDecFl, Decidable.not_not, Bool.not_true, Bool.not_false, Bool.false_eq_true, imp_false, not_true_eq_false, not_false_eq_true, forall_const, true_implies, false_implies, implies_true, decide_true, decide_false])
  have h12 := own_12 x0 x1
  have hst := draft_st x0 x1
  have hp := pT_len (dTs x0 x1 x2) (dOwn x0 x1) x4 (dVx x0 x1) (dVy x0 x1) (dVs x0 x1) x5 x6 x7
  rw [own_rngs, dTs_ok]
  generalize dVx x0 x1 = hx at *
  generalize dVy x0 x1 = hy at *
  generalize dVc x0 x1 = cap at *
  generalize dVs x0 x1 = st at *
  generalize dVe x0 x1 = en at *
  generalize dOwn x0 x1 = l at *
  generalize dTs x0 x1 x2 = t at *
  generalize pT t l x4 hx hy st x5 x6 x7 = p at *
  simp only [cond_true]
  rw [lenI_eq]
  have bad : (decide (¬ timesE hx hy cap st en l t = 0 ∧ (chkF hx hy cap st en l t).c = 0) || (decide (timesE hx hy cap st en l t = 0) && !rightB hx hy cap st en l t (timesR hx hy cap st en l t) == decide ((chkF hx hy cap st en l t).c = 0))) = false := by
    by_cases hc : (chkF hx hy cap st en l t).c = 0
    · have F := fine_of hc
      rw [fine_right hc, decide_eq_true hc, decide_eq_false (by rintro ⟨h, _⟩; exact h F.e)]
      simp
    · have hr : rightB hx hy cap st en l t (timesR hx hy cap st en l t) = false := by
        cases h : rightB hx hy cap st en l t (timesR hx hy cap st en l t) with
        | false => rfl
        | true => exact absurd (right_chk h) hc
      rw [hr, decide_eq_false hc, decide_eq_false (by rintro ⟨_, h⟩; exact hc h)]
      simp
  refine ⟨hst, by omega, by omega, ?_⟩
  rw [bad, cond_false]
  cases hr : rightB hx hy cap st en l t p with
  | false => trivial
  | true =>
    show _ ∧ _
    have hc := right_chk hr
    have F := fine_of hc
    have hl : (timesR hx hy cap st en l t).length = l.length := by rw [F.r, tRows_len]
    rw [hl]
    refine ⟨by omega, 0, ⟨by omega, by omega⟩, ⟨rfl, by omega, by omega⟩, ?_⟩
    rintro k ⟨k0, k1⟩ hlt
    have hk : k.toNat < l.length := by omega
    obtain ⟨n1, n2, n3⟩ := none_earlier hr hk
    have f0 : geti ((timesR hx hy cap st en l t).getD k.toNat []) 0 = (lz t l hx hy st (k.toNat + 1)).a := by rw [fine_row F hk]; rfl
    have f1 : geti ((timesR hx hy cap st en l t).getD k.toNat []) 1 = (lz t l hx hy st (k.toNat + 1)).b := by rw [fine_row F hk]; rfl
    have f2 : geti ((timesR hx hy cap st en l t).getD k.toNat []) 2 = (lz t l hx hy st (k.toNat + 1)).n := by rw [fine_row F hk]; rfl
    rw [f0, f1, f2]
    exact ⟨⟨k0, hlt⟩, ⟨k0, by omega⟩, .inl ⟨k0, hlt⟩, .inl ⟨k0, by omega⟩, .inl ⟨k0, hlt⟩, .inl ⟨k0, by omega⟩, by omega, k + 1, ⟨by omega, by omega⟩, by omega, wr64 _ (by omega), by omega, by omega⟩
def shapes : List (Bool × List Kd2) := [(true, [.sl [.int .u8], .k (.int .u8), .k (.int .u8), .k (.int .i64)]), (true, [.sl [.int .u8], .k (.int .u8), .k (.int .u8), .k (.int .i8)])]
theorem fall (ss : List SV) (bs : List Blk) (h : ParsOk 0 shapes ss bs) : ∃ ss1, leSVs ss ss1 ∧ ∃ Λ n, fnS Tryd.prog G46 Λ n 9 ss1 bs fun u _ => isYes u := by
  obtain ⟨s0, r0, d0, e0, rfl, rfl, p0, h⟩ := ps_cons h
  obtain ⟨s1, r1, d1, e1, rfl, rfl, p1, h⟩ := ps_cons h
  obtain ⟨rfl, rfl⟩ := ps_nil h
  obtain ⟨l0, rfl, q0⟩ := par_agg p0
  obtain ⟨x0, _, t0, rfl, rfl, b0, c0, q0⟩ := fa_sl q0
  obtain ⟨x1, _, rfl, b1, q0⟩ := fa_int q0
  obtain ⟨x2, _, rfl, b2, q0⟩ := fa_int q0
  obtain ⟨x3, _, rfl, b3, q0⟩ := fa_int q0
  obtain ⟨rfl, rfl⟩ := fa_nil q0
  obtain ⟨l1, rfl, q1⟩ := par_agg p1
  obtain ⟨x4, _, t4, rfl, rfl, b4, c4, q1⟩ := fa_sl q1
  obtain ⟨x5, _, rfl, b5, q1⟩ := fa_int q1
  obtain ⟨x6, _, rfl, b6, q1⟩ := fa_int q1
  obtain ⟨x7, _, rfl, b7, q1⟩ := fa_int q1
  obtain ⟨rfl, rfl⟩ := fa_nil q1
  exact fallI x0 x1 x2 x3 x4 x5 x6 x7 b0 c0 b1 b2 b3 b4 c4 b5 b6 b7
end feasSome
end Go.Proofs.YtfhjnececgoadaaDoor
