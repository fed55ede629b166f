/- The law TraceRows, run by the engine, answers true: for all arguments. No condition. -/
import Derived.Test.YtcbmppkejphffaaT4RT
namespace Go.Proofs.Ytcbmppkejphffaa
open Go.Eng
set_option linter.unusedSimpArgs false
namespace traceRows
set_option maxRecDepth 100000 in
set_option maxHeartbeats 4000000 in
theorem fallI (x0 : List (List Value)) (x1 : List (List Value)) (x2 : Int) (b0 : ∀ x ∈ x0, Fa [.int .i64, .int .i64, .str, .int .i64, .int .u64] x) (c0 : x0.length ≤ maxLen) (z0 : Szr 1048576 x0) (b1 : ∀ x ∈ x1, Fa [.int .i64, .int .i64, .str, .int .i64, .int .u64] x) (c1 : x1.length ≤ maxLen) (z1 : Szr 1048576 x1) (b2 : (0 : Int) ≤ x2 ∧ x2 ≤ 255) : ∃ ss, leSVs [.row 0, .row 1, .i .u8 x2 (0) 255] ss ∧ ∃ Λ n, fnS Try.prog G10 Λ n 4 ss [.ror [.int .i64, .int .i64, .str, .int .i64, .int .u64] x0 false, .ror [.int .i64, .int .i64, .str, .int .i64, .int .u64] x1 false] fun u _ => isYes u := by
  refine ⟨_, leSVs_refl _, _, 300, Eq.mpr (tTR x0 x1 x2) ?_⟩
  have hs0 := byts_20 z0
  have hs1 := byts_20 z1
  (simp only [eq_self_iff_true, true_and, and_true, false_and, and_false, Bool.or_not_self, Bool.not_or_self, Bool.cond_self, cond_true, cond_false, Bool.cond_true_right, Bool.cond_true_left, Bool.cond_false_right, Bool.cond_false_left, Bool.or_true, Bool.true_or, Bool.or_false, Bool.false_or, Bool.and_true, Bool.true_and, Bool.and_false, Bool.false_and, Bool.not_not, forall_eq, ← Bool.decide_and, ← Bool.decide_or, ← decide_not, cDecF, cDecT, cDecFl, Decidable.not_not, Bool.not_true, Bool.not_false, Bool.false_eq_true, imp_false, not_true_eq_false, not_false_eq_true, forall_const, true_implies, false_implies, implies_true, decide_true, decide_false]; try simp only [cDec, eq_self_iff_true, true_and, and_true, false_and, and_false, Bool.or_not_self, Bool.not_or_self, Bool.cond_self, cond_true, cond_false, Bool.cond_true_right, Bool.cond_true_left, Bool.cond_false_right, Bool.cond_false_left, Bool.or_true, Bool.true_or, Bool.or_false, Bool.false_or, Bool.and_true, Bool.true_and, Bool.and_false, Bool.false_and, Bool.not_not, forall_eq, ← Bool.decide_and, ← Bool.decide_or, ← decide_not, cDecF, cDecT, cDecFl, Decidable.not_not, Bool.not_true, Bool.not_false, Bool.false_eq_true, imp_false, not_true_eq_false, not_false_eq_true, forall_const, true_implies, false_implies, implies_true, decide_true, decide_false])
  have tk : ∀ xs : List (List Value), List.take (min (xs.length : Int) 20 - 0).toNat (List.drop 0 xs) = xs.take 20 := fun xs => by
    rw [List.drop_zero]
    by_cases h : xs.length ≤ 20
    · rw [List.take_of_length_le (by omega), List.take_of_length_le (by omega)]
    · congr 1; omega
  have hw : IntKind.i64.wrap (((min (x0.length : Int) 20 - 0).toNat : Int) + 1) = min (x0.length : Int) 20 + 1 := (wr64 _ (by omega)).trans (by omega)
  rw [hw]
  have hq : 0 ≤ x2.tmod (min (x0.length : Int) 20 + 1) ∧ x2.tmod (min (x0.length : Int) 20 + 1) < min (x0.length : Int) 20 + 1 := by
    rw [Int.tmod_eq_emod_of_nonneg b2.1]
    exact ⟨Int.emod_nonneg _ (by omega), Int.emod_lt_of_pos _ (by omega)⟩
  generalize x2.tmod (min (x0.length : Int) 20 + 1) = q at hq ⊢
  have tq : List.take (q - 0).toNat (List.drop 0 x0) = (x0.take 20).take q.toNat := by
    rw [List.drop_zero, List.take_take, show (q - 0).toNat = min q.toNat 20 by omega]
  have la : (x0.take 20).length ≤ 20 := by simp; omega
  have lb : (x1.take 20).length ≤ 20 := by simp; omega
  have hk : (min (x0.length : Int) 20 - 0).toNat = (x0.take 20).length := by simp; omega
  simp only [tk, tq, List.nil_append, lenI_eq]
  have hc : (byts ((x0.take 20).take q.toNat ++ x1.take 20)).length ≤ 100000000 := by
    rw [byts_append, List.length_append]
    have := byts_le (x0.take 20) q.toNat
    omega
  have hlc : ((x0.take 20).take q.toNat ++ x1.take 20).length ≤ 40 := by simp; omega
  generalize x0.take 20 = a at *
  generalize x1.take 20 = b at *
  generalize hC : a.take q.toNat ++ b = c at *
  have ha : decide (((byts a).length : Int) ≤ 100000000) = true := decide_eq_true (by omega)
  have hb : decide (((byts b).length : Int) ≤ 100000000) = true := decide_eq_true (by omega)
  have hcd : decide (((byts c).length : Int) ≤ 100000000) = true := decide_eq_true (by omega)
  have lq : (a.take q.toNat).length ≤ 20 := by simp; omega
  refine ⟨by omega, by omega, by omega, by omega, by omega, by omega, by omega, ?_⟩
  simp only [ha, hb, hcd, beq_self_eq_true, Bool.not_true, Bool.true_or, Bool.or_false, Bool.or_self, cond_true, cond_false]
def shapes : List (Bool × List Kd2) := [(false, [.sl [.int .i64, .int .i64, .str, .int .i64, .int .u64]]), (false, [.sl [.int .i64, .int .i64, .str, .int .i64, .int .u64]]), (false, [.k (.int .u8)])]
theorem fall (ss : List SV) (bs : List Blk) (h : ParsOk 0 shapes ss bs) (hz : Szb 1048576 bs) : ∃ ss1, leSVs ss ss1 ∧ ∃ Λ n, fnS Try.prog G10 Λ n 4 ss1 bs fun u _ => isYes u := by
  obtain ⟨s0, r0, d0, e0, rfl, rfl, p0, h⟩ := ps_cons h
  obtain ⟨s1, r1, d1, e1, rfl, rfl, p1, h⟩ := ps_cons h
  obtain ⟨s2, r2, d2, e2, rfl, rfl, p2, h⟩ := ps_cons h
  obtain ⟨rfl, rfl⟩ := ps_nil h
  have q0 := par_one p0
  obtain ⟨x0, _, t0, he0, rfl, b0, c0, q0⟩ := fa_sl q0
  obtain ⟨rfl, rfl⟩ := fa_nil q0
  simp only [List.cons.injEq, and_true] at he0
  subst he0
  have q1 := par_one p1
  obtain ⟨x1, _, t1, he1, rfl, b1, c1, q1⟩ := fa_sl q1
  obtain ⟨rfl, rfl⟩ := fa_nil q1
  simp only [List.cons.injEq, and_true] at he1
  subst he1
  have q2 := par_one p2
  obtain ⟨x2, _, he2, b2, q2⟩ := fa_int q2
  obtain ⟨rfl, rfl⟩ := fa_nil q2
  simp only [List.cons.injEq, and_true] at he2
  subst he2
  exact fallI x0 x1 x2 b0 c0 (hz [.int .i64, .int .i64, .str, .int .i64, .int .u64] x0 false (by simp)) b1 c1 (hz [.int .i64, .int .i64, .str, .int .i64, .int .u64] x1 false (by simp)) b2
end traceRows
end Go.Proofs.Ytcbmppkejphffaa
