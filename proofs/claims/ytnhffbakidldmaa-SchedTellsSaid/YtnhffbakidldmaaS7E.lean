/- The law SchedTells, run by the engine, answers true: for all arguments. No condition. -/
import Derived.Test.YtnhffbakidldmaaS7ET
namespace Go.Proofs.Ytnhffbakidldmaa
open Go.Eng
set_option linter.unusedSimpArgs false
namespace schedTells
set_option maxHeartbeats 4000000 in
theorem fallI (x0 : List (List Value)) (x1 : Int) (x2 : Int) (x3 : Int) (x4 : List (List Value)) (x5 : List (List Value)) (b0 : ∀ x ∈ x0, Fa [.int .u8] x) (c0 : x0.length ≤ maxLen) (b1 : (0 : Int) ≤ x1 ∧ x1 ≤ 255) (b2 : (0 : Int) ≤ x2 ∧ x2 ≤ 255) (b3 : (-9223372036854775808 : Int) ≤ x3 ∧ x3 ≤ 9223372036854775807) (b4 : ∀ x ∈ x4, Fa [.int .i64, .int .i64] x) (c4 : x4.length ≤ maxLen) (b5 : ∀ x ∈ x5, Fa [.int .i64, .int .i64, .int .i64, .int .i64, .int .i64, .int .i64, .int .i64, .int .i64, .int .i64, .int .i64] x) (c5 : x5.length ≤ maxLen) : ∃ ss, leSVs [.agg [.row 0, .i .u8 x1 (0) 255, .i .u8 x2 (0) 255, .i .i64 x3 (-9223372036854775808) 9223372036854775807], .row 1, .row 2] ss ∧ ∃ Λ n, fnS Try.prog G36 Λ n 4 ss [.ror [.int .u8] x0 false, .ror [.int .i64, .int .i64] x4 false, .ror [.int .i64, .int .i64, .int .i64, .int .i64, .int .i64, .int .i64, .int .i64, .int .i64, .int .i64, .int .i64] x5 false] fun u _ => isYes u := by
  refine ⟨_, leSVs_refl _, _, 200, Eq.mpr (tSE x0 x1 x2 x3 x4 x5) ?_⟩
  intro z7 _ z9 _ z11 _ z13 _ z15 _
  have hd : dB True = true := dB_intro trivial
  have hb : ∀ b : Bool, (!b == b) = false := by decide
  have h4 : (decide ((0 : Int) ≤ min (x4.length : Int) 30) && decide (min (x4.length : Int) 30 ≤ (x4.length : Int))) = true := by simp; omega
  have h5 : (decide ((0 : Int) ≤ min (x5.length : Int) 30) && decide (min (x5.length : Int) 30 ≤ (x5.length : Int))) = true := by simp; omega
  set_option maxRecDepth 100000 in simp only [forall_eq, h4, h5, hd, hb, beq_self_eq_true, Bool.and_self, decide_true, Bool.not_true, Bool.not_false, Bool.or_true, Bool.true_or, Bool.or_false, Bool.and_true, Bool.true_and, cond_true, cond_false, eq_self_iff_true, Bool.cond_self, true_and, and_true, Bool.not_not]
  have hA : (dOwn x0 x1).length ≤ 12 := by
    have hN : 0 ≤ x1 % 7 ∧ x1 % 7 < 7 := ⟨Int.emod_nonneg _ (by decide), Int.emod_lt_of_pos _ (by decide)⟩
    unfold dOwn; rw [dRoute_len]; unfold dN; omega
  have hB : (te30 x4).length = (min (x4.length : Int) 30 - 0).toNat := by simp [te30]; omega
  rw [← hB]
  have hB2 : (te30 x4).length ≤ 30 := by omega
  generalize dOwn x0 x1 = A at *
  generalize te30 x4 = Q at *
  have step : ∀ (X : List (List Value)) (k : Int), X.length ≤ 30 → 0 ≤ k ∧ k ≤ X.length → decide (k < (X.length : Int)) = true → (decide ((0 : Int) ≤ k) && decide (k < (X.length : Int))) = true ∧ ∃ s : Int, (0 ≤ s ∧ s ≤ (X.length : Int)) ∧
      ((X.length : Int) - s).toNat < ((X.length : Int) - k).toNat ∧ IntKind.i64.wrap (k + 1) = s ∧ 0 ≤ s ∧ s ≤ 9223372036854775807 := fun X k hX hk h => by
    simp only [decide_eq_true_eq] at h
    exact ⟨by simp; omega, k + 1, ⟨by omega, by omega⟩, by omega, wr64 _ (by omega), by omega, by omega⟩
  refine ⟨0, ⟨by omega, by omega⟩, ⟨rfl, by omega, by omega⟩, fun k hk => bif_intro (fun h => ?_) (fun _ => ?_)⟩
  · obtain ⟨h1, h2⟩ := step A k (by omega) hk h
    rw [h1]; exact h2
  refine ⟨0, ⟨by omega, by omega⟩, ⟨rfl, by omega, by omega⟩, fun k hk => bif_intro (fun h => ?_) (fun _ => ?_)⟩
  · obtain ⟨h1, h2⟩ := step Q k (by omega) hk h
    rw [h1]; exact h2
  refine ⟨0, ⟨by omega, by omega⟩, ⟨rfl, by omega, by omega⟩, fun k hk => bif_intro (fun h => ?_) (fun _ => trivial)⟩
  obtain ⟨h1, h2⟩ := step A k (by omega) hk h
  rw [h1]; exact h2
def shapes : List (Bool × List Kd2) := [(true, [.sl [.int .u8], .k (.int .u8), .k (.int .u8), .k (.int .i64)]), (false, [.sl [.int .i64, .int .i64]]), (false, [.sl [.int .i64, .int .i64, .int .i64, .int .i64, .int .i64, .int .i64, .int .i64, .int .i64, .int .i64, .int .i64]])]
theorem fall (ss : List SV) (bs : List Blk) (h : ParsOk 0 shapes ss bs) : ∃ ss1, leSVs ss ss1 ∧ ∃ Λ n, fnS Try.prog G36 Λ n 4 ss1 bs fun u _ => isYes u := by
  obtain ⟨s0, r0, d0, e0, rfl, rfl, p0, h⟩ := ps_cons h
  obtain ⟨s1, r1, d1, e1, rfl, rfl, p1, h⟩ := ps_cons h
  obtain ⟨s2, r2, d2, e2, rfl, rfl, p2, h⟩ := ps_cons h
  obtain ⟨rfl, rfl⟩ := ps_nil h
  obtain ⟨l0, rfl, q0⟩ := par_agg p0
  obtain ⟨x0, _, t0, rfl, rfl, b0, c0, q0⟩ := fa_sl q0
  obtain ⟨x1, _, rfl, b1, q0⟩ := fa_int q0
  obtain ⟨x2, _, rfl, b2, q0⟩ := fa_int q0
  obtain ⟨x3, _, rfl, b3, q0⟩ := fa_int q0
  obtain ⟨rfl, rfl⟩ := fa_nil q0
  have q1 := par_one p1
  obtain ⟨x4, _, t4, he1, rfl, b4, c4, q1⟩ := fa_sl q1
  obtain ⟨rfl, rfl⟩ := fa_nil q1
  simp only [List.cons.injEq, and_true] at he1
  subst he1
  have q2 := par_one p2
  obtain ⟨x5, _, t5, he2, rfl, b5, c5, q2⟩ := fa_sl q2
  obtain ⟨rfl, rfl⟩ := fa_nil q2
  simp only [List.cons.injEq, and_true] at he2
  subst he2
  exact fallI x0 x1 x2 x3 x4 x5 b0 c0 b1 b2 b3 b4 c4 b5 c5
end schedTells
end Go.Proofs.Ytnhffbakidldmaa
