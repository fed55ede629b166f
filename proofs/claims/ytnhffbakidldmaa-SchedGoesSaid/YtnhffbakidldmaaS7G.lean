/- The law SchedGoes, run by the engine, answers true: for all arguments. No condition. -/
import Derived.Test.YtnhffbakidldmaaS7GT
namespace Go.Proofs.Ytnhffbakidldmaa
open Go.Eng
set_option linter.unusedSimpArgs false
namespace schedGoes
set_option maxHeartbeats 4000000 in
theorem fallI (x0 : List (List Value)) (x1 : Int) (x2 : Int) (x3 : Int) (b0 : ∀ x ∈ x0, Fa [.int .u8] x) (c0 : x0.length ≤ maxLen) (b1 : (0 : Int) ≤ x1 ∧ x1 ≤ 255) (b2 : (0 : Int) ≤ x2 ∧ x2 ≤ 255) (b3 : (-9223372036854775808 : Int) ≤ x3 ∧ x3 ≤ 9223372036854775807) : ∃ ss, leSVs [.agg [.row 0, .i .u8 x1 (0) 255, .i .u8 x2 (0) 255, .i .i64 x3 (-9223372036854775808) 9223372036854775807]] ss ∧ ∃ Λ n, fnS Try.prog G36 Λ n 5 ss [.ror [.int .u8] x0 false] fun u _ => isYes u := by
  refine ⟨_, leSVs_refl _, _, 200, Eq.mpr (tSG x0 x1 x2 x3) ?_⟩
  (simp only [eq_self_iff_true, true_and, and_true, false_and, and_false, Bool.or_not_self, Bool.not_or_self, Bool.cond_self, cond_true, cond_false, Bool.cond_true_right, Bool.cond_true_left, Bool.cond_false_right, Bool.cond_false_left, Bool.or_true, Bool.true_or, Bool.or_false, Bool.false_or, Bool.and_true, Bool.true_and, Bool.and_false, Bool.false_and, Bool.not_not, forall_eq, ← Bool.decide_and, ← Bool.decide_or, ← decide_not, cDecF, cDecT, cDecFl, Decidable.not_not, Bool.not_true, Bool.not_false, Bool.false_eq_true, imp_false, not_true_eq_false, not_false_eq_true, forall_const, true_implies, false_implies, implies_true, decide_true, decide_false]; try simp only [cDec, eq_self_iff_true, true_and, and_true, false_and, and_false, Bool.or_not_self, Bool.not_or_self, Bool.cond_self, cond_true, cond_false, Bool.cond_true_right, Bool.cond_true_left, Bool.cond_false_right, Bool.cond_false_left, Bool.or_true, Bool.true_or, Bool.or_false, Bool.false_or, Bool.and_true, Bool.true_and, Bool.and_false, Bool.false_and, Bool.not_not, forall_eq, ← Bool.decide_and, ← Bool.decide_or, ← decide_not, cDecF, cDecT, cDecFl, Decidable.not_not, Bool.not_true, Bool.not_false, Bool.false_eq_true, imp_false, not_true_eq_false, not_false_eq_true, forall_const, true_implies, false_implies, implies_true, decide_true, decide_false])
  generalize dVx x0 x1 = hx
  generalize dVy x0 x1 = hy
  generalize dVc x0 x1 = cap
  generalize dVs x0 x1 = st
  generalize dVe x0 x1 = en
  generalize dOwn x0 x1 = l
  generalize dTs x0 x1 x2 = t
  refine ⟨fun h => ?_, fun h => ?_⟩
  · have hr : timesR hx hy cap st en l t = [] := by unfold timesR; rw [decide_eq_false h]; rfl
    have hn : timesN hx hy cap st en l t = 0 := by unfold timesN; rw [decide_eq_false h]; rfl
    rw [hr, hn]; rfl
  obtain ⟨hw, hi⟩ := wrong_of_times h
  obtain ⟨hall, hend⟩ := inTime_iff hi
  have G := good_of_wrong hw
  obtain ⟨_, hN, hR⟩ := due_of hw hi
  have hst := G.st0
  have w0 : W 0 = 0 := by decide
  rw [← hR, ← hN]
  refine ⟨0, ⟨by omega, by omega⟩, ⟨⟨rfl, by omega, by omega⟩, rfl, ⟨w0.symm, by show _ ≤ W 0; rw [w0]; decide, by show W 0 ≤ _; rw [w0]; decide⟩, ⟨w0.symm, by show _ ≤ W 0; rw [w0]; decide, by show W 0 ≤ _; rw [w0]; decide⟩, ⟨w0.symm, by show _ ≤ W 0; rw [w0]; decide, by show W 0 ≤ _; rw [w0]; decide⟩, rfl, rfl⟩, ?_⟩
  rintro k ⟨k0, k1⟩
  have e : (k + 1).toNat = k.toNat + 1 := by omega
  refine ⟨fun hlt => ?_, fun hge => ?_⟩
  · have hin := G.inr k.toNat (by omega)
    have hir := inR_iff.1 hin
    have hsv := sv_in G hin
    have hok := hall k.toNat (by omega)
    have hB := tB_wait hok
    have hmon := tB_le G (by omega) hok
    have hr1 := tRows_get t l hx hy st (show k.toNat < l.length by omega)
    have g0 : geti (tRow t l hx hy st k.toNat) 0 = tA t l hx hy st (k.toNat + 1) := rfl
    have g1 : geti (tRow t l hx hy st k.toNat) 1 = tB t l hx hy st (k.toNat + 1) := rfl
    have g2 : geti (tRow t l hx hy st k.toNat) 2 = tN t l hx hy st (k.toNat + 1) := rfl
    have eA : tA t l hx hy st (k.toNat + 1) = tN t l hx hy st k.toNat + dist (tX t l hx hy st k.toNat) (tY t l hx hy st k.toNat) (pX t (geti (l.getD k.toNat []) 0) (geti (l.getD k.toNat []) 1)) (pY t (geti (l.getD k.toNat []) 0) (geti (l.getD k.toNat []) 1)) := rfl
    have eN : tN t l hx hy st (k.toNat + 1) = tB t l hx hy st (k.toNat + 1) + sv t (geti (l.getD k.toNat []) 0) (geti (l.getD k.toNat []) 1) := rfl
    have hnn := tN_in G (k.toNat + 1) (by omega)
    have hbb := tB_in t l hx hy st (k.toNat + 1)
    have ewN : IntKind.i64.wrap (tB t l hx hy st (k.toNat + 1) + geti (t.getD (geti (l.getD k.toNat []) 0).toNat []) 9) = tN t l hx hy st (k.toNat + 1) := by
      rw [← hsv.2.2, ← eN]; exact wr64 _ (by omega)
    simp only [hr1, g0, g1, g2, ← eA, ewN, hin, tRows_len]
    have d1 : decide (tB t l hx hy st (k.toNat + 1) < wE t (geti (l.getD k.toNat []) 0) (geti (l.getD k.toNat []) 1)) = false := decide_eq_false (by omega)
    have d2 : decide (wL t (geti (l.getD k.toNat []) 0) (geti (l.getD k.toNat []) 1) < tB t l hx hy st (k.toNat + 1)) = false := decide_eq_false (by omega)
    have d3 : decide (tB t l hx hy st (k.toNat + 1) < tA t l hx hy st (k.toNat + 1)) = false := decide_eq_false (by omega)
    have d4 : decide (max (tA t l hx hy st (k.toNat + 1)) (wE t (geti (l.getD k.toNat []) 0) (geti (l.getD k.toNat []) 1)) < tB t l hx hy st (k.toNat + 1)) = false := decide_eq_false (by omega)
    have d5 : (0 ≤ k ∧ k < (l.length : Int)) := ⟨k0, hlt⟩
    have d6 : (0 ≤ geti (l.getD k.toNat []) 0 ∧ geti (l.getD k.toNat []) 0 < (t.length : Int)) := ⟨hir.1, hir.2.1⟩
    simp only [d1, d2, d3, d4, d5, d6, not_true_eq_false, decide_true, decide_false, Bool.not_true, Bool.not_false, Bool.or_false, Bool.false_or, Bool.true_or, cond_true, cond_false, true_and, and_true, and_self]
    have q1 : (decide (0 ≤ k - 1 ∧ k - 1 < (l.length : Int)) || !(true && decide (0 < k))) = true := by
      by_cases hk : 0 < k
      · rw [decide_eq_true (show 0 ≤ k - 1 ∧ k - 1 < (l.length : Int) by omega)]; rfl
      · rw [decide_eq_false hk]; simp
    have q2 : (decide (¬ 0 < k) || true && decide (0 < k)) = true := by by_cases hk : 0 < k <;> simp [hk]
    have q3 : decide (0 < k ∧ tB t l hx hy st (k.toNat + 1) < geti ((tRows t l hx hy st l.length).getD (k - 1).toNat []) 1) = false := decide_eq_false fun hk => by
      have h2 := hk.2
      rw [tRows_get t l hx hy st (show (k - 1).toNat < l.length by omega)] at h2
      have g3 : geti (tRow t l hx hy st (k - 1).toNat) 1 = tB t l hx hy st ((k - 1).toNat + 1) := rfl
      rw [g3, show (k - 1).toNat + 1 = k.toNat by omega] at h2
      omega
    rw [q1, q2, q3]
    have eX : tX t l hx hy st (k.toNat + 1) = pX t (geti (l.getD k.toNat []) 0) (geti (l.getD k.toNat []) 1) := rfl
    have eY : tY t l hx hy st (k.toNat + 1) = pY t (geti (l.getD k.toNat []) 0) (geti (l.getD k.toNat []) 1) := rfl
    have e1 : sumD 0 1 [tRow t l hx hy st k.toNat] = tB t l hx hy st (k.toNat + 1) - tA t l hx hy st (k.toNat + 1) := by simp [sumD, tRow, geti]
    have e2 : sumD 1 2 [tRow t l hx hy st k.toNat] = tN t l hx hy st (k.toNat + 1) - tB t l hx hy st (k.toNat + 1) := by simp [sumD, tRow, geti]
    have e3 : sWay t l hx hy st (k.toNat + 1) = sWay t l hx hy st k.toNat + (tA t l hx hy st (k.toNat + 1) - tN t l hx hy st k.toNat) := rfl
    have hlt16 := G.len
    refine ⟨k + 1, ⟨by omega, by omega⟩, by omega, ⟨wr64 _ (by omega), by omega, by omega⟩, ?_⟩
    rw [e, tRows_succ, sumD_append, sumD_append, e1, e2, e3]
    refine ⟨⟨rfl, by omega, by omega⟩, ?_, ?_, ?_, eX.symm, eY.symm⟩
    · unfold W; simp only [wrAL, wrSL]; congr 1; omega
    · unfold W; simp only [wrAL, wrSL]; congr 1; omega
    · unfold W; simp only [wrAL, wrSL]; congr 1; omega
  · have hk : k.toNat = l.length := by omega
    rw [hk]
    have hs := way_sum t l hx hy st l.length
    have hn2 := tN_in G l.length (Nat.le_refl _)
    have hd2 := dist_in (tX t l hx hy st l.length) (tY t l hx hy st l.length) hx hy
    have eE : tEnd t l hx hy st = tN t l hx hy st l.length + dist (tX t l hx hy st l.length) (tY t l hx hy st l.length) hx hy := rfl
    have hen := G.en1
    have hst1 := G.st1
    have hwy : wayN hx hy cap st en l t = W (tEnd t l hx hy st - st - sumD 0 1 (tRows t l hx hy st l.length) - sumD 1 2 (tRows t l hx hy st l.length)) := by unfold wayN; rw [decide_eq_true h, ← hR, ← hN]; rfl
    refine decide_eq_true ⟨⟨⟨⟨⟨⟨⟨by rw [tRows_len], eE⟩, hend⟩, h⟩, ?_⟩, rfl⟩, rfl⟩, ?_⟩
    · rw [hwy]; unfold W; simp only [wrAL, wrSL]; congr 1; omega
    · unfold W; simp only [wrAL, wrAR, wrSL]
      rw [show sWay t l hx hy st l.length + tEnd t l hx hy st - tN t l hx hy st l.length + sumD 0 1 (tRows t l hx hy st l.length) + sumD 1 2 (tRows t l hx hy st l.length) = tEnd t l hx hy st - st by omega]
      exact wr64 _ (by omega)
def shapes : List (Bool × List Kd2) := [(true, [.sl [.int .u8], .k (.int .u8), .k (.int .u8), .k (.int .i64)])]
theorem fall (ss : List SV) (bs : List Blk) (h : ParsOk 0 shapes ss bs) : ∃ ss1, leSVs ss ss1 ∧ ∃ Λ n, fnS Try.prog G36 Λ n 5 ss1 bs fun u _ => isYes u := by
  obtain ⟨s0, r0, d0, e0, rfl, rfl, p0, h⟩ := ps_cons h
  obtain ⟨rfl, rfl⟩ := ps_nil h
  obtain ⟨l0, rfl, q0⟩ := par_agg p0
  obtain ⟨x0, _, t0, rfl, rfl, b0, c0, q0⟩ := fa_sl q0
  obtain ⟨x1, _, rfl, b1, q0⟩ := fa_int q0
  obtain ⟨x2, _, rfl, b2, q0⟩ := fa_int q0
  obtain ⟨x3, _, rfl, b3, q0⟩ := fa_int q0
  obtain ⟨rfl, rfl⟩ := fa_nil q0
  exact fallI x0 x1 x2 x3 b0 c0 b1 b2 b3
end schedGoes
end Go.Proofs.Ytnhffbakidldmaa
