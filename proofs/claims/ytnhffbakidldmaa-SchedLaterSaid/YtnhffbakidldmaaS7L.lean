/- The law SchedLater, run by the engine, answers true: for all arguments. No condition. -/
import Derived.Test.YtnhffbakidldmaaS7LT
namespace Go.Proofs.Ytnhffbakidldmaa
open Go.Eng
set_option linter.unusedSimpArgs false
namespace schedLater
set_option maxHeartbeats 4000000 in
theorem fallI (x0 : List (List Value)) (x1 : Int) (x2 : Int) (x3 : Int) (x4 : Int) (x5 : Int) (x6 : Int) (b0 : ∀ x ∈ x0, Fa [.int .u8] x) (c0 : x0.length ≤ maxLen) (b1 : (0 : Int) ≤ x1 ∧ x1 ≤ 255) (b2 : (0 : Int) ≤ x2 ∧ x2 ≤ 255) (b3 : (-9223372036854775808 : Int) ≤ x3 ∧ x3 ≤ 9223372036854775807) (b4 : (0 : Int) ≤ x4 ∧ x4 ≤ 255) (b5 : (0 : Int) ≤ x5 ∧ x5 ≤ 255) (b6 : (0 : Int) ≤ x6 ∧ x6 ≤ 255) : ∃ ss, leSVs [.agg [.row 0, .i .u8 x1 (0) 255, .i .u8 x2 (0) 255, .i .i64 x3 (-9223372036854775808) 9223372036854775807], .agg [.i .u8 x4 (0) 255, .i .u8 x5 (0) 255, .i .u8 x6 (0) 255]] ss ∧ ∃ Λ n, fnS Try.prog G36 Λ n 3 ss [.ror [.int .u8] x0 false] fun u _ => isYes u := by
  refine ⟨_, leSVs_refl _, _, 200, Eq.mpr (tSL x0 x1 x2 x3 x4 x5 x6) ?_⟩
  (simp only [eq_self_iff_true, true_and, and_true, false_and, and_false, Bool.or_not_self, Bool.not_or_self, Bool.cond_self, cond_true, cond_false, Bool.cond_true_right, Bool.cond_true_left, Bool.cond_false_right, Bool.cond_false_left, Bool.or_true, Bool.true_or, Bool.or_false, Bool.false_or, Bool.and_true, Bool.true_and, Bool.and_false, Bool.false_and, Bool.not_not, forall_eq, ← Bool.decide_and, ← Bool.decide_or, ← decide_not, cDecF, cDecT, cDecFl, Decidable.not_not, Bool.not_true, Bool.not_false, Bool.false_eq_true, imp_false, not_true_eq_false, not_false_eq_true, forall_const, true_implies, false_implies, implies_true, decide_true, decide_false]; try simp only [cDec, eq_self_iff_true, true_and, and_true, false_and, and_false, Bool.or_not_self, Bool.not_or_self, Bool.cond_self, cond_true, cond_false, Bool.cond_true_right, Bool.cond_true_left, Bool.cond_false_right, Bool.cond_false_left, Bool.or_true, Bool.true_or, Bool.or_false, Bool.false_or, Bool.and_true, Bool.true_and, Bool.and_false, Bool.false_and, Bool.not_not, forall_eq, ← Bool.decide_and, ← Bool.decide_or, ← decide_not, cDecF, cDecT, cDecFl, Decidable.not_not, Bool.not_true, Bool.not_false, Bool.false_eq_true, imp_false, not_true_eq_false, not_false_eq_true, forall_const, true_implies, false_implies, implies_true, decide_true, decide_false])
  have hdv := draft_veh x0 x1
  have hq := dTs_ok x0 x1 x2
  have hmem := fun x hx => (dTs_mem (bs := x0) (N := x1) (w := x2) (x := x) hx).2
  have hlen : (dTs x0 x1 x2).length ≤ 6 := by
    have := dN_in x1
    unfold dTs; rw [dReqs_len]; omega
  have hs2 : st2 x0 x1 x4 = min (dVs x0 x1 + x4) (dVe x0 x1) := rfl
  have hv := (veh0 _ _ _ _ _).1 hdv.1
  rw [← hs2]
  have hst : dVs x0 x1 ≤ st2 x0 x1 x4 := by rw [hs2]; omega
  have hd : 0 ≤ x6 % 9 ∧ x6 % 9 ≤ 9 := by omega
  have hL := bump_later (d := x6 % 9) hq hd hmem
  rw [← bump_all] at hL
  have hve := hdv.1
  have hE2 : dVe x0 x1 + x5 ≤ 1048576 := by omega
  have hE1 : dVe x0 x1 ≤ dVe x0 x1 + x5 := by omega
  have F1 := fun h => gen (l := dOwn x0 x1) (hx := dVx x0 x1) (hy := dVy x0 x1) (cap := dVc x0 x1) (en := dVe x0 x1) (st' := st2 x0 x1 x4) h hve hq hst (later_refl hq)
  have F2 := fun h => wider (l := dOwn x0 x1) (hx := dVx x0 x1) (hy := dVy x0 x1) (cap := dVc x0 x1) (st := dVs x0 x1) (en := dVe x0 x1) (t := dTs x0 x1 x2) h hE1 hE2
  have F3 := fun h => gen (l := dOwn x0 x1) (hx := dVx x0 x1) (hy := dVy x0 x1) (cap := dVc x0 x1) (en := dVe x0 x1) (st' := dVs x0 x1) h hve hq (Int.le_refl _) hL
  have N1 := fun h => none_of (l := dOwn x0 x1) (hx := dVx x0 x1) (hy := dVy x0 x1) (cap := dVc x0 x1) (en := dVe x0 x1) (st := st2 x0 x1 x4) (t := dTs x0 x1 x2) h
  have N3 := fun h => none_of (l := dOwn x0 x1) (hx := dVx x0 x1) (hy := dVy x0 x1) (cap := dVc x0 x1) (en := dVe x0 x1) (st := dVs x0 x1) (t := bumpN (x6 % 9) (dTs x0 x1 x2) (dTs x0 x1 x2).length) h
  generalize dVx x0 x1 = hx at *
  generalize dVy x0 x1 = hy at *
  generalize dVc x0 x1 = cap at *
  generalize dVs x0 x1 = st at *
  generalize dVe x0 x1 = en at *
  generalize dOwn x0 x1 = l at *
  generalize st2 x0 x1 x4 = sb at *
  have hll : timesE hx hy cap sb en l (dTs x0 x1 x2) = 0 → l.length ≤ 16 := fun h => (good_of_wrong (wrong_of_times h).1).len
  generalize dTs x0 x1 x2 = t at *
  refine ⟨fun h => h.2 (F1 h.1).e, 0, ⟨by omega, by omega⟩, ⟨rfl, by omega, by omega⟩, ?_⟩
  rintro k ⟨k0, k1⟩
  have e : (k + 1).toNat = k.toNat + 1 := by omega
  refine ⟨fun hlt => ?_, fun _ => ⟨fun h => ?_, ?_⟩⟩
  · have hE : timesE hx hy cap sb en l t = 0 := by
      by_cases h : timesE hx hy cap sb en l t = 0
      · exact h
      · rw [N1 h] at hlt; simp at hlt; omega
    have G := F1 hE
    have h16 := hll hE
    rw [G.r'] at hlt k1 ⊢
    rw [G.r]
    rw [tRows_len] at hlt k1
    simp only [tRows_len]
    have hr1 := tRows_get t l hx hy sb (show k.toNat < l.length by omega)
    have hr2 := tRows_get t l hx hy st (show k.toNat < l.length by omega)
    rw [hr1, hr2]
    have hk := G.k (k.toNat + 1) (by omega)
    have a0 : geti (tRow t l hx hy sb k.toNat) 0 = tA t l hx hy sb (k.toNat + 1) := rfl
    have a1 : geti (tRow t l hx hy sb k.toNat) 1 = tB t l hx hy sb (k.toNat + 1) := rfl
    have a2' : geti (tRow t l hx hy sb k.toNat) 2 = tN t l hx hy sb (k.toNat + 1) := rfl
    have b0' : geti (tRow t l hx hy st k.toNat) 0 = tA t l hx hy st (k.toNat + 1) := rfl
    have b1' : geti (tRow t l hx hy st k.toNat) 1 = tB t l hx hy st (k.toNat + 1) := rfl
    have b2' : geti (tRow t l hx hy st k.toNat) 2 = tN t l hx hy st (k.toNat + 1) := rfl
    rw [a0, a1, a2', b0', b1', b2']
    have ha := hk.a
    have hb := hk.b
    have hm := hk.m
    exact ⟨⟨k0, hlt⟩, ⟨k0, hlt⟩, .inl ⟨k0, hlt⟩, .inl ⟨k0, hlt⟩, .inl ⟨k0, hlt⟩, .inl ⟨k0, hlt⟩, by omega, k + 1, ⟨by omega, by omega⟩, by omega, wr64 _ (by omega), by omega, by omega⟩
  · have := (F1 h.1).n
    omega
  · refine ⟨?_, ?_, ?_⟩
    · by_cases h : timesE hx hy cap st en l t = 0
      · exact .inl (.inr ⟨h, (F2 h).1⟩)
      · exact .inr h
    · by_cases h : timesE hx hy cap st en l t = 0
      · obtain ⟨p1, p2, p3⟩ := F2 h
        exact .inl (.inr ⟨h, fun q => q.elim (fun q => q p1) (fun q => q p2)⟩)
      · exact .inr h
    have hb : (decide (timesE hx hy cap st en l t = 0) && (decide (¬ timesE hx hy cap st (en + x5) l t = 0 ∨ ¬ timesN hx hy cap st (en + x5) l t = timesN hx hy cap st en l t) || !dB (timesR hx hy cap st en l t = timesR hx hy cap st (en + x5) l t))) = false := by
      by_cases h : timesE hx hy cap st en l t = 0
      · obtain ⟨p1, p2, p3⟩ := F2 h
        rw [decide_eq_true h, p3, dB_intro rfl, decide_eq_false (fun q => q.elim (fun q => q p1) (fun q => q p2))]; rfl
      · rw [decide_eq_false h]; rfl
    rw [hb]
    refine ⟨by rw [lenI_eq]; omega, 0, ⟨by omega, by omega⟩, ⟨⟨rfl, by omega, by omega⟩, by simp [bumpN]⟩, ?_⟩
    rintro i ⟨i0, i1⟩
    rw [bump_len]
    refine ⟨fun hlt => ?_, fun hge => ?_⟩
    · have ei : (i + 1).toNat = i.toNat + 1 := by omega
      obtain ⟨s1, s2⟩ := bump_step (x6 % 9) (show i.toNat < t.length by omega)
      refine ⟨⟨i0, hlt⟩, ⟨i0, hlt⟩, ⟨i0, hlt⟩, i + 1, ⟨by omega, by omega⟩, by omega, ⟨wr64 _ (by omega), by omega, by omega⟩, ?_⟩
      rw [s1, ei, ← s2]; rfl
    have hit : i.toNat = t.length := by omega
    rw [hit]
    refine ⟨0, ⟨by omega, by omega⟩, ⟨rfl, by omega, by omega⟩, ?_⟩
    rintro j ⟨j0, j1⟩
    have ej : (j + 1).toNat = j.toNat + 1 := by omega
    refine ⟨fun hlt => ?_, fun _ => ?_⟩
    · have hE : timesE hx hy cap st en l (bumpN (x6 % 9) t t.length) = 0 := by
        by_cases h : timesE hx hy cap st en l (bumpN (x6 % 9) t t.length) = 0
        · exact h
        · rw [N3 h] at hlt; simp at hlt; omega
      have G := F3 hE
      have h16 : l.length ≤ 16 := (good_of_wrong (wrong_of_times hE).1).len
      rw [G.r'] at hlt j1 ⊢
      rw [G.r]
      rw [tRows_len] at hlt j1
      simp only [tRows_len]
      have hr1 := tRows_get (bumpN (x6 % 9) t t.length) l hx hy st (show j.toNat < l.length by omega)
      have hr2 := tRows_get t l hx hy st (show j.toNat < l.length by omega)
      rw [hr1, hr2]
      have hk := G.k (j.toNat + 1) (by omega)
      have a0 : geti (tRow (bumpN (x6 % 9) t t.length) l hx hy st j.toNat) 0 = tA (bumpN (x6 % 9) t t.length) l hx hy st (j.toNat + 1) := rfl
      have a1 : geti (tRow (bumpN (x6 % 9) t t.length) l hx hy st j.toNat) 1 = tB (bumpN (x6 % 9) t t.length) l hx hy st (j.toNat + 1) := rfl
      have b0' : geti (tRow t l hx hy st j.toNat) 0 = tA t l hx hy st (j.toNat + 1) := rfl
      have b1' : geti (tRow t l hx hy st j.toNat) 1 = tB t l hx hy st (j.toNat + 1) := rfl
      rw [a0, a1, b0', b1']
      have ha := hk.a
      have hb2 := hk.b
      have he := G.e
      exact ⟨.inl ⟨j0, hlt⟩, .inl ⟨j0, hlt⟩, .inl ⟨j0, hlt⟩, .inl ⟨j0, hlt⟩, by omega, j + 1, ⟨by omega, by omega⟩, by omega, wr64 _ (by omega), by omega, by omega⟩
    · by_cases h : timesE hx hy cap st en l (bumpN (x6 % 9) t t.length) = 0
      · have G := F3 h
        have hg := G.n
        have he := G.e
        exact ⟨.inl (.inr ⟨h, he⟩), decide_eq_true (.inr ⟨he, hg⟩)⟩
      · exact ⟨.inr h, decide_eq_true (.inl h)⟩
def shapes : List (Bool × List Kd2) := [(true, [.sl [.int .u8], .k (.int .u8), .k (.int .u8), .k (.int .i64)]), (true, [.k (.int .u8), .k (.int .u8), .k (.int .u8)])]
theorem fall (ss : List SV) (bs : List Blk) (h : ParsOk 0 shapes ss bs) : ∃ ss1, leSVs ss ss1 ∧ ∃ Λ n, fnS Try.prog G36 Λ n 3 ss1 bs fun u _ => isYes u := by
  obtain ⟨s0, r0, d0, e0, rfl, rfl, p0, h⟩ := ps_cons h
  obtain ⟨s1, r1, d1, e1, rfl, rfl, p1, h⟩ := ps_cons h
  obtain ⟨rfl, rfl⟩ := ps_nil h
  obtain ⟨l0, rfl, q0⟩ := par_agg p0
  obtain ⟨x0, _, t0, rfl, rfl, b0, c0, q0⟩ := fa_sl q0
  obtain ⟨x1, _, rfl, b1, q0⟩ := fa_int q0
  obtain ⟨x2, _, rfl, b2, q0⟩ := fa_int q0
  obtain ⟨x3, _, rfl, b3, q0⟩ := fa_int q0
  obtain ⟨rfl, rfl⟩ := fa_nil q0
  obtain ⟨l1, rfl, q1⟩ := par_agg p1
  obtain ⟨x4, _, rfl, b4, q1⟩ := fa_int q1
  obtain ⟨x5, _, rfl, b5, q1⟩ := fa_int q1
  obtain ⟨x6, _, rfl, b6, q1⟩ := fa_int q1
  obtain ⟨rfl, rfl⟩ := fa_nil q1
  exact fallI x0 x1 x2 x3 x4 x5 x6 b0 c0 b1 b2 b3 b4 b5 b6
end schedLater
end Go.Proofs.Ytnhffbakidldmaa
