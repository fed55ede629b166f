/- The law SlackFloats, run by the engine, answers true: for all arguments. No condition. -/
import Derived.Test.YtojdfjmkdplpkaaS0FT
namespace Go.Proofs.Ytojdfjmkdplpkaa
open Go.Eng
set_option linter.unusedSimpArgs false
namespace slackFloats
set_option maxHeartbeats 4000000 in
theorem fallI (x0 : Int) (x1 : Int) (x2 : List (List Value)) (x3 : List (List Value)) (x4 : Int) (x5 : Int) (x6 : Int) (x7 : Int) (b0 : (0 : Int) ≤ x0 ∧ x0 ≤ 255) (b1 : (0 : Int) ≤ x1 ∧ x1 ≤ 255) (b2 : ∀ x ∈ x2, Fa [.int .u8, .int .u8, .int .u8, .int .u8, .int .u8, .int .u8] x) (c2 : x2.length ≤ maxLen) (b3 : ∀ x ∈ x3, Fa [.int .u8] x) (c3 : x3.length ≤ maxLen) (b4 : (0 : Int) ≤ x4 ∧ x4 ≤ 255) (b5 : (0 : Int) ≤ x5 ∧ x5 ≤ 65535) (b6 : (0 : Int) ≤ x6 ∧ x6 ≤ 255) (b7 : (0 : Int) ≤ x7 ∧ x7 ≤ 65535) : ∃ ss, leSVs [.agg [.i .u8 x0 (0) 255, .i .u8 x1 (0) 255, .row 0, .row 1, .i .u8 x4 (0) 255, .i .u16 x5 (0) 65535], .i .u8 x6 (0) 255, .i .u16 x7 (0) 65535] ss ∧ ∃ Λ n, fnS Try.prog G34 Λ n 4 ss [.ror [.int .u8, .int .u8, .int .u8, .int .u8, .int .u8, .int .u8] x2 false, .ror [.int .u8] x3 false] fun u _ => isYes u := by
  refine ⟨_, leSVs_refl _, _, 200, Eq.mpr (tSF x0 x1 x2 x3 x4 x5 x6 x7) ?_⟩
  (simp only [eq_self_iff_true, true_and, and_true, false_and, and_false, Bool.or_not_self, Bool.not_or_self, Bool.cond_self, cond_true, cond_false, Bool.cond_true_right, Bool.cond_true_left, Bool.cond_false_right, Bool.cond_false_left, Bool.or_true, Bool.true_or, Bool.or_false, Bool.false_or, Bool.and_true, Bool.true_and, Bool.and_false, Bool.false_and, Bool.not_not, forall_eq, ← Bool.decide_and, ← Bool.decide_or, ← decide_not, cDecF, cDecT, cDecFl, Decidable.not_not, Bool.not_true, Bool.not_false, Bool.false_eq_true, imp_false, not_true_eq_false, not_false_eq_true, forall_const, true_implies, false_implies, implies_true, decide_true, decide_false]; try simp only [cDec, eq_self_iff_true, true_and, and_true, false_and, and_false, Bool.or_not_self, Bool.not_or_self, Bool.cond_self, cond_true, cond_false, Bool.cond_true_right, Bool.cond_true_left, Bool.cond_false_right, Bool.cond_false_left, Bool.or_true, Bool.true_or, Bool.or_false, Bool.false_or, Bool.and_true, Bool.true_and, Bool.and_false, Bool.false_and, Bool.not_not, forall_eq, ← Bool.decide_and, ← Bool.decide_or, ← decide_not, cDecF, cDecT, cDecFl, Decidable.not_not, Bool.not_true, Bool.not_false, Bool.false_eq_true, imp_false, not_true_eq_false, not_false_eq_true, forall_const, true_implies, false_implies, implies_true, decide_true, decide_false])
  have h948 : x4 % 50 + x5 % 900 ≤ 948 := by omega
  generalize x4 % 50 + x5 % 900 = en at *
  generalize x0 % 16 = hx
  generalize x0 / 16 = hy
  generalize 1 + x1 * 20 = cap
  generalize x4 % 50 = st
  generalize made x3 = l
  generalize pTs x1 x2 = t
  refine ⟨fun h => ?_, fun h => ?_⟩
  · have : (floats hx hy cap st en l t).length = 0 := by
      by_cases h0 : timesE hx hy cap st en l t = 0
      · rw [floats_len (due_all h0)]; omega
      · have e1 : timesR hx hy cap st en l t = [] := by unfold timesR; rw [decide_eq_false h0]; rfl
        have e2 : latest hx hy cap st en l t = [] := by unfold latest; rw [decide_eq_false h0]; rfl
        unfold floats; rw [e1, e2]; rfl
    exact decide_eq_true (by omega)
  have hE : timesE hx hy cap st en l t = 0 := by omega
  have hne : ¬ (l.length : Int) = 0 := fun e => h (.inr e)
  have D := due_all hE
  have h16 := D.G.len
  have hfl := floats_len D
  have t6 : 0 ≤ x6.tmod l.length ∧ x6.tmod l.length < l.length := by rw [Int.tmod_eq_emod_of_nonneg b6.1]; exact ⟨Int.emod_nonneg _ hne, Int.emod_lt_of_pos _ (by omega)⟩
  simp only [foI, foB, W64]
  generalize x6.tmod l.length = ii at *
  obtain ⟨I, rfl⟩ := Int.eq_ofNat_of_zero_le t6.1
  simp only [Int.toNat_natCast]
  have hI : I < l.length := by omega
  obtain ⟨hF1, hF2⟩ := float_get D hI
  have hae := (lat_in D.G (l.length - I) (by omega)).2
  have hbb := tB_in t l hx hy st (I + 1)
  have hx1 : geti ((timesR hx hy cap st en l t).getD I []) 1 = tB t l hx hy st (I + 1) := by rw [D.r, tRows_get t l hx hy st hI]; rfl
  have hxl : (timesR hx hy cap st en l t).length = l.length := by rw [D.r, tRows_len]
  obtain ⟨F, hF⟩ : ∃ F, F = geti ((floats hx hy cap st en l t).getD I []) 0 := ⟨_, rfl⟩
  rw [← hF] at hF1
  simp only [← hF]
  have ewF : IntKind.i64.wrap (F + 1) = F + 1 := wr64 _ (by omega)
  have t7 : 0 ≤ x7.tmod (F + 1) ∧ x7.tmod (F + 1) < F + 1 := by rw [Int.tmod_eq_emod_of_nonneg b7.1]; exact ⟨Int.emod_nonneg _ (by omega), Int.emod_lt_of_pos _ (by omega)⟩
  simp only [ewF]
  generalize x7.tmod (F + 1) = by' at t7 ⊢
  have pa : ∀ b, 0 ≤ b → b ≤ F + 1 → pArg l (I : Int) b = true := fun b h1 h2 => pArg_iff.2 (by omega)
  have ep : ∀ b, p0 (timesR hx hy cap st en l t) I b = tB t l hx hy st (I + 1) + b := fun b => by unfold p0; rw [hx1]
  have pe1 : pushE hx hy cap st en l t (I : Int) (F + 1) = 9 := by
    rw [push_3 hE (pa _ (by omega) (by omega)), Int.toNat_natCast, ep, push_over D hI (by omega)]; rfl
  have py : ∀ b, 0 ≤ b → b ≤ F → pushE hx hy cap st en l t (I : Int) b = 0 ∧ tEnd t l hx hy st ≤ pushN hx hy cap st en l t (I : Int) b ∧ pushN hx hy cap st en l t (I : Int) b ≤ tEnd t l hx hy st + b ∧
      pushR hx hy cap st en l t (I : Int) b = pR t l hx hy en I (geti ((timesR hx hy cap st en l t).getD I []) 0) (tB t l hx hy st (I + 1) + b) (timesR hx hy cap st en l t) (l.length - 1 - I) := fun b h1 h2 => by
    obtain ⟨q1, q2, q3⟩ := push_yes D hI (b0 := tB t l hx hy st (I + 1) + b) rfl h1 (by omega)
    have e : pushE hx hy cap st en l t (I : Int) b = 0 := by rw [push_3 hE (pa _ h1 (by omega)), Int.toNat_natCast, ep, q1]; rfl
    have eN : pushN hx hy cap st en l t (I : Int) b = pE t l hx hy en I (tB t l hx hy st (I + 1) + b) (l.length - 1 - I) := by unfold pushN; rw [decide_eq_true e, Int.toNat_natCast, ep]; rfl
    have eR : pushR hx hy cap st en l t (I : Int) b = pR t l hx hy en I (geti ((timesR hx hy cap st en l t).getD I []) 0) (tB t l hx hy st (I + 1) + b) (timesR hx hy cap st en l t) (l.length - 1 - I) := by unfold pushR; rw [decide_eq_true e, Int.toNat_natCast, ep]; rfl
    exact ⟨e, by rw [eN]; exact q2, by rw [eN]; exact q3, eR⟩
  have pe2 := (py F (by omega) (Int.le_refl _)).1
  obtain ⟨pe3, pn1, pn2, pr⟩ := py by' t7.1 (by omega)
  have hN := D.n
  have hpl : (pushR hx hy cap st en l t (I : Int) by').length = l.length := by rw [pr, pR_len, hxl]
  simp only [hpl, hfl, hxl, pe1, pe2, pe3, hE, hN, not_true_eq_false, false_or]
  have hin := push_in D hI (b0 := tB t l hx hy st (I + 1) + by') rfl t7.1 (by omega)
  refine ⟨hne, .inl (by omega), by omega, by omega, by omega, by omega, by omega, by omega, 0, ⟨by omega, by omega⟩, ⟨rfl, by omega, by omega⟩, ?_⟩
  rintro k ⟨k0, k1⟩ hlt
  refine ⟨⟨k0, hlt⟩, ⟨k0, hlt⟩, .inl ⟨k0, hlt⟩, .inl ⟨k0, hlt⟩, ?_⟩
  have hx2 : geti ((timesR hx hy cap st en l t).getD k.toNat []) 1 = tB t l hx hy st (k.toNat + 1) := by rw [D.r, tRows_get t l hx hy st (show k.toNat < l.length by omega)]; rfl
  have hbk := tB_in t l hx hy st (k.toNat + 1)
  have m1 : k < I → (pushR hx hy cap st en l t (I : Int) by').getD k.toNat [] = (timesR hx hy cap st en l t).getD k.toNat [] := fun hk => by
    rw [pr]; exact pR_lt _ _ _ _ _ _ _ _ _ (by omega) _
  have m2 : ¬ k < I → geti ((pushR hx hy cap st en l t (I : Int) by').getD k.toNat []) 1 = pB t l hx hy en I (tB t l hx hy st (I + 1) + by') (k.toNat - I) ∧ tB t l hx hy st (k.toNat + 1) ≤ pB t l hx hy en I (tB t l hx hy st (I + 1) + by') (k.toNat - I) ∧ pB t l hx hy en I (tB t l hx hy st (I + 1) + by') (k.toNat - I) ≤ tB t l hx hy st (k.toNat + 1) + by' := fun hk => by
    have g := pR_ge t l hx hy en I (geti ((timesR hx hy cap st en l t).getD I []) 0) (tB t l hx hy st (I + 1) + by') (timesR hx hy cap st en l t) (l.length - 1 - I) (by omega) (k.toNat - I) (by omega)
    have q := (hin (k.toNat - I) (by omega)).1
    rw [show I + (k.toNat - I) = k.toNat by omega] at g q
    exact ⟨by rw [pr]; exact g, q.1, q.2.1⟩
  have m3 : k = I → geti ((pushR hx hy cap st en l t (I : Int) by').getD k.toNat []) 1 - geti ((timesR hx hy cap st en l t).getD k.toNat []) 1 = by' := fun hk => by
    have := (m2 (by omega)).1
    rw [this, hx2, show k.toNat = I by omega, Nat.sub_self]
    show tB t l hx hy st (I + 1) + by' - _ = _
    omega
  have m4 : 0 ≤ geti ((pushR hx hy cap st en l t (I : Int) by').getD k.toNat []) 1 - geti ((timesR hx hy cap st en l t).getD k.toNat []) 1 ∧ geti ((pushR hx hy cap st en l t (I : Int) by').getD k.toNat []) 1 - geti ((timesR hx hy cap st en l t).getD k.toNat []) 1 ≤ by' := by
    by_cases hk : k < I
    · rw [m1 hk]; omega
    · obtain ⟨q1, q2, q3⟩ := m2 hk
      rw [q1, hx2]; omega
  have ewm := wr64 (geti ((pushR hx hy cap st en l t (I : Int) by').getD k.toNat []) 1 - geti ((timesR hx hy cap st en l t).getD k.toNat []) 1) (by omega)
  simp only [ewm]
  refine bif_intro (fun hA => bif_intro (fun hB => ?_) (fun hB => ?_)) (fun hA => ?_)
  · exfalso
    simp only [Bool.or_eq_true, Bool.and_eq_true, decide_eq_true_eq, Bool.not_eq_true', decide_eq_false_iff_not] at hB
    rcases hB with ((⟨g1, g2⟩ | ⟨g1, g2⟩) | g1) | g1
    · rw [m1 g1] at g2; simp at g2
    · exact g2 (m3 g1)
    · omega
    · omega
  · exact ⟨k + 1, ⟨by omega, by omega⟩, by omega, wr64 _ (by omega), by omega, by omega⟩
  · by_cases hk : k = (I : Int)
    · simp [hk] at hA
    · simp [hk] at hA
def shapes : List (Bool × List Kd2) := [(true, [.k (.int .u8), .k (.int .u8), .sl [.int .u8, .int .u8, .int .u8, .int .u8, .int .u8, .int .u8], .sl [.int .u8], .k (.int .u8), .k (.int .u16)]), (false, [.k (.int .u8)]), (false, [.k (.int .u16)])]
theorem fall (ss : List SV) (bs : List Blk) (h : ParsOk 0 shapes ss bs) : ∃ ss1, leSVs ss ss1 ∧ ∃ Λ n, fnS Try.prog G34 Λ n 4 ss1 bs fun u _ => isYes u := by
  obtain ⟨s0, r0, d0, e0, rfl, rfl, p0, h⟩ := ps_cons h
  obtain ⟨s1, r1, d1, e1, rfl, rfl, p1, h⟩ := ps_cons h
  obtain ⟨s2, r2, d2, e2, rfl, rfl, p2, h⟩ := ps_cons h
  obtain ⟨rfl, rfl⟩ := ps_nil h
  obtain ⟨l0, rfl, q0⟩ := par_agg p0
  obtain ⟨x0, _, rfl, b0, q0⟩ := fa_int q0
  obtain ⟨x1, _, rfl, b1, q0⟩ := fa_int q0
  obtain ⟨x2, _, t2, rfl, rfl, b2, c2, q0⟩ := fa_sl q0
  obtain ⟨x3, _, t3, rfl, rfl, b3, c3, q0⟩ := fa_sl q0
  obtain ⟨x4, _, rfl, b4, q0⟩ := fa_int q0
  obtain ⟨x5, _, rfl, b5, q0⟩ := fa_int q0
  obtain ⟨rfl, rfl⟩ := fa_nil q0
  have q1 := par_one p1
  obtain ⟨x6, _, he1, b6, q1⟩ := fa_int q1
  obtain ⟨rfl, rfl⟩ := fa_nil q1
  simp only [List.cons.injEq, and_true] at he1
  subst he1
  have q2 := par_one p2
  obtain ⟨x7, _, he2, b7, q2⟩ := fa_int q2
  obtain ⟨rfl, rfl⟩ := fa_nil q2
  simp only [List.cons.injEq, and_true] at he2
  subst he2
  exact fallI x0 x1 x2 x3 x4 x5 x6 x7 b0 b1 b2 c2 b3 c3 b4 b5 b6 b7
end slackFloats
end Go.Proofs.Ytojdfjmkdplpkaa
