/- The law SlackRises, run by the engine, answers true: for all arguments. No condition. -/
import Derived.Test.YtojdfjmkdplpkaaS0RT
namespace Go.Proofs.Ytojdfjmkdplpkaa
open Go.Eng
set_option linter.unusedSimpArgs false
namespace slackRises
set_option maxHeartbeats 4000000 in
theorem fallI (x0 : Int) (x1 : Int) (x2 : List (List Value)) (x3 : List (List Value)) (x4 : Int) (x5 : Int) (b0 : (0 : Int) ≤ x0 ∧ x0 ≤ 255) (b1 : (0 : Int) ≤ x1 ∧ x1 ≤ 255) (b2 : ∀ x ∈ x2, Fa [.int .u8, .int .u8, .int .u8, .int .u8, .int .u8, .int .u8] x) (c2 : x2.length ≤ maxLen) (b3 : ∀ x ∈ x3, Fa [.int .u8] x) (c3 : x3.length ≤ maxLen) (b4 : (0 : Int) ≤ x4 ∧ x4 ≤ 255) (b5 : (0 : Int) ≤ x5 ∧ x5 ≤ 65535) : ∃ ss, leSVs [.agg [.i .u8 x0 (0) 255, .i .u8 x1 (0) 255, .row 0, .row 1, .i .u8 x4 (0) 255, .i .u16 x5 (0) 65535]] ss ∧ ∃ Λ n, fnS Try.prog G32 Λ n 5 ss [.ror [.int .u8, .int .u8, .int .u8, .int .u8, .int .u8, .int .u8] x2 false, .ror [.int .u8] x3 false] fun u _ => isYes u := by
  refine ⟨_, leSVs_refl _, _, 200, Eq.mpr (tSR x0 x1 x2 x3 x4 x5) ?_⟩
  (simp only [eq_self_iff_true, true_and, and_true, false_and, and_false, Bool.or_not_self, Bool.not_or_self, Bool.cond_self, cond_true, cond_false, Bool.cond_true_right, Bool.cond_true_left, Bool.cond_false_right, Bool.cond_false_left, Bool.or_true, Bool.true_or, Bool.or_false, Bool.false_or, Bool.and_true, Bool.true_and, Bool.and_false, Bool.false_and, Bool.not_not, forall_eq, ← Bool.decide_and, ← Bool.decide_or, ← decide_not, cDecF, cDecT, cDecFl, Decidable.not_not, Bool.not_true, Bool.not_false, Bool.false_eq_true, imp_false, not_true_eq_false, not_false_eq_true, forall_const, true_implies, false_implies, implies_true, decide_true, decide_false]; try simp only [cDec, eq_self_iff_true, true_and, and_true, false_and, and_false, Bool.or_not_self, Bool.not_or_self, Bool.cond_self, cond_true, cond_false, Bool.cond_true_right, Bool.cond_true_left, Bool.cond_false_right, Bool.cond_false_left, Bool.or_true, Bool.true_or, Bool.or_false, Bool.false_or, Bool.and_true, Bool.true_and, Bool.and_false, Bool.false_and, Bool.not_not, forall_eq, ← Bool.decide_and, ← Bool.decide_or, ← decide_not, cDecF, cDecT, cDecFl, Decidable.not_not, Bool.not_true, Bool.not_false, Bool.false_eq_true, imp_false, not_true_eq_false, not_false_eq_true, forall_const, true_implies, false_implies, implies_true, decide_true, decide_false])
  generalize x4 % 50 + x5 % 900 = en
  generalize x0 % 16 = hx
  generalize x0 / 16 = hy
  generalize 1 + x1 * 20 = cap
  generalize x4 % 50 = st
  generalize made x3 = l
  generalize pTs x1 x2 = t
  refine ⟨fun h => ?_, fun h => ?_⟩
  · have : latest hx hy cap st en l t = [] := by unfold latest; rw [decide_eq_false h]; rfl
    rw [this]; rfl
  obtain ⟨hlen, hF⟩ := lat_facts h
  have G := good_of_wrong (wrong_of_times h).1
  have h16 := G.len
  have hen := G.en1
  refine ⟨0, ⟨by omega, by omega⟩, ⟨rfl, by omega, by omega⟩, ?_⟩
  rintro k ⟨k0, k1⟩
  rw [hlen]
  refine ⟨fun hlt => ?_, fun hge => ?_⟩
  · obtain ⟨f1, f2, f3, f4, f5, f6, f7⟩ := fields G (show k.toNat < l.length by omega)
    have F := hF k.toNat (by omega)
    have Fl := F.late
    have Fe := F.early
    have Fn := F.next
    have Fv := F.v
    have Fen := F.en
    have P : 0 < k → (0 ≤ geti (l.getD (k - 1).toNat []) 0 ∧ geti (l.getD (k - 1).toNat []) 0 < (t.length : Int)) ∧ geti ((latest hx hy cap st en l t).getD (k - 1).toNat []) 0 + geti (t.getD (geti (l.getD (k - 1).toNat []) 0).toNat []) 9 ≤ geti ((latest hx hy cap st en l t).getD k.toNat []) 0 ∧
        IntKind.i64.wrap (geti ((latest hx hy cap st en l t).getD (k - 1).toNat []) 0 + geti (t.getD (geti (l.getD (k - 1).toNat []) 0).toNat []) 9) = geti ((latest hx hy cap st en l t).getD (k - 1).toNat []) 0 + geti (t.getD (geti (l.getD (k - 1).toNat []) 0).toNat []) 9 := fun hk => by
      obtain ⟨g1, g2, g3, g4, g5, _, _⟩ := fields G (show (k - 1).toNat < l.length by omega)
      have F' := hF (k - 1).toNat (by omega)
      have Fn' := F'.next
      have Fe' := F'.early
      rw [show l.length - ((k - 1).toNat + 1) = l.length - k.toNat by omega, ← Fv, g4] at Fn'
      exact ⟨g1, Fn', wr64 _ (by omega)⟩
    have ewk : IntKind.i64.wrap (geti ((latest hx hy cap st en l t).getD k.toNat []) 0 + geti (t.getD (geti (l.getD k.toNat []) 0).toNat []) 9) = geti ((latest hx hy cap st en l t).getD k.toNat []) 0 + geti (t.getD (geti (l.getD k.toNat []) 0).toNat []) 9 := wr64 _ (by omega)
    have ewi : IntKind.i64.wrap (k + 1) = k + 1 := wr64 _ (by omega)
    rw [f4] at Fn
    simp only [ewk, ewi]
    clear F hF Fv
    refine ⟨⟨k0, hlt⟩, f1, ⟨k0, hlt⟩, fun hk => ?_, fun hk => ?_⟩
    · obtain ⟨e1, e2⟩ := f6 hk
      (repeat' apply And.intro)
      all_goals first
        | omega
        | exact ⟨k + 1, by omega, by omega, by omega, by omega, by omega⟩
        | trace_state
    · obtain ⟨e1, e2⟩ := f7 hk
      (repeat' apply And.intro)
      all_goals first
        | omega
        | exact ⟨k + 1, by omega, by omega, by omega, by omega, by omega⟩
        | trace_state
  · exact decide_eq_true rfl
def shapes : List (Bool × List Kd2) := [(true, [.k (.int .u8), .k (.int .u8), .sl [.int .u8, .int .u8, .int .u8, .int .u8, .int .u8, .int .u8], .sl [.int .u8], .k (.int .u8), .k (.int .u16)])]
theorem fall (ss : List SV) (bs : List Blk) (h : ParsOk 0 shapes ss bs) : ∃ ss1, leSVs ss ss1 ∧ ∃ Λ n, fnS Try.prog G32 Λ n 5 ss1 bs fun u _ => isYes u := by
  obtain ⟨s0, r0, d0, e0, rfl, rfl, p0, h⟩ := ps_cons h
  obtain ⟨rfl, rfl⟩ := ps_nil h
  obtain ⟨l0, rfl, q0⟩ := par_agg p0
  obtain ⟨x0, _, rfl, b0, q0⟩ := fa_int q0
  obtain ⟨x1, _, rfl, b1, q0⟩ := fa_int q0
  obtain ⟨x2, _, t2, rfl, rfl, b2, c2, q0⟩ := fa_sl q0
  obtain ⟨x3, _, t3, rfl, rfl, b3, c3, q0⟩ := fa_sl q0
  obtain ⟨x4, _, rfl, b4, q0⟩ := fa_int q0
  obtain ⟨x5, _, rfl, b5, q0⟩ := fa_int q0
  obtain ⟨rfl, rfl⟩ := fa_nil q0
  exact fallI x0 x1 x2 x3 x4 x5 b0 b1 b2 c2 b3 c3 b4 b5
end slackRises
end Go.Proofs.Ytojdfjmkdplpkaa
