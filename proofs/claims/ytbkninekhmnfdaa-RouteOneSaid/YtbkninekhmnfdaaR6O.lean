/- The law RouteOne, run by the engine, answers true: for all arguments. No condition. -/
import Derived.Test.YtbkninekhmnfdaaR6OT
import Derived.Test.YtbkninekhmnfdaaR6O2
namespace Go.Proofs.Ytbkninekhmnfdaa
open Go.Eng
set_option linter.unusedSimpArgs false
namespace routeOne
set_option maxRecDepth 100000 in
set_option maxHeartbeats 4000000 in
theorem fallI (x0 : List (List Value)) (b0 : ∀ x ∈ x0, Fa [.int .u8] x) (c0 : x0.length ≤ maxLen) : ∃ ss, leSVs [.row 0] ss ∧ ∃ Λ n, fnS Try.prog G18 Λ n 4 ss [.ror [.int .u8] x0 false] fun u _ => isYes u := by
  refine ⟨_, leSVs_refl _, roL x0, 300, Eq.mpr (tRO x0) ?_⟩
  (simp only [eq_self_iff_true, true_and, and_true, false_and, and_false, Bool.or_not_self, Bool.not_or_self, Bool.cond_self, cond_true, cond_false, Bool.cond_true_right, Bool.cond_true_left, Bool.cond_false_right, Bool.cond_false_left, Bool.or_true, Bool.true_or, Bool.or_false, Bool.false_or, Bool.and_true, Bool.true_and, Bool.and_false, Bool.false_and, Bool.not_not, forall_eq, ← Bool.decide_and, ← Bool.decide_or, ← decide_not, cDecF, cDecT, cDecFl, Decidable.not_not, Bool.not_true, Bool.not_false, Bool.false_eq_true, imp_false, not_true_eq_false, not_false_eq_true, forall_const, true_implies, false_implies, implies_true, decide_true, decide_false]; try simp only [cDec, eq_self_iff_true, true_and, and_true, false_and, and_false, Bool.or_not_self, Bool.not_or_self, Bool.cond_self, cond_true, cond_false, Bool.cond_true_right, Bool.cond_true_left, Bool.cond_false_right, Bool.cond_false_left, Bool.or_true, Bool.true_or, Bool.or_false, Bool.false_or, Bool.and_true, Bool.true_and, Bool.and_false, Bool.false_and, Bool.not_not, forall_eq, ← Bool.decide_and, ← Bool.decide_or, ← decide_not, cDecF, cDecT, cDecFl, Decidable.not_not, Bool.not_true, Bool.not_false, Bool.false_eq_true, imp_false, not_true_eq_false, not_false_eq_true, forall_const, true_implies, false_implies, implies_true, decide_true, decide_false])
  obtain ⟨l6, l9⟩ := ol_len x0
  have le := ol_eq x0
  simp only [le, lenI_eq]
  generalize ol x0 = l at l6 l9 ⊢
  have dF : ∀ a b : List (List Value), a ≠ b → dB (a = b) = false := fun a b h => by unfold dB; exact @decide_eq_false _ (Classical.propDecidable _) h
  refine ⟨⟨by omega, by omega⟩, 0, ⟨by omega, by omega⟩, ⟨⟨rfl, by omega, by omega⟩, rfl⟩, fun i hi => ?_⟩
  have i0 := hi.i0
  have i1 := hi.i1
  refine ⟨fun hlt => ⟨i, ⟨by omega, by omega⟩, ⟨rfl, (partJ_start l i).symm⟩, fun j hj => ?_⟩, fun hge => ?_⟩
  · have j0 := hj.j0
    have j1 := hj.j1
    refine ⟨fun hjl => ?_, fun hjg => ⟨i + 1, ⟨by omega, by omega⟩, by unfold mI1; omega, ⟨wr64 _ (by omega), by omega, by omega⟩, ?_⟩⟩
    · have ok : wOk l 9 i j = true := wOk_iff.2 ⟨by omega, by omega, by omega, by decide, by omega, l9⟩
      have hlen : (partJ l i j).length ≤ 2000 := by
        have h1 := allI_length l i.toNat
        have h2 := cnt_le l.length (by omega) i.toNat (by omega)
        unfold partJ
        rw [List.length_append, rowI_length]; omega
      refine ⟨by omega, ?_⟩
      rw [ok]
      refine ⟨0, ⟨by omega, by omega⟩, ⟨rfl, by omega, by omega⟩, fun k hk => ⟨fun hkl => ⟨⟨hk.k0, hkl⟩, ?_⟩, fun _ => ⟨by omega, j + 1, ⟨by omega, by omega⟩, by unfold mI1; omega, ⟨wr64 _ (by omega), by omega, by omega⟩, partJ_snoc j0⟩⟩⟩
      have k0 := hk.k0
      rw [dF _ _ (partJ_ne l9 (by omega) (by omega) j0 (by omega) (by omega))]
      exact ⟨k + 1, ⟨by omega, by omega⟩, by unfold mK1; omega, wr64 _ (by omega), by omega, by omega⟩
    · have e : j = l.length + 1 := by omega
      subst e
      exact partJ_end i0 hlt
  · have e : i = l.length + 1 := by omega
    subst e
    have h1 := allI_length l (l.length + 1)
    have h2 := cnt_all l.length (by omega)
    rw [show ((l.length : Int) + 1).toNat = l.length + 1 by omega, h1]
    have e1 : IntKind.i64.wrap ((l.length : Int) + 1) = l.length + 1 := wr64 _ (by omega)
    have e2 : IntKind.i64.wrap ((l.length : Int) + 2) = l.length + 2 := wr64 _ (by omega)
    have e3 : ((l.length : Int) + 1) * (l.length + 2) = ((2 * cntI l.length (l.length + 1) : Nat) : Int) := by rw [h2]; push_cast; rfl
    have h3 := cnt_le l.length (by omega) (l.length + 1) (by omega)
    have e4 : IntKind.i64.wrap (((2 * cntI l.length (l.length + 1) : Nat) : Int)) = ((2 * cntI l.length (l.length + 1) : Nat) : Int) := wr64 _ (by omega)
    rw [e1, e2, e3, e4]
    have e5 : (((2 * cntI l.length (l.length + 1) : Nat) : Int)).tdiv 2 = cntI l.length (l.length + 1) := by
      rw [Int.tdiv_eq_ediv_of_nonneg (by omega)]; omega
    rw [e5, wr64 _ (by omega)]
    simp
def shapes : List (Bool × List Kd2) := [(false, [.sl [.int .u8]])]
theorem fall (ss : List SV) (bs : List Blk) (h : ParsOk 0 shapes ss bs) : ∃ ss1, leSVs ss ss1 ∧ ∃ Λ n, fnS Try.prog G18 Λ n 4 ss1 bs fun u _ => isYes u := by
  obtain ⟨s0, r0, d0, e0, rfl, rfl, p0, h⟩ := ps_cons h
  obtain ⟨rfl, rfl⟩ := ps_nil h
  have q0 := par_one p0
  obtain ⟨x0, _, t0, he0, rfl, b0, c0, q0⟩ := fa_sl q0
  obtain ⟨rfl, rfl⟩ := fa_nil q0
  simp only [List.cons.injEq, and_true] at he0
  subst he0
  exact fallI x0 b0 c0
end routeOne
end Go.Proofs.Ytbkninekhmnfdaa
