/- The law TraceTells, run by the engine, answers true: for all arguments. No condition. -/
import Derived.Test.YtcbmppkejphffaaT5AT
namespace Go.Proofs.Ytcbmppkejphffaa
open Go.Eng
set_option linter.unusedSimpArgs false
namespace traceTells
set_option maxRecDepth 100000 in
set_option maxHeartbeats 4000000 in
theorem fallI (x0 : Int) (x1 : List (List Value)) (b0 : (-9223372036854775808 : Int) ≤ x0 ∧ x0 ≤ 9223372036854775807) (b1 : ∀ x ∈ x1, Fa [.int .u8, .int .i64, .int .i64, .str, .int .i64, .int .u64] x) (c1 : x1.length ≤ maxLen) : ∃ ss, leSVs [.i .i64 x0 (-9223372036854775808) 9223372036854775807, .row 0] ss ∧ ∃ Λ n, fnS Try.prog G9 Λ n 3 ss [.ror [.int .u8, .int .i64, .int .i64, .str, .int .i64, .int .u64] x1 false] fun u _ => isYes u := by
  refine ⟨_, leSVs_refl _, ttL x1, 400, Eq.mpr (tTT x0 x1) ?_⟩
  (simp only [eq_self_iff_true, true_and, and_true, false_and, and_false, Bool.or_not_self, Bool.not_or_self, Bool.cond_self, cond_true, cond_false, Bool.cond_true_right, Bool.cond_true_left, Bool.cond_false_right, Bool.cond_false_left, Bool.or_true, Bool.true_or, Bool.or_false, Bool.false_or, Bool.and_true, Bool.true_and, Bool.and_false, Bool.false_and, Bool.not_not, forall_eq, ← Bool.decide_and, ← Bool.decide_or, ← decide_not, cDecF, cDecT, cDecFl, Decidable.not_not, Bool.not_true, Bool.not_false, Bool.false_eq_true, imp_false, not_true_eq_false, not_false_eq_true, forall_const, true_implies, false_implies, implies_true, decide_true, decide_false]; try simp only [cDec, eq_self_iff_true, true_and, and_true, false_and, and_false, Bool.or_not_self, Bool.not_or_self, Bool.cond_self, cond_true, cond_false, Bool.cond_true_right, Bool.cond_true_left, Bool.cond_false_right, Bool.cond_false_left, Bool.or_true, Bool.true_or, Bool.or_false, Bool.false_or, Bool.and_true, Bool.true_and, Bool.and_false, Bool.false_and, Bool.not_not, forall_eq, ← Bool.decide_and, ← Bool.decide_or, ← decide_not, cDecF, cDecT, cDecFl, Decidable.not_not, Bool.not_true, Bool.not_false, Bool.false_eq_true, imp_false, not_true_eq_false, not_false_eq_true, forall_const, true_implies, false_implies, implies_true, decide_true, decide_false])
  refine ⟨fun h => ⟨h, 0, rfl, rfl, by omega, by omega⟩, fun h => ⟨⟨by omega, by omega⟩, h, ⟨by omega, by omega⟩, ⟨0, List.replicate x0.toNat [[]]⟩, ⟨by simp, by simp, by simp, fun x hx => by rw [List.eq_of_mem_replicate hx]; rfl, fun x hx l hl => by rw [List.eq_of_mem_replicate hx] at hl; simp at hl; subst hl; simp⟩, ⟨⟨rfl, by simp, by simp⟩, rfl, rfl⟩, ?_⟩⟩
  rintro ⟨i, css⟩ hI ⟨hi1, hi2⟩
  have i0 := hI.i0
  have h1 := hI.one
  have h2 := hI.row
  dsimp only at i0 h1 h2 hi1 hi2 ⊢
  generalize geti (x1.getD i.toNat []) 0 % 10 - 1 = c
  generalize geti (x1.getD i.toNat []) 1 = k
  generalize geti (x1.getD i.toNat []) 2 = t
  generalize gets (x1.getD i.toNat []) 3 = b
  generalize geti (x1.getD i.toNat []) 4 = r
  generalize geti (x1.getD i.toNat []) 5 = n
  have rok : ∀ c : Int, ((rowK css c).length : Int) ≤ i ∧ ((rowK css c).length = 0 ∨ 0 ≤ lastT (rowK css c)) := fun c => rowK_all (P := fun l => (l.length : Int) ≤ i ∧ (l.length = 0 ∨ 0 ≤ lastT l)) ⟨by simpa using i0, .inl rfl⟩ h2 c
  have te : tickT (rowK css c) t = tickB (rowK css c) t := tick_eq (rok c).2
  have hl := (rok c).1
  simp only [te]
  obtain ⟨S1, S2⟩ := addS_inv (k := k) (b := b) (r := r) (n := n) (t := t) (c := c) h1 h2
  generalize addS (addC (tickB (rowK css c) t) css c k b r n) css c (sawV k t b r n) = S at *
  have dT : dB True = true := by unfold dB; exact @decide_eq_true _ (Classical.propDecidable True) trivial
  have sok : ∀ c : Int, ((rowK S c).length : Int) ≤ i + 1 := fun c => (rowK_all (P := fun l => (l.length : Int) ≤ i + 1 ∧ (l.length = 0 ∨ 0 ≤ lastT l)) ⟨by simp; omega, .inl rfl⟩ S2 c).1
  refine ⟨⟨i0, hi1⟩, ⟨i0, hi1⟩, by omega, ⟨i0, hi1⟩, by omega, trivial, -1, ⟨by omega, by omega⟩, ⟨rfl, by omega, by omega⟩, fun k hk => ⟨fun hk2 => ?_, fun hk2 => ⟨⟨i + 1, S⟩, ⟨by dsimp only; omega, by dsimp only; omega, by dsimp only; omega, S1, S2⟩, by dsimp only; omega, ⟨wr64 _ (by omega), by dsimp only; omega, by dsimp only; omega⟩, rfl, rfl⟩⟩⟩
  have nx : ∃ s88, (-1 ≤ s88 ∧ s88 ≤ 10) ∧ (10 - s88).toNat < (10 - k).toNat ∧ IntKind.i64.wrap (k + 1) = s88 := ⟨k + 1, ⟨by omega, by omega⟩, by omega, wr64 _ (by omega)⟩
  refine ⟨fun hA => ⟨fun _ => ?_, fun hB => (hB hA).elim⟩, fun hA => ⟨⟨by omega, by omega⟩, by have := sok k; unfold rowK at this; omega, fun hB => (hA hB).elim, fun _ => ⟨⟨by omega, by omega⟩, ?_⟩⟩⟩
  · rw [dT]; exact nx
  · first | (rw [dT]; exact nx) | (simp only [dT, Bool.not_true, cond_false]; exact nx)
def shapes : List (Bool × List Kd2) := [(false, [.k (.int .i64)]), (false, [.sl [.int .u8, .int .i64, .int .i64, .str, .int .i64, .int .u64]])]
theorem fall (ss : List SV) (bs : List Blk) (h : ParsOk 0 shapes ss bs) : ∃ ss1, leSVs ss ss1 ∧ ∃ Λ n, fnS Try.prog G9 Λ n 3 ss1 bs fun u _ => isYes u := by
  obtain ⟨s0, r0, d0, e0, rfl, rfl, p0, h⟩ := ps_cons h
  obtain ⟨s1, r1, d1, e1, rfl, rfl, p1, h⟩ := ps_cons h
  obtain ⟨rfl, rfl⟩ := ps_nil h
  have q0 := par_one p0
  obtain ⟨x0, _, he0, b0, q0⟩ := fa_int q0
  obtain ⟨rfl, rfl⟩ := fa_nil q0
  simp only [List.cons.injEq, and_true] at he0
  subst he0
  have q1 := par_one p1
  obtain ⟨x1, _, t1, he1, rfl, b1, c1, q1⟩ := fa_sl q1
  obtain ⟨rfl, rfl⟩ := fa_nil q1
  simp only [List.cons.injEq, and_true] at he1
  subst he1
  exact fallI x0 x1 b0 b1 c1
end traceTells
end Go.Proofs.Ytcbmppkejphffaa
