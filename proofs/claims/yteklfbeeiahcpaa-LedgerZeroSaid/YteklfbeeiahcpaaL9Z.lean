/- The law LedgerZero, run by the engine, answers true: for all arguments. No condition. -/
import Derived.Test.YteklfbeeiahcpaaL9ZT
namespace Go.Proofs.Yteklfbeeiahcpaa
open Go.Eng
set_option linter.unusedSimpArgs false
namespace ledgerZero
set_option maxHeartbeats 4000000 in
theorem fallI (x0 : List (List Value)) (b0 : ∀ x ∈ x0, Fa [.int .u8, .int .u8, .int .u64] x) (c0 : x0.length ≤ maxLen) : ∃ ss, leSVs [.row 0] ss ∧ ∃ Λ n, fnS Try.prog G9 Λ n 4 ss [.ror [.int .u8, .int .u8, .int .u64] x0 false] fun u _ => isYes u := by
  have hm := len63 c0
  refine ⟨[.row 0], by simp [leSVs, leSV], lzL x0, 100, Eq.mpr (tLZ x0) ?_⟩
  (simp only [eq_self_iff_true, true_and, and_true, false_and, and_false, Bool.or_not_self, Bool.not_or_self, Bool.cond_self, cond_true, cond_false, Bool.cond_true_right, Bool.cond_true_left, Bool.cond_false_right, Bool.cond_false_left, Bool.or_true, Bool.true_or, Bool.or_false, Bool.false_or, Bool.and_true, Bool.true_and, Bool.and_false, Bool.false_and, Bool.not_not, forall_eq, ← Bool.decide_and, ← Bool.decide_or, ← decide_not, cDecF, cDecT, cDecFl, Decidable.not_not, Bool.not_true, Bool.not_false, Bool.false_eq_true, imp_false, not_true_eq_false, not_false_eq_true, forall_const, true_implies, false_implies, implies_true, decide_true, decide_false]; try simp only [cDec, eq_self_iff_true, true_and, and_true, false_and, and_false, Bool.or_not_self, Bool.not_or_self, Bool.cond_self, cond_true, cond_false, Bool.cond_true_right, Bool.cond_true_left, Bool.cond_false_right, Bool.cond_false_left, Bool.or_true, Bool.true_or, Bool.or_false, Bool.false_or, Bool.and_true, Bool.true_and, Bool.and_false, Bool.false_and, Bool.not_not, forall_eq, ← Bool.decide_and, ← Bool.decide_or, ← decide_not, cDecF, cDecT, cDecFl, Decidable.not_not, Bool.not_true, Bool.not_false, Bool.false_eq_true, imp_false, not_true_eq_false, not_false_eq_true, forall_const, true_implies, false_implies, implies_true, decide_true, decide_false])
  refine ⟨(0, []), ⟨by omega, by omega, by omega, by simp [Valid], by simp⟩, ⟨⟨rfl, by omega, by omega⟩, by simp⟩, ?_⟩
  rintro ⟨k, xs⟩ ⟨hk0, hk1, hk2, hV, hl⟩
  simp only at hk0 hk1 hk2 hV hl ⊢
  have hL : lenI xs ≤ 1000000 := by rw [lenI_eq]; omega
  intro hlt
  · have hw := b0 _ (getD_in (d := []) (show k.toNat < x0.length by omega))
    generalize x0.getD k.toNat [] = a at *
    have hX := payX_ok (n := 8) (f := geti a 0 % 10 - 1) (t := geti a 1 % 10 - 1) (v := geti a 2) hV
    have hnet := net_payX 8 (geti a 0 % 10 - 1) (geti a 1 % 10 - 1) (geti a 2) xs
    generalize geti a 0 % 10 - 1 = f at *
    generalize geti a 1 % 10 - 1 = t at *
    generalize geti a 2 = v at *
    generalize payE 8 f t v = pe at *
    generalize payX 8 f t v xs = X at *
    have hz : netN X (8 : Int).toNat = 0 := netN_zero (N := 8) (by omega) hX.1
    refine ⟨⟨hk0, hlt.1⟩, ⟨hk0, hlt.1⟩, hL, 0, ⟨by omega, by omega⟩, ⟨⟨rfl, by omega, by omega⟩, by simp [netN, W0], by simp [netN, W0]⟩, ?_⟩
    intro c hc
    refine ⟨fun hlt2 => ?_, fun hge => ?_⟩
    · have hS : netN X (c + 1).toNat = netN X c.toNat + net c X := by
        rw [show (c + 1).toNat = c.toNat + 1 by omega]
        simp only [netN]
        rw [show ((c.toNat : Nat) : Int) = c by omega]
      have hcase : ((pe = 0) = False ∧ net c X = net c xs) ∨ ((pe = 0) = True ∧ (c = f) = True ∧ (c = t) = False ∧ net c X = net c xs - v) ∨ ((pe = 0) = True ∧ (c = f) = False ∧ (c = t) = True ∧ net c X = net c xs + v) ∨ ((pe = 0) = True ∧ (c = f) = False ∧ (c = t) = False ∧ net c X = net c xs) := by
        obtain ⟨h1, h2⟩ := hnet c
        by_cases hp : pe = 0
        · obtain ⟨h3, h4, h5, h6⟩ := h1 hp
          by_cases hf : c = f
          · exact .inr (.inl ⟨eq_true hp, eq_true hf, eq_false (by omega), h5 hf.symm⟩)
          · by_cases ht : c = t
            · exact .inr (.inr (.inl ⟨eq_true hp, eq_false hf, eq_true ht, h4 ht.symm⟩))
            · exact .inr (.inr (.inr ⟨eq_true hp, eq_false hf, eq_false ht, h6 (fun e => hf e.symm) (fun e => ht e.symm)⟩))
        · exact .inl ⟨eq_false hp, h2 hp⟩
      have h88 := hc.1
      clear hnet hz hX hL hl hw hV hm b0 c0 hk1 hk2
      refine ⟨⟨by omega, by omega⟩, ⟨⟨⟨⟨⟨⟨⟨?_, ?_⟩, ?_⟩, ?_⟩, ?_⟩, ?_⟩, ?_⟩, ?_⟩⟩
      all_goals (intro hj; subst hj; rcases hcase with ⟨hp, hne⟩ | ⟨hp, hf, ht, hne⟩ | ⟨hp, hf, ht, hne⟩ | ⟨hp, hf, ht, hne⟩)
      all_goals simp only [*, eq_self_iff_true, true_and, and_true, false_and, and_false, Bool.or_not_self, Bool.not_or_self, Bool.cond_self, cond_true, cond_false, Bool.cond_true_right, Bool.cond_true_left, Bool.cond_false_right, Bool.cond_false_left, Bool.or_true, Bool.true_or, Bool.or_false, Bool.false_or, Bool.and_true, Bool.true_and, Bool.and_false, Bool.false_and, Bool.not_not, forall_eq, ← Bool.decide_and, ← Bool.decide_or, ← decide_not, cDecF, cDecT, cDecFl, Decidable.not_not, Bool.not_true, Bool.not_false, Bool.false_eq_true, imp_false, not_true_eq_false, not_false_eq_true, forall_const, true_implies, false_implies, implies_true, decide_true, decide_false, W, wrAL, wrAR, wrSL, wrSR, wrW]
      all_goals (refine ⟨_, ⟨?_, ?_⟩, ?_, ⟨rfl, ?_, ?_⟩, ?_⟩ <;> first | omega | (rw [hS]; exact congrArg IntKind.i64.wrap (by omega)))
    · have : c = 8 := by omega
      subst this
      have h8 : netN X 8 = 0 := hz
      simp only [hz, W0]
      refine ⟨by simp [h8, W0], (k + 1, X), ⟨by (try simp only) <;> omega, by (try simp only) <;> omega, by (try simp only) <;> omega, hX.1, by (try simp only) <;> omega⟩, by (try simp only) <;> omega, ⟨by (try simp only) <;> omega, by (try simp only) <;> omega, by (try simp only) <;> omega⟩, by omega, rfl⟩
def shapes : List (Bool × List Kd2) := [(false, [.sl [.int .u8, .int .u8, .int .u64]])]
theorem fall (ss : List SV) (bs : List Blk) (h : ParsOk 0 shapes ss bs) : ∃ ss1, leSVs ss ss1 ∧ ∃ Λ n, fnS Try.prog G9 Λ n 4 ss1 bs fun u _ => isYes u := by
  obtain ⟨s0, r0, d0, e0, rfl, rfl, p0, h⟩ := ps_cons h
  obtain ⟨rfl, rfl⟩ := ps_nil h
  have q0 := par_one p0
  obtain ⟨x0, _, t0, he0, rfl, b0, c0, q0⟩ := fa_sl q0
  obtain ⟨rfl, rfl⟩ := fa_nil q0
  simp only [List.cons.injEq, and_true] at he0
  subst he0
  exact fallI x0 b0 c0
end ledgerZero
end Go.Proofs.Yteklfbeeiahcpaa
