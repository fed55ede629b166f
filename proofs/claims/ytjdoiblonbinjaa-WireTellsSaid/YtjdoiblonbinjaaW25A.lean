/- The law WireTells, run by the engine, answers true: for all arguments. No condition. -/
import Derived.Test.YtjdoiblonbinjaaW25AT
namespace Go.Proofs.Ytjdoiblonbinjaa
open Go.Eng
set_option linter.unusedSimpArgs false
namespace wireTells
set_option maxHeartbeats 4000000 in
theorem fallI (x0 : Int) (x1 : List (List Value)) (b0 : (-9223372036854775808 : Int) ≤ x0 ∧ x0 ≤ 9223372036854775807) (b1 : ∀ x ∈ x1, Fa [.int .u8, .int .u8, .int .u8, .int .i8, .str] x) (c1 : x1.length ≤ maxLen) : ∃ ss, leSVs [.i .i64 x0 (-9223372036854775808) 9223372036854775807, .row 0] ss ∧ ∃ Λ n, fnS Try.prog G16 Λ n 3 ss [.ror [.int .u8, .int .u8, .int .u8, .int .i8, .str] x1 false] fun u _ => isYes u := by
  have hm := len63 c1
  rcases Int.lt_or_le x0 1 with h0 | h0
  · exact ⟨[.i .i64 x0 (-9223372036854775808) 0, .row 0], by (simp [leSVs, leSV]) <;> omega, noLoops, 100, Eq.mpr (tWTl x0 x1) rfl⟩
  rcases Int.lt_or_le 8 x0 with h8 | h8
  · exact ⟨[.i .i64 x0 9 9223372036854775807, .row 0], by (simp [leSVs, leSV]) <;> omega, noLoops, 100, Eq.mpr (tWTh x0 x1) rfl⟩
  refine ⟨[.i .i64 x0 1 8, .row 0], by (simp [leSVs, leSV]) <;> omega, wtL x0 x1, 100, Eq.mpr (tWT x0 x1) ?_⟩
  (simp only [eq_self_iff_true, true_and, and_true, false_and, and_false, Bool.or_not_self, Bool.not_or_self, Bool.cond_self, cond_true, cond_false, Bool.cond_true_right, Bool.cond_true_left, Bool.cond_false_right, Bool.cond_false_left, Bool.or_true, Bool.true_or, Bool.or_false, Bool.false_or, Bool.and_true, Bool.true_and, Bool.and_false, Bool.false_and, Bool.not_not, forall_eq, ← Bool.decide_and, ← Bool.decide_or, ← decide_not, cDecF, cDecT, cDecFl, Decidable.not_not, Bool.not_true, Bool.not_false, Bool.false_eq_true, imp_false, not_true_eq_false, not_false_eq_true, forall_const, true_implies, false_implies, implies_true, decide_true, decide_false]; try simp only [cDec, eq_self_iff_true, true_and, and_true, false_and, and_false, Bool.or_not_self, Bool.not_or_self, Bool.cond_self, cond_true, cond_false, Bool.cond_true_right, Bool.cond_true_left, Bool.cond_false_right, Bool.cond_false_left, Bool.or_true, Bool.true_or, Bool.or_false, Bool.false_or, Bool.and_true, Bool.true_and, Bool.and_false, Bool.false_and, Bool.not_not, forall_eq, ← Bool.decide_and, ← Bool.decide_or, ← decide_not, cDecF, cDecT, cDecFl, Decidable.not_not, Bool.not_true, Bool.not_false, Bool.false_eq_true, imp_false, not_true_eq_false, not_false_eq_true, forall_const, true_implies, false_implies, implies_true, decide_true, decide_false])
  have lsend : ∀ (N f t : Int) (b : ByteArray) (xs : List (List Value)), ((sendX N f t b xs).length : Int) ≤ xs.length + 1 := by
    intro N f t b xs; unfold sendX; split <;> (try simp) <;> omega
  have ltw : ∀ (i : Int) (xs : List (List Value)), ((twX i xs).length : Int) ≤ xs.length + 1 := by
    intro i xs; by_cases h : inX i xs
    · rw [twX_yes h]; simp
    · rw [twX_no h]; omega
  have ldel : ∀ (i : Int) (xs : List (List Value)), ((delX i xs).length : Int) ≤ xs.length := by
    intro i xs; by_cases h : inX i xs
    · rw [delX_yes h]; have := List.length_eraseIdx_le xs i.toNat; omega
    · rw [delX_no h]; omega
  refine ⟨(0, []), by simp, ⟨by simp, rfl, rfl⟩, ?_⟩
  rintro ⟨k, xs⟩ ⟨h0, h1, h2, hl⟩ ⟨hk1, hk2⟩
  dsimp only at *
  have hx := lenI_eq xs
  have hal : ∀ Y : List (List Value), (Y.length : Int) ≤ xs.length + 1 → dB (AlOk Y Y) = true := fun Y h => dB_intro ⟨rfl, by omega⟩
  have hend : ∀ Y : List (List Value), (Y.length : Int) ≤ xs.length + 1 → ∃ s : Int × List (List Value), (0 ≤ s.1 ∧ s.1 ≤ x1.length ∧ s.1 ≤ 50 ∧ (s.2.length : Int) ≤ s.1) ∧ (50 - s.1).toNat < (50 - k).toNat ∧ (k + 1 = s.1 ∧ 0 ≤ s.1 ∧ s.1 ≤ 50) ∧ Y = s.2 ∧ Y = s.2 :=
    fun Y h => ⟨(k + 1, Y), ⟨by omega, by omega, by omega, by dsimp only; omega⟩, by omega, by omega, rfl, rfl⟩
  have fin : ∀ Y : List (List Value), (Y.length : Int) ≤ xs.length + 1 → cond (dB (AlOk Y Y)) (∃ s : Int × List (List Value), (0 ≤ s.1 ∧ s.1 ≤ x1.length ∧ s.1 ≤ 50 ∧ (s.2.length : Int) ≤ s.1) ∧ (50 - s.1).toNat < (50 - k).toNat ∧ (k + 1 = s.1 ∧ 0 ≤ s.1 ∧ s.1 ≤ 50) ∧ Y = s.2 ∧ Y = s.2) False :=
    fun Y h => coT (hal Y h) (hend Y h)
  refine ⟨by omega, fun _ => ⟨by omega, by omega, by omega, by omega, fin _ (lsend ..)⟩, fun _ => ⟨fun _ => ⟨by omega, by omega, by omega, by omega, fin _ (lsend ..)⟩, fun _ => ⟨fun _ => ⟨by omega, by omega, ?_⟩, fun _ => ⟨fun _ => ⟨by omega, by omega, fin _ (Int.le_trans (ldel ..) (by omega))⟩, fun _ => ⟨by omega, by omega, fin _ (ltw ..)⟩⟩⟩⟩⟩
  refine coF (by simp [ba_beq]) (fin _ (Int.le_trans (ldel ..) (by omega)))
def shapes : List (Bool × List Kd2) := [(false, [.k (.int .i64)]), (false, [.sl [.int .u8, .int .u8, .int .u8, .int .i8, .str]])]
theorem fall (ss : List SV) (bs : List Blk) (h : ParsOk 0 shapes ss bs) : ∃ ss1, leSVs ss ss1 ∧ ∃ Λ n, fnS Try.prog G16 Λ n 3 ss1 bs fun u _ => isYes u := by
  obtain ⟨s0, r0, d0, e0, rfl, rfl, p0, h⟩ := ps_cons h
  obtain ⟨s1, r1, d1, e1, rfl, rfl, p1, h⟩ := ps_cons h
  obtain ⟨rfl, rfl⟩ := ps_nil h
  have q0 := par_one p0
  obtain ⟨x0, _, he0, b0, q0⟩ := fa_int q0
  obtain ⟨rfl, rfl⟩ := fa_nil q0
  simp only [List.cons.injEq, and_true] at he0
  subst he0
  have q1 := par_one p1
  obtain ⟨x1, _, t1, he1, rfl, b1, c1, q1⟩ := fa_sl q1
  obtain ⟨rfl, rfl⟩ := fa_nil q1
  simp only [List.cons.injEq, and_true] at he1
  subst he1
  exact fallI x0 x1 b0 b1 c1
end wireTells
end Go.Proofs.Ytjdoiblonbinjaa
