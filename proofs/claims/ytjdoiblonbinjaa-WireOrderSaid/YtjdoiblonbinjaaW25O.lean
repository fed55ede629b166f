/- The law WireOrder, run by the engine, answers true: for all arguments. No condition. -/
import Derived.Test.YtjdoiblonbinjaaW25OT
namespace Go.Proofs.Ytjdoiblonbinjaa
open Go.Eng
set_option linter.unusedSimpArgs false
namespace wireOrder
set_option maxHeartbeats 4000000 in
theorem fallI (x0 : List (List Value)) (x1 : Bool) (b0 : ∀ x ∈ x0, Fa [.int .u8, .int .u8, .int .u8, .int .i8, .str] x) (c0 : x0.length ≤ maxLen) : ∃ ss, leSVs [.row 0, .b x1] ss ∧ ∃ Λ n, fnS Try.prog G16 Λ n 5 ss [.ror [.int .u8, .int .u8, .int .u8, .int .i8, .str] x0 false] fun u _ => isYes u := by
  have hm := len63 c0
  refine ⟨[.row 0, .b x1], by (simp [leSVs, leSV]) <;> omega, woL x1 x0, 100, Eq.mpr (tWO x0 x1) ?_⟩
  (simp only [eq_self_iff_true, true_and, and_true, false_and, and_false, Bool.or_not_self, Bool.not_or_self, Bool.cond_self, cond_true, cond_false, Bool.cond_true_right, Bool.cond_true_left, Bool.cond_false_right, Bool.cond_false_left, Bool.or_true, Bool.true_or, Bool.or_false, Bool.false_or, Bool.and_true, Bool.true_and, Bool.and_false, Bool.false_and, Bool.not_not, forall_eq, ← Bool.decide_and, ← Bool.decide_or, ← decide_not, cDecF, cDecT, cDecFl, Decidable.not_not, Bool.not_true, Bool.not_false, Bool.false_eq_true, imp_false, not_true_eq_false, not_false_eq_true, forall_const, true_implies, false_implies, implies_true, decide_true, decide_false]; try simp only [cDec, eq_self_iff_true, true_and, and_true, false_and, and_false, Bool.or_not_self, Bool.not_or_self, Bool.cond_self, cond_true, cond_false, Bool.cond_true_right, Bool.cond_true_left, Bool.cond_false_right, Bool.cond_false_left, Bool.or_true, Bool.true_or, Bool.or_false, Bool.false_or, Bool.and_true, Bool.true_and, Bool.and_false, Bool.false_and, Bool.not_not, forall_eq, ← Bool.decide_and, ← Bool.decide_or, ← decide_not, cDecF, cDecT, cDecFl, Decidable.not_not, Bool.not_true, Bool.not_false, Bool.false_eq_true, imp_false, not_true_eq_false, not_false_eq_true, forall_const, true_implies, false_implies, implies_true, decide_true, decide_false])
  refine ⟨(0, []), ⟨by simp, by simp, by simp, by simp, by simp⟩, ⟨⟨rfl, by simp, by simp⟩, by omega, rfl, rfl⟩, ?_⟩
  rintro ⟨k, xs⟩ hI
  have i0 := hI.k0
  have i1 := hI.k1
  have i2 := hI.k2
  have i3 := hI.l1
  have hw := hI.wk
  dsimp only at i0 i1 i2 i3 hw ⊢
  have hx := lenI_eq xs
  have hmm : ((0 : Int) ≤ min (↑(gets (x0.getD k.toNat []) 4).size) 100 ∧ min (↑(gets (x0.getD k.toNat []) 4).size) 100 ≤ (↑(gets (x0.getD k.toNat []) 4).size : Int)) := by omega
  have z0 : Int.toNat 0 = 0 := rfl
  rw [z0]
  have hf0 : 0 ≤ geti (x0.getD k.toNat []) 1 % 8 ∧ geti (x0.getD k.toNat []) 1 % 8 < 8 := by omega
  generalize geti (x0.getD k.toNat []) 1 % 8 = f at hf0 ⊢
  have hb : ((gets (x0.getD k.toNat []) 4).extract 0 (min (↑(gets (x0.getD k.toNat []) 4).size : Int) 100).toNat).size ≤ 100 := by
    rw [ByteArray.size_extract]; omega
  generalize (gets (x0.getD k.toNat []) 4).extract 0 (min (↑(gets (x0.getD k.toNat []) 4).size : Int) 100).toNat = b at hb ⊢
  have send : ∀ f t : Int, -1 ≤ f → f < 8 → -1 ≤ t → t < 8 → f ≠ t → sendE 8 f t = 0 ∧ sendX 8 f t b xs = xs ++ [pk f t b] ∧ (k < x0.length ∧ k < 50 → OInv x0 (k + 1, xs ++ [pk f t b])) := by
    intro f t h1 h2 h3 h4 h5
    have e : sendE 8 f t = 0 := sendE_0 (by omega) h5
    refine ⟨e, by unfold sendX; rw [if_pos e], fun hk => ⟨by dsimp only; omega, by dsimp only; omega, by dsimp only; omega, by simp; omega, ?_⟩⟩
    intro x hx
    rcases List.mem_append.1 hx with h1 | h1
    · exact hw x h1
    · rw [List.mem_singleton.1 h1]
      refine ⟨⟨_, rfl, ?_⟩, ⟨_, rfl, ?_⟩, ⟨_, rfl, ?_⟩, trivial⟩
      · simp only [kmin, kmax]; omega
      · simp only [kmin, kmax]; omega
      · exact Nat.le_trans hb (by decide)
  refine ⟨fun hk => ⟨by omega, fun _ => ?_, fun _ => ?_⟩, fun hk => ?_⟩
  · obtain ⟨e1, e2, e3⟩ := send (-1) f (by omega) (by omega) (by omega) (by omega) (by omega)
    exact ⟨hmm, by omega, e1, by omega, _, e3 hk, by dsimp only; omega, ⟨rfl, by dsimp only; omega, by dsimp only; omega⟩, e2, rfl⟩
  · obtain ⟨e1, e2, e3⟩ := send f (-1) (by omega) (by omega) (by omega) (by omega) (by omega)
    exact ⟨hmm, by omega, e1, by omega, _, e3 hk, by dsimp only; omega, ⟨rfl, by dsimp only; omega, by dsimp only; omega⟩, e2, rfl⟩
  · have l0 : xs = left x1 xs 0 := by cases x1 <;> simp [left]
    refine ⟨0, ⟨by omega, by omega⟩, ⟨⟨rfl, by omega, by omega⟩, l0⟩, fun z hz => ?_⟩
    have ll : ((left x1 xs z).length : Int) = xs.length - z := by
      cases x1 <;> simp [left] <;> omega
    have hl := lenI_eq (left x1 xs z)
    refine ⟨fun hlt => ⟨⟨hz.1, hlt⟩, ?_⟩, fun hge => ⟨by omega, ?_⟩⟩
    · have ew : IntKind.i64.wrap (z + 1) = z + 1 := wr64 _ (by omega)
      rw [ew]
      cases x1
      · have hi : inX 0 (left false xs z) := ⟨by omega, by omega⟩
        have ha : at0 0 (left false xs z) = xs.getD z.toNat [] := by
          rw [at0_yes hi]; simp [left, List.getD]
        rw [cond_false, errI_yes hi, ha]
        have hgg := (ba_beq (gets (xs.getD z.toNat []) 2) _).2 rfl
        simp only [beq_self_eq_true, hgg, Bool.and_self, Bool.not_true, Bool.or_false, not_true_eq_false, decide_false, cond_false]
        refine ⟨by omega, z + 1, by omega, by omega, by omega, ?_⟩
        rw [delX_yes hi]
        simp only [left, cond_false]
        rw [z0, List.eraseIdx_zero, List.tail_drop]
        congr 1; omega
      · have hi : inX (xs.length - 1 - z) (left true xs z) := ⟨by omega, by omega⟩
        have ha : at0 (xs.length - 1 - z) (left true xs z) = xs.getD ((xs.length : Int) - 1 - z).toNat [] := by
          rw [at0_yes hi]; simp [left, List.getD, List.getElem?_take]; rw [if_pos (by omega)]
        rw [cond_true, errI_yes hi, ha]
        have hgg := (ba_beq (gets (xs.getD ((xs.length : Int) - 1 - z).toNat []) 2) _).2 rfl
        simp only [beq_self_eq_true, hgg, Bool.and_self, Bool.not_true, Bool.or_false, not_true_eq_false, decide_false, cond_false]
        refine ⟨by omega, by omega, z + 1, by omega, by omega, by omega, ?_⟩
        rw [delX_yes hi]
        simp only [left, cond_true]
        rw [List.eraseIdx_eq_take_drop_succ, List.take_take, List.drop_eq_nil_of_le (by simp; omega), List.append_nil]
        congr 1; omega
    · have hi : ¬ inX 0 (left x1 xs z) := fun h => by have := h.2; omega
      rw [delX_no hi, errI_no hi]
      exact decide_eq_true ⟨by omega, rfl⟩
def shapes : List (Bool × List Kd2) := [(false, [.sl [.int .u8, .int .u8, .int .u8, .int .i8, .str]]), (false, [.k .bool])]
theorem fall (ss : List SV) (bs : List Blk) (h : ParsOk 0 shapes ss bs) : ∃ ss1, leSVs ss ss1 ∧ ∃ Λ n, fnS Try.prog G16 Λ n 5 ss1 bs fun u _ => isYes u := by
  obtain ⟨s0, r0, d0, e0, rfl, rfl, p0, h⟩ := ps_cons h
  obtain ⟨s1, r1, d1, e1, rfl, rfl, p1, h⟩ := ps_cons h
  obtain ⟨rfl, rfl⟩ := ps_nil h
  have q0 := par_one p0
  obtain ⟨x0, _, t0, he0, rfl, b0, c0, q0⟩ := fa_sl q0
  obtain ⟨rfl, rfl⟩ := fa_nil q0
  simp only [List.cons.injEq, and_true] at he0
  subst he0
  have q1 := par_one p1
  obtain ⟨x1, _, he1, q1⟩ := fa_bool q1
  obtain ⟨rfl, rfl⟩ := fa_nil q1
  simp only [List.cons.injEq, and_true] at he1
  subst he1
  exact fallI x0 x1 b0 c0
end wireOrder
end Go.Proofs.Ytjdoiblonbinjaa
