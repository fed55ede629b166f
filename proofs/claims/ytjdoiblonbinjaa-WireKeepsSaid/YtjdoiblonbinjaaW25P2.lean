/- The law WireKeeps, run by the engine, answers true: for all arguments. No condition. -/
import Derived.Test.YtjdoiblonbinjaaW25P2T
namespace Go.Proofs.Ytjdoiblonbinjaa
open Go.Eng
set_option linter.unusedSimpArgs false
namespace wireKeeps
set_option maxHeartbeats 4000000 in
theorem fallI (x0 : List (List Value)) (b0 : ∀ x ∈ x0, Fa [.int .u8, .int .u8, .int .u8, .int .i8, .str] x) (c0 : x0.length ≤ maxLen) : ∃ ss, leSVs [.row 0] ss ∧ ∃ Λ n, fnS Try.prog G16 Λ n 4 ss [.ror [.int .u8, .int .u8, .int .u8, .int .i8, .str] x0 false] fun u _ => isYes u := by
  have hm := len63 c0
  refine ⟨[.row 0], by (simp [leSVs, leSV]) <;> omega, wkL x0, 100, Eq.mpr (tWK x0) ?_⟩
  (simp only [eq_self_iff_true, true_and, and_true, false_and, and_false, Bool.or_not_self, Bool.not_or_self, Bool.cond_self, cond_true, cond_false, Bool.cond_true_right, Bool.cond_true_left, Bool.cond_false_right, Bool.cond_false_left, Bool.or_true, Bool.true_or, Bool.or_false, Bool.false_or, Bool.and_true, Bool.true_and, Bool.and_false, Bool.false_and, Bool.not_not, forall_eq, ← Bool.decide_and, ← Bool.decide_or, ← decide_not, cDecF, cDecT, cDecFl, Decidable.not_not, Bool.not_true, Bool.not_false, Bool.false_eq_true, imp_false, not_true_eq_false, not_false_eq_true, forall_const, true_implies, false_implies, implies_true, decide_true, decide_false]; try simp only [cDec, eq_self_iff_true, true_and, and_true, false_and, and_false, Bool.or_not_self, Bool.not_or_self, Bool.cond_self, cond_true, cond_false, Bool.cond_true_right, Bool.cond_true_left, Bool.cond_false_right, Bool.cond_false_left, Bool.or_true, Bool.true_or, Bool.or_false, Bool.false_or, Bool.and_true, Bool.true_and, Bool.and_false, Bool.false_and, Bool.not_not, forall_eq, ← Bool.decide_and, ← Bool.decide_or, ← decide_not, cDecF, cDecT, cDecFl, Decidable.not_not, Bool.not_true, Bool.not_false, Bool.false_eq_true, imp_false, not_true_eq_false, not_false_eq_true, forall_const, true_implies, false_implies, implies_true, decide_true, decide_false])
  refine ⟨⟨0, [], [], []⟩, ⟨by simp, by simp, by simp, by simp, by simp, by simp [cnt], by simp⟩, ⟨⟨rfl, by simp, by simp⟩, by omega, rfl, rfl, rfl⟩, ?_⟩
  rintro ⟨k, xs, sent, gone⟩ hI ⟨hk1, hk2⟩
  have i0 := hI.k0
  have i1 := hI.k1
  have i2 := hI.k2
  have i3 := hI.l1
  have i4 := hI.l2
  dsimp only at i0 i1 i2 i3 i4 hk1 hk2 ⊢
  have hmm : ((0 : Int) ≤ min (↑(gets (x0.getD k.toNat []) 4).size) 100 ∧ min (↑(gets (x0.getD k.toNat []) 4).size) 100 ≤ (↑(gets (x0.getD k.toNat []) 4).size : Int)) := by omega
  have z0 : Int.toNat 0 = 0 := rfl
  rw [z0]
  generalize geti (x0.getD k.toNat []) 1 % 10 - 1 = f
  generalize geti (x0.getD k.toNat []) 2 % 10 - 1 = t
  generalize geti (x0.getD k.toNat []) 3 = i
  have hb : ((gets (x0.getD k.toNat []) 4).extract 0 (min (↑(gets (x0.getD k.toNat []) 4).size : Int) 100).toNat).size ≤ 100 := by
    rw [ByteArray.size_extract]; omega
  generalize (gets (x0.getD k.toNat []) 4).extract 0 (min (↑(gets (x0.getD k.toNat []) 4).size : Int) 100).toNat = b at hb ⊢
  have fin : ∀ X S G : List (List Value), WInv x0 ⟨k + 1, X, S, G⟩ → lenI X ≤ 1000000 ∧ lenI X ≤ 2199023255552 ∧ lenI G ≤ 2199023255552 ∧ ((X ++ G).length : Int) = S.length ∧ ∃ s : Int, (0 ≤ s ∧ s ≤ 100) ∧ (0 = s ∧ 0 ≤ s ∧ s ≤ 9223372036854775807) ∧ ∀ z : Int, 0 ≤ z ∧ z ≤ 100 →
      (z < ((X ++ G).length : Int) → (0 ≤ z ∧ z < ((X ++ G).length : Int)) ∧ (0 ≤ z ∧ z < ((X ++ G).length : Int)) ∧
        cnt (pk (geti ((X ++ G).getD z.toNat []) 0) (geti ((X ++ G).getD z.toNat []) 1) (gets ((X ++ G).getD z.toNat []) 2)) (X ++ G) = cnt (pk (geti ((X ++ G).getD z.toNat []) 0) (geti ((X ++ G).getD z.toNat []) 1) (gets ((X ++ G).getD z.toNat []) 2)) S ∧
        ∃ s : Int, (0 ≤ s ∧ s ≤ 100) ∧ (100 - s).toNat < (100 - z).toNat ∧ IntKind.i64.wrap (z + 1) = s ∧ 0 ≤ s ∧ s ≤ 9223372036854775807) ∧
      (¬ z < ((X ++ G).length : Int) → ∃ s : WS, WInv x0 s ∧ (50 - s.k).toNat < (50 - k).toNat ∧ (k + 1 = s.k ∧ 0 ≤ s.k ∧ s.k ≤ 50) ∧ X = s.xs ∧ S = s.sent ∧ G = s.gone) := by
    intro X S G hJ
    have j1 := hJ.l1
    have j2 := hJ.l2
    have j3 := hJ.ct
    dsimp only at j1 j2 j3
    have hL : ((X ++ G).length : Int) = S.length := by simp; omega
    have hX := lenI_eq X
    have hG := lenI_eq G
    refine ⟨by omega, by omega, by omega, hL, 0, by omega, by omega, fun z hz => ⟨fun hlt => ⟨⟨hz.1, hlt⟩, ⟨hz.1, hlt⟩, by rw [cnt_append, j3], z + 1, by omega, by omega, wr64 _ (by omega), by omega, by omega⟩, fun _ => ⟨_, hJ, by dsimp only; omega, ⟨rfl, by dsimp only; omega, by dsimp only; omega⟩, rfl, rfl, rfl⟩⟩⟩
  have hc := hI.ct
  have hw := hI.wk
  dsimp only at hc hw
  have hs1 := lenI_eq sent
  have hg1 := lenI_eq gone
  have hx1 := lenI_eq xs
  have hsend : sendE 8 f t = 0 → WInv x0 ⟨k + 1, sendX 8 f t b xs, sent ++ [pk f t b], gone⟩ := by
    intro h
    have hr : ¬ (f < -1 ∨ 8 ≤ f ∨ t < -1 ∨ 8 ≤ t) := fun h' => by rw [sendE_12 h'] at h; cases h
    have e : sendX 8 f t b xs = xs ++ [pk f t b] := by unfold sendX; rw [if_pos h]
    rw [e]
    refine ⟨by dsimp only; omega, by dsimp only; omega, by dsimp only; omega, by simp; omega, by simp; omega, ?_, ?_⟩
    · intro p; dsimp only; rw [cnt_append, cnt_append, ← hc p]; omega
    · intro x hx
      rcases List.mem_append.1 hx with h1 | h1
      · exact hw x h1
      · rw [List.mem_singleton.1 h1]
        refine ⟨⟨_, rfl, ?_⟩, ⟨_, rfl, ?_⟩, ⟨_, rfl, ?_⟩, trivial⟩
        · simp only [kmin, kmax]; omega
        · simp only [kmin, kmax]; omega
        · exact Nat.le_trans hb (by decide)
  have hno : sendE 8 f t ≠ 0 → WInv x0 ⟨k + 1, sendX 8 f t b xs, sent, gone⟩ := by
    intro h
    have e : sendX 8 f t b xs = xs := by unfold sendX; rw [if_neg h]
    rw [e]
    exact ⟨by dsimp only; omega, by dsimp only; omega, by dsimp only; omega, by dsimp only; omega, i4, hc, hw⟩
  have hsame : WInv x0 ⟨k + 1, xs, sent, gone⟩ := ⟨by dsimp only; omega, by dsimp only; omega, by dsimp only; omega, by dsimp only; omega, i4, hc, hw⟩
  have hdel : inX i xs → WInv x0 ⟨k + 1, delX i xs, sent, gone ++ [at0 i xs]⟩ := by
    intro h
    have h' : 0 ≤ i ∧ i < xs.length := h
    rw [delX_yes h, at0_yes h]
    have hlen : (xs.eraseIdx i.toNat).length + 1 = xs.length := by rw [List.length_eraseIdx_of_lt (by omega)]; omega
    refine ⟨by dsimp only; omega, by dsimp only; omega, by dsimp only; omega, by dsimp only; omega, by simp only [List.length_append, List.length_singleton]; omega, ?_, ?_⟩
    · intro p; dsimp only
      rw [← hc p, cnt_append, ← cnt_erase p xs i.toNat (by omega)]; omega
    · intro x hx; exact hw x (List.mem_of_mem_eraseIdx hx)
  have htw : inX i xs → WInv x0 ⟨k + 1, twX i xs, sent ++ [at0 i xs], gone⟩ := by
    intro h
    have h' : 0 ≤ i ∧ i < xs.length := h
    rw [twX_yes h, at0_yes h]
    refine ⟨by dsimp only; omega, by dsimp only; omega, by dsimp only; omega, by simp; omega, by simp; omega, ?_, ?_⟩
    · intro p; dsimp only; rw [cnt_append, cnt_append, ← hc p]; omega
    · intro x hx
      rcases List.mem_append.1 hx with h1 | h1
      · exact hw x h1
      · rw [List.mem_singleton.1 h1]; exact hw _ (getD_in (by omega))
  have hat : inX i xs → [Value.int .i64 (geti (at0 i xs) 0), Value.int .i64 (geti (at0 i xs) 1), Value.string (gets (at0 i xs) 2)] = at0 i xs := by
    intro h
    have h' : 0 ≤ i ∧ i < xs.length := h
    rw [at0_yes h]
    exact pk_cells (hw _ (getD_in (by omega)))
  refine ⟨by omega, fun _ => ⟨hmm, by rw [lenI_eq]; omega, fun hs => ?_, fun hs => ?_⟩, fun _ => ⟨fun _ => ⟨hmm, by rw [lenI_eq]; omega, fun hs => ?_, fun hs => ?_⟩, fun _ => ⟨fun _ => ?_, fun _ => ⟨fun _ => ?_, fun _ => ?_⟩⟩⟩⟩
  · exact ⟨by omega, fin _ _ _ (hsend hs)⟩
  · exact fin _ _ _ (hno hs)
  · exact ⟨by omega, fin _ _ _ (hsend hs)⟩
  · exact fin _ _ _ (hno hs)
  all_goals have hgg : (gets (at0 i xs) 2 == gets (at0 i xs) 2) = true := (ba_beq _ _).2 rfl
  all_goals have dd : decide ((12 : Int) = 0) = false := by decide
  · refine ⟨by omega, ?_⟩
    by_cases h : inX i xs
    · rw [dB_intro h, errI_yes h, hat h]
      simp only [decide_true, Bool.not_true, Bool.not_false, Bool.false_or, Bool.or_false, beq_self_eq_true, Bool.and_self, Bool.and_true, cond_true, cond_false, hgg, Bool.true_and, Bool.false_and, Bool.and_false, Bool.or_self, Bool.true_or, Bool.or_true, dd]
      exact ⟨by omega, fin _ _ _ (hdel h)⟩
    · rw [dB_no h, errI_no h, delX_no h]
      simp only [decide_true, Bool.not_true, Bool.not_false, Bool.false_or, Bool.or_false, beq_self_eq_true, Bool.and_self, Bool.and_true, cond_true, cond_false, hgg, Bool.true_and, Bool.false_and, Bool.and_false, Bool.or_self, Bool.true_or, Bool.or_true, dd]
      exact fin _ _ _ hsame
  · refine ⟨by omega, ?_⟩
    by_cases h : inX i xs
    · rw [dB_intro h, errI_yes h, hat h]
      simp only [decide_true, Bool.not_true, Bool.not_false, Bool.false_or, Bool.or_false, beq_self_eq_true, Bool.and_self, Bool.and_true, cond_true, cond_false, hgg, Bool.true_and, Bool.false_and, Bool.and_false, Bool.or_self, Bool.true_or, Bool.or_true, dd]
      exact ⟨by omega, fin _ _ _ (hdel h)⟩
    · rw [dB_no h, errI_no h, delX_no h]
      simp only [decide_true, Bool.not_true, Bool.not_false, Bool.false_or, Bool.or_false, beq_self_eq_true, Bool.and_self, Bool.and_true, cond_true, cond_false, hgg, Bool.true_and, Bool.false_and, Bool.and_false, Bool.or_self, Bool.true_or, Bool.or_true, dd]
      exact fin _ _ _ hsame
  · refine ⟨by omega, ?_⟩
    by_cases h : inX i xs
    · rw [dB_intro h, errI_yes h, hat h]
      simp only [decide_true, Bool.not_true, Bool.not_false, Bool.false_or, Bool.or_false, beq_self_eq_true, Bool.and_self, Bool.and_true, cond_true, cond_false, hgg, Bool.true_and, Bool.false_and, Bool.and_false, Bool.or_self, Bool.true_or, Bool.or_true, dd]
      exact ⟨by omega, fin _ _ _ (htw h)⟩
    · rw [dB_no h, errI_no h, twX_no h]
      simp only [decide_true, Bool.not_true, Bool.not_false, Bool.false_or, Bool.or_false, beq_self_eq_true, Bool.and_self, Bool.and_true, cond_true, cond_false, hgg, Bool.true_and, Bool.false_and, Bool.and_false, Bool.or_self, Bool.true_or, Bool.or_true, dd]
      exact fin _ _ _ hsame
def shapes : List (Bool × List Kd2) := [(false, [.sl [.int .u8, .int .u8, .int .u8, .int .i8, .str]])]
theorem fall (ss : List SV) (bs : List Blk) (h : ParsOk 0 shapes ss bs) : ∃ ss1, leSVs ss ss1 ∧ ∃ Λ n, fnS Try.prog G16 Λ n 4 ss1 bs fun u _ => isYes u := by
  obtain ⟨s0, r0, d0, e0, rfl, rfl, p0, h⟩ := ps_cons h
  obtain ⟨rfl, rfl⟩ := ps_nil h
  have q0 := par_one p0
  obtain ⟨x0, _, t0, he0, rfl, b0, c0, q0⟩ := fa_sl q0
  obtain ⟨rfl, rfl⟩ := fa_nil q0
  simp only [List.cons.injEq, and_true] at he0
  subst he0
  exact fallI x0 b0 c0
end wireKeeps
end Go.Proofs.Ytjdoiblonbinjaa
