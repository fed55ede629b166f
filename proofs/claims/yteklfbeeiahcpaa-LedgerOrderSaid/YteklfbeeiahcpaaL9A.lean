/- The law LedgerTells, run by the engine, answers true: for all arguments. No condition. -/
import Derived.Test.YteklfbeeiahcpaaL9AT
namespace Go.Proofs.Yteklfbeeiahcpaa
open Go.Eng
set_option linter.unusedSimpArgs false
namespace ledgerTells
set_option maxHeartbeats 4000000 in
theorem fallI (x0 : Int) (x1 : List (List Value)) (b0 : (-9223372036854775808 : Int) ≤ x0 ∧ x0 ≤ 9223372036854775807) (b1 : ∀ x ∈ x1, Fa [.int .u8, .int .u8, .int .u64] x) (c1 : x1.length ≤ maxLen) : ∃ ss, leSVs [.i .i64 x0 (-9223372036854775808) 9223372036854775807, .row 0] ss ∧ ∃ Λ n, fnS Try.prog G9 Λ n 3 ss [.ror [.int .u8, .int .u8, .int .u64] x1 false] fun u _ => isYes u := by
  have hm := len63 c1
  rcases Int.lt_or_le x0 1 with h0 | h0
  · exact ⟨[.i .i64 x0 (-9223372036854775808) 0, .row 0], by (simp [leSVs, leSV]) <;> omega, noLoops, 100, Eq.mpr (tLTl x0 x1) rfl⟩
  rcases Int.lt_or_le 8 x0 with h8 | h8
  · exact ⟨[.i .i64 x0 9 9223372036854775807, .row 0], by (simp [leSVs, leSV]) <;> omega, noLoops, 100, Eq.mpr (tLTh x0 x1) rfl⟩
  refine ⟨[.i .i64 x0 1 8, .row 0], by (simp [leSVs, leSV]) <;> omega, ltL x0 x1, 100, Eq.mpr (tLT x0 x1) ?_⟩
  refine ⟨(0, []), ⟨by omega, by omega, by omega, by simp [Valid], by simp⟩, ⟨⟨rfl, by omega, by omega⟩, by simp⟩, ?_⟩
  rintro ⟨k, xs⟩ ⟨hk0, hk1, hk2, hV, hl⟩
  simp only at hk0 hk1 hk2 hV hl ⊢
  have hL : lenI xs ≤ 1000000 := by rw [lenI_eq]; omega
  have hA : dB (AlOk x0 x0 xs xs) = true := dB_intro ⟨rfl, rfl, hV, by omega, by omega, by omega⟩
  by_cases hlt : k < 50 ∧ k < (x1.length : Int)
  · have hw := b1 _ (getD_in (d := []) (show k.toNat < x1.length by omega))
    generalize x1.getD k.toNat [] = a at *
    have g0 := geti_bd (j := 0) (K := .u8) hw rfl
    have g1 := geti_bd (j := 1) (K := .u8) hw rfl
    have g2 := geti_bd (j := 2) (K := .u64) hw rfl
    simp only [kmin, kmax] at g0 g1 g2
    have hX := payX_ok (n := x0) (f := geti a 0 % 10 - 1) (t := geti a 1 % 10 - 1) (v := geti a 2) hV
    have hA2 : dB (AlOk x0 x0 (payX x0 (geti a 0 % 10 - 1) (geti a 1 % 10 - 1) (geti a 2) xs) (payX x0 (geti a 0 % 10 - 1) (geti a 1 % 10 - 1) (geti a 2) xs)) = true := dB_intro ⟨rfl, rfl, hX.1, by omega, by omega, by omega⟩
    (repeat' (first | exact True.intro | (refine spN (fun _ => ?_) (fun h => (h rfl).elim)) | (refine spB (fun _ => ?_) (fun _ => ?_)) | (refine spN (fun _ => ?_) (fun _ => ?_)) | (refine spT rfl ?_) | (refine spF rfl ?_) | (refine coT rfl ?_) | (refine coF rfl ?_) | (refine coP (by omega) ?_) | (refine coA ?_) | (refine coO3 ?_) | (refine coO4 ?_) | (refine coO ?_) | (refine coO2 ?_) | (refine spE (fun _ => ?_) (fun _ => ?_)) | (refine spC (fun _ => ?_) (fun _ => ?_)) | (refine introWx (by omega) ?_; intro _ _) | intro _ _ | (refine bif_intro (fun _ => ?_) (fun _ => ?_))))
    all_goals subst_vars
    all_goals (try (exfalso; first | omega | exact (‹¬True› trivial).elim))
    all_goals first
      | (exfalso; rw [hA2] at *; simp at *; done)
      | (refine ⟨(k + 1, payX x0 (geti a 0 % 10 - 1) (geti a 1 % 10 - 1) (geti a 2) xs), ⟨by (try simp only) <;> omega, by (try simp only) <;> omega, by (try simp only) <;> omega, hX.1, by (try simp only) <;> omega⟩, by (try simp only) <;> omega, ⟨by (try simp only) <;> omega, by (try simp only) <;> omega, by (try simp only) <;> omega⟩, ?_⟩; (repeat' (first | apply And.intro | trivial | rfl | omega)); done)
  · simp only [hA]
    (repeat' (first | exact True.intro | (refine spN (fun _ => ?_) (fun h => (h rfl).elim)) | (refine spB (fun _ => ?_) (fun _ => ?_)) | (refine spN (fun _ => ?_) (fun _ => ?_)) | (refine spT rfl ?_) | (refine spF rfl ?_) | (refine coT rfl ?_) | (refine coF rfl ?_) | (refine coP (by omega) ?_) | (refine coA ?_) | (refine coO3 ?_) | (refine coO4 ?_) | (refine coO ?_) | (refine coO2 ?_) | (refine spE (fun _ => ?_) (fun _ => ?_)) | (refine spC (fun _ => ?_) (fun _ => ?_)) | (refine introWx (by omega) ?_; intro _ _) | intro _ _ | (refine bif_intro (fun _ => ?_) (fun _ => ?_))))
    all_goals (try (exfalso; first | omega | exact (‹¬True› trivial).elim))
    all_goals ((repeat' (first | apply And.intro | trivial | rfl | omega)); done)
def shapes : List (Bool × List Kd2) := [(false, [.k (.int .i64)]), (false, [.sl [.int .u8, .int .u8, .int .u64]])]
theorem fall (ss : List SV) (bs : List Blk) (h : ParsOk 0 shapes ss bs) : ∃ ss1, leSVs ss ss1 ∧ ∃ Λ n, fnS Try.prog G9 Λ n 3 ss1 bs fun u _ => isYes u := by
  obtain ⟨s0, r0, d0, e0, rfl, rfl, p0, h⟩ := ps_cons h
  obtain ⟨s1, r1, d1, e1, rfl, rfl, p1, h⟩ := ps_cons h
  obtain ⟨rfl, rfl⟩ := ps_nil h
  have q0 := par_one p0
  obtain ⟨x0, _, he0, b0, q0⟩ := fa_int q0
  obtain ⟨rfl, rfl⟩ := fa_nil q0
  simp only [List.cons.injEq, and_true] at he0
  subst he0
  have q1 := par_one p1
  obtain ⟨x1, _, t1, he1, rfl, b1, c1, q1⟩ := fa_sl q1
  obtain ⟨rfl, rfl⟩ := fa_nil q1
  simp only [List.cons.injEq, and_true] at he1
  subst he1
  exact fallI x0 x1 b0 b1 c1
end ledgerTells
end Go.Proofs.Yteklfbeeiahcpaa
