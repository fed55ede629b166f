/- The law LedgerTells, run by the engine, answers true: for all arguments. No condition. -/
import Derived.Test.YteklfbeeiahcpaaL9P
import Derived.Test.YteklfbeeiahcpaaV3M
namespace Go.Proofs.Yteklfbeeiahcpaa
open Go.Eng
set_option linter.unusedSimpArgs false
def ltSpec (n : Int) (ys : List (List Value)) : LoopSpec where
  S := Int × List (List Value)
  regs := fun s => [(9, .i .i64 s.1 0 50)]
  keep := [1]
  heap := fun _ => [(5, .cells 50 [I n, .row 1000000]), (7, .cells 53 [I n, .row 1000001])]
  news := fun s => [.row 47 EK s.2, .row 54 EK s.2]
  inv := fun s => 0 ≤ s.1 ∧ s.1 ≤ ys.length ∧ s.1 ≤ 50 ∧ Valid n s.2 ∧ (s.2.length : Int) ≤ s.1
  mu := fun s => (50 - s.1).toNat
theorem payX_ok {n f t v : Int} {xs : List (List Value)} (h : Valid n xs) : Valid n (payX n f t v xs) ∧ ((payX n f t v xs).length : Int) ≤ xs.length + 1 := by
  unfold payX
  split
  · rename_i hp
    refine ⟨fun x hx => ?_, by simp⟩
    rcases List.mem_append.1 hx with hx | hx
    · exact h x hx
    · simp only [List.mem_singleton] at hx
      subst hx
      refine ⟨by simp [ent, geti], ?_⟩
      simp only [ent, geti, List.getElem?_cons_zero, List.getElem?_cons_succ]
      unfold payE at hp
      split at hp
      · cases hp
      · omega
  · exact ⟨h, by omega⟩
def ltL (n : Int) (ys : List (List Value)) : LoopSpecs := fun g i => cond (Nat.beq g 3 && Nat.beq i 6) (some (ltSpec n ys)) none
set_option maxRecDepth 1000000 in
theorem tLT (n : Int) (ys : List (List Value)) : (fnS Try.prog G9 (ltL n ys) 100 3 [.i .i64 n 1 8, .row 0] [.ror AK ys false] fun u _ => isYes u) =
(∃ (s4 : Int × List (List Value)), ((0 : Int) ≤ s4.fst ∧ s4.fst ≤ (↑ys.length : Int) ∧ s4.fst ≤ (50 : Int) ∧ Valid n s4.2 ∧ (↑s4.2.length : Int) ≤ s4.fst) ∧ (((0 : Int) = s4.fst ∧ (0 : Int) ≤ s4.fst ∧ s4.fst ≤ (50 : Int)) ∧ ((n = n ∧ True) ∧ True ∧ True) ∧ ((n = n ∧ True) ∧ True ∧ True) ∧ ys = ys ∧ [] = s4.2 ∧ [] = s4.2 ∧ True) ∧ ∀ (z4 : Int × List (List Value)), (0 : Int) ≤ z4.fst ∧ z4.fst ≤ (↑ys.length : Int) ∧ z4.fst ≤ (50 : Int) ∧ Valid n z4.2 ∧ (↑z4.2.length : Int) ≤ z4.fst → ∀ (z6 : Int), z6 = (↑ys.length : Int) → ∀ (b8 : Bool), b8 = decide (z4.fst < z6) → ∀ (b10 : Bool), b10 = b8 → bif b10 || !b10 then ∀ (b12 : Bool), b12 = decide (z4.fst < (50 : Int)) → bif bif b10 then b10 else true then bif bif b10 then true else true then ∀ (b14 : Bool), (b14 = bif b10 then b12 else false) → bif b14 then bif decide ((0 : Int) ≤ z4.fst) && decide (z4.fst < (↑ys.length : Int)) then ∀ (z16 : Int), z16 = geti (ys.getD z4.fst.toNat []) (0 : Nat) → ∀ (z18 : Int), z18 = geti (ys.getD z4.fst.toNat []) (1 : Nat) → ∀ (z20 : Int), z20 = geti (ys.getD z4.fst.toNat []) (2 : Nat) → ∀ (z22 : Int), z22 = z16 % (10 : Int) → ∀ (z24 : Int), z24 = z22 → ∀ (z26 : Int), z26 = z24 - (1 : Int) → ∀ (z28 : Int), z28 = z18 % (10 : Int) → ∀ (z30 : Int), z30 = z28 → ∀ (z32 : Int), z32 = z30 - (1 : Int) → bif decide ((0 : Int) ≤ z4.fst) && decide (z4.fst < (↑ys.length : Int)) then ∀ (z34 : Int), z34 = geti (ys.getD z4.fst.toNat []) (2 : Nat) → bif decide (lenI z4.2 ≤ (1000000 : Int)) then ∀ (z36 : Int), z36 = payE n z26 z32 z34 → bif decide ((0 : Int) ≤ z4.fst) && decide (z4.fst < (↑ys.length : Int)) then ∀ (z38 : Int), z38 = geti (ys.getD z4.fst.toNat []) (2 : Nat) → bif decide (lenI z4.2 ≤ (1000000 : Int)) then ∀ (z40 : Int), z40 = payE n z26 z32 z38 → ∀ (b42 : Bool), b42 = !decide (z36 = z40) → bif !b42 || !!b42 then bif !b42 || !!b42 then bif dB (AlOk n n (payX n z26 z32 z34 z4.2) (payX n z26 z32 z38 z4.2)) || !!b42 then bif !b42 || !!b42 then bif bif b42 then true else true then bif bif b42 then true else !b42 then ∀ (b44 : Bool), (b44 = bif b42 then true else false) → bif b44 then false = true else ∀ (z46 : Int), z46 = z4.fst + (1 : Int) → ∃ (s49 : Int × List (List Value)), ((0 : Int) ≤ s49.fst ∧ s49.fst ≤ (↑ys.length : Int) ∧ s49.fst ≤ (50 : Int) ∧ Valid n s49.2 ∧ (↑s49.2.length : Int) ≤ s49.fst) ∧ ((50 : Int) - s49.fst).toNat < ((50 : Int) - z4.fst).toNat ∧ (z46 = s49.fst ∧ (0 : Int) ≤ s49.fst ∧ s49.fst ≤ (50 : Int)) ∧ ((n = n ∧ True) ∧ True ∧ True) ∧ ((n = n ∧ True) ∧ True ∧ True) ∧ ys = ys ∧ payX n z26 z32 z34 z4.2 = s49.2 ∧ payX n z26 z32 z38 z4.2 = s49.2 ∧ True else False else False else False else False else False else False else False else False else False else False else False else bif dB (AlOk n n z4.2 z4.2) then true = true else False else False else False else False) := by kernel_rfl
set_option maxRecDepth 1000000 in
theorem tLTl (n : Int) (ys : List (List Value)) : (fnS Try.prog G9 noLoops 100 3 [.i .i64 n (-9223372036854775808) 0, .row 0] [.ror AK ys false] fun u _ => isYes u) =
(true = true) := by kernel_rfl
set_option maxRecDepth 1000000 in
theorem tLTh (n : Int) (ys : List (List Value)) : (fnS Try.prog G9 noLoops 100 3 [.i .i64 n 9 9223372036854775807, .row 0] [.ror AK ys false] fun u _ => isYes u) =
(true = true) := by kernel_rfl
namespace ledgerTells
set_option maxHeartbeats 4000000 in
theorem fallI (x0 : Int) (x1 : List (List Value)) (b0 : (-9223372036854775808 : Int) ≤ x0 ∧ x0 ≤ 9223372036854775807) (b1 : ∀ x ∈ x1, Fa [.int .u8, .int .u8, .int .u64] x) (c1 : x1.length ≤ maxLen) : ∃ ss, leSVs [.i .i64 x0 (-9223372036854775808) 9223372036854775807, .row 0] ss ∧ ∃ Λ n, fnS Try.prog G9 Λ n 3 ss [.ror [.int .u8, .int .u8, .int .u64] x1 false] fun u _ => isYes u := by
  have hm := len63 c1
  rcases Int.lt_or_le x0 1 with h0 | h0
  · exact ⟨[.i .i64 x0 (-9223372036854775808) 0, .row 0], by (simp [leSVs, leSV]) <;> omega, noLoops, 100, Eq.mpr (tLTl x0 x1) rfl⟩
  rcases Int.lt_or_le 8 x0 with h8 | h8
  · exact ⟨[.i .i64 x0 9 9223372036854775807, .row 0], by (simp [leSVs, leSV]) <;> omega, noLoops, 100, Eq.mpr (tLTh x0 x1) rfl⟩
  refine ⟨[.i .i64 x0 1 8, .row 0], by (simp [leSVs, leSV]) <;> omega, ltL x0 x1, 100, Eq.mpr (tLT x0 x1) ?_⟩
  refine ⟨(0, []), ⟨by omega, by omega, by omega, by simp [Valid], by simp⟩, ⟨⟨rfl, by omega, by omega⟩, by simp⟩, ?_⟩
  rintro ⟨k, xs⟩ ⟨hk0, hk1, hk2, hV, hl⟩
  simp only at hk0 hk1 hk2 hV hl ⊢
  have hL : lenI xs ≤ 1000000 := by rw [lenI_eq]; omega
  have hA : dB (AlOk x0 x0 xs xs) = true := dB_intro ⟨rfl, rfl, hV, by omega, by omega, by omega⟩
  by_cases hlt : k < 50 ∧ k < (x1.length : Int)
  · have hw := b1 _ (getD_in (d := []) (show k.toNat < x1.length by omega))
    generalize x1.getD k.toNat [] = a at *
    have g0 := geti_bd (j := 0) (K := .u8) hw rfl
    have g1 := geti_bd (j := 1) (K := .u8) hw rfl
    have g2 := geti_bd (j := 2) (K := .u64) hw rfl
    simp only [kmin, kmax] at g0 g1 g2
    have hX := payX_ok (n := x0) (f := geti a 0 % 10 - 1) (t := geti a 1 % 10 - 1) (v := geti a 2) hV
    have hA2 : dB (AlOk x0 x0 (payX x0 (geti a 0 % 10 - 1) (geti a 1 % 10 - 1) (geti a 2) xs) (payX x0 (geti a 0 % 10 - 1) (geti a 1 % 10 - 1) (geti a 2) xs)) = true := dB_intro ⟨rfl, rfl, hX.1, by omega, by omega, by omega⟩
    (repeat' (first | exact True.intro | (refine spN (fun _ => ?_) (fun h => (h rfl).elim)) | (refine spB (fun _ => ?_) (fun _ => ?_)) | (refine spN (fun _ => ?_) (fun _ => ?_)) | (refine spT rfl ?_) | (refine spF rfl ?_) | (refine coT rfl ?_) | (refine coF rfl ?_) | (refine coP (by omega) ?_) | (refine coA ?_) | (refine coO3 ?_) | (refine coO4 ?_) | (refine coO ?_) | (refine coO2 ?_) | (refine spE (fun _ => ?_) (fun _ => ?_)) | (refine spC (fun _ => ?_) (fun _ => ?_)) | (refine introWx (by omega) ?_; intro _ _) | intro _ _ | (refine bif_intro (fun _ => ?_) (fun _ => ?_))))
    all_goals subst_vars
    all_goals (try (exfalso; first | omega | exact (‹¬True› trivial).elim))
    all_goals first
      | (exfalso; rw [hA2] at *; simp at *; done)
      | (refine ⟨(k + 1, payX x0 (geti a 0 % 10 - 1) (geti a 1 % 10 - 1) (geti a 2) xs), ⟨by (try simp only) <;> omega, by (try simp only) <;> omega, by (try simp only) <;> omega, hX.1, by (try simp only) <;> omega⟩, by (try simp only) <;> omega, ⟨by (try simp only) <;> omega, by (try simp only) <;> omega, by (try simp only) <;> omega⟩, ?_⟩; (repeat' (first | apply And.intro | trivial | rfl | omega)); done)
  · simp only [hA]
    (repeat' (first | exact True.intro | (refine spN (fun _ => ?_) (fun h => (h rfl).elim)) | (refine spB (fun _ => ?_) (fun _ => ?_)) | (refine spN (fun _ => ?_) (fun _ => ?_)) | (refine spT rfl ?_) | (refine spF rfl ?_) | (refine coT rfl ?_) | (refine coF rfl ?_) | (refine coP (by omega) ?_) | (refine coA ?_) | (refine coO3 ?_) | (refine coO4 ?_) | (refine coO ?_) | (refine coO2 ?_) | (refine spE (fun _ => ?_) (fun _ => ?_)) | (refine spC (fun _ => ?_) (fun _ => ?_)) | (refine introWx (by omega) ?_; intro _ _) | intro _ _ | (refine bif_intro (fun _ => ?_) (fun _ => ?_))))
    all_goals (try (exfalso; first | omega | exact (‹¬True› trivial).elim))
    all_goals ((repeat' (first | apply And.intro | trivial | rfl | omega)); done)
def shapes : List (Bool × List Kd2) := [(false, [.k (.int .i64)]), (false, [.sl [.int .u8, .int .u8, .int .u64]])]
theorem fall (ss : List SV) (bs : List Blk) (h : ParsOk 0 shapes ss bs) : ∃ ss1, leSVs ss ss1 ∧ ∃ Λ n, fnS Try.prog G9 Λ n 3 ss1 bs fun u _ => isYes u := by
  obtain ⟨s0, r0, d0, e0, rfl, rfl, p0, h⟩ := ps_cons h
  obtain ⟨s1, r1, d1, e1, rfl, rfl, p1, h⟩ := ps_cons h
  obtain ⟨rfl, rfl⟩ := ps_nil h
  have q0 := par_one p0
  obtain ⟨x0, _, he0, b0, q0⟩ := fa_int q0
  obtain ⟨rfl, rfl⟩ := fa_nil q0
  simp only [List.cons.injEq, and_true] at he0
  subst he0
  have q1 := par_one p1
  obtain ⟨x1, _, t1, he1, rfl, b1, c1, q1⟩ := fa_sl q1
  obtain ⟨rfl, rfl⟩ := fa_nil q1
  simp only [List.cons.injEq, and_true] at he1
  subst he1
  exact fallI x0 x1 b0 b1 c1
end ledgerTells
end Go.Proofs.Yteklfbeeiahcpaa
