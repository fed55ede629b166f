/- The law LedgerTells: its loops, and its normal forms. No condition. -/
import Derived.Test.YteklfbeeiahcpaaL9P
import Derived.Test.YteklfbeeiahcpaaV3M
namespace Go.Proofs.Yteklfbeeiahcpaa
open Go.Eng
set_option linter.unusedSimpArgs false
def ltSpec (n : Int) (ys : List (List Value)) : LoopSpec where
  S := Int × List (List Value)
  regs := fun s => [(9, .i .i64 s.1 0 50)]
  keep := [1]
  heap := fun _ => [(5, .cells 50 [I n, .row 1000000]), (7, .cells 53 [I n, .row 1000001])]
  news := fun s => [.row 47 EK s.2, .row 54 EK s.2]
  inv := fun s => 0 ≤ s.1 ∧ s.1 ≤ ys.length ∧ s.1 ≤ 50 ∧ Valid n s.2 ∧ (s.2.length : Int) ≤ s.1
  mu := fun s => (50 - s.1).toNat
theorem payX_ok {n f t v : Int} {xs : List (List Value)} (h : Valid n xs) : Valid n (payX n f t v xs) ∧ ((payX n f t v xs).length : Int) ≤ xs.length + 1 := by
  unfold payX
  split
  · rename_i hp
    refine ⟨fun x hx => ?_, by simp⟩
    rcases List.mem_append.1 hx with hx | hx
    · exact h x hx
    · simp only [List.mem_singleton] at hx
      subst hx
      refine ⟨by simp [ent, geti], ?_⟩
      simp only [ent, geti, List.getElem?_cons_zero, List.getElem?_cons_succ]
      unfold payE at hp
      split at hp
      · cases hp
      · omega
  · exact ⟨h, by omega⟩
def ltL (n : Int) (ys : List (List Value)) : LoopSpecs := fun g i => cond (Nat.beq g 3 && Nat.beq i 6) (some fun _ => ltSpec n ys) none
set_option maxRecDepth 1000000 in
theorem tLT (n : Int) (ys : List (List Value)) : (fnS Try.prog G9 (ltL n ys) 100 3 [.i .i64 n 1 8, .row 0] [.ror AK ys false] fun u _ => isYes u) =
(∃ (s4 : Int × List (List Value)), ((0 : Int) ≤ s4.fst ∧ s4.fst ≤ (↑ys.length : Int) ∧ s4.fst ≤ (50 : Int) ∧ Valid n s4.2 ∧ (↑s4.2.length : Int) ≤ s4.fst) ∧ (((0 : Int) = s4.fst ∧ (0 : Int) ≤ s4.fst ∧ s4.fst ≤ (50 : Int)) ∧ ((n = n ∧ True) ∧ True ∧ True) ∧ ((n = n ∧ True) ∧ True ∧ True) ∧ ys = ys ∧ [] = s4.2 ∧ [] = s4.2 ∧ True) ∧ ∀ (z4 : Int × List (List Value)), (0 : Int) ≤ z4.fst ∧ z4.fst ≤ (↑ys.length : Int) ∧ z4.fst ≤ (50 : Int) ∧ Valid n z4.2 ∧ (↑z4.2.length : Int) ≤ z4.fst → ∀ (z6 : Int), z6 = (↑ys.length : Int) → ∀ (b8 : Bool), b8 = decide (z4.fst < z6) → ∀ (b10 : Bool), b10 = b8 → bif b10 || !b10 then ∀ (b12 : Bool), b12 = decide (z4.fst < (50 : Int)) → bif bif b10 then b10 else true then bif bif b10 then true else true then ∀ (b14 : Bool), (b14 = bif b10 then b12 else false) → bif b14 then bif decide ((0 : Int) ≤ z4.fst) && decide (z4.fst < (↑ys.length : Int)) then ∀ (z16 : Int), z16 = geti (ys.getD z4.fst.toNat []) (0 : Nat) → ∀ (z18 : Int), z18 = geti (ys.getD z4.fst.toNat []) (1 : Nat) → ∀ (z20 : Int), z20 = geti (ys.getD z4.fst.toNat []) (2 : Nat) → ∀ (z22 : Int), z22 = z16 % (10 : Int) → ∀ (z24 : Int), z24 = z22 → ∀ (z26 : Int), z26 = z24 - (1 : Int) → ∀ (z28 : Int), z28 = z18 % (10 : Int) → ∀ (z30 : Int), z30 = z28 → ∀ (z32 : Int), z32 = z30 - (1 : Int) → bif decide ((0 : Int) ≤ z4.fst) && decide (z4.fst < (↑ys.length : Int)) then ∀ (z34 : Int), z34 = geti (ys.getD z4.fst.toNat []) (2 : Nat) → bif decide (lenI z4.2 ≤ (1000000 : Int)) then ∀ (z36 : Int), z36 = payE n z26 z32 z34 → bif decide ((0 : Int) ≤ z4.fst) && decide (z4.fst < (↑ys.length : Int)) then ∀ (z38 : Int), z38 = geti (ys.getD z4.fst.toNat []) (2 : Nat) → bif decide (lenI z4.2 ≤ (1000000 : Int)) then ∀ (z40 : Int), z40 = payE n z26 z32 z38 → ∀ (b42 : Bool), b42 = !decide (z36 = z40) → bif !b42 || !!b42 then bif !b42 || !!b42 then bif dB (AlOk n n (payX n z26 z32 z34 z4.2) (payX n z26 z32 z38 z4.2)) || !!b42 then bif !b42 || !!b42 then bif bif b42 then true else true then bif bif b42 then true else !b42 then ∀ (b44 : Bool), (b44 = bif b42 then true else false) → bif b44 then false = true else ∀ (z46 : Int), z46 = z4.fst + (1 : Int) → ∃ (s49 : Int × List (List Value)), ((0 : Int) ≤ s49.fst ∧ s49.fst ≤ (↑ys.length : Int) ∧ s49.fst ≤ (50 : Int) ∧ Valid n s49.2 ∧ (↑s49.2.length : Int) ≤ s49.fst) ∧ ((50 : Int) - s49.fst).toNat < ((50 : Int) - z4.fst).toNat ∧ (z46 = s49.fst ∧ (0 : Int) ≤ s49.fst ∧ s49.fst ≤ (50 : Int)) ∧ ((n = n ∧ True) ∧ True ∧ True) ∧ ((n = n ∧ True) ∧ True ∧ True) ∧ ys = ys ∧ payX n z26 z32 z34 z4.2 = s49.2 ∧ payX n z26 z32 z38 z4.2 = s49.2 ∧ True else False else False else False else False else False else False else False else False else False else False else False else bif dB (AlOk n n z4.2 z4.2) then true = true else False else False else False else False) := by kernel_rfl
set_option maxRecDepth 1000000 in
theorem tLTl (n : Int) (ys : List (List Value)) : (fnS Try.prog G9 noLoops 100 3 [.i .i64 n (-9223372036854775808) 0, .row 0] [.ror AK ys false] fun u _ => isYes u) =
(true = true) := by kernel_rfl
set_option maxRecDepth 1000000 in
theorem tLTh (n : Int) (ys : List (List Value)) : (fnS Try.prog G9 noLoops 100 3 [.i .i64 n 9 9223372036854775807, .row 0] [.ror AK ys false] fun u _ => isYes u) =
(true = true) := by kernel_rfl
end Go.Proofs.Yteklfbeeiahcpaa
