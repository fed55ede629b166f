/- The law RouteOne: its loops, and its normal forms. No condition. -/
import Derived.Test.YtbkninekhmnfdaaR6S
import Derived.Test.YtbkninekhmnfdaaV6M
namespace Go.Proofs.Ytbkninekhmnfdaa
open Go.Eng
set_option linter.unusedSimpArgs false
def KF : List Kf := [.sl 27 SK]
abbrev Rows4 := List (List (List (List Value)))
def rowI (l : List (List Value)) (i : Int) (m : Nat) : Rows4 := (List.range m).map fun q : Nat => [wth l 9 i (i + (q : Int))]
def allI (l : List (List Value)) : Nat → Rows4
  | 0 => []
  | i + 1 => allI l i ++ rowI l i (l.length + 1 - i)
structure IInv (l : List (List Value)) (i : Int) : Prop where
  i0 : 0 ≤ i
  i1 : i ≤ l.length + 1
structure JInv (l : List (List Value)) (i j : Int) : Prop where
  j0 : i ≤ j
  j1 : j ≤ l.length + 1
def mI1 (l : List (List Value)) (i : Int) : Nat := ((l.length : Int) + 1 - i).toNat
def roI (l : List (List Value)) : LoopSpec where
  S := Int
  regs := fun i => [(5, K i), (4, .row 1000001)]
  keep := [3]
  heap := fun _ => []
  news := fun i => [.fam KF (allI l i.toNat) none, .rr 22 1000000]
  inv := IInv l
  mu := mI1 l
def partJ (l : List (List Value)) (i j : Int) : Rows4 := allI l i.toNat ++ rowI l i (j - i).toNat
def roJ (l : List (List Value)) (i : Int) : LoopSpec where
  S := Int
  regs := fun j => [(6, K j), (4, .row 1000001)]
  keep := [3]
  heap := fun _ => []
  news := fun j => [.fam KF (partJ l i j) none, .rr 22 1000000]
  inv := JInv l i
  mu := mI1 l
structure KInv (l : List (List Value)) (i j k : Int) : Prop where
  k0 : 0 ≤ k
  k1 : k ≤ (partJ l i j).length
def mK1 (l : List (List Value)) (i j k : Int) : Nat := (((partJ l i j).length : Int) - k).toNat
def ol (x : List (List Value)) : List (List Value) := made (x.take 6)
def roK (l : List (List Value)) (i j : Int) : LoopSpec where
  S := Int
  regs := fun k => [(9, K k)]
  keep := [3, 4, 7]
  heap := fun _ => []
  inv := KInv l i j
  mu := mK1 l i j
def roL (x : List (List Value)) : LoopSpecs := fun g i => cond (Nat.beq g 4) (cond (Nat.beq i 6) (some fun _ => roI (ol x)) (cond (Nat.beq i 9) (some fun st => roJ (ol x) (Go.Eng.intAt st 5)) (cond (Nat.beq i 15) (some fun st => roK (ol x) (Go.Eng.intAt st 5) (Go.Eng.intAt st 6)) none))) none
set_option maxRecDepth 1000000 in
theorem tRO (x0 : List (List Value)) : (fnS Try.prog G18 (roL x0) 300 4 [.row 0] [.ror [.int .u8] x0 false] fun u _ => isYes u) =
(∀ (z2 : Int),
  z2 = (↑x0.length : Int) →
    ∀ (z4 : Int),
      z4 = min z2 (6 : Int) →
        bif true && (decide ((0 : Int) ≤ z4) && decide (z4 ≤ (↑x0.length : Int))) then
          ∃ (s7 : Int),
            IInv (ol x0) s7 ∧
              (((0 : Int) = s7 ∧ (0 : Int) ≤ s7 ∧ s7 ≤ (9223372036854775807 : Int)) ∧ True ∧ made (List.take (z4 - (0 : Int)).toNat (List.drop (0 : Nat) x0)) = made (List.take (z4 - (0 : Int)).toNat (List.drop (0 : Nat) x0)) ∧ [] = allI (ol x0) s7.toNat ∧ True ∧ True) ∧
                ∀ (z7 : Int),
                  IInv (ol x0) z7 →
                    ∀ (z9 : Int),
                      z9 = (↑(made (List.take (z4 - (0 : Int)).toNat (List.drop (0 : Nat) x0))).length : Int) →
                        ∀ (b11 : Bool),
                          b11 = decide (z7 ≤ z9) →
                            bif b11 then
                              ∃ (s14 : Int),
                                JInv (ol x0) z7 s14 ∧
                                  ((z7 = s14 ∧ True) ∧ True ∧ made (List.take (z4 - (0 : Int)).toNat (List.drop (0 : Nat) x0)) = made (List.take (z4 - (0 : Int)).toNat (List.drop (0 : Nat) x0)) ∧ allI (ol x0) z7.toNat = partJ (ol x0) z7 s14 ∧ True ∧ True) ∧
                                    ∀ (z14 : Int),
                                      JInv (ol x0) z7 z14 →
                                        ∀ (z16 : Int),
                                          z16 = (↑(made (List.take (z4 - (0 : Int)).toNat (List.drop (0 : Nat) x0))).length : Int) →
                                            ∀ (b18 : Bool),
                                              b18 = decide (z14 ≤ z16) →
                                                bif b18 then
                                                  bif decide (lenI (made (List.take (z4 - (0 : Int)).toNat (List.drop (0 : Nat) x0))) ≤ (1000000 : Int)) then
                                                    ∀ (b20 : Bool),
                                                      b20 = wOk (made (List.take (z4 - (0 : Int)).toNat (List.drop (0 : Nat) x0))) (9 : Int) z7 z14 →
                                                        ∀ (b22 : Bool),
                                                          b22 = !b20 →
                                                            bif b22 then false = true
                                                            else
                                                              ∃ (s25 : Int),
                                                                KInv (ol x0) z7 z14 s25 ∧
                                                                  (((0 : Int) = s25 ∧ (0 : Int) ≤ s25 ∧ s25 ≤ (9223372036854775807 : Int)) ∧ made (List.take (z4 - (0 : Int)).toNat (List.drop (0 : Nat) x0)) = made (List.take (z4 - (0 : Int)).toNat (List.drop (0 : Nat) x0)) ∧ True ∧ wth (made (List.take (z4 - (0 : Int)).toNat (List.drop (0 : Nat) x0))) (9 : Int) z7 z14 = wth (made (List.take (z4 - (0 : Int)).toNat (List.drop (0 : Nat) x0))) (9 : Int) z7 z14 ∧ partJ (ol x0) z7 z14 = partJ (ol x0) z7 z14 ∧ True) ∧
                                                                    ∀ (z25 : Int),
                                                                      KInv (ol x0) z7 z14 z25 →
                                                                        ∀ (z27 : Int),
                                                                          z27 = (↑(List.length (partJ (ol x0) z7 z14)) : Int) →
                                                                            ∀ (b29 : Bool),
                                                                              b29 = decide (z25 < z27) →
                                                                                bif b29 then
                                                                                  bif decide ((0 : Int) ≤ z25) && decide (z25 < (↑(List.length (partJ (ol x0) z7 z14)) : Int)) then
                                                                                    ∀ (b31 : Bool),
                                                                                      b31 =
                                                                                          dB
                                                                                            ((List.getD ((List.getD (partJ (ol x0) z7 z14) z25.toNat [])) ((0 : Nat)) []) =
                                                                                              wth (made (List.take (z4 - (0 : Int)).toNat (List.drop (0 : Nat) x0))) (9 : Int) z7 z14) →
                                                                                        bif b31 then false = true else ∀ (z33 : Int), z33 = IntKind.i64.wrap (z25 + (1 : Int)) → ∃ (s36 : Int), KInv (ol x0) z7 z14 s36 ∧ mK1 (ol x0) z7 z14 s36 < mK1 (ol x0) z7 z14 z25 ∧ (z33 = s36 ∧ (0 : Int) ≤ s36 ∧ s36 ≤ (9223372036854775807 : Int)) ∧ made (List.take (z4 - (0 : Int)).toNat (List.drop (0 : Nat) x0)) = made (List.take (z4 - (0 : Int)).toNat (List.drop (0 : Nat) x0)) ∧ True ∧ wth (made (List.take (z4 - (0 : Int)).toNat (List.drop (0 : Nat) x0))) (9 : Int) z7 z14 = wth (made (List.take (z4 - (0 : Int)).toNat (List.drop (0 : Nat) x0))) (9 : Int) z7 z14 ∧ partJ (ol x0) z7 z14 = partJ (ol x0) z7 z14 ∧ True
                                                                                  else False
                                                                                else bif decide ((↑(List.length (partJ (ol x0) z7 z14)) : Int) ≤ (2932031007402 : Int)) then ∀ (z31 : Int), z31 = IntKind.i64.wrap (z14 + (1 : Int)) → ∃ (s34 : Int), JInv (ol x0) z7 s34 ∧ mI1 (ol x0) s34 < mI1 (ol x0) z14 ∧ (z31 = s34 ∧ (0 : Int) ≤ s34 ∧ s34 ≤ (9223372036854775807 : Int)) ∧ True ∧ made (List.take (z4 - (0 : Int)).toNat (List.drop (0 : Nat) x0)) = made (List.take (z4 - (0 : Int)).toNat (List.drop (0 : Nat) x0)) ∧ partJ (ol x0) z7 z14 ++ [[wth (made (List.take (z4 - (0 : Int)).toNat (List.drop (0 : Nat) x0))) (9 : Int) z7 z14]] = partJ (ol x0) z7 s34 ∧ True ∧ True else False
                                                  else False
                                                else ∀ (z20 : Int), z20 = IntKind.i64.wrap (z7 + (1 : Int)) → ∃ (s23 : Int), IInv (ol x0) s23 ∧ mI1 (ol x0) s23 < mI1 (ol x0) z7 ∧ (z20 = s23 ∧ (0 : Int) ≤ s23 ∧ s23 ≤ (9223372036854775807 : Int)) ∧ True ∧ made (List.take (z4 - (0 : Int)).toNat (List.drop (0 : Nat) x0)) = made (List.take (z4 - (0 : Int)).toNat (List.drop (0 : Nat) x0)) ∧ partJ (ol x0) z7 z14 = allI (ol x0) s23.toNat ∧ True ∧ True
                            else ∀ (z13 : Int), z13 = (↑(List.length (allI (ol x0) z7.toNat)) : Int) → ∀ (z15 : Int), z15 = (↑(made (List.take (z4 - (0 : Int)).toNat (List.drop (0 : Nat) x0))).length : Int) → ∀ (z17 : Int), z17 = IntKind.i64.wrap (z15 + (1 : Int)) → ∀ (z19 : Int), z19 = (↑(made (List.take (z4 - (0 : Int)).toNat (List.drop (0 : Nat) x0))).length : Int) → ∀ (z21 : Int), z21 = IntKind.i64.wrap (z19 + (2 : Int)) → ∀ (z23 : Int), z23 = IntKind.i64.wrap (z17 * z21) → ∀ (z25 : Int), z25 = IntKind.i64.wrap (z23.tdiv (2 : Int)) → ∀ (b27 : Bool), b27 = (z13 == z25) → b27 = true
        else False) := by kernel_rfl
end Go.Proofs.Ytbkninekhmnfdaa
