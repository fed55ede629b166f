/- The law SceneTurned: its loops, and its normal forms. No condition. -/
import Derived.Test.YtafmknblnamegaaDoorS5IP
import Derived.Test.YtafmknblnamegaaDoorS5U
import Derived.Test.YtafmknblnamegaaDoorV7M
namespace Go.Proofs.YtafmknblnamegaaDoor
open Go.Eng
set_option linter.unusedSimpArgs false
def dCsF (bs : Rw) (x y : Int) : Fm := dCs bs (rN y) (cN x) (rN y).toNat
def dLsF (bs : Rw) (x y : Int) : Rw := dLs bs (cT bs (rN y) (cN x).toNat) (rN y).toNat
def tu1 (p q : Bool) (cs : Fm) : LoopSpec where
  S := Int
  regs := fun k => [(8, S1 k), (7, .row 1000001)]
  keep := [3, 5, 6]
  heap := fun _ => []
  news := fun k => [.fam CF (tuC p q cs k) none, .rr 53 1000000]
  inv := Tw (cs.length : Int)
  mu := twMu (cs.length : Int)
def flN (cs : Fm) (c : Int) : Int := ((fle (cs.getD c.toNat [])).length : Int)
def owN (cs : Fm) (c : Int) : Int := ((own (cs.getD c.toNat [])).length : Int)
def tuF (p : Bool) (cs : Fm) (c i : Int) : Rw := tuT p (fle (cs.getD c.toNat [])) i
def tuO (q : Bool) (cs : Fm) (c i : Int) : Rw := tuT q (own (cs.getD c.toNat [])) i
def tu2 (p : Bool) (cs : Fm) (c : Int) : LoopSpec where
  S := Int
  regs := fun i => [(11, S1 i)]
  keep := [3, 5, 6, 7, 9]
  heap := fun _ => [(10, .cells 53 [SN, nilS])]
  news := fun i => [.row 57 VK (tuF p cs c i)]
  inv := Tw (flN cs c)
  mu := twMu (flN cs c)
def tu3 (p q : Bool) (cs : Fm) (c : Int) : LoopSpec where
  S := Int
  regs := fun i => [(13, S1 i)]
  keep := [3, 5, 6, 7, 9]
  heap := fun _ => [(10, .cells 53 [SN, .row 1000001])]
  news := fun i => [.row 57 VK (tuF p cs c (flN cs c)), .row 3 I64 (tuO q cs c i)]
  inv := Tw (owN cs c)
  mu := twMu (owN cs c)
def tu4 (z : Bool) (ls : Rw) (a0 a1 a3 a4 a5 a6 : SV) : LoopSpec where
  S := Int
  regs := fun i => [(16, S1 i)]
  keep := [3, 5, 6, 7]
  heap := fun _ => [(15, .cells 33 [a0, a1, SN, a3, a4, a5, a6])]
  news := fun i => [.row 59 LK (tuT z ls i)]
  inv := Tw (ls.length : Int)
  mu := twMu (ls.length : Int)
def tuL (p q z : Bool) (cs : Fm) (ls : Rw) : LoopSpecs := fun g i => cond (Nat.beq g 4) (cond (Nat.beq i 7) (some fun _ => tu1 p q cs) <| cond (Nat.beq i 11) (some fun st => tu2 p cs (intAt st 8)) <| cond (Nat.beq i 18) (some fun st => tu3 p q cs (intAt st 8)) <| cond (Nat.beq i 29) (some fun st => tu4 z ls (cellAt st 15 0) (cellAt st 15 1) (cellAt st 15 3) (cellAt st 15 4) (cellAt st 15 5) (cellAt st 15 6)) none) none
set_option maxRecDepth 1000000 in
theorem tTU (x0 : Rw) (x1 x2 x3 x4 : Int) (x5 x6 x7 : Bool) : (fnS Tryd.prog G26 (tuL x5 x6 x7 (dCsF x0 x1 x2) (dLsF x0 x1 x2)) 400 4 [.agg [.row 0, .i .u8 x1 (0) 255, .i .u8 x2 (0) 255, .i .u8 x3 (0) 255, .i .i64 x4 (-9223372036854775808) 9223372036854775807], .agg [.b x5, .b x6, .b x7]] [.ror [.int .u8] x0 false] fun u _ => isYes u) =
(∀ (z9 : Int),
 z9 = aN x3 →
 ∀ (z11 : Int),
 z11 = bN x3 →
 ∀ (z13 : Int),
 z13 = sN x3 →
 bif decide (lenI (dTs x0 (rN x2).toNat) ≤ (1000 : Int)) then
 ∃ (s16 : Int),
 Tw (↑(List.length (dCsF x0 x1 x2)) : Int) s16 ∧
 (((0 : Int) = s16 ∧ (0 : Int) ≤ s16 ∧ s16 ≤ (100 : Int)) ∧ True ∧ (x5 = x5 ∧ x6 = x6 ∧ x7 = x7 ∧ True) ∧ (True ∧ True ∧ True ∧ (z9 = z9 ∧ True) ∧ (z11 = z11 ∧ True) ∧ (z13 = z13 ∧ True) ∧ True ∧ True) ∧ oR (dTs x0 (rN x2).toNat) (dCs x0 (rN x2) (cN x1) (rN x2).toNat) (↑(List.length (dTs x0 (rN x2).toNat)) : Int) = oR (dTs x0 (rN x2).toNat) (dCs x0 (rN x2) (cN x1) (rN x2).toNat) (↑(List.length (dTs x0 (rN x2).toNat)) : Int) ∧ dTs x0 (rN x2).toNat = dTs x0 (rN x2).toNat ∧ True ∧ dLs x0 (cT x0 (rN x2) (cN x1).toNat) (rN x2).toNat = dLs x0 (cT x0 (rN x2) (cN x1).toNat) (rN x2).toNat ∧ True ∧ dCs x0 (rN x2) (cN x1) (rN x2).toNat = dCs x0 (rN x2) (cN x1) (rN x2).toNat ∧ dDs x0 (rN x2) (cN x1).toNat = dDs x0 (rN x2) (cN x1).toNat ∧ [] = tuC x5 x6 (dCsF x0 x1 x2) s16 ∧ True ∧ True) ∧
 ∀ (z16 : Int),
 Tw (↑(List.length (dCsF x0 x1 x2)) : Int) z16 →
 ∀ (z18 : Int),
 z18 = (↑(List.length (dCs x0 (rN x2) (cN x1) (rN x2).toNat)) : Int) →
 ∀ (b20 : Bool),
 b20 = decide (z16 < z18) →
 bif b20 then
 bif decide ((0 : Int) ≤ z16) && decide (z16 < (↑(List.length (dCs x0 (rN x2) (cN x1) (rN x2).toNat)) : Int)) then
 ∃ (s23 : Int),
 Tw (flN (dCsF x0 x1 x2) z16) s23 ∧
 (((0 : Int) = s23 ∧ (0 : Int) ≤ s23 ∧ s23 ≤ (100 : Int)) ∧ (True ∧ Value.slice none (0 : Nat) (0 : Nat) = Value.slice none (0 : Nat) (0 : Nat) ∧ True) ∧ (x5 = x5 ∧ x6 = x6 ∧ x7 = x7 ∧ True) ∧ (True ∧ True ∧ True ∧ (z9 = z9 ∧ True) ∧ (z11 = z11 ∧ True) ∧ (z13 = z13 ∧ True) ∧ True ∧ True) ∧ oR (dTs x0 (rN x2).toNat) (dCs x0 (rN x2) (cN x1) (rN x2).toNat) (↑(List.length (dTs x0 (rN x2).toNat)) : Int) = oR (dTs x0 (rN x2).toNat) (dCs x0 (rN x2) (cN x1) (rN x2).toNat) (↑(List.length (dTs x0 (rN x2).toNat)) : Int) ∧ True ∧ (True ∧ True ∧ True) ∧ dTs x0 (rN x2).toNat = dTs x0 (rN x2).toNat ∧ True ∧ dLs x0 (cT x0 (rN x2) (cN x1).toNat) (rN x2).toNat = dLs x0 (cT x0 (rN x2) (cN x1).toNat) (rN x2).toNat ∧ True ∧ tuC x5 x6 (dCsF x0 x1 x2) z16 = tuC x5 x6 (dCsF x0 x1 x2) z16 ∧ z16.toNat = z16.toNat ∧ z16.toNat = z16.toNat ∧ dCs x0 (rN x2) (cN x1) (rN x2).toNat = dCs x0 (rN x2) (cN x1) (rN x2).toNat ∧ dDs x0 (rN x2) (cN x1).toNat = dDs x0 (rN x2) (cN x1).toNat ∧ [] = tuF x5 (dCsF x0 x1 x2) z16 s23 ∧ True) ∧
 ∀ (z23 : Int),
 Tw (flN (dCsF x0 x1 x2) z16) z23 →
 ∀ (z25 : Int),
 z25 =
 (↑(List.getD ((List.getD (dCs x0 (rN x2) (cN x1) (rN x2).toNat) z16.toNat [])) ((0 : Nat)) []).length :
 Int) →
 ∀ (b27 : Bool),
 b27 = decide (z23 < z25) →
 bif b27 then
 bif x5 then
 ∀ (z29 : Int),
 z29 =
 (↑(List.getD ((List.getD (dCs x0 (rN x2) (cN x1) (rN x2).toNat) z16.toNat [])) ((0 : Nat)) []).length :
 Int) →
 ∀ (z31 : Int),
 z31 = z29 - (1 : Int) →
 ∀ (z33 : Int),
 z33 = z31 - z23 →
 bif
 decide ((0 : Int) ≤ z33) &&
 decide
 (z33 <
 (↑(List.getD ((List.getD (dCs x0 (rN x2) (cN x1) (rN x2).toNat) z16.toNat [])) ((0 : Nat)) []).length :
 Int)) then
 ∀ (z35 : Int), z35 = geti (((List.getD (dCs x0 (rN x2) (cN x1) (rN x2).toNat) z16.toNat []).getD (0 : Nat) []).getD z33.toNat []) (0 : Nat) → ∀ (z37 : Int), z37 = geti (((List.getD (dCs x0 (rN x2) (cN x1) (rN x2).toNat) z16.toNat []).getD (0 : Nat) []).getD z33.toNat []) (1 : Nat) → ∀ (z39 : Int), z39 = geti (((List.getD (dCs x0 (rN x2) (cN x1) (rN x2).toNat) z16.toNat []).getD (0 : Nat) []).getD z33.toNat []) (2 : Nat) → ∀ (z41 : Int), z41 = geti (((List.getD (dCs x0 (rN x2) (cN x1) (rN x2).toNat) z16.toNat []).getD (0 : Nat) []).getD z33.toNat []) (3 : Nat) → ∀ (z43 : Int), z43 = geti (((List.getD (dCs x0 (rN x2) (cN x1) (rN x2).toNat) z16.toNat []).getD (0 : Nat) []).getD z33.toNat []) (4 : Nat) → bif decide (lenI (tuF x5 (dCsF x0 x1 x2) z16 z23) ≤ (1759218604441 : Int)) then ∀ (z45 : Int), z45 = z23 + (1 : Int) → ∃ (s48 : Int), Tw (flN (dCsF x0 x1 x2) z16) s48 ∧ twMu (flN (dCsF x0 x1 x2) z16) s48 < twMu (flN (dCsF x0 x1 x2) z16) z23 ∧ (z45 = s48 ∧ (0 : Int) ≤ s48 ∧ s48 ≤ (100 : Int)) ∧ (True ∧ Value.slice none (0 : Nat) (0 : Nat) = Value.slice none (0 : Nat) (0 : Nat) ∧ True) ∧ (x5 = x5 ∧ x6 = x6 ∧ x7 = x7 ∧ True) ∧ (True ∧ True ∧ True ∧ (z9 = z9 ∧ True) ∧ (z11 = z11 ∧ True) ∧ (z13 = z13 ∧ True) ∧ True ∧ True) ∧ oR (dTs x0 (rN x2).toNat) (dCs x0 (rN x2) (cN x1) (rN x2).toNat) (↑(List.length (dTs x0 (rN x2).toNat)) : Int) = oR (dTs x0 (rN x2).toNat) (dCs x0 (rN x2) (cN x1) (rN x2).toNat) (↑(List.length (dTs x0 (rN x2).toNat)) : Int) ∧ True ∧ (True ∧ True ∧ True) ∧ dTs x0 (rN x2).toNat = dTs x0 (rN x2).toNat ∧ True ∧ dLs x0 (cT x0 (rN x2) (cN x1).toNat) (rN x2).toNat = dLs x0 (cT x0 (rN x2) (cN x1).toNat) (rN x2).toNat ∧ True ∧ tuC x5 x6 (dCsF x0 x1 x2) z16 = tuC x5 x6 (dCsF x0 x1 x2) z16 ∧ z16.toNat = z16.toNat ∧ z16.toNat = z16.toNat ∧ dCs x0 (rN x2) (cN x1) (rN x2).toNat = dCs x0 (rN x2) (cN x1) (rN x2).toNat ∧ dDs x0 (rN x2) (cN x1).toNat = dDs x0 (rN x2) (cN x1).toNat ∧ tuF x5 (dCsF x0 x1 x2) z16 z23 ++ [[Value.int IntKind.i64 z35, Value.int IntKind.i64 z37, Value.int IntKind.i64 z39, Value.int IntKind.i64 z41, Value.int IntKind.i64 z43]] = tuF x5 (dCsF x0 x1 x2) z16 s48 ∧ True else False
 else False
 else
 bif
 decide ((0 : Int) ≤ z23) &&
 decide
 (z23 <
 (↑(List.getD ((List.getD (dCs x0 (rN x2) (cN x1) (rN x2).toNat) z16.toNat [])) ((0 : Nat)) []).length :
 Int)) then
 ∀ (z29 : Int), z29 = geti (((List.getD (dCs x0 (rN x2) (cN x1) (rN x2).toNat) z16.toNat []).getD (0 : Nat) []).getD z23.toNat []) (0 : Nat) → ∀ (z31 : Int), z31 = geti (((List.getD (dCs x0 (rN x2) (cN x1) (rN x2).toNat) z16.toNat []).getD (0 : Nat) []).getD z23.toNat []) (1 : Nat) → ∀ (z33 : Int), z33 = geti (((List.getD (dCs x0 (rN x2) (cN x1) (rN x2).toNat) z16.toNat []).getD (0 : Nat) []).getD z23.toNat []) (2 : Nat) → ∀ (z35 : Int), z35 = geti (((List.getD (dCs x0 (rN x2) (cN x1) (rN x2).toNat) z16.toNat []).getD (0 : Nat) []).getD z23.toNat []) (3 : Nat) → ∀ (z37 : Int), z37 = geti (((List.getD (dCs x0 (rN x2) (cN x1) (rN x2).toNat) z16.toNat []).getD (0 : Nat) []).getD z23.toNat []) (4 : Nat) → bif decide (lenI (tuF x5 (dCsF x0 x1 x2) z16 z23) ≤ (1759218604441 : Int)) then ∀ (z39 : Int), z39 = z23 + (1 : Int) → ∃ (s42 : Int), Tw (flN (dCsF x0 x1 x2) z16) s42 ∧ twMu (flN (dCsF x0 x1 x2) z16) s42 < twMu (flN (dCsF x0 x1 x2) z16) z23 ∧ (z39 = s42 ∧ (0 : Int) ≤ s42 ∧ s42 ≤ (100 : Int)) ∧ (True ∧ Value.slice none (0 : Nat) (0 : Nat) = Value.slice none (0 : Nat) (0 : Nat) ∧ True) ∧ (x5 = x5 ∧ x6 = x6 ∧ x7 = x7 ∧ True) ∧ (True ∧ True ∧ True ∧ (z9 = z9 ∧ True) ∧ (z11 = z11 ∧ True) ∧ (z13 = z13 ∧ True) ∧ True ∧ True) ∧ oR (dTs x0 (rN x2).toNat) (dCs x0 (rN x2) (cN x1) (rN x2).toNat) (↑(List.length (dTs x0 (rN x2).toNat)) : Int) = oR (dTs x0 (rN x2).toNat) (dCs x0 (rN x2) (cN x1) (rN x2).toNat) (↑(List.length (dTs x0 (rN x2).toNat)) : Int) ∧ True ∧ (True ∧ True ∧ True) ∧ dTs x0 (rN x2).toNat = dTs x0 (rN x2).toNat ∧ True ∧ dLs x0 (cT x0 (rN x2) (cN x1).toNat) (rN x2).toNat = dLs x0 (cT x0 (rN x2) (cN x1).toNat) (rN x2).toNat ∧ True ∧ tuC x5 x6 (dCsF x0 x1 x2) z16 = tuC x5 x6 (dCsF x0 x1 x2) z16 ∧ z16.toNat = z16.toNat ∧ z16.toNat = z16.toNat ∧ dCs x0 (rN x2) (cN x1) (rN x2).toNat = dCs x0 (rN x2) (cN x1) (rN x2).toNat ∧ dDs x0 (rN x2) (cN x1).toNat = dDs x0 (rN x2) (cN x1).toNat ∧ tuF x5 (dCsF x0 x1 x2) z16 z23 ++ [[Value.int IntKind.i64 z29, Value.int IntKind.i64 z31, Value.int IntKind.i64 z33, Value.int IntKind.i64 z35, Value.int IntKind.i64 z37]] = tuF x5 (dCsF x0 x1 x2) z16 s42 ∧ True else False
 else False
 else
 ∃ (s30 : Int),
 Tw (owN (dCsF x0 x1 x2) z16) s30 ∧
 (((0 : Int) = s30 ∧ (0 : Int) ≤ s30 ∧ s30 ≤ (100 : Int)) ∧ (True ∧ True ∧ True) ∧ (x5 = x5 ∧ x6 = x6 ∧ x7 = x7 ∧ True) ∧ (True ∧ True ∧ True ∧ (z9 = z9 ∧ True) ∧ (z11 = z11 ∧ True) ∧ (z13 = z13 ∧ True) ∧ True ∧ True) ∧ oR (dTs x0 (rN x2).toNat) (dCs x0 (rN x2) (cN x1) (rN x2).toNat) (↑(List.length (dTs x0 (rN x2).toNat)) : Int) = oR (dTs x0 (rN x2).toNat) (dCs x0 (rN x2) (cN x1) (rN x2).toNat) (↑(List.length (dTs x0 (rN x2).toNat)) : Int) ∧ True ∧ (True ∧ True ∧ True) ∧ dTs x0 (rN x2).toNat = dTs x0 (rN x2).toNat ∧ True ∧ dLs x0 (cT x0 (rN x2) (cN x1).toNat) (rN x2).toNat = dLs x0 (cT x0 (rN x2) (cN x1).toNat) (rN x2).toNat ∧ True ∧ tuC x5 x6 (dCsF x0 x1 x2) z16 = tuC x5 x6 (dCsF x0 x1 x2) z16 ∧ z16.toNat = z16.toNat ∧ z16.toNat = z16.toNat ∧ dCs x0 (rN x2) (cN x1) (rN x2).toNat = dCs x0 (rN x2) (cN x1) (rN x2).toNat ∧ dDs x0 (rN x2) (cN x1).toNat = dDs x0 (rN x2) (cN x1).toNat ∧ tuF x5 (dCsF x0 x1 x2) z16 z23 = tuF x5 (dCsF x0 x1 x2) z16 (flN (dCsF x0 x1 x2) z16) ∧ [] = tuO x6 (dCsF x0 x1 x2) z16 s30 ∧ True) ∧
 ∀ (z30 : Int),
 Tw (owN (dCsF x0 x1 x2) z16) z30 →
 ∀ (z32 : Int),
 z32 =
 (↑(List.getD ((List.getD (dCs x0 (rN x2) (cN x1) (rN x2).toNat) z16.toNat [])) ((1 : Nat)) []).length :
 Int) →
 ∀ (b34 : Bool),
 b34 = decide (z30 < z32) →
 bif b34 then
 bif x6 then
 ∀ (z36 : Int),
 z36 =
 (↑(List.getD ((List.getD (dCs x0 (rN x2) (cN x1) (rN x2).toNat) z16.toNat [])) ((1 : Nat)) []).length :
 Int) →
 ∀ (z38 : Int),
 z38 = z36 - (1 : Int) →
 ∀ (z40 : Int),
 z40 = z38 - z30 →
 bif
 decide ((0 : Int) ≤ z40) &&
 decide
 (z40 <
 (↑(List.getD ((List.getD (dCs x0 (rN x2) (cN x1) (rN x2).toNat) z16.toNat [])) ((1 : Nat)) []).length :
 Int)) then
 ∀ (z42 : Int), z42 = geti (((List.getD (dCs x0 (rN x2) (cN x1) (rN x2).toNat) z16.toNat []).getD (1 : Nat) []).getD z40.toNat []) (0 : Nat) → bif decide (lenI (tuO x6 (dCsF x0 x1 x2) z16 z30) ≤ (8796093022208 : Int)) then ∀ (z44 : Int), z44 = z30 + (1 : Int) → ∃ (s47 : Int), Tw (owN (dCsF x0 x1 x2) z16) s47 ∧ twMu (owN (dCsF x0 x1 x2) z16) s47 < twMu (owN (dCsF x0 x1 x2) z16) z30 ∧ (z44 = s47 ∧ (0 : Int) ≤ s47 ∧ s47 ≤ (100 : Int)) ∧ (True ∧ True ∧ True) ∧ (x5 = x5 ∧ x6 = x6 ∧ x7 = x7 ∧ True) ∧ (True ∧ True ∧ True ∧ (z9 = z9 ∧ True) ∧ (z11 = z11 ∧ True) ∧ (z13 = z13 ∧ True) ∧ True ∧ True) ∧ oR (dTs x0 (rN x2).toNat) (dCs x0 (rN x2) (cN x1) (rN x2).toNat) (↑(List.length (dTs x0 (rN x2).toNat)) : Int) = oR (dTs x0 (rN x2).toNat) (dCs x0 (rN x2) (cN x1) (rN x2).toNat) (↑(List.length (dTs x0 (rN x2).toNat)) : Int) ∧ True ∧ (True ∧ True ∧ True) ∧ dTs x0 (rN x2).toNat = dTs x0 (rN x2).toNat ∧ True ∧ dLs x0 (cT x0 (rN x2) (cN x1).toNat) (rN x2).toNat = dLs x0 (cT x0 (rN x2) (cN x1).toNat) (rN x2).toNat ∧ True ∧ tuC x5 x6 (dCsF x0 x1 x2) z16 = tuC x5 x6 (dCsF x0 x1 x2) z16 ∧ z16.toNat = z16.toNat ∧ z16.toNat = z16.toNat ∧ dCs x0 (rN x2) (cN x1) (rN x2).toNat = dCs x0 (rN x2) (cN x1) (rN x2).toNat ∧ dDs x0 (rN x2) (cN x1).toNat = dDs x0 (rN x2) (cN x1).toNat ∧ tuF x5 (dCsF x0 x1 x2) z16 (flN (dCsF x0 x1 x2) z16) = tuF x5 (dCsF x0 x1 x2) z16 (flN (dCsF x0 x1 x2) z16) ∧ tuO x6 (dCsF x0 x1 x2) z16 z30 ++ [[Value.int IntKind.i64 z42]] = tuO x6 (dCsF x0 x1 x2) z16 s47 ∧ True else False
 else False
 else
 bif
 decide ((0 : Int) ≤ z30) &&
 decide
 (z30 <
 (↑(List.getD ((List.getD (dCs x0 (rN x2) (cN x1) (rN x2).toNat) z16.toNat [])) ((1 : Nat)) []).length :
 Int)) then
 ∀ (z36 : Int), z36 = geti (((List.getD (dCs x0 (rN x2) (cN x1) (rN x2).toNat) z16.toNat []).getD (1 : Nat) []).getD z30.toNat []) (0 : Nat) → bif decide (lenI (tuO x6 (dCsF x0 x1 x2) z16 z30) ≤ (8796093022208 : Int)) then ∀ (z38 : Int), z38 = z30 + (1 : Int) → ∃ (s41 : Int), Tw (owN (dCsF x0 x1 x2) z16) s41 ∧ twMu (owN (dCsF x0 x1 x2) z16) s41 < twMu (owN (dCsF x0 x1 x2) z16) z30 ∧ (z38 = s41 ∧ (0 : Int) ≤ s41 ∧ s41 ≤ (100 : Int)) ∧ (True ∧ True ∧ True) ∧ (x5 = x5 ∧ x6 = x6 ∧ x7 = x7 ∧ True) ∧ (True ∧ True ∧ True ∧ (z9 = z9 ∧ True) ∧ (z11 = z11 ∧ True) ∧ (z13 = z13 ∧ True) ∧ True ∧ True) ∧ oR (dTs x0 (rN x2).toNat) (dCs x0 (rN x2) (cN x1) (rN x2).toNat) (↑(List.length (dTs x0 (rN x2).toNat)) : Int) = oR (dTs x0 (rN x2).toNat) (dCs x0 (rN x2) (cN x1) (rN x2).toNat) (↑(List.length (dTs x0 (rN x2).toNat)) : Int) ∧ True ∧ (True ∧ True ∧ True) ∧ dTs x0 (rN x2).toNat = dTs x0 (rN x2).toNat ∧ True ∧ dLs x0 (cT x0 (rN x2) (cN x1).toNat) (rN x2).toNat = dLs x0 (cT x0 (rN x2) (cN x1).toNat) (rN x2).toNat ∧ True ∧ tuC x5 x6 (dCsF x0 x1 x2) z16 = tuC x5 x6 (dCsF x0 x1 x2) z16 ∧ z16.toNat = z16.toNat ∧ z16.toNat = z16.toNat ∧ dCs x0 (rN x2) (cN x1) (rN x2).toNat = dCs x0 (rN x2) (cN x1) (rN x2).toNat ∧ dDs x0 (rN x2) (cN x1).toNat = dDs x0 (rN x2) (cN x1).toNat ∧ tuF x5 (dCsF x0 x1 x2) z16 (flN (dCsF x0 x1 x2) z16) = tuF x5 (dCsF x0 x1 x2) z16 (flN (dCsF x0 x1 x2) z16) ∧ tuO x6 (dCsF x0 x1 x2) z16 z30 ++ [[Value.int IntKind.i64 z36]] = tuO x6 (dCsF x0 x1 x2) z16 s41 ∧ True else False
 else False
 else bif decide ((↑(List.length (tuC x5 x6 (dCsF x0 x1 x2) z16)) : Int) ≤ (1466015503701 : Int)) then ∀ (z36 : Int), z36 = z16 + (1 : Int) → ∃ (s39 : Int), Tw (↑(List.length (dCsF x0 x1 x2)) : Int) s39 ∧ twMu (↑(List.length (dCsF x0 x1 x2)) : Int) s39 < twMu (↑(List.length (dCsF x0 x1 x2)) : Int) z16 ∧ (z36 = s39 ∧ (0 : Int) ≤ s39 ∧ s39 ≤ (100 : Int)) ∧ True ∧ (x5 = x5 ∧ x6 = x6 ∧ x7 = x7 ∧ True) ∧ (True ∧ True ∧ True ∧ (z9 = z9 ∧ True) ∧ (z11 = z11 ∧ True) ∧ (z13 = z13 ∧ True) ∧ True ∧ True) ∧ oR (dTs x0 (rN x2).toNat) (dCs x0 (rN x2) (cN x1) (rN x2).toNat) (↑(List.length (dTs x0 (rN x2).toNat)) : Int) = oR (dTs x0 (rN x2).toNat) (dCs x0 (rN x2) (cN x1) (rN x2).toNat) (↑(List.length (dTs x0 (rN x2).toNat)) : Int) ∧ dTs x0 (rN x2).toNat = dTs x0 (rN x2).toNat ∧ True ∧ dLs x0 (cT x0 (rN x2) (cN x1).toNat) (rN x2).toNat = dLs x0 (cT x0 (rN x2) (cN x1).toNat) (rN x2).toNat ∧ True ∧ dCs x0 (rN x2) (cN x1) (rN x2).toNat = dCs x0 (rN x2) (cN x1) (rN x2).toNat ∧ dDs x0 (rN x2) (cN x1).toNat = dDs x0 (rN x2) (cN x1).toNat ∧ tuC x5 x6 (dCsF x0 x1 x2) z16 ++ [[tuF x5 (dCsF x0 x1 x2) z16 (flN (dCsF x0 x1 x2) z16), tuO x6 (dCsF x0 x1 x2) z16 z30]] = tuC x5 x6 (dCsF x0 x1 x2) s39 ∧ True ∧ True else False
 else False
 else ∃ (s23 : Int), Tw (↑(List.length (dLsF x0 x1 x2)) : Int) s23 ∧ (((0 : Int) = s23 ∧ (0 : Int) ≤ s23 ∧ s23 ≤ (100 : Int)) ∧ (True ∧ True ∧ True ∧ (z9 = z9 ∧ True) ∧ (z11 = z11 ∧ True) ∧ (z13 = z13 ∧ True) ∧ True ∧ True) ∧ (x5 = x5 ∧ x6 = x6 ∧ x7 = x7 ∧ True) ∧ (True ∧ True ∧ True ∧ (z9 = z9 ∧ True) ∧ (z11 = z11 ∧ True) ∧ (z13 = z13 ∧ True) ∧ True ∧ True) ∧ oR (dTs x0 (rN x2).toNat) (dCs x0 (rN x2) (cN x1) (rN x2).toNat) (↑(List.length (dTs x0 (rN x2).toNat)) : Int) = oR (dTs x0 (rN x2).toNat) (dCs x0 (rN x2) (cN x1) (rN x2).toNat) (↑(List.length (dTs x0 (rN x2).toNat)) : Int) ∧ True ∧ dTs x0 (rN x2).toNat = dTs x0 (rN x2).toNat ∧ True ∧ dLs x0 (cT x0 (rN x2) (cN x1).toNat) (rN x2).toNat = dLs x0 (cT x0 (rN x2) (cN x1).toNat) (rN x2).toNat ∧ True ∧ tuC x5 x6 (dCsF x0 x1 x2) z16 = tuC x5 x6 (dCsF x0 x1 x2) z16 ∧ dCs x0 (rN x2) (cN x1) (rN x2).toNat = dCs x0 (rN x2) (cN x1) (rN x2).toNat ∧ dDs x0 (rN x2) (cN x1).toNat = dDs x0 (rN x2) (cN x1).toNat ∧ [] = tuT x7 (dLsF x0 x1 x2) s23 ∧ True) ∧ ∀ (z23 : Int), Tw (↑(List.length (dLsF x0 x1 x2)) : Int) z23 → ∀ (z25 : Int), z25 = (↑(List.length (dLs x0 (cT x0 (rN x2) (cN x1).toNat) (rN x2).toNat)) : Int) → ∀ (b27 : Bool), b27 = decide (z23 < z25) → bif b27 then bif x7 then ∀ (z29 : Int), z29 = (↑(List.length (dLs x0 (cT x0 (rN x2) (cN x1).toNat) (rN x2).toNat)) : Int) → ∀ (z31 : Int), z31 = z29 - (1 : Int) → ∀ (z33 : Int), z33 = z31 - z23 → bif decide ((0 : Int) ≤ z33) && decide (z33 < (↑(List.length (dLs x0 (cT x0 (rN x2) (cN x1).toNat) (rN x2).toNat)) : Int)) then ∀ (z35 : Int), z35 = geti (List.getD (dLs x0 (cT x0 (rN x2) (cN x1).toNat) (rN x2).toNat) z33.toNat []) (0 : Nat) → ∀ (z37 : Int), z37 = geti (List.getD (dLs x0 (cT x0 (rN x2) (cN x1).toNat) (rN x2).toNat) z33.toNat []) (1 : Nat) → bif decide (lenI (tuT x7 (dLsF x0 x1 x2) z23) ≤ (4398046511104 : Int)) then ∀ (z39 : Int), z39 = z23 + (1 : Int) → ∃ (s42 : Int), Tw (↑(List.length (dLsF x0 x1 x2)) : Int) s42 ∧ twMu (↑(List.length (dLsF x0 x1 x2)) : Int) s42 < twMu (↑(List.length (dLsF x0 x1 x2)) : Int) z23 ∧ (z39 = s42 ∧ (0 : Int) ≤ s42 ∧ s42 ≤ (100 : Int)) ∧ (True ∧ True ∧ True ∧ (z9 = z9 ∧ True) ∧ (z11 = z11 ∧ True) ∧ (z13 = z13 ∧ True) ∧ True ∧ True) ∧ (x5 = x5 ∧ x6 = x6 ∧ x7 = x7 ∧ True) ∧ (True ∧ True ∧ True ∧ (z9 = z9 ∧ True) ∧ (z11 = z11 ∧ True) ∧ (z13 = z13 ∧ True) ∧ True ∧ True) ∧ oR (dTs x0 (rN x2).toNat) (dCs x0 (rN x2) (cN x1) (rN x2).toNat) (↑(List.length (dTs x0 (rN x2).toNat)) : Int) = oR (dTs x0 (rN x2).toNat) (dCs x0 (rN x2) (cN x1) (rN x2).toNat) (↑(List.length (dTs x0 (rN x2).toNat)) : Int) ∧ True ∧ dTs x0 (rN x2).toNat = dTs x0 (rN x2).toNat ∧ True ∧ dLs x0 (cT x0 (rN x2) (cN x1).toNat) (rN x2).toNat = dLs x0 (cT x0 (rN x2) (cN x1).toNat) (rN x2).toNat ∧ True ∧ tuC x5 x6 (dCsF x0 x1 x2) z16 = tuC x5 x6 (dCsF x0 x1 x2) z16 ∧ dCs x0 (rN x2) (cN x1) (rN x2).toNat = dCs x0 (rN x2) (cN x1) (rN x2).toNat ∧ dDs x0 (rN x2) (cN x1).toNat = dDs x0 (rN x2) (cN x1).toNat ∧ tuT x7 (dLsF x0 x1 x2) z23 ++ [[Value.int IntKind.i64 z35, Value.int IntKind.i64 z37]] = tuT x7 (dLsF x0 x1 x2) s42 ∧ True else False else False else bif decide ((0 : Int) ≤ z23) && decide (z23 < (↑(List.length (dLs x0 (cT x0 (rN x2) (cN x1).toNat) (rN x2).toNat)) : Int)) then ∀ (z29 : Int), z29 = geti (List.getD (dLs x0 (cT x0 (rN x2) (cN x1).toNat) (rN x2).toNat) z23.toNat []) (0 : Nat) → ∀ (z31 : Int), z31 = geti (List.getD (dLs x0 (cT x0 (rN x2) (cN x1).toNat) (rN x2).toNat) z23.toNat []) (1 : Nat) → bif decide (lenI (tuT x7 (dLsF x0 x1 x2) z23) ≤ (4398046511104 : Int)) then ∀ (z33 : Int), z33 = z23 + (1 : Int) → ∃ (s36 : Int), Tw (↑(List.length (dLsF x0 x1 x2)) : Int) s36 ∧ twMu (↑(List.length (dLsF x0 x1 x2)) : Int) s36 < twMu (↑(List.length (dLsF x0 x1 x2)) : Int) z23 ∧ (z33 = s36 ∧ (0 : Int) ≤ s36 ∧ s36 ≤ (100 : Int)) ∧ (True ∧ True ∧ True ∧ (z9 = z9 ∧ True) ∧ (z11 = z11 ∧ True) ∧ (z13 = z13 ∧ True) ∧ True ∧ True) ∧ (x5 = x5 ∧ x6 = x6 ∧ x7 = x7 ∧ True) ∧ (True ∧ True ∧ True ∧ (z9 = z9 ∧ True) ∧ (z11 = z11 ∧ True) ∧ (z13 = z13 ∧ True) ∧ True ∧ True) ∧ oR (dTs x0 (rN x2).toNat) (dCs x0 (rN x2) (cN x1) (rN x2).toNat) (↑(List.length (dTs x0 (rN x2).toNat)) : Int) = oR (dTs x0 (rN x2).toNat) (dCs x0 (rN x2) (cN x1) (rN x2).toNat) (↑(List.length (dTs x0 (rN x2).toNat)) : Int) ∧ True ∧ dTs x0 (rN x2).toNat = dTs x0 (rN x2).toNat ∧ True ∧ dLs x0 (cT x0 (rN x2) (cN x1).toNat) (rN x2).toNat = dLs x0 (cT x0 (rN x2) (cN x1).toNat) (rN x2).toNat ∧ True ∧ tuC x5 x6 (dCsF x0 x1 x2) z16 = tuC x5 x6 (dCsF x0 x1 x2) z16 ∧ dCs x0 (rN x2) (cN x1) (rN x2).toNat = dCs x0 (rN x2) (cN x1) (rN x2).toNat ∧ dDs x0 (rN x2) (cN x1).toNat = dDs x0 (rN x2) (cN x1).toNat ∧ tuT x7 (dLsF x0 x1 x2) z23 ++ [[Value.int IntKind.i64 z29, Value.int IntKind.i64 z31]] = tuT x7 (dLsF x0 x1 x2) s36 ∧ True else False else False else ∀ (b29 : Bool), b29 = decide ((ckF (dTs x0 (rN x2).toNat) (dCs x0 (rN x2) (cN x1) (rN x2).toNat) (dLs x0 (cT x0 (rN x2) (cN x1).toNat) (rN x2).toNat) z9 z11 z13 (dDs x0 (rN x2) (cN x1).toNat)).c = (0 : Int)) → bif b29 then bif b29 then ∀ (b31 : Bool), b31 = decide ((ckF (dTs x0 (rN x2).toNat) (tuC x5 x6 (dCsF x0 x1 x2) z16) (tuT x7 (dLsF x0 x1 x2) z23) z9 z11 z13 (dDs x0 (rN x2) (cN x1).toNat)).c = (0 : Int)) → ∀ (b33 : Bool), b33 = b31 → bif b33 then bif b33 then bif decide (lenI (dTs x0 (rN x2).toNat) ≤ (1000 : Int)) then ∀ (b35 : Bool), b35 = intsB (oR (dTs x0 (rN x2).toNat) (tuC x5 x6 (dCsF x0 x1 x2) z16) (↑(List.length (dTs x0 (rN x2).toNat)) : Int)) (oR (dTs x0 (rN x2).toNat) (dCs x0 (rN x2) (cN x1) (rN x2).toNat) (↑(List.length (dTs x0 (rN x2).toNat)) : Int)) → ∀ (b37 : Bool), b37 = b35 → b37 = true else False else False else false = true else False else false = true
 else False) := by kernel_rfl
end Go.Proofs.YtafmknblnamegaaDoor
