/- The law SceneOwns: its loops, and its normal forms. No condition. -/
import Derived.Test.YtafmknblnamegaaDoorS5WP
import Derived.Test.YtafmknblnamegaaDoorS5N
import Derived.Test.YtafmknblnamegaaDoorV7M
namespace Go.Proofs.YtafmknblnamegaaDoor
open Go.Eng
set_option linter.unusedSimpArgs false
def dCsE (bs : Rw) (x y : Int) : Fm := dCs bs (rN y) (cN x) (rN y).toNat
def dLsE (bs : Rw) (x y : Int) : Rw := dLs bs (cT bs (rN y) (cN x).toNat) (rN y).toNat
def so1 (cs : Fm) (n : Nat) : LoopSpec where
  S := Int
  regs := fun k => [(10, S1 k)]
  keep := [5, 7, 9]
  heap := fun k => [(8, .row 3 I64 (oneR n (ownAll (cs.take k.toNat))))]
  inv := Tw (cs.length : Int)
  mu := twMu (cs.length : Int)
def soN (cs : Fm) (c : Int) : Int := ((own (cs.getD c.toNat [])).length : Int)
def so2 (cs : Fm) (n : Nat) (c : Int) : LoopSpec where
  S := Int
  regs := fun k => [(11, S1 k)]
  keep := [5, 7, 9]
  heap := fun k => [(8, .row 3 I64 (oneR n (ownTo cs c.toNat k.toNat)))]
  inv := Tw (soN cs c)
  mu := twMu (soN cs c)
def so3 (ls : Rw) (n : Nat) : LoopSpec where
  S := Int
  regs := fun k => [(13, S1 k)]
  keep := [5, 7, 8]
  heap := fun k => [(9, .row 3 I64 (oneR n (ltTo ls k.toNat)))]
  inv := Tw (ls.length : Int)
  mu := twMu (ls.length : Int)
def so4 (n : Nat) : LoopSpec where
  S := Int
  regs := fun k => [(14, S1 k)]
  keep := [5, 7, 8, 9]
  heap := fun _ => []
  inv := Tw (n : Int)
  mu := twMu (n : Int)
def soL (cs : Fm) (ls : Rw) (n : Nat) : LoopSpecs := fun g i => cond (Nat.beq g 5) (cond (Nat.beq i 10) (some fun _ => so1 cs n) <| cond (Nat.beq i 13) (some fun st => so2 cs n (intAt st 10)) <| cond (Nat.beq i 20) (some fun _ => so3 ls n) <| cond (Nat.beq i 24) (some fun _ => so4 n) none) none
set_option maxRecDepth 1000000 in
theorem tSO (x0 : Rw) (x1 x2 x3 x4 x5 : Int) : (fnS Tryd.prog G25 (soL (dCsE x0 x1 x2) (dLsE x0 x1 x2) (rN x2).toNat) 400 5 [.agg [.row 0, .i .u8 x1 (0) 255, .i .u8 x2 (0) 255, .i .u8 x3 (0) 255, .i .i64 x4 (-9223372036854775808) 9223372036854775807], .i .u8 x5 (0) 255] [.ror [.int .u8] x0 false] fun u _ => isYes u) =
(∀ (z7 : Int),
 z7 = aN x3 →
 ∀ (z9 : Int),
 z9 = bN x3 →
 ∀ (z11 : Int),
 z11 = sN x3 →
 ∀ (b13 : Bool),
 b13 = !decide ((ckF (dTs x0 (rN x2).toNat) (dCs x0 (rN x2) (cN x1) (rN x2).toNat) (dLs x0 (cT x0 (rN x2) (cN x1).toNat) (rN x2).toNat) z7 z9 z11 (dDs x0 (rN x2) (cN x1).toNat)).c = (0 : Int)) →
 bif b13 then false = true
 else
 ∀ (z15 : Int),
 z15 = (↑(List.length (dTs x0 (rN x2).toNat)) : Int) →
 bif decide (lenI (dTs x0 (rN x2).toNat) ≤ (1000 : Int)) then
 bif decide ((0 : Int) ≤ z15) && (decide (z15 = z15) && decide (z15 * (8 : Int) ≤ (140737488355328 : Int))) then
 bif decide ((0 : Int) ≤ z15) && (decide (z15 = z15) && decide (z15 * (8 : Int) ≤ (140737488355328 : Int))) then
 ∃ (s18 : Int),
 Tw (↑(List.length (dCsE x0 x1 x2)) : Int) s18 ∧
 (((0 : Int) = s18 ∧ (0 : Int) ≤ s18 ∧ s18 ≤ (100 : Int)) ∧ List.replicate z15.toNat [Value.int IntKind.i64 (0 : Int)] = oneR (rN x2).toNat (ownAll (List.take s18.toNat (dCsE x0 x1 x2))) ∧ (True ∧ True ∧ True ∧ (z7 = z7 ∧ True) ∧ (z9 = z9 ∧ True) ∧ (z11 = z11 ∧ True) ∧ True ∧ True) ∧ oR (dTs x0 (rN x2).toNat) (dCs x0 (rN x2) (cN x1) (rN x2).toNat) (↑(List.length (dTs x0 (rN x2).toNat)) : Int) = oR (dTs x0 (rN x2).toNat) (dCs x0 (rN x2) (cN x1) (rN x2).toNat) (↑(List.length (dTs x0 (rN x2).toNat)) : Int) ∧ List.replicate z15.toNat [Value.int IntKind.i64 (0 : Int)] = List.replicate z15.toNat [Value.int IntKind.i64 (0 : Int)] ∧ dTs x0 (rN x2).toNat = dTs x0 (rN x2).toNat ∧ True ∧ dLs x0 (cT x0 (rN x2) (cN x1).toNat) (rN x2).toNat = dLs x0 (cT x0 (rN x2) (cN x1).toNat) (rN x2).toNat ∧ True ∧ dCs x0 (rN x2) (cN x1) (rN x2).toNat = dCs x0 (rN x2) (cN x1) (rN x2).toNat ∧ dDs x0 (rN x2) (cN x1).toNat = dDs x0 (rN x2) (cN x1).toNat ∧ True) ∧
 ∀ (z18 : Int),
 Tw (↑(List.length (dCsE x0 x1 x2)) : Int) z18 →
 ∀ (z20 : Int),
 z20 = (↑(List.length (dCs x0 (rN x2) (cN x1) (rN x2).toNat)) : Int) →
 ∀ (b22 : Bool),
 b22 = decide (z18 < z20) →
 bif b22 then
 ∃ (s25 : Int),
 Tw (soN (dCsE x0 x1 x2) z18) s25 ∧
 (((0 : Int) = s25 ∧ (0 : Int) ≤ s25 ∧ s25 ≤ (100 : Int)) ∧ oneR (rN x2).toNat (ownAll (List.take z18.toNat (dCsE x0 x1 x2))) = oneR (rN x2).toNat (ownTo (dCsE x0 x1 x2) z18.toNat s25.toNat) ∧ (True ∧ True ∧ True ∧ (z7 = z7 ∧ True) ∧ (z9 = z9 ∧ True) ∧ (z11 = z11 ∧ True) ∧ True ∧ True) ∧ oR (dTs x0 (rN x2).toNat) (dCs x0 (rN x2) (cN x1) (rN x2).toNat) (↑(List.length (dTs x0 (rN x2).toNat)) : Int) = oR (dTs x0 (rN x2).toNat) (dCs x0 (rN x2) (cN x1) (rN x2).toNat) (↑(List.length (dTs x0 (rN x2).toNat)) : Int) ∧ List.replicate z15.toNat [Value.int IntKind.i64 (0 : Int)] = List.replicate z15.toNat [Value.int IntKind.i64 (0 : Int)] ∧ dTs x0 (rN x2).toNat = dTs x0 (rN x2).toNat ∧ True ∧ dLs x0 (cT x0 (rN x2) (cN x1).toNat) (rN x2).toNat = dLs x0 (cT x0 (rN x2) (cN x1).toNat) (rN x2).toNat ∧ True ∧ dCs x0 (rN x2) (cN x1) (rN x2).toNat = dCs x0 (rN x2) (cN x1) (rN x2).toNat ∧ dDs x0 (rN x2) (cN x1).toNat = dDs x0 (rN x2) (cN x1).toNat ∧ True) ∧
 ∀ (z25 : Int),
 Tw (soN (dCsE x0 x1 x2) z18) z25 →
 bif decide ((0 : Int) ≤ z18) && decide (z18 < (↑(List.length (dCs x0 (rN x2) (cN x1) (rN x2).toNat)) : Int)) then
 ∀ (z27 : Int),
 z27 =
 (↑(List.getD ((List.getD (dCs x0 (rN x2) (cN x1) (rN x2).toNat) z18.toNat [])) ((1 : Nat)) []).length :
 Int) →
 ∀ (b29 : Bool),
 b29 = decide (z25 < z27) →
 bif b29 then
 bif decide ((0 : Int) ≤ z18) && decide (z18 < (↑(List.length (dCs x0 (rN x2) (cN x1) (rN x2).toNat)) : Int)) then
 bif
 decide ((0 : Int) ≤ z25) &&
 decide
 (z25 <
 (↑(List.getD ((List.getD (dCs x0 (rN x2) (cN x1) (rN x2).toNat) z18.toNat [])) ((1 : Nat)) []).length :
 Int)) then
 ∀ (z31 : Int), z31 = geti (((List.getD (dCs x0 (rN x2) (cN x1) (rN x2).toNat) z18.toNat []).getD ((1 : Nat)) []).getD z25.toNat []) (0 : Nat) → bif decide ((0 : Int) ≤ z31) && decide (z31 < (↑(List.length (oneR (rN x2).toNat (ownTo (dCsE x0 x1 x2) z18.toNat z25.toNat))) : Int)) then ∀ (z33 : Int), z33 = geti (List.getD (oneR (rN x2).toNat (ownTo (dCsE x0 x1 x2) z18.toNat z25.toNat)) z31.toNat []) (0 : Nat) → ∀ (z35 : Int), z35 = IntKind.i64.wrap (z33 + (1 : Int)) → bif decide ((0 : Int) ≤ z31) && decide (z31 < (↑(List.length (oneR (rN x2).toNat (ownTo (dCsE x0 x1 x2) z18.toNat z25.toNat))) : Int)) then ∀ (z37 : Int), z37 = (↑(List.length (oR (dTs x0 (rN x2).toNat) (dCs x0 (rN x2) (cN x1) (rN x2).toNat) (↑(List.length (dTs x0 (rN x2).toNat)) : Int))) : Int) → ∀ (b39 : Bool), b39 = decide (z37 ≤ z31) → bif !b39 || !!b39 then bif !b39 || !!b39 then bif decide ((0 : Int) ≤ z31) && decide (z31 < (↑(List.length (oR (dTs x0 (rN x2).toNat) (dCs x0 (rN x2) (cN x1) (rN x2).toNat) (↑(List.length (dTs x0 (rN x2).toNat)) : Int))) : Int)) || !!b39 then bif !b39 || !!b39 then bif !b39 || !!b39 then bif !b39 || !!b39 then ∀ (b41 : Bool), b41 = !decide (geti (List.getD (oR (dTs x0 (rN x2).toNat) (dCs x0 (rN x2) (cN x1) (rN x2).toNat) (↑(List.length (dTs x0 (rN x2).toNat)) : Int)) z31.toNat []) (0 : Nat) = z18) → bif bif b39 then true else true then bif bif b39 then true else !b39 then ∀ (b43 : Bool), (b43 = bif b39 then true else b41) → bif b43 then false = true else ∀ (z45 : Int), z45 = z25 + (1 : Int) → ∃ (s48 : Int), Tw (soN (dCsE x0 x1 x2) z18) s48 ∧ twMu (soN (dCsE x0 x1 x2) z18) s48 < twMu (soN (dCsE x0 x1 x2) z18) z25 ∧ (z45 = s48 ∧ (0 : Int) ≤ s48 ∧ s48 ≤ (100 : Int)) ∧ List.set (oneR (rN x2).toNat (ownTo (dCsE x0 x1 x2) z18.toNat z25.toNat)) z31.toNat [Value.int IntKind.i64 z35] = oneR (rN x2).toNat (ownTo (dCsE x0 x1 x2) z18.toNat s48.toNat) ∧ (True ∧ True ∧ True ∧ (z7 = z7 ∧ True) ∧ (z9 = z9 ∧ True) ∧ (z11 = z11 ∧ True) ∧ True ∧ True) ∧ oR (dTs x0 (rN x2).toNat) (dCs x0 (rN x2) (cN x1) (rN x2).toNat) (↑(List.length (dTs x0 (rN x2).toNat)) : Int) = oR (dTs x0 (rN x2).toNat) (dCs x0 (rN x2) (cN x1) (rN x2).toNat) (↑(List.length (dTs x0 (rN x2).toNat)) : Int) ∧ List.replicate z15.toNat [Value.int IntKind.i64 (0 : Int)] = List.replicate z15.toNat [Value.int IntKind.i64 (0 : Int)] ∧ dTs x0 (rN x2).toNat = dTs x0 (rN x2).toNat ∧ True ∧ dLs x0 (cT x0 (rN x2) (cN x1).toNat) (rN x2).toNat = dLs x0 (cT x0 (rN x2) (cN x1).toNat) (rN x2).toNat ∧ True ∧ dCs x0 (rN x2) (cN x1) (rN x2).toNat = dCs x0 (rN x2) (cN x1) (rN x2).toNat ∧ dDs x0 (rN x2) (cN x1).toNat = dDs x0 (rN x2) (cN x1).toNat ∧ True else False else False else False else False else False else False else False else False else False else False
 else False
 else False
 else ∀ (z31 : Int), z31 = z18 + (1 : Int) → ∃ (s34 : Int), Tw (↑(List.length (dCsE x0 x1 x2)) : Int) s34 ∧ twMu (↑(List.length (dCsE x0 x1 x2)) : Int) s34 < twMu (↑(List.length (dCsE x0 x1 x2)) : Int) z18 ∧ (z31 = s34 ∧ (0 : Int) ≤ s34 ∧ s34 ≤ (100 : Int)) ∧ oneR (rN x2).toNat (ownTo (dCsE x0 x1 x2) z18.toNat z25.toNat) = oneR (rN x2).toNat (ownAll (List.take s34.toNat (dCsE x0 x1 x2))) ∧ (True ∧ True ∧ True ∧ (z7 = z7 ∧ True) ∧ (z9 = z9 ∧ True) ∧ (z11 = z11 ∧ True) ∧ True ∧ True) ∧ oR (dTs x0 (rN x2).toNat) (dCs x0 (rN x2) (cN x1) (rN x2).toNat) (↑(List.length (dTs x0 (rN x2).toNat)) : Int) = oR (dTs x0 (rN x2).toNat) (dCs x0 (rN x2) (cN x1) (rN x2).toNat) (↑(List.length (dTs x0 (rN x2).toNat)) : Int) ∧ List.replicate z15.toNat [Value.int IntKind.i64 (0 : Int)] = List.replicate z15.toNat [Value.int IntKind.i64 (0 : Int)] ∧ dTs x0 (rN x2).toNat = dTs x0 (rN x2).toNat ∧ True ∧ dLs x0 (cT x0 (rN x2) (cN x1).toNat) (rN x2).toNat = dLs x0 (cT x0 (rN x2) (cN x1).toNat) (rN x2).toNat ∧ True ∧ dCs x0 (rN x2) (cN x1) (rN x2).toNat = dCs x0 (rN x2) (cN x1) (rN x2).toNat ∧ dDs x0 (rN x2) (cN x1).toNat = dDs x0 (rN x2) (cN x1).toNat ∧ True
 else False
 else
 ∃ (s25 : Int),
 Tw (↑(List.length (dLsE x0 x1 x2)) : Int) s25 ∧
 (((0 : Int) = s25 ∧ (0 : Int) ≤ s25 ∧ s25 ≤ (100 : Int)) ∧ List.replicate z15.toNat [Value.int IntKind.i64 (0 : Int)] = oneR (rN x2).toNat (ltTo (dLsE x0 x1 x2) s25.toNat) ∧ (True ∧ True ∧ True ∧ (z7 = z7 ∧ True) ∧ (z9 = z9 ∧ True) ∧ (z11 = z11 ∧ True) ∧ True ∧ True) ∧ oR (dTs x0 (rN x2).toNat) (dCs x0 (rN x2) (cN x1) (rN x2).toNat) (↑(List.length (dTs x0 (rN x2).toNat)) : Int) = oR (dTs x0 (rN x2).toNat) (dCs x0 (rN x2) (cN x1) (rN x2).toNat) (↑(List.length (dTs x0 (rN x2).toNat)) : Int) ∧ oneR (rN x2).toNat (ownAll (List.take z18.toNat (dCsE x0 x1 x2))) = oneR (rN x2).toNat (ownAll (List.take z18.toNat (dCsE x0 x1 x2))) ∧ dTs x0 (rN x2).toNat = dTs x0 (rN x2).toNat ∧ True ∧ dLs x0 (cT x0 (rN x2) (cN x1).toNat) (rN x2).toNat = dLs x0 (cT x0 (rN x2) (cN x1).toNat) (rN x2).toNat ∧ True ∧ dCs x0 (rN x2) (cN x1) (rN x2).toNat = dCs x0 (rN x2) (cN x1) (rN x2).toNat ∧ dDs x0 (rN x2) (cN x1).toNat = dDs x0 (rN x2) (cN x1).toNat ∧ True) ∧
 ∀ (z25 : Int),
 Tw (↑(List.length (dLsE x0 x1 x2)) : Int) z25 →
 ∀ (z27 : Int),
 z27 = (↑(List.length (dLs x0 (cT x0 (rN x2) (cN x1).toNat) (rN x2).toNat)) : Int) →
 ∀ (b29 : Bool),
 b29 = decide (z25 < z27) →
 bif b29 then bif decide ((0 : Int) ≤ z25) && decide (z25 < (↑(List.length (dLs x0 (cT x0 (rN x2) (cN x1).toNat) (rN x2).toNat)) : Int)) then ∀ (z31 : Int), z31 = geti (List.getD (dLs x0 (cT x0 (rN x2) (cN x1).toNat) (rN x2).toNat) z25.toNat []) (0 : Nat) → bif decide ((0 : Int) ≤ z31) && decide (z31 < (↑(List.length (oneR (rN x2).toNat (ltTo (dLsE x0 x1 x2) z25.toNat))) : Int)) then ∀ (z33 : Int), z33 = geti (List.getD (oneR (rN x2).toNat (ltTo (dLsE x0 x1 x2) z25.toNat)) z31.toNat []) (0 : Nat) → ∀ (z35 : Int), z35 = IntKind.i64.wrap (z33 + (1 : Int)) → bif decide ((0 : Int) ≤ z31) && decide (z31 < (↑(List.length (oneR (rN x2).toNat (ltTo (dLsE x0 x1 x2) z25.toNat))) : Int)) then ∀ (z37 : Int), z37 = z25 + (1 : Int) → ∃ (s40 : Int), Tw (↑(List.length (dLsE x0 x1 x2)) : Int) s40 ∧ twMu (↑(List.length (dLsE x0 x1 x2)) : Int) s40 < twMu (↑(List.length (dLsE x0 x1 x2)) : Int) z25 ∧ (z37 = s40 ∧ (0 : Int) ≤ s40 ∧ s40 ≤ (100 : Int)) ∧ List.set (oneR (rN x2).toNat (ltTo (dLsE x0 x1 x2) z25.toNat)) z31.toNat [Value.int IntKind.i64 z35] = oneR (rN x2).toNat (ltTo (dLsE x0 x1 x2) s40.toNat) ∧ (True ∧ True ∧ True ∧ (z7 = z7 ∧ True) ∧ (z9 = z9 ∧ True) ∧ (z11 = z11 ∧ True) ∧ True ∧ True) ∧ oR (dTs x0 (rN x2).toNat) (dCs x0 (rN x2) (cN x1) (rN x2).toNat) (↑(List.length (dTs x0 (rN x2).toNat)) : Int) = oR (dTs x0 (rN x2).toNat) (dCs x0 (rN x2) (cN x1) (rN x2).toNat) (↑(List.length (dTs x0 (rN x2).toNat)) : Int) ∧ oneR (rN x2).toNat (ownAll (List.take z18.toNat (dCsE x0 x1 x2))) = oneR (rN x2).toNat (ownAll (List.take z18.toNat (dCsE x0 x1 x2))) ∧ dTs x0 (rN x2).toNat = dTs x0 (rN x2).toNat ∧ True ∧ dLs x0 (cT x0 (rN x2) (cN x1).toNat) (rN x2).toNat = dLs x0 (cT x0 (rN x2) (cN x1).toNat) (rN x2).toNat ∧ True ∧ dCs x0 (rN x2) (cN x1) (rN x2).toNat = dCs x0 (rN x2) (cN x1) (rN x2).toNat ∧ dDs x0 (rN x2) (cN x1).toNat = dDs x0 (rN x2) (cN x1).toNat ∧ True else False else False else False
 else
 ∃ (s32 : Int),
 Tw (↑(rN x2).toNat : Int) s32 ∧
 (((0 : Int) = s32 ∧ (0 : Int) ≤ s32 ∧ s32 ≤ (100 : Int)) ∧ (True ∧ True ∧ True ∧ (z7 = z7 ∧ True) ∧ (z9 = z9 ∧ True) ∧ (z11 = z11 ∧ True) ∧ True ∧ True) ∧ oR (dTs x0 (rN x2).toNat) (dCs x0 (rN x2) (cN x1) (rN x2).toNat) (↑(List.length (dTs x0 (rN x2).toNat)) : Int) = oR (dTs x0 (rN x2).toNat) (dCs x0 (rN x2) (cN x1) (rN x2).toNat) (↑(List.length (dTs x0 (rN x2).toNat)) : Int) ∧ oneR (rN x2).toNat (ownAll (List.take z18.toNat (dCsE x0 x1 x2))) = oneR (rN x2).toNat (ownAll (List.take z18.toNat (dCsE x0 x1 x2))) ∧ oneR (rN x2).toNat (ltTo (dLsE x0 x1 x2) z25.toNat) = oneR (rN x2).toNat (ltTo (dLsE x0 x1 x2) z25.toNat) ∧ dTs x0 (rN x2).toNat = dTs x0 (rN x2).toNat ∧ True ∧ dLs x0 (cT x0 (rN x2) (cN x1).toNat) (rN x2).toNat = dLs x0 (cT x0 (rN x2) (cN x1).toNat) (rN x2).toNat ∧ True ∧ dCs x0 (rN x2) (cN x1) (rN x2).toNat = dCs x0 (rN x2) (cN x1) (rN x2).toNat ∧ dDs x0 (rN x2) (cN x1).toNat = dDs x0 (rN x2) (cN x1).toNat ∧ True) ∧
 ∀ (z32 : Int),
 Tw (↑(rN x2).toNat : Int) z32 →
 ∀ (b34 : Bool),
 b34 = decide (z32 < z15) →
 bif b34 then bif decide ((0 : Int) ≤ z32) && decide (z32 < (↑(List.length (oneR (rN x2).toNat (ownAll (List.take z18.toNat (dCsE x0 x1 x2))))) : Int)) then ∀ (z36 : Int), z36 = geti (List.getD (oneR (rN x2).toNat (ownAll (List.take z18.toNat (dCsE x0 x1 x2)))) z32.toNat []) (0 : Nat) → ∀ (b38 : Bool), b38 = !decide (z36 = (1 : Int)) → bif !b38 || !!b38 then bif !b38 || !!b38 then bif decide ((0 : Int) ≤ z32) && decide (z32 < (↑(List.length (oneR (rN x2).toNat (ltTo (dLsE x0 x1 x2) z25.toNat))) : Int)) || !!b38 then bif !b38 || !!b38 then bif !b38 || !!b38 then ∀ (b40 : Bool), b40 = decide ((1 : Int) < geti (List.getD (oneR (rN x2).toNat (ltTo (dLsE x0 x1 x2) z25.toNat)) z32.toNat []) (0 : Nat)) → bif bif b38 then true else true then bif bif b38 then true else !b38 then ∀ (b42 : Bool), (b42 = bif b38 then true else b40) → bif b42 then false = true else ∀ (z44 : Int), z44 = z32 + (1 : Int) → ∃ (s47 : Int), Tw (↑(rN x2).toNat : Int) s47 ∧ twMu (↑(rN x2).toNat : Int) s47 < twMu (↑(rN x2).toNat : Int) z32 ∧ (z44 = s47 ∧ (0 : Int) ≤ s47 ∧ s47 ≤ (100 : Int)) ∧ (True ∧ True ∧ True ∧ (z7 = z7 ∧ True) ∧ (z9 = z9 ∧ True) ∧ (z11 = z11 ∧ True) ∧ True ∧ True) ∧ oR (dTs x0 (rN x2).toNat) (dCs x0 (rN x2) (cN x1) (rN x2).toNat) (↑(List.length (dTs x0 (rN x2).toNat)) : Int) = oR (dTs x0 (rN x2).toNat) (dCs x0 (rN x2) (cN x1) (rN x2).toNat) (↑(List.length (dTs x0 (rN x2).toNat)) : Int) ∧ oneR (rN x2).toNat (ownAll (List.take z18.toNat (dCsE x0 x1 x2))) = oneR (rN x2).toNat (ownAll (List.take z18.toNat (dCsE x0 x1 x2))) ∧ oneR (rN x2).toNat (ltTo (dLsE x0 x1 x2) z25.toNat) = oneR (rN x2).toNat (ltTo (dLsE x0 x1 x2) z25.toNat) ∧ dTs x0 (rN x2).toNat = dTs x0 (rN x2).toNat ∧ True ∧ dLs x0 (cT x0 (rN x2) (cN x1).toNat) (rN x2).toNat = dLs x0 (cT x0 (rN x2) (cN x1).toNat) (rN x2).toNat ∧ True ∧ dCs x0 (rN x2) (cN x1) (rN x2).toNat = dCs x0 (rN x2) (cN x1) (rN x2).toNat ∧ dDs x0 (rN x2) (cN x1).toNat = dDs x0 (rN x2) (cN x1).toNat ∧ True else False else False else False else False else False else False else False else False
 else
 ∀ (b36 : Bool),
 b36 = decide (z15 = (0 : Int)) →
 bif b36 then ∀ (z38 : Int), z38 = (↑(List.length (oR (dTs x0 (rN x2).toNat) (dCs x0 (rN x2) (cN x1) (rN x2).toNat) (↑(List.length (dTs x0 (rN x2).toNat)) : Int))) : Int) → ∀ (b40 : Bool), b40 = decide (z38 = (0 : Int)) → b40 = true
 else
 ∀ (z38 : Int),
 z38 = x5 →
 ∀ (z40 : Int),
 z40 = (↑(List.length (dCs x0 (rN x2) (cN x1) (rN x2).toNat)) : Int) →
 bif !decide (z40 = (0 : Int)) then
 ∀ (z42 : Int),
 z42 = z38.tmod z40 →
 ∀ (z44 : Int),
 z44 = x5 / (8 : Int) →
 ∀ (z46 : Int),
 z46 = z44 →
 bif !decide (z15 = (0 : Int)) then
 ∀ (z48 : Int),
 z48 = z46.tmod z15 →
 bif decide ((↑(List.length (dCs x0 (rN x2) (cN x1) (rN x2).toNat)) : Int) ≤ (1466015503701 : Int)) then
 bif decide ((0 : Int) ≤ z42) && decide (z42 < (↑(List.length (dCs x0 (rN x2) (cN x1) (rN x2).toNat)) : Int)) then
 bif
 decide
 (lenI
 (List.getD ((List.getD (dCs x0 (rN x2) (cN x1) (rN x2).toNat) z42.toNat [])) ((1 : Nat)) []) ≤
 (8796093022208 : Int)) then
 bif
 decide
 (lenI
 ([] ++
 List.getD ((List.getD (dCs x0 (rN x2) (cN x1) (rN x2).toNat) z42.toNat [])) ((1 : Nat)) []) ≤
 (8796093022208 : Int)) then
 bif decide ((0 : Int) ≤ z42) && decide (z42 < (↑(List.length (dCs x0 (rN x2) (cN x1) (rN x2).toNat)) : Int)) then
 bif !decide ((ckF (dTs x0 (rN x2).toNat) (List.set (dCs x0 (rN x2) (cN x1) (rN x2).toNat) z42.toNat (List.take ((1 : Nat)) (List.getD (dCs x0 (rN x2) (cN x1) (rN x2).toNat) z42.toNat []) ++ [(Dst.mk ((Dst.mk [] none false).xs ++ (List.getD (dCs x0 (rN x2) (cN x1) (rN x2).toNat) z42.toNat []).getD ((1 : Nat)) []) (some (Nat.succ (nat_lit 26), Blk.dead)) false).xs ++ [[Value.int IntKind.i64 z48]]] ++ List.drop ((1 : Nat) + [(Dst.mk ((Dst.mk [] none false).xs ++ (List.getD (dCs x0 (rN x2) (cN x1) (rN x2).toNat) z42.toNat []).getD ((1 : Nat)) []) (some (Nat.succ (nat_lit 26), Blk.dead)) false).xs ++ [[Value.int IntKind.i64 z48]]].length) (List.getD (dCs x0 (rN x2) (cN x1) (rN x2).toNat) z42.toNat []))) (dLs x0 (cT x0 (rN x2) (cN x1).toNat) (rN x2).toNat) z7 z9 z11 (dDs x0 (rN x2) (cN x1).toNat)).c = (0 : Int)) then
 ∀ (z50 : Int),
 z50 = geti (List.getD (flR (ckF (dTs x0 (rN x2).toNat) (List.set (dCs x0 (rN x2) (cN x1) (rN x2).toNat) z42.toNat (List.take ((1 : Nat)) (List.getD (dCs x0 (rN x2) (cN x1) (rN x2).toNat) z42.toNat []) ++ [(Dst.mk ((Dst.mk [] none false).xs ++ (List.getD (dCs x0 (rN x2) (cN x1) (rN x2).toNat) z42.toNat []).getD ((1 : Nat)) []) (some (Nat.succ (nat_lit 26), Blk.dead)) false).xs ++ [[Value.int IntKind.i64 z48]]] ++ List.drop ((1 : Nat) + [(Dst.mk ((Dst.mk [] none false).xs ++ (List.getD (dCs x0 (rN x2) (cN x1) (rN x2).toNat) z42.toNat []).getD ((1 : Nat)) []) (some (Nat.succ (nat_lit 26), Blk.dead)) false).xs ++ [[Value.int IntKind.i64 z48]]].length) (List.getD (dCs x0 (rN x2) (cN x1) (rN x2).toNat) z42.toNat []))) (dLs x0 (cT x0 (rN x2) (cN x1).toNat) (rN x2).toNat) z7 z9 z11 (dDs x0 (rN x2) (cN x1).toNat))) (0 : Nat) []) (0 : Nat) →
 ∀ (z52 : Int),
 z52 = geti (List.getD (flR (ckF (dTs x0 (rN x2).toNat) (List.set (dCs x0 (rN x2) (cN x1) (rN x2).toNat) z42.toNat (List.take ((1 : Nat)) (List.getD (dCs x0 (rN x2) (cN x1) (rN x2).toNat) z42.toNat []) ++ [(Dst.mk ((Dst.mk [] none false).xs ++ (List.getD (dCs x0 (rN x2) (cN x1) (rN x2).toNat) z42.toNat []).getD ((1 : Nat)) []) (some (Nat.succ (nat_lit 26), Blk.dead)) false).xs ++ [[Value.int IntKind.i64 z48]]] ++ List.drop ((1 : Nat) + [(Dst.mk ((Dst.mk [] none false).xs ++ (List.getD (dCs x0 (rN x2) (cN x1) (rN x2).toNat) z42.toNat []).getD ((1 : Nat)) []) (some (Nat.succ (nat_lit 26), Blk.dead)) false).xs ++ [[Value.int IntKind.i64 z48]]].length) (List.getD (dCs x0 (rN x2) (cN x1) (rN x2).toNat) z42.toNat []))) (dLs x0 (cT x0 (rN x2) (cN x1).toNat) (rN x2).toNat) z7 z9 z11 (dDs x0 (rN x2) (cN x1).toNat))) (0 : Nat) []) (1 : Nat) →
 ∀ (z54 : Int),
 z54 = geti (List.getD (flR (ckF (dTs x0 (rN x2).toNat) (List.set (dCs x0 (rN x2) (cN x1) (rN x2).toNat) z42.toNat (List.take ((1 : Nat)) (List.getD (dCs x0 (rN x2) (cN x1) (rN x2).toNat) z42.toNat []) ++ [(Dst.mk ((Dst.mk [] none false).xs ++ (List.getD (dCs x0 (rN x2) (cN x1) (rN x2).toNat) z42.toNat []).getD ((1 : Nat)) []) (some (Nat.succ (nat_lit 26), Blk.dead)) false).xs ++ [[Value.int IntKind.i64 z48]]] ++ List.drop ((1 : Nat) + [(Dst.mk ((Dst.mk [] none false).xs ++ (List.getD (dCs x0 (rN x2) (cN x1) (rN x2).toNat) z42.toNat []).getD ((1 : Nat)) []) (some (Nat.succ (nat_lit 26), Blk.dead)) false).xs ++ [[Value.int IntKind.i64 z48]]].length) (List.getD (dCs x0 (rN x2) (cN x1) (rN x2).toNat) z42.toNat []))) (dLs x0 (cT x0 (rN x2) (cN x1).toNat) (rN x2).toNat) z7 z9 z11 (dDs x0 (rN x2) (cN x1).toNat))) (0 : Nat) []) (2 : Nat) →
 ∀ (b56 : Bool),
 b56 = decide (z50 = (13 : Int)) →
 bif b56 || !b56 then
 bif b56 || !b56 then
 ∀ (b58 : Bool),
 b58 = decide (z52 = (2 : Int)) →
 bif bif b56 then b56 else true then
 bif bif b56 then true else true then
 ∀ (b60 : Bool),
 (b60 = bif b56 then b58 else false) →
 bif b60 || !b60 then
 bif b60 || !b60 then
 bif b60 || !b60 then
 ∀ (b62 : Bool),
 b62 = decide (z42 ≤ z54) →
 bif bif b60 then b60 else true then
 bif bif b60 then true else true then
 ∀ (b64 : Bool),
 (b64 = bif b60 then b62 else false) →
 bif b64 || !b64 then
 bif b64 || !b64 then
 ∀ (z66 : Int),
 z66 =
 (↑(List.set (dCs x0 (rN x2) (cN x1) (rN x2).toNat) z42.toNat
 (List.take (1 : Nat)
 (List.getD ((dCs x0 (rN x2) (cN x1) (rN x2).toNat)) (z42.toNat) []) ++
 [([] ++
 List.getD ((List.getD (dCs x0 (rN x2) (cN x1) (rN x2).toNat) z42.toNat [])) ((1 : Nat)) []) ++
 [[Value.int IntKind.i64 z48]]] ++
 List.drop
 ((1 : Nat) +
 [([] ++
 List.getD ((List.getD (dCs x0 (rN x2) (cN x1) (rN x2).toNat) z42.toNat [])) ((1 : Nat)) []) ++
 [[Value.int IntKind.i64 z48]]].length)
 (List.getD ((dCs x0 (rN x2) (cN x1) (rN x2).toNat)) (z42.toNat) []))).length :
 Int) →
 bif b64 || !b64 then bif b64 || !b64 then ∀ (b68 : Bool), b68 = decide (z54 < z66) → bif bif b64 then b64 else true then bif bif b64 then true else true then ∀ (b70 : Bool), (b70 = bif b64 then b68 else false) → b70 = true else False else False else False else False
 else False
 else False
 else False
 else False
 else False
 else False
 else False
 else False
 else False
 else False
 else False
 else False
 else False
 else False
 else False
 else False
 else False
 else False
 else False
 else False
 else False
 else False) := by kernel_rfl
end Go.Proofs.YtafmknblnamegaaDoor
