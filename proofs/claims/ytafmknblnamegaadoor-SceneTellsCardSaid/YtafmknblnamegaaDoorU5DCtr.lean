/- Further contracts of the functions that the chapter's statements reach. No condition. -/
import Derived.Test.YtafmknblnamegaaDoorU5KP
namespace Go.Proofs.YtafmknblnamegaaDoor
open Go.Eng
set_option linter.unusedSimpArgs false
def BK : List Kd := [.int .u8]
def U8 (n : Int) : SV := .i .u8 n 0 255
def pU8 : Par Int := .int .u8 0 255
def mU8 : ParM Int := .of pU8 fun _ _ => rfl
def AT (n : Int) : SV := .i .i64 n 0 2000
def mAt : ParM Int := .of (.int .i64 0 2000) fun _ _ => rfl
def mD : ParM (Rw × Int × Int × Int × Int × Unit) := .ptr 25 (.cons (.ror BK) (.cons mU8 (.cons mU8 (.cons mU8 (.cons mAt .nil)))))
def dC (x y z a : Int) : Blk := .cells 25 [.row 0, U8 x, U8 y, U8 z, AT a]
def mD2 : ParM (Rw × Int × Int × Int × Int × Unit) := .ptr 25 (.cons (.ror BK) (.cons mU8 (.cons mU8 (.cons mU8 (.cons mI .nil)))))
def dC2 (x y z a : Int) : Blk := .cells 25 [.row 0, U8 x, U8 y, U8 z, I a]
def nx (bs : Rw) (a n : Int) : Int := cond (decide (lenI bs = 0)) (a % n) ((geti (bs.getD (a % lenI bs).toNat []) 0 + a / lenI bs) % n)
def nxV (n : Int) : SV := .i .i64 n 0 1000
def D10 (n : Int) : SV := .i .i64 n 0 10000
def S1 (n : Int) : SV := .i .i64 n 0 100
def nilS : SV := .v (.slice none 0 0)
def SN : SV := .row 1000000
def dRq (bs : Rw) (t : Int) : List Value := [.int .i64 (500 + nx bs (t + 1) 30), .int .i64 (500 + nx bs (t + 2) 30), .int .i64 (500 + nx bs (t + 3) 30), .int .i64 (500 + nx bs (t + 4) 30), .int .i64 (4 * nx bs (t + 5) 60), .int .i64 (4 * nx bs (t + 5) 60 + 10 + 3 * nx bs (t + 6) 120), .int .i64 (40 + 4 * nx bs (t + 7) 80), .int .i64 (40 + 4 * nx bs (t + 7) 80 + 10 + 3 * nx bs (t + 8) 120), .int .i64 (1 + nx bs (t + 9) 9), .int .i64 (nx bs (t + 10) 5)]
def dTs (bs : Rw) (n : Nat) : Rw := (List.range n).map fun (i : Nat) => dRq bs (10 * (i : Int))
def dVe (bs : Rw) (t : Int) : List Value := [.int .i64 (500 + nx bs (t + 1) 30), .int .i64 (500 + nx bs (t + 2) 30), .int .i64 (5 + nx bs (t + 3) 20), .int .i64 (nx bs (t + 4) 20), .int .i64 (400 + 5 * nx bs (t + 5) 120)]
def dFl (bs : Rw) (t : Int) (n : Nat) : Rw := (List.range n).map fun (i : Nat) => dVe bs (t + 5 * (i : Int))
def dDr (bs : Rw) (t : Int) (n : Nat) : Rw := (List.range n).map fun (i : Nat) => [.int .u64 (nx bs (t + (i : Int) + 1) 250)]
def vN (bs : Rw) (t : Int) : Int := 1 + nx bs (t + 1) 2
def qN (bs : Rw) (t : Int) : Int := nx bs (t + 2 + 5 * vN bs t) 4
def cT (bs : Rw) (N : Int) : Nat → Int
  | 0 => 10 * N
  | c + 1 => cT bs N c + 2 + 5 * vN bs (cT bs N c) + qN bs (cT bs N c)
def cFl (bs : Rw) (N : Int) (c : Nat) : Rw := dFl bs (cT bs N c + 1) (vN bs (cT bs N c)).toNat
def cDr (bs : Rw) (N : Int) (c : Nat) : Rw := dDr bs (cT bs N c + 2 + 5 * vN bs (cT bs N c)) (qN bs (cT bs N c)).toNat
def dC0 (bs : Rw) (N : Int) (n : Nat) : Fm := (List.range n).map fun c => [cFl bs N c, []]
def dDs (bs : Rw) (N : Int) (n : Nat) : Fm := (List.range n).map fun c => [cDr bs N c]
def lT (bs : Rw) (t : Int) : Nat → Int
  | 0 => t
  | i + 1 => lT bs t i + (if 0 < nx bs (lT bs t i + 2) 3 then 3 else 2)
def dLs (bs : Rw) (t : Int) : Nat → Rw
  | 0 => []
  | i + 1 => if 0 < nx bs (lT bs t i + 2) 3 then dLs bs t i ++ [[.int .i64 (i : Int), .int .i64 (nx bs (lT bs t i + 3) 250)]] else dLs bs t i
def who (bs : Rw) (t C : Int) (i : Nat) : Int := nx bs (lT bs t i + 1) C
def dOw (bs : Rw) (t C : Int) (i : Nat) (c : Nat) : Rw := ((List.range i).filter fun r => decide (who bs t C r = (c : Int))).map fun (r : Nat) => [.int .i64 (r : Int)]
def dCs (bs : Rw) (N C : Int) (i : Nat) : Fm := (List.range C.toNat).map fun c => [cFl bs N c, dOw bs (cT bs N C.toNat) C i c]
def cN (x : Int) : Int := 1 + x % 6
def rN (y : Int) : Int := y % 13
def aN (z : Int) : Int := 1 + z % 5
def bN (z : Int) : Int := 1 + z / 5 % 5
def sN (z : Int) : Int := z / 25 % 2
structure Tw (n k : Int) : Prop where
  a : 0 ≤ k
  b : k ≤ n
def twMu (n k : Int) : Nat := (n - k).toNat
def t0N (bs : Rw) (N k : Int) : Int := cT bs N k.toNat
def l1S (bs : Rw) (x y z : Int) : LoopSpec where
  S := Int
  regs := fun k => [(6, S1 k)]
  keep := [0, 2]
  heap := fun k => [(0, dC x y z (10 * k)), (3, .cells 33 [SN, nilS, nilS, S1 (aN z), S1 (bN z), S1 (sN z), nilS])]
  news := fun k => [.row 66 RK (dTs bs k.toNat)]
  inv := Tw (rN y)
  mu := twMu (rN y)
def l2S (bs : Rw) (x y z : Int) : LoopSpec where
  S := Int
  regs := fun k => [(7, S1 k)]
  keep := [0, 2]
  heap := fun k => [(0, dC x y z (t0N bs (rN y) k)), (3, .cells 33 [SN, .row 1000002, nilS, S1 (aN z), S1 (bN z), S1 (sN z), .row 1000004])]
  news := fun k => [.row 66 RK (dTs bs (rN y).toNat), .fam CF (dC0 bs (rN y) k.toNat) none, .rr 53 1000001, .fam DF (dDs bs (rN y) k.toNat) none, .rr 73 1000003]
  inv := Tw (cN x)
  mu := twMu (cN x)
def vK (bs : Rw) (N k : Int) : Int := vN bs (t0N bs N k)
def qK (bs : Rw) (N k : Int) : Int := qN bs (t0N bs N k)
def l3S (bs : Rw) (x y z c : Int) : LoopSpec where
  S := Int
  regs := fun i => [(9, S1 i)]
  keep := [0, 2, 3]
  heap := fun i => [(0, dC x y z (t0N bs (rN y) c + 1 + 5 * (vK bs (rN y) c - i))), (8, .cells 53 [SN, nilS])]
  news := fun i => [.row 57 VK (dFl bs (t0N bs (rN y) c + 1) (vK bs (rN y) c - i).toNat)]
  inv := Tw (vK bs (rN y) c)
  mu := Int.toNat
def l4S (bs : Rw) (x y z c : Int) : LoopSpec where
  S := Int
  regs := fun i => [(11, S1 i), (10, SN)]
  keep := [0, 2, 3, 8]
  heap := fun i => [(0, dC x y z (t0N bs (rN y) c + 2 + 5 * vK bs (rN y) c + (qK bs (rN y) c - i)))]
  news := fun i => [.row 74 [.int .u64] (dDr bs (t0N bs (rN y) c + 2 + 5 * vK bs (rN y) c) (qK bs (rN y) c - i).toNat)]
  inv := Tw (qK bs (rN y) c)
  mu := Int.toNat
def l5T (bs : Rw) (N C k : Int) : Int := lT bs (cT bs N C.toNat) k.toNat
def l5S (bs : Rw) (x y z : Int) : LoopSpec where
  S := Int
  regs := fun k => [(12, S1 k)]
  keep := [0, 2]
  heap := fun k => [(0, dC x y z (l5T bs (rN y) (cN x) k)), (3, .cells 33 [SN, .row 1000002, .row 1000005, S1 (aN z), S1 (bN z), S1 (sN z), .row 1000004])]
  news := fun k => [.row 66 RK (dTs bs (rN y).toNat), .fam CF (dCs bs (rN y) (cN x) k.toNat) none, .rr 53 1000001, .fam DF (dDs bs (rN y) (cN x).toNat) none, .rr 73 1000003, .row 59 LK (dLs bs (cT bs (rN y) (cN x).toNat) k.toNat)]
  inv := Tw (rN y)
  mu := twMu (rN y)
def dsL (bs : Rw) (x y z : Int) : LoopSpecs := fun g i => cond (Nat.beq g 7) (cond (Nat.beq i 5) (some fun _ => l1S bs x y z) <| cond (Nat.beq i 9) (some fun _ => l2S bs x y z) <| cond (Nat.beq i 13) (some fun st => l3S bs x y z (intAt st 7)) <| cond (Nat.beq i 18) (some fun st => l4S bs x y z (intAt st 7)) <| cond (Nat.beq i 24) (some fun _ => l5S bs x y z) none) none
def pDnx := ParML.cons mD (.cons mI .nil)
noncomputable def kDnx := kOfM pDnx fun ((bs, x, y, z, a, _), n, _) => { need := [decide (0 ≤ a ∧ a ≤ 1000 ∧ 1 ≤ n ∧ n ≤ 300)], val := nxV (nx bs (a + 1) n), heap := [(1, dC x y z (a + 1))] }
noncomputable def G26 : PC := addPC G25 23 kDnx
def pDpl := ParML.cons mD .nil
noncomputable def kDpl := kOfM pDpl fun ((bs, x, y, z, a, _), _) => { need := [decide (0 ≤ a ∧ a ≤ 900)], val := .agg [D10 (500 + nx bs (a + 1) 30), D10 (500 + nx bs (a + 2) 30)], heap := [(1, dC x y z (a + 2))] }
noncomputable def G27 : PC := addPC G26 21 kDpl
def pDwn := ParML.cons mD (.cons mI (.cons mI .nil))
noncomputable def kDwn := kOfM pDwn fun ((bs, x, y, z, a, _), f, n, _) => { need := [decide (0 ≤ a ∧ a ≤ 900 ∧ 0 ≤ f ∧ f ≤ 100 ∧ 1 ≤ n ∧ n ≤ 100)], val := .agg [D10 (f + 4 * nx bs (a + 1) n), D10 (f + 4 * nx bs (a + 1) n + 10 + 3 * nx bs (a + 2) 120)], heap := [(1, dC x y z (a + 2))] }
noncomputable def G28 : PC := addPC G27 22 kDwn
def pDs := ParML.cons mD2 .nil
noncomputable def kDs := kOfM pDs fun ((bs, x, y, z, a, _), _) => { need := [], val := .agg [SN, .row 1000002, .row 1000005, S1 (aN z), S1 (bN z), S1 (sN z), .row 1000004], heap := [(1, dC x y z (l5T bs (rN y) (cN x) (rN y)))], news := [.row 66 RK (dTs bs (rN y).toNat), .fam CF (dCs bs (rN y) (cN x) (rN y).toNat) none, .rr 53 1000001, .fam DF (dDs bs (rN y) (cN x).toNat) none, .rr 73 1000003, .row 59 LK (dLs bs (cT bs (rN y) (cN x).toNat) (rN y).toNat)] }
noncomputable def G29 : PC := addPC G28 7 kDs
end Go.Proofs.YtafmknblnamegaaDoor
