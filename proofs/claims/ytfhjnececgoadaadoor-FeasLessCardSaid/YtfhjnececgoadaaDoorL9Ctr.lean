/- Further contracts of the functions that the chapter's statements reach. No condition. -/
import Derived.Test.YtfhjnececgoadaaDoorP9P
namespace Go.Proofs.YtfhjnececgoadaaDoor
open Go.Eng
set_option linter.unusedSimpArgs false
def PK : List Kd := [.int .i64]
def fnAt (st : St) (i : Nat) : Nat := match st.regs.getD i .any with
  | .fn (.func g) _ _ => g
  | _ => 0
def rq1 (x : List Value) : List Value := [.int .i64 (geti x 0)]
def rqs (xs : List (List Value)) : List (List Value) := (xs.filter fun x => decide (geti x 1 = 0)).map rq1
def rq (xs : List (List Value)) : List (List Value) := cond (decide (checkE xs = 0)) (rqs xs) []
def rqSpec (xs : List (List Value)) : LoopSpec where
  S := Int
  regs := fun k => [(10, K k), (2, SN)]
  keep := [8]
  heap := fun _ => []
  news := fun k => [.row 3 PK (rqs (xs.take k.toNat))]
  inv := fun k => 0 ≤ k ∧ k ≤ xs.length
  mu := fun k => ((xs.length : Int) - k).toNat
def rqL (xs : List (List Value)) : LoopSpecs := fun g i => cond (Nat.beq g 74 && Nat.beq i 4) (some fun _ => rqSpec xs) none
def far (t xs : List (List Value)) : Bool := xs.any fun x => decide (lenI t ≤ geti x 0)
def ill (t xs : List (List Value)) : Bool := xs.any fun x => !decide (chkR (t.getD (geti x 0).toNat []) = 0)
def toldE (l t : List (List Value)) : Int := cond (decide (checkE l = 0)) (cond (far t (rq l)) 8 (cond (ill t (rq l)) 2 0)) (checkE l)
def ixSpec (xs : List (List Value)) (p : List (List Value) → Bool) : LoopSpec where
  S := Int
  regs := fun k => [(8, K k)]
  keep := [0, 1]
  heap := fun _ => []
  inv := fun k => 0 ≤ k ∧ k ≤ xs.length ∧ p (xs.take k.toNat) = false
  mu := fun k => ((xs.length : Int) - k).toNat
def toL (l t : List (List Value)) : LoopSpecs := fun g i => cond (Nat.beq g 89 && Nat.beq i 2) (some fun st => cond (Nat.beq (fnAt st 1) 76) (ixSpec (rq l) (far t)) (ixSpec (rq l) (ill t))) none
def fits (cap : Int) (l t : List (List Value)) (i : Nat) : Bool := decide (brd t (l.take (i + 1)) ≤ cap)
def fitN (cap : Int) (l t : List (List Value)) : Nat := fgood (fits cap l t) l.length
def fitE (hx hy cap st en : Int) (l t : List (List Value)) : Int := cond (decide (veh hx hy cap st en = 0)) (cond (decide (toldE l t = 0)) (cond (decide (fitN cap l t < l.length)) 10 0) (toldE l t)) (veh hx hy cap st en)
def fitA (hx hy cap st en : Int) (l t : List (List Value)) : Int := cond (decide (fitE hx hy cap st en l t = 10)) (fitN cap l t : Nat) (-1)
def boaSpec (cap : Int) (l t : List (List Value)) : LoopSpec where
  S := Int
  regs := fun k => [(11, K k), (5, .i .i64 (brd t (l.take k.toNat)) (-100000) 100000)]
  keep := [0, 1, 2, 4, 9]
  heap := fun _ => []
  inv := fun k => 0 ≤ k ∧ k ≤ l.length ∧ ∀ j, j < k.toNat → fits cap l t j = true
  mu := fun k => ((l.length : Int) - k).toNat
def hasR (r : Int) (xs : List (List Value)) : Bool := xs.any fun x => decide (geti x 0 = r)
def zS : List Value := [.int .i64 0, .int .i64 0]
def flt (r : Int) (xs : List (List Value)) : List (List Value) := xs.filter fun x => !decide (geti x 0 = r)
def fltz (r : Int) (xs : List (List Value)) : List (List Value) := flt r xs ++ List.replicate (xs.length - (flt r xs).length) zS
def ixrSpec (xs : List (List Value)) (r : Int) : LoopSpec where
  S := Int
  regs := fun k => [(8, K k)]
  keep := [0, 1]
  heap := fun _ => []
  inv := fun k => 0 ≤ k ∧ k ≤ xs.length ∧ hasR r (xs.take k.toNat) = false
  mu := fun k => ((xs.length : Int) - k).toNat
def woSpec (xs : List (List Value)) (r : Int) : LoopSpec where
  S := Int
  regs := fun k => [(6, K k), (5, K (flt r (xs.take k.toNat)).length)]
  keep := [1]
  heap := fun k => [(0, .row 61 SK (flt r (xs.take k.toNat) ++ xs.drop (flt r (xs.take k.toNat)).length))]
  inv := fun k => 0 ≤ k ∧ k ≤ xs.length
  mu := fun k => ((xs.length : Int) - k).toNat
def woL (xs : List (List Value)) (r : Int) : LoopSpecs := fun g q => cond (Nat.beq g 69 && Nat.beq q 2) (some fun _ => ixrSpec xs r) (cond (Nat.beq g 41 && Nat.beq q 5) (some fun _ => woSpec xs r) none)
def hint (t o n : Nat) : LoopSpec where
  S := Unit
  regs := fun _ => []
  keep := [t, o, n]
  heap := fun _ => []
  inv := fun _ => True
  mu := fun _ => 0
def boaL (cap : Int) (l t : List (List Value)) : LoopSpecs := fun g i => cond (Nat.beq g 78) (cond (Nat.beq i 2) (some fun _ => boaSpec cap l t) (cond (Nat.beq i 1004) (some fun _ => hint 7 1 2) none)) none
def pRqp := ParL.cons (.row SK) .nil
noncomputable def kRqp := kOf pRqp fun (xs, _) => { need := [], val := SN, news := [.row 3 PK (rq xs)] }
noncomputable def G47 : PC := addPC G46 74 kRqp
def pLtl := ParL.cons (.row SK) (.cons (.row RK) .nil)
noncomputable def kLtl := kOf pLtl fun (l, t, _) => { need := [], val := .i .i64 (toldE l t) 0 11 }
noncomputable def G48 : PC := addPC G47 47 kLtl
def pLft := ParL.cons pVeh (.cons (.row SK) (.cons (.row RK) .nil))
noncomputable def kLft := kOf pLft fun ((hx, hy, cap, st, en, _), l, t, _) => { need := [], val := .tup [.i .i64 (fitA hx hy cap st en l t) (-1) 1000000, .i .i64 (fitE hx hy cap st en l t) 0 11] }
noncomputable def G49 : PC := addPC G48 23 kLft
def pCln := ParL.cons (.row SK) .nil
noncomputable def kCln := kOf pCln fun (xs, _) => { need := [decide (lenI xs ≤ 1000000)], val := .row 1000000, news := [.row 61 SK xs] }
noncomputable def G50 : PC := addPC G49 42 kCln
def pWo := ParL.cons (.row SK) (.cons pI .nil)
noncomputable def kWo := kOf pWo fun (xs, r, _) => { need := [decide (lenI xs ≤ 1000000)], val := .part 1000000 0 (flt r xs).length false, news := [.row 61 SK (fltz r xs)] }
noncomputable def G51 : PC := addPC G50 21 kWo
end Go.Proofs.YtfhjnececgoadaaDoor
