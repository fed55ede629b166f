/- Further contracts of the functions that the chapter's statements reach. No condition. -/
import Derived.Test.YtafmknblnamegaaDoorU5DP
namespace Go.Proofs.YtafmknblnamegaaDoor
open Go.Eng
set_option linter.unusedSimpArgs false
def tlA (p : Bool) (xs : Rw) (j : Nat) : Int := cond p 0 (geti (xs.getD 0 []) j)
def tdB (p : Bool) (xs : Rw) (a b d : Int) : Bool := decide (p = false ↔ a ≠ 0) && decide (tlA p xs 0 = a ∧ tlA p xs 1 = b ∧ tlA p xs 2 = d)
def pTl2 := ParL.cons (.er 87 true FK) .nil
noncomputable def kTl2 := kOf pTl2 fun ((p, xs), _) => { need := [], val := .agg [I (tlA p xs 0), I (tlA p xs 1), I (tlA p xs 2)] }
noncomputable def G30 : PC := addPC G29 17 kTl2
def pTd2 := ParL.cons (.er 87 true FK) (.cons (.agg (.cons pI (.cons pI (.cons pI .nil)))) .nil)
noncomputable def kTd2 := kOf pTd2 fun ((p, xs), (a, b, d, _), _) => { need := [], val := .b (tdB p xs a b d) }
noncomputable def G31 : PC := addPC G30 10 kTd2
def intsB (xs ys : Rw) : Bool := decide ((xs.map fun y => geti y 0) = ys.map fun y => geti y 0)
structure ItI (xs ys : Rw) (k : Int) : Prop where
  a : 0 ≤ k
  b : k ≤ xs.length
  ok : ∀ j, j < k.toNat → geti (xs.getD j []) 0 = geti (ys.getD j []) 0
def itS (xs ys : Rw) : LoopSpec where
  S := Int
  regs := fun k => [(5, K k)]
  keep := [0, 1]
  heap := fun _ => []
  inv := ItI xs ys
  mu := rwMu xs
def itL (xs ys : Rw) : LoopSpecs := fun g i => cond (Nat.beq g 13 && Nat.beq i 4) (some fun _ => itS xs ys) none
def pIt := ParML.cons (.row 3 I64) (.cons (.row 3 I64) .nil)
noncomputable def kIt := kOfM pIt fun (xs, ys, _) => { need := [], val := .b (intsB xs ys), heap := [(0, .row 3 I64 xs), (1, .row 3 I64 ys)] }
noncomputable def G32 : PC := addPC G31 13 kIt
def pWk5 := ParL.nil
noncomputable def kWk5 := kOf pWk5 fun _ => { need := [], val := .v (.bool true) }
noncomputable def G33 : PC := addPC G32 16 kWk5
end Go.Proofs.YtafmknblnamegaaDoor
