/- Further contracts of the functions that the chapter's statements reach. No condition. -/
import Derived.Test.YtafmknblnamegaaDoorS5WP
namespace Go.Proofs.YtafmknblnamegaaDoor
open Go.Eng
set_option linter.unusedSimpArgs false
def intsB (xs ys : Rw) : Bool := decide ((xs.map fun y => geti y 0) = ys.map fun y => geti y 0)
structure ItI (xs ys : Rw) (k : Int) : Prop where
  a : 0 ≤ k
  b : k ≤ xs.length
  ok : ∀ j, j < k.toNat → geti (xs.getD j []) 0 = geti (ys.getD j []) 0
def itS (xs ys : Rw) : LoopSpec where
  S := Int
  regs := fun k => [(5, K k)]
  keep := [0, 1]
  heap := fun _ => []
  inv := ItI xs ys
  mu := rwMu xs
def itL (xs ys : Rw) : LoopSpecs := fun g i => cond (Nat.beq g 13 && Nat.beq i 4) (some fun _ => itS xs ys) none
def pIt := ParML.cons (.row 3 I64) (.cons (.row 3 I64) .nil)
noncomputable def kIt := kOfM pIt fun (xs, ys, _) => { need := [], val := .b (intsB xs ys), heap := [(0, .row 3 I64 xs), (1, .row 3 I64 ys)] }
noncomputable def G26 : PC := addPC G25 13 kIt
end Go.Proofs.YtafmknblnamegaaDoor
