/- Further contracts of the functions that the chapter's statements reach. No condition. -/
import Derived.Test.YtafmknblnamegaaDoorU5OP
namespace Go.Proofs.YtafmknblnamegaaDoor
open Go.Eng
set_option linter.unusedSimpArgs false
structure OrI (cs : Fm) (r h : Int) (k : Int) : Prop where
  a : 0 ≤ k
  b : k ≤ cs.length
  c : k = 0 ∨ k ≤ h
  no : ∀ j, j < k.toNat → r ∉ isOf (cs.getD j [])
def orMu (cs : Fm) (k : Int) : Nat := ((cs.length : Int) - k).toNat
def orS (cs : Fm) (r a : Int) : LoopSpec where
  S := Int
  regs := fun k => [(7, K k)]
  keep := [3]
  heap := fun _ => []
  inv := OrI cs r a
  mu := orMu cs
structure OqI (cs : Fm) (r : Int) (c : Int) (k : Int) : Prop where
  a : 0 ≤ k
  b : k ≤ (own (cs.getD c.toNat [])).length
  no : ∀ j, j < k.toNat → geti ((own (cs.getD c.toNat [])).getD j []) 0 ≠ r
def oqMu (cs : Fm) (c k : Int) : Nat := (((own (cs.getD c.toNat [])).length : Int) - k).toNat
def oqS (cs : Fm) (r c : Int) : LoopSpec where
  S := Int
  regs := fun k => [(8, K k)]
  keep := [3]
  heap := fun _ => []
  inv := OqI cs r c
  mu := oqMu cs c
def orL (cs : Fm) (r a : Int) : LoopSpecs := fun g i => cond (Nat.beq g 32) (cond (Nat.beq i 2) (some fun _ => orS cs r a) <| cond (Nat.beq i 5) (some fun st => oqS cs r (intAt st 7)) none) none
def pOr := ParL.cons pSc (.cons pI (.cons pI .nil))
noncomputable def kOr := kOf pOr fun ((ts, cs, ls, a, b, d, ds, _), r, h, _) => { need := [], val := .i .i64 (fow r 0 (cs.take h.toNat)) (-1) 9223372036854775807 }
noncomputable def G21 : PC := addPC G20 32 kOr
def oT (cs : Fm) (k : Int) : Rw := (List.range k.toNat).map fun (r : Nat) => [.int .i64 (fow (r : Int) 0 cs)]
structure OtI (ts : Rw) (k : Int) : Prop where
  a : 0 ≤ k
  b : k ≤ ts.length
def otS (ts : Rw) (cs : Fm) : LoopSpec where
  S := Int
  regs := fun k => [(4, .i .i64 k 0 100000), (3, .row 1000000)]
  keep := [1]
  heap := fun _ => []
  news := fun k => [.row 3 I64 (oT cs k)]
  inv := OtI ts
  mu := rwMu ts
def otL (ts : Rw) (cs : Fm) : LoopSpecs := fun g i => cond (Nat.beq g 15 && Nat.beq i 3) (some fun _ => otS ts cs) none
def pRo := ParL.cons pSc .nil
noncomputable def kRo := kOf pRo fun ((ts, cs, ls, a, b, d, ds, _), _) => { need := [decide (lenI ts ≤ 1000)], val := .row 1000000, news := [.row 3 I64 (oR ts cs ts.length)] }
noncomputable def G22 : PC := addPC G21 15 kRo
end Go.Proofs.YtafmknblnamegaaDoor
