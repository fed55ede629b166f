/- Further contracts of the functions that the chapter's statements reach. No condition. -/
import Derived.Test.YtafmknblnamegaaDoorU5CP
namespace Go.Proofs.YtafmknblnamegaaDoor
open Go.Eng
set_option linter.unusedSimpArgs false
def isOf (x : List Rw) : List Int := (own x).map fun y => geti y 0
def fow (r : Int) : Nat → Fm → Int
  | _, [] => -1
  | c, x :: l => if r ∈ isOf x then c else fow r (c + 1) l
def oR (ts : Rw) (cs : Fm) (k : Int) : Rw := (List.range ts.length).map fun (r : Nat) => [.int .i64 (if (r : Int) < k then fow r 0 cs else 0)]
structure OwI (cs : Fm) (s : CaS) : Prop where
  a : -1 ≤ s.k
  b : s.k < cs.length
  has : ∀ r, mhas s.m r = decide (r ∈ ownAll (cs.drop (s.k + 1).toNat))
  get : ∀ r, mhas s.m r = true → mget s.m r [.int .i64 0] = [.int .i64 (fow r (s.k + 1).toNat (cs.drop (s.k + 1).toNat))]
def owMu (s : CaS) : Nat := (s.k + 1).toNat
def KM (k : Int) : SV := .i .i64 k (-1) 9223372036854775807
def owS (cs : Fm) : LoopSpec where
  S := CaS
  regs := fun s => [(4, KM s.k)]
  keep := [1]
  heap := fun s => [(3, ow s.m)]
  inv := OwI cs
  mu := owMu
structure OiI (cs : Fm) (c : Int) (s : CaS) : Prop where
  a : 0 ≤ s.k
  b : s.k ≤ (own (cs.getD c.toNat [])).length
  has : ∀ r, mhas s.m r = decide (r ∈ ((own (cs.getD c.toNat [])).take s.k.toNat).map (fun y => geti y 0) ∨ r ∈ ownAll (cs.drop (c + 1).toNat))
  get : ∀ r, mhas s.m r = true → mget s.m r [.int .i64 0] = [.int .i64 (if r ∈ ((own (cs.getD c.toNat [])).take s.k.toNat).map (fun y => geti y 0) then c else fow r (c + 1).toNat (cs.drop (c + 1).toNat))]
def oiMu (cs : Fm) (c : Int) (s : CaS) : Nat := (((own (cs.getD c.toNat [])).length : Int) - s.k).toNat
def oiS (cs : Fm) (c : Int) : LoopSpec where
  S := CaS
  regs := fun s => [(27, K s.k)]
  keep := [1, 25]
  heap := fun s => [(3, ow s.m)]
  inv := OiI cs c
  mu := oiMu cs c
structure OjI (ts : Rw) (k : Int) : Prop where
  a : 0 ≤ k
  b : k ≤ ts.length
def ojS (ts : Rw) (cs : Fm) : LoopSpec where
  S := Int
  regs := fun k => [(41, K k)]
  keep := [1, 3]
  heap := fun k => [(7, .row 3 I64 (oR ts cs k))]
  inv := OjI ts
  mu := rwMu ts
def onL (ts : Rw) (cs : Fm) : LoopSpecs := fun g i => cond (Nat.beq g 14) (cond (Nat.beq i 3) (some fun _ => owS cs) <| cond (Nat.beq i 6) (some fun st => oiS cs (intAt st 4)) <| cond (Nat.beq i 12) (some fun _ => ojS ts cs) none) none
def pOw := ParL.cons pSc .nil
noncomputable def kOw := kOf pOw fun ((ts, cs, ls, a, b, d, ds, _), _) => { need := [decide (lenI ts ≤ 1000)], val := .row 1000000, news := [.row 3 I64 (oR ts cs ts.length)] }
noncomputable def G20 : PC := addPC G19 14 kOw
end Go.Proofs.YtafmknblnamegaaDoor
