/- Further contracts of the functions that the chapter's statements reach. No condition. -/
import Derived.Test.YtcbmppkejphffaaT3P
namespace Go.Proofs.Ytcbmppkejphffaa
open Go.Eng
set_option linter.unusedSimpArgs false
def BY : List Kd := [.int .u8]
def b8 (x : Int) (d : Int) : List Value := [.int .u8 (IntKind.u8.wrap (x / d))]
def e8 (x : Int) : List (List Value) := [] ++ [b8 x 72057594037927936] ++ [b8 x 281474976710656] ++ [b8 x 1099511627776] ++ [b8 x 4294967296] ++ [b8 x 16777216] ++ [b8 x 65536] ++ [b8 x 256] ++ [b8 x 1]

def uW (x : Int) : Int := IntKind.u64.wrap x
def sawB (x : List Value) : List (List Value) := e8 (uW (geti x 0)) ++ (e8 (uW (geti x 1)) ++ (e8 (uW (geti x 3)) ++ (e8 (geti x 4) ++ (e8 ((gets x 2).size : Int) ++ strEl (gets x 2)))))
def byts : List (List Value) → List (List Value)
  | [] => []
  | x :: l => sawB x ++ byts l
def byLSpec (l : List (List Value)) : LoopSpec where
  S := Int
  regs := fun k => [(10, K k), (3, SN)]
  keep := [8]
  heap := fun _ => []
  news := fun k => [.row 5 BY (byts (l.take k.toNat))]
  inv := fun k => 0 ≤ k ∧ k ≤ l.length
  mu := fun k => ((l.length : Int) - k).toNat
def byL (l : List (List Value)) : LoopSpecs := fun g i => cond (Nat.beq g 18 && Nat.beq i 3) (some fun _ => byLSpec l) none
def byrSpec (l : List (List Value)) : LoopSpec where
  S := Int
  regs := fun k => [(4, K k), (3, .s (bytesOf (byts (l.take k.toNat))) 9223372036854775807)]
  keep := [0]
  heap := fun _ => []
  inv := fun k => 0 ≤ k ∧ k ≤ l.length
  mu := fun k => ((l.length : Int) - k).toNat
def byrL (l : List (List Value)) : LoopSpecs := fun g i => cond (Nat.beq g 19 && Nat.beq i 3) (some fun _ => byrSpec l) none
def pTe8 := ParL.cons pU64 .nil
noncomputable def kTe8 := kOf pTe8 fun (x, _) => { need := [], val := S (bytesOf (e8 x)) }
noncomputable def G8 : PC := addPC G7 25 kTe8
def pTbr := ParL.cons (.row SW) .nil
noncomputable def kTbr := kOf pTbr fun (l, _) => { need := [decide (lenI (byts l) ≤ 100000000)], val := S (bytesOf (byts l)) }
noncomputable def G9 : PC := addPC G8 19 kTbr
def pTby := ParL.cons (.row SW) .nil
noncomputable def kTby := kOf pTby fun (l, _) => { need := [decide (lenI (byts l) ≤ 100000000)], val := S (bytesOf (byts l)) }
noncomputable def G10 : PC := addPC G9 18 kTby
end Go.Proofs.Ytcbmppkejphffaa
