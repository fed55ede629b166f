/- Contracts of the functions that the chapter's statements reach: what each answers, as plain functions. No condition. -/
import Derived.Test.YtbkninekhmnfdaaRows
import Derived.Test.YtbkninekhmnfdaaV3O
namespace Go.Proofs.Ytbkninekhmnfdaa
open Go.Eng
theorem mixed : Try.prog.follows .mixedOrders = true := by kernel_rfl
def GL : PC := litPC noPC
theorem okGL : PCok Try.prog GL := litPC_ok noPC_ok
def G0 : PC := noPC
def I (n : Int) : SV := .i .i64 n (-9223372036854775808) 9223372036854775807
def K (n : Int) : SV := .i .i64 n 0 9223372036854775807
def pI : Par Int := .int .i64 (-9223372036854775808) 9223372036854775807
def mI : ParM Int := .of pI fun _ _ => rfl
def SK : List Kd := [.int .i64, .int .i64]
def pr (r k : Int) : List Value := [.int .i64 r, .int .i64 k]
noncomputable def dB (p : Prop) : Bool := @decide p (Classical.propDecidable p)
def isS (r k : Int) (x : List Value) : Bool := decide (geti x 0 = r) && decide (geti x 1 = k)
def cnt (r k : Int) : List (List Value) → Int
  | [] => 0
  | x :: l => cond (isS r k x) 1 0 + cnt r k l
def okAt (xs : List (List Value)) (i : Nat) : Bool :=
  decide (0 ≤ geti (xs.getD i []) 0) && ((decide (geti (xs.getD i []) 1 = 0) || decide (geti (xs.getD i []) 1 = 1)) && (decide (cnt (geti (xs.getD i []) 0) 0 xs = 1) && (decide (cnt (geti (xs.getD i []) 0) 1 xs = 1) &&
    (!decide (geti (xs.getD i []) 1 = 1) || decide (cnt (geti (xs.getD i []) 0) 0 (xs.take i) = 1)))))
def okB (xs : List (List Value)) : Bool := (List.range xs.length).all fun i => okAt xs i
def checkE (xs : List (List Value)) : Int := cond (decide (16 < lenI xs)) 11 (cond (okB xs) 0 8)
def cntSpec (r k : Int) (xs : List (List Value)) : LoopSpec where
  S := Int
  regs := fun j => [(6, K j), (5, K (cnt r k (xs.take j.toNat)))]
  keep := [0, 3]
  heap := fun _ => []
  inv := fun j => 0 ≤ j ∧ j ≤ xs.length
  mu := fun j => ((xs.length : Int) - j).toNat
def cntL (r k : Int) (xs : List (List Value)) : LoopSpecs := fun g i => cond (Nat.beq g 27 && Nat.beq i 3) (some fun _ => cntSpec r k xs) none
def rckSpec (xs : List (List Value)) : LoopSpec where
  S := Int
  regs := fun j => [(3, K j)]
  keep := [0]
  heap := fun _ => []
  inv := fun j => 0 ≤ j ∧ j ≤ xs.length ∧ ∀ i, i < j.toNat → okAt xs i = true
  mu := fun j => ((xs.length : Int) - j).toNat
def rckL (xs : List (List Value)) : LoopSpecs := fun g i => cond (Nat.beq g 11 && Nat.beq i 4) (some fun _ => rckSpec xs) none
structure CkS where
  j : Int
  m : List (Int × List Value)
def stepOk (xs : List (List Value)) (i : Nat) : Prop := 0 ≤ geti (xs.getD i []) 0 ∧ ((geti (xs.getD i []) 1 = 0 ∧ cnt (geti (xs.getD i []) 0) 0 (xs.take i) = 0 ∧ cnt (geti (xs.getD i []) 0) 1 (xs.take i) = 0) ∨
  (geti (xs.getD i []) 1 = 1 ∧ cnt (geti (xs.getD i []) 0) 0 (xs.take i) = 1 ∧ cnt (geti (xs.getD i []) 0) 1 (xs.take i) = 0))
structure MInv (xs : List (List Value)) (m : List (Int × List Value)) : Prop where
  all : ∀ x ∈ m, x.2 = pr (cnt x.1 0 xs) (cnt x.1 1 xs)
  nd : (m.map (·.1)).Nodup
  has : ∀ r, mget m r (pr 0 0) = pr (cnt r 0 xs) (cnt r 1 xs)
structure CkI (xs : List (List Value)) (s : CkS) : Prop where
  j0 : 0 ≤ s.j
  j1 : s.j ≤ xs.length
  ok : ∀ i, i < s.j.toNat → stepOk xs i
  mi : MInv (xs.take s.j.toNat) s.m
def ckSpec (xs : List (List Value)) : LoopSpec where
  S := CkS
  regs := fun s => [(15, K s.j), (2, .v (.int .i64 0))]
  keep := [0, 13]
  heap := fun s => [(3, .map .i64 SK true s.m)]
  inv := CkI xs
  mu := fun s => ((xs.length : Int) - s.j).toNat
structure WkS where
  seen : List Nat
  e : Int
def bad (m : List (Int × List Value)) (j : Nat) : Prop := geti (m.getD j (0, [])).2 0 ≠ geti (m.getD j (0, [])).2 1
structure WkI (m : List (Int × List Value)) (e0 : Int) (s : WkS) : Prop where
  lt : ∀ j ∈ s.seen, j < m.length
  nd : s.seen.Nodup
  e : (s.e = 8 ∧ (e0 = 8 ∨ ∃ j ∈ s.seen, bad m j)) ∨ (s.e = 0 ∧ e0 = 0 ∧ ∀ j ∈ s.seen, ¬ bad m j)
def walkSpec (mi : Nat) (m : List (Int × List Value)) (e0 : Int) : LoopSpec where
  S := WkS
  regs := fun s => [(2, .i .i64 s.e 0 8)]
  keep := [3]
  heap := fun s => [(59, .iter mi m.length s.seen)]
  inv := WkI m e0
  mu := fun s => m.length + 1 - s.seen.length
def ckL (xs : List (List Value)) : LoopSpecs := fun g i => cond (Nat.beq g 10) (cond (Nat.beq i 5) (some fun _ => ckSpec xs) (cond (Nat.beq i 17) (some fun st => walkSpec (slotOf st 3) (mapAt st 3) (intAt st 2)) none)) none
def pCnt := ParL.cons (.row SK) (.cons (.agg (.cons pI (.cons pI .nil))) .nil)
noncomputable def kCnt := kOf pCnt fun (xs, (r, k, _), _) => { need := [], val := K (cnt r k xs) }
noncomputable def G1 : PC := addPC G0 27 kCnt
def pRck := ParL.cons (.row SK) .nil
noncomputable def kRck := kOf pRck fun (xs, _) => { need := [], val := .i .i64 (checkE xs) 0 11 }
noncomputable def G2 : PC := addPC G1 11 kRck
def pCk := ParL.cons (.row SK) .nil
noncomputable def kCk := kOf pCk fun (xs, _) => { need := [], val := .i .i64 (checkE xs) 0 11 }
noncomputable def G3 : PC := addPC G2 10 kCk
end Go.Proofs.Ytbkninekhmnfdaa
