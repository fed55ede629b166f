/- Contracts of the functions that the chapter's statements reach: what each answers, as plain functions. No condition. -/
import Derived.Test.YtbkninekhmnfdaaRows
import Derived.Test.YtbkninekhmnfdaaV6O
namespace Go.Proofs.Ytbkninekhmnfdaa
open Go.Eng
theorem mixed : Try.prog.follows .mixedOrders = true := by kernel_rfl
def GL : PC := litPC noPC
theorem okGL : PCok Try.prog GL := litPC_ok noPC_ok
def G0 : PC := noPC
def I (n : Int) : SV := .i .i64 n (-9223372036854775808) 9223372036854775807
def K (n : Int) : SV := .i .i64 n 0 9223372036854775807
def pI : Par Int := .int .i64 (-9223372036854775808) 9223372036854775807
def mI : ParM Int := .of pI fun _ _ => rfl
def SK : List Kd := [.int .i64, .int .i64]
def pr (r k : Int) : List Value := [.int .i64 r, .int .i64 k]
noncomputable def dB (p : Prop) : Bool := @decide p (Classical.propDecidable p)
def isS (r k : Int) (x : List Value) : Bool := decide (geti x 0 = r) && decide (geti x 1 = k)
def cnt (r k : Int) : List (List Value) → Int
  | [] => 0
  | x :: l => cond (isS r k x) 1 0 + cnt r k l
def okAt (xs : List (List Value)) (i : Nat) : Bool :=
  decide (0 ≤ geti (xs.getD i []) 0) && ((decide (geti (xs.getD i []) 1 = 0) || decide (geti (xs.getD i []) 1 = 1)) && (decide (cnt (geti (xs.getD i []) 0) 0 xs = 1) && (decide (cnt (geti (xs.getD i []) 0) 1 xs = 1) &&
    (!decide (geti (xs.getD i []) 1 = 1) || decide (cnt (geti (xs.getD i []) 0) 0 (xs.take i) = 1)))))
def okB (xs : List (List Value)) : Bool := (List.range xs.length).all fun i => okAt xs i
def checkE (xs : List (List Value)) : Int := cond (decide (16 < lenI xs)) 11 (cond (okB xs) 0 8)
def cntSpec (r k : Int) (xs : List (List Value)) : LoopSpec where
  S := Int
  regs := fun j => [(6, K j), (5, K (cnt r k (xs.take j.toNat)))]
  keep := [0, 3]
  heap := fun _ => []
  inv := fun j => 0 ≤ j ∧ j ≤ xs.length
  mu := fun j => ((xs.length : Int) - j).toNat
def cntL (r k : Int) (xs : List (List Value)) : LoopSpecs := fun g i => cond (Nat.beq g 27 && Nat.beq i 3) (some fun _ => cntSpec r k xs) none
def rckSpec (xs : List (List Value)) : LoopSpec where
  S := Int
  regs := fun j => [(3, K j)]
  keep := [0]
  heap := fun _ => []
  inv := fun j => 0 ≤ j ∧ j ≤ xs.length ∧ ∀ i, i < j.toNat → okAt xs i = true
  mu := fun j => ((xs.length : Int) - j).toNat
def rckL (xs : List (List Value)) : LoopSpecs := fun g i => cond (Nat.beq g 11 && Nat.beq i 4) (some fun _ => rckSpec xs) none
structure CkS where
  j : Int
  m : List (Int × List Value)
def stepOk (xs : List (List Value)) (i : Nat) : Prop := 0 ≤ geti (xs.getD i []) 0 ∧ ((geti (xs.getD i []) 1 = 0 ∧ cnt (geti (xs.getD i []) 0) 0 (xs.take i) = 0 ∧ cnt (geti (xs.getD i []) 0) 1 (xs.take i) = 0) ∨
  (geti (xs.getD i []) 1 = 1 ∧ cnt (geti (xs.getD i []) 0) 0 (xs.take i) = 1 ∧ cnt (geti (xs.getD i []) 0) 1 (xs.take i) = 0))
structure MInv (xs : List (List Value)) (m : List (Int × List Value)) : Prop where
  all : ∀ x ∈ m, x.2 = pr (cnt x.1 0 xs) (cnt x.1 1 xs)
  nd : (m.map (·.1)).Nodup
  has : ∀ r, mget m r (pr 0 0) = pr (cnt r 0 xs) (cnt r 1 xs)
structure CkI (xs : List (List Value)) (s : CkS) : Prop where
  j0 : 0 ≤ s.j
  j1 : s.j ≤ xs.length
  ok : ∀ i, i < s.j.toNat → stepOk xs i
  mi : MInv (xs.take s.j.toNat) s.m
def ckSpec (xs : List (List Value)) : LoopSpec where
  S := CkS
  regs := fun s => [(15, K s.j), (2, .v (.int .i64 0))]
  keep := [0, 13]
  heap := fun s => [(3, .map .i64 SK true s.m)]
  inv := CkI xs
  mu := fun s => ((xs.length : Int) - s.j).toNat
structure WkS where
  seen : List Nat
  e : Int
def bad (m : List (Int × List Value)) (j : Nat) : Prop := geti (m.getD j (0, [])).2 0 ≠ geti (m.getD j (0, [])).2 1
structure WkI (m : List (Int × List Value)) (e0 : Int) (s : WkS) : Prop where
  lt : ∀ j ∈ s.seen, j < m.length
  nd : s.seen.Nodup
  e : (s.e = 8 ∧ (e0 = 8 ∨ ∃ j ∈ s.seen, bad m j)) ∨ (s.e = 0 ∧ e0 = 0 ∧ ∀ j ∈ s.seen, ¬ bad m j)
def walkSpec (mi : Nat) (m : List (Int × List Value)) (e0 : Int) : LoopSpec where
  S := WkS
  regs := fun s => [(2, .i .i64 s.e 0 8)]
  keep := [3]
  heap := fun s => [(59, .iter mi m.length s.seen)]
  inv := WkI m e0
  mu := fun s => m.length + 1 - s.seen.length
def ckL (xs : List (List Value)) : LoopSpecs := fun g i => cond (Nat.beq g 10) (cond (Nat.beq i 5) (some fun _ => ckSpec xs) (cond (Nat.beq i 17) (some fun st => walkSpec (slotOf st 3) (mapAt st 3) (intAt st 2)) none)) none
def pCnt := ParL.cons (.row SK) (.cons (.agg (.cons pI (.cons pI .nil))) .nil)
noncomputable def kCnt := kOf pCnt fun (xs, (r, k, _), _) => { need := [], val := K (cnt r k xs) }
noncomputable def G1 : PC := addPC G0 27 kCnt
def pRck := ParL.cons (.row SK) .nil
noncomputable def kRck := kOf pRck fun (xs, _) => { need := [], val := .i .i64 (checkE xs) 0 11 }
noncomputable def G2 : PC := addPC G1 11 kRck
def pCk := ParL.cons (.row SK) .nil
noncomputable def kCk := kOf pCk fun (xs, _) => { need := [], val := .i .i64 (checkE xs) 0 11 }
noncomputable def G3 : PC := addPC G2 10 kCk
def PK : List Kd := [.int .i64]
def SN : SV := .row 1000000
def sameSpec (xs ys : List (List Value)) : LoopSpec where
  S := Int
  regs := fun k => [(5, K k)]
  keep := [0, 1]
  heap := fun _ => []
  inv := fun k => 0 ≤ k ∧ k ≤ xs.length ∧ xs.take k.toNat = ys.take k.toNat
  mu := fun k => ((xs.length : Int) - k).toNat
def sameL (f : Nat) (xs ys : List (List Value)) : LoopSpecs := fun g i => cond (Nat.beq g f && Nat.beq i 4) (some fun _ => sameSpec xs ys) none
def rq1 (x : List Value) : List Value := [.int .i64 (geti x 0)]
def rqs (xs : List (List Value)) : List (List Value) := (xs.filter fun x => decide (geti x 1 = 0)).map rq1
def rq (xs : List (List Value)) : List (List Value) := cond (decide (checkE xs = 0)) (rqs xs) []
def rqSpec (xs : List (List Value)) : LoopSpec where
  S := Int
  regs := fun k => [(10, K k), (2, SN)]
  keep := [8]
  heap := fun _ => []
  news := fun k => [.row 3 PK (rqs (xs.take k.toNat))]
  inv := fun k => 0 ≤ k ∧ k ≤ xs.length
  mu := fun k => ((xs.length : Int) - k).toNat
def rqrSpec (xs : List (List Value)) : LoopSpec where
  S := Int
  regs := fun k => [(4, K k), (3, SN)]
  keep := [0]
  heap := fun _ => []
  news := fun k => [.row 3 PK (rqs (xs.take k.toNat))]
  inv := fun k => 0 ≤ k ∧ k ≤ xs.length
  mu := fun k => ((xs.length : Int) - k).toNat
def rqL (xs : List (List Value)) : LoopSpecs := fun g i => cond (Nat.beq g 13 && Nat.beq i 4) (some fun _ => rqSpec xs) (cond (Nat.beq g 14 && Nat.beq i 5) (some fun _ => rqrSpec xs) none)
def hasR (r : Int) (xs : List (List Value)) : Bool := xs.any fun x => decide (geti x 0 = r)
def wOk (xs : List (List Value)) (r i j : Int) : Bool := decide (0 ≤ i) && (decide (i ≤ j) && (decide (j ≤ lenI xs) && (decide (0 ≤ r) && (decide (lenI xs + 2 ≤ 16) && !hasR r xs))))
def wRow (xs : List (List Value)) (r i j : Int) : List (List Value) := xs.take i.toNat ++ (pr r 0 :: ((xs.drop i.toNat).take (j - i).toNat ++ (pr r 1 :: xs.drop j.toNat)))
def wth (xs : List (List Value)) (r i j : Int) : List (List Value) := cond (wOk xs r i j) (wRow xs r i j) []
def wpre (xs : List (List Value)) (r i j : Int) : Nat → List (List Value)
  | 0 => []
  | k + 1 => wpre xs r i j k ++ (cond (decide ((k : Int) = i)) [pr r 0] [] ++ (cond (decide ((k : Int) = j)) [pr r 1] [] ++ cond (decide ((k : Int) < xs.length)) [xs.getD k []] []))
def wrSpec (xs : List (List Value)) (r i j : Int) : LoopSpec where
  S := Int
  regs := fun k => [(11, K k), (10, SN)]
  keep := [0]
  heap := fun _ => []
  news := fun k => [.row 27 SK (wpre xs r i j k.toNat)]
  inv := fun k => 0 ≤ k ∧ k ≤ (xs.length : Int) + 1 ∧ hasR r (xs.take k.toNat) = false
  mu := fun k => ((xs.length : Int) + 1 - k).toNat
def wrL (xs : List (List Value)) (r i j : Int) : LoopSpecs := fun g q => cond (Nat.beq g 18 && Nat.beq q 5) (some fun _ => wrSpec xs r i j) none
def BK : List Kd := [.int .u8]
def byt (bs : List (List Value)) (k : Nat) : Int := geti (bs.getD k []) 0
def madeN (bs : List (List Value)) : Nat → List (List Value)
  | 0 => []
  | k + 1 => wth (madeN bs k) k (min (byt bs (2 * k) % (lenI (madeN bs k) + 1)) (byt bs (2 * k + 1) % (lenI (madeN bs k) + 1))) (max (byt bs (2 * k) % (lenI (madeN bs k) + 1)) (byt bs (2 * k + 1) % (lenI (madeN bs k) + 1)))
def made (bs : List (List Value)) : List (List Value) := madeN bs (min (bs.length / 2) 6)
def mdSpec (bs : List (List Value)) : LoopSpec where
  S := Int
  regs := fun k => [(4, K (2 * k)), (3, SN)]
  keep := [0]
  heap := fun _ => []
  news := fun k => [.row 27 SK (madeN bs k.toNat)]
  inv := fun k => 0 ≤ k ∧ k ≤ 6 ∧ 2 * k ≤ bs.length
  mu := fun k => (6 - k).toNat
def mdL (bs : List (List Value)) : LoopSpecs := fun g q => cond (Nat.beq g 8 && Nat.beq q 3) (some fun _ => mdSpec bs) none
def nearV (n m : Int) : Int := if n.tmod 8 = 7 then n else IntKind.u64.wrap n % m
def nearE (x : List Value) : List Value := [.int .i64 (nearV (geti x 0) 4), .int .i64 (nearV (geti x 1) 2)]
def near (xs : List (List Value)) : List (List Value) := (xs.take 30).map nearE
def nrSpec (xs : List (List Value)) : LoopSpec where
  S := Int
  regs := fun k => [(4, K k), (3, SN)]
  keep := [0]
  heap := fun _ => []
  news := fun k => [.row 27 SK (near (xs.take k.toNat))]
  inv := fun k => 0 ≤ k ∧ k ≤ 30 ∧ k ≤ xs.length
  mu := fun k => (30 - k).toNat
def nrL (xs : List (List Value)) : LoopSpecs := fun g q => cond (Nat.beq g 9 && Nat.beq q 3) (some fun _ => nrSpec xs) none
def zS : List Value := [.int .i64 0, .int .i64 0]
def ixSpec (xs : List (List Value)) (r : Int) : LoopSpec where
  S := Int
  regs := fun k => [(8, K k)]
  keep := [0, 1]
  heap := fun _ => []
  inv := fun k => 0 ≤ k ∧ k ≤ xs.length ∧ hasR r (xs.take k.toNat) = false
  mu := fun k => ((xs.length : Int) - k).toNat
def ixL (xs : List (List Value)) (r : Int) : LoopSpecs := fun g q => cond (Nat.beq g 34 && Nat.beq q 2) (some fun _ => ixSpec xs r) none
def idxD (r k : Int) (xs : List (List Value)) : Nat → Int
  | 0 => -1
  | n + 1 => cond (isS r k (xs.getD (xs.length - (n + 1)) [])) ((xs.length - (n + 1) : Nat) : Int) (idxD r k xs n)
def idx (r k : Int) (xs : List (List Value)) : Int := idxD r k xs xs.length
def inSpec (r q : Int) (xs : List (List Value)) : LoopSpec where
  S := Int
  regs := fun k => [(8, K k)]
  keep := [0, 3]
  heap := fun _ => []
  inv := fun k => 0 ≤ k ∧ k ≤ xs.length ∧ idxD r q xs (xs.length - k.toNat) = idx r q xs
  mu := fun k => ((xs.length : Int) - k).toNat
def inL (r q : Int) (xs : List (List Value)) : LoopSpecs := fun g i => cond (Nat.beq g 30 && Nat.beq i 2) (some fun _ => inSpec r q xs) none
def ix (n : Int) : SV := .i .i64 n (-1) 9223372036854775807
def atSpec (r : Int) (xs : List (List Value)) : LoopSpec where
  S := Int
  regs := fun k => [(8, ix ((xs.length : Int) - 1 - k)), (6, ix (idxD r 0 xs k.toNat)), (7, ix (idxD r 1 xs k.toNat))]
  keep := [0]
  heap := fun _ => []
  inv := fun k => 0 ≤ k ∧ k ≤ xs.length
  mu := fun k => ((xs.length : Int) - k).toNat
def atL (r : Int) (xs : List (List Value)) : LoopSpecs := fun g i => cond (Nat.beq g 20 && Nat.beq i 3) (some fun _ => atSpec r xs) none
def flt (r : Int) (xs : List (List Value)) : List (List Value) := xs.filter fun x => !decide (geti x 0 = r)
def fltz (r : Int) (xs : List (List Value)) : List (List Value) := flt r xs ++ List.replicate (xs.length - (flt r xs).length) zS
def woSpec (xs : List (List Value)) (r : Int) : LoopSpec where
  S := Int
  regs := fun k => [(6, K k), (5, K (flt r (xs.take k.toNat)).length)]
  keep := [1]
  heap := fun k => [(0, .row 27 SK (flt r (xs.take k.toNat) ++ xs.drop (flt r (xs.take k.toNat)).length))]
  inv := fun k => 0 ≤ k ∧ k ≤ xs.length
  mu := fun k => ((xs.length : Int) - k).toNat
def woL (xs : List (List Value)) (r : Int) : LoopSpecs := fun g q => cond (Nat.beq g 34 && Nat.beq q 2) (some fun _ => ixSpec xs r) (cond (Nat.beq g 31 && Nat.beq q 5) (some fun _ => woSpec xs r) none)
def wrrSpec (xs : List (List Value)) (r : Int) : LoopSpec where
  S := Int
  regs := fun k => [(6, K k), (5, SN)]
  keep := [0]
  heap := fun _ => []
  news := fun k => [.row 27 SK (flt r (xs.take k.toNat))]
  inv := fun k => 0 ≤ k ∧ k ≤ xs.length
  mu := fun k => ((xs.length : Int) - k).toNat
def wrrL (xs : List (List Value)) (r : Int) : LoopSpecs := fun g q => cond (Nat.beq g 22 && Nat.beq q 3) (some fun _ => wrrSpec xs r) none
def pSm := ParL.cons (.row SK) (.cons (.row SK) .nil)
noncomputable def kSm := kOf pSm fun (xs, ys, _) => { need := [], val := .b (dB (xs = ys)) }
noncomputable def G4 : PC := addPC G3 17 kSm
def pIn := ParL.cons (.row PK) (.cons (.row PK) .nil)
noncomputable def kIn := kOf pIn fun (xs, ys, _) => { need := [], val := .b (dB (xs = ys)) }
noncomputable def G5 : PC := addPC G4 12 kIn
def pRqp := ParL.cons (.row SK) .nil
noncomputable def kRqp := kOf pRqp fun (xs, _) => { need := [], val := SN, news := [.row 3 PK (rq xs)] }
noncomputable def G6 : PC := addPC G5 13 kRqp
def pRqr := ParL.cons (.row SK) .nil
noncomputable def kRqr := kOf pRqr fun (xs, _) => { need := [], val := SN, news := [.row 3 PK (rq xs)] }
noncomputable def G7 : PC := addPC G6 14 kRqr
def pWr := ParL.cons (.row SK) (.cons pI (.cons pI (.cons pI .nil)))
noncomputable def kWr := kOf pWr fun (xs, r, i, j, _) => { need := [decide (lenI xs ≤ 1000000)], val := .tup [SN, .b (wOk xs r i j)], news := [.row 27 SK (wth xs r i j)] }
noncomputable def G8 : PC := addPC G7 18 kWr
def pMd := ParL.cons (.row BK) .nil
noncomputable def kMd := kOf pMd fun (bs, _) => { need := [], val := SN, news := [.row 27 SK (made bs)] }
noncomputable def G9 : PC := addPC G8 8 kMd
def pNr := ParL.cons (.row SK) .nil
noncomputable def kNr := kOf pNr fun (xs, _) => { need := [], val := SN, news := [.row 27 SK (near xs)] }
noncomputable def G10 : PC := addPC G9 9 kNr
def pWp := ParL.cons (.row SK) (.cons pI (.cons pI (.cons pI .nil)))
noncomputable def kWp := kOf pWp fun (xs, r, i, j, _) => { need := [decide (lenI xs ≤ 1000000)], val := .tup [SN, .b (wOk xs r i j)], news := [.row 27 SK (wth xs r i j)] }
noncomputable def G11 : PC := addPC G10 16 kWp
def pIx := ParL.cons (.row SK) (.cons (.agg (.cons pI (.cons pI .nil))) .nil)
noncomputable def kIx := kOf pIx fun (xs, (r, q, _), _) => { need := [], val := ix (idx r q xs) }
noncomputable def G12 : PC := addPC G11 30 kIx
def pAtp := ParL.cons (.row SK) (.cons pI .nil)
noncomputable def kAtp := kOf pAtp fun (xs, r, _) => { need := [], val := .tup [ix (idx r 0 xs), ix (idx r 1 xs)] }
noncomputable def G13 : PC := addPC G12 19 kAtp
def pAtr := ParL.cons (.row SK) (.cons pI .nil)
noncomputable def kAtr := kOf pAtr fun (xs, r, _) => { need := [], val := .tup [ix (idx r 0 xs), ix (idx r 1 xs)] }
noncomputable def G14 : PC := addPC G13 20 kAtr
def pCln := ParL.cons (.row SK) .nil
noncomputable def kCln := kOf pCln fun (xs, _) => { need := [decide (lenI xs ≤ 1000000)], val := .row 1000000, news := [.row 27 SK xs] }
noncomputable def G15 : PC := addPC G14 32 kCln
def pWo := ParL.cons (.row SK) (.cons pI .nil)
noncomputable def kWo := kOf pWo fun (xs, r, _) => { need := [decide (lenI xs ≤ 1000000)], val := .part 1000000 0 (flt r xs).length false, news := [.row 27 SK (fltz r xs)] }
noncomputable def G16 : PC := addPC G15 21 kWo
def pWor := ParL.cons (.row SK) (.cons pI .nil)
noncomputable def kWor := kOf pWor fun (xs, r, _) => { need := [decide (lenI xs ≤ 1000000)], val := SN, news := [.row 27 SK (flt r xs)] }
noncomputable def G17 : PC := addPC G16 22 kWor
noncomputable def GK : PC := litPC G3
def pWk := ParL.nil
noncomputable def kWk := kOf pWk fun _ => { need := [], val := .v (.bool true) }
noncomputable def G18 : PC := addPC G17 15 kWk
end Go.Proofs.Ytbkninekhmnfdaa
