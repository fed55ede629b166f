/- Further contracts of the functions that the chapter's statements reach. No condition. -/
import Derived.Test.YtojdfjmkdplpkaaS0N
namespace Go.Proofs.Ytojdfjmkdplpkaa
open Go.Eng
set_option linter.unusedSimpArgs false
def pk (t : List (List Value)) (q k : Int) (i j : Nat) : Int := cond (decide (k = 0)) (rf t q i) (rf t q j)
def fzS (t : List (List Value)) (q k : Int) (z : TS) (d : Int) : TS := ⟨arr t q k z.n z.x z.y, max (arr t q k z.n z.x z.y) (wE t q k) + d, max (arr t q k z.n z.x z.y) (wE t q k) + d + sv t q k, pX t q k, pY t q k⟩
def fd (i b : Int) (k : Nat) : Int := cond (decide ((k : Int) = i)) b 0
def fz (t l : List (List Value)) (hx hy st i b : Int) : Nat → TS
  | 0 => ⟨0, 0, st, hx, hy⟩
  | k + 1 => fzS t (geti (l.getD k []) 0) (geti (l.getD k []) 1) (fz t l hx hy st i b k) (fd i b k)
def fA (t l : List (List Value)) (hx hy st i b : Int) (k : Nat) : Int := (fz t l hx hy st i b k).a
def fB (t l : List (List Value)) (hx hy st i b : Int) (k : Nat) : Int := (fz t l hx hy st i b k).b
def fN (t l : List (List Value)) (hx hy st i b : Int) (k : Nat) : Int := (fz t l hx hy st i b k).n
def fX (t l : List (List Value)) (hx hy st i b : Int) (k : Nat) : Int := (fz t l hx hy st i b k).x
def fY (t l : List (List Value)) (hx hy st i b : Int) (k : Nat) : Int := (fz t l hx hy st i b k).y
def fOk (t l : List (List Value)) (hx hy st i b : Int) (k : Nat) : Bool := decide (fB t l hx hy st i b (k + 1) ≤ wL t (geti (l.getD k []) 0) (geti (l.getD k []) 1))
def fRow (t l : List (List Value)) (hx hy st i b : Int) (k : Nat) : List Value := [.int .i64 (fA t l hx hy st i b (k + 1)), .int .i64 (fB t l hx hy st i b (k + 1)), .int .i64 (fN t l hx hy st i b (k + 1))]
def fRows (t l : List (List Value)) (hx hy st i b : Int) (n : Nat) : List (List Value) := (List.range n).map (fRow t l hx hy st i b)
def fEnd (t l : List (List Value)) (hx hy st i b : Int) : Int := fN t l hx hy st i b l.length + dist (fX t l hx hy st i b l.length) (fY t l hx hy st i b l.length) hx hy
def fIn (t l : List (List Value)) (hx hy st en i b : Int) : Bool := (List.range l.length).all (fOk t l hx hy st i b) && decide (fEnd t l hx hy st i b ≤ en)
def fromE (hx hy cap st en : Int) (l t : List (List Value)) (i b : Int) : Int := cond (decide (wrongE hx hy cap st en l t = 0)) (cond (fIn t l hx hy st en i b) 0 9) (wrongE hx hy cap st en l t)
def fromR (hx hy cap st en : Int) (l t : List (List Value)) (i b : Int) : List (List Value) := cond (decide (fromE hx hy cap st en l t i b = 0)) (fRows t l hx hy st i b l.length) []
def fromN (hx hy cap st en : Int) (l t : List (List Value)) (i b : Int) : Int := cond (decide (fromE hx hy cap st en l t i b = 0)) (fEnd t l hx hy st i b) 0
structure FInv (t l : List (List Value)) (hx hy st i b : Int) (k : Int) : Prop where
  k0 : 0 ≤ k
  k1 : k ≤ l.length
  ok : ∀ j, j < k.toNat → fOk t l hx hy st i b j = true
def frSpec (t l : List (List Value)) (hx hy st i b : Int) : LoopSpec where
  S := Int
  regs := fun k => [(17, K k), (15, A11 (fN t l hx hy st i b k.toNat)), (16, SN)]
  keep := [1, 2, 5]
  heap := fun k => [(14, .cells 29 [I (fX t l hx hy st i b k.toNat), I (fY t l hx hy st i b k.toNat)])]
  news := fun k => [.row 55 TK (fRows t l hx hy st i b k.toNat)]
  inv := FInv t l hx hy st i b
  mu := fun k => ((l.length : Int) - k).toNat
def frL (t l : List (List Value)) (hx hy st i b : Int) : LoopSpecs := fun g q => cond (Nat.beq g 18 && Nat.beq q 7) (some fun _ => frSpec t l hx hy st i b) none
def pRsp := ParL.cons pS (.cons (.row RK) .nil)
noncomputable def kRsp := kOf pRsp fun ((q, k, _), t, _) => { need := [decide (0 ≤ q ∧ q < lenI t)], val := .tup [.agg [I (pk t q k 0 2), I (pk t q k 1 3)], .agg [I (pk t q k 4 6), I (pk t q k 5 7)]] }
noncomputable def G35 : PC := addPC G34 31 kRsp
def pFr := ParL.cons pVeh (.cons (.row SK) (.cons (.row RK) (.cons pI (.cons pI .nil))))
noncomputable def kFr := kOf pFr fun ((hx, hy, cap, st, en, _), l, t, i, b, _) => { need := [decide (0 ≤ b ∧ b ≤ 1048577)], val := .tup [SN, T20 (fromN hx hy cap st en l t i b), B (fromE hx hy cap st en l t i b) 0 9], news := [.row 55 TK (fromR hx hy cap st en l t i b)] }
noncomputable def G36 : PC := addPC G35 18 kFr
def fltI (hx hy st en : Int) (l t : List (List Value)) (i : Int) : Int := lat t l hx hy en (l.length - i.toNat) - tB t l hx hy st (i.toNat + 1)
def rlSpec (xs l : List (List Value)) : LoopSpec where
  S := Int
  regs := fun k => [(12, K k), (11, SN)]
  keep := [1, 2, 3, 8]
  heap := fun _ => []
  news := fun k => [.row 3 PK (xs.take k.toNat)]
  inv := fun k => 0 ≤ k ∧ k ≤ l.length
  mu := fun k => ((l.length : Int) - k).toNat
structure BS where
  lo : Int
  hi : Int
def bsSpec (F : Int) : LoopSpec where
  S := BS
  regs := fun s => [(13, .i .i64 s.lo 0 1048577), (14, .i .i64 s.hi 0 1048577)]
  keep := [1, 2, 3, 8, 11]
  heap := fun _ => []
  inv := fun s => 0 ≤ s.lo ∧ s.lo ≤ F ∧ F < s.hi ∧ s.hi ≤ 1048577
  mu := fun s => (s.hi - s.lo).toNat
def rlL (hx hy cap st en : Int) (l t : List (List Value)) : LoopSpecs := fun g q => cond (Nat.beq g 17) (cond (Nat.beq q 6) (some fun _ => rlSpec (latest hx hy cap st en l t) l) (cond (Nat.beq q 9) (some fun s => bsSpec (fltI hx hy st en l t (intAt s 12))) none)) none
def pRlt := ParL.cons pVeh (.cons (.row SK) (.cons (.row RK) .nil))
noncomputable def kRlt := kOf pRlt fun ((hx, hy, cap, st, en, _), l, t, _) => { need := [], val := .tup [SN, B (timesE hx hy cap st en l t) 0 9], news := [.row 3 PK (latest hx hy cap st en l t)] }
noncomputable def G37 : PC := addPC G36 17 kRlt
def pRpu := ParL.cons pVeh (.cons (.row SK) (.cons (.row RK) (.cons pI (.cons pI .nil))))
noncomputable def kRpu := kOf pRpu fun ((hx, hy, cap, st, en, _), l, t, i, b, _) => { need := [], val := .tup [SN, B (pushN hx hy cap st en l t i b) 0 1048576, B (pushE hx hy cap st en l t i b) 0 9], news := [.row 55 TK (pushR hx hy cap st en l t i b)] }
noncomputable def G38 : PC := addPC G37 19 kRpu
def inSpec (xs ys : List (List Value)) : LoopSpec where
  S := Int
  regs := fun k => [(5, K k)]
  keep := [0, 1]
  heap := fun _ => []
  inv := fun k => 0 ≤ k ∧ k ≤ xs.length ∧ xs.take k.toNat = ys.take k.toNat
  mu := fun k => ((xs.length : Int) - k).toNat
def inL (xs ys : List (List Value)) : LoopSpecs := fun g i => cond (Nat.beq g 14 && Nat.beq i 4) (some fun _ => inSpec xs ys) none
def tdSpec (xs : List (List Value)) : LoopSpec where
  S := Int
  regs := fun k => [(18, K k)]
  keep := [1, 2, 4, 7, 11, 13, 15]
  heap := fun _ => []
  inv := fun k => 0 ≤ k ∧ k ≤ xs.length
  mu := fun k => ((xs.length : Int) - k).toNat
def tdL (xs : List (List Value)) : LoopSpecs := fun g i => cond (Nat.beq g 8 && Nat.beq i 8) (some fun _ => tdSpec xs) none
def pInts := ParL.cons (.row PK) (.cons (.row PK) .nil)
noncomputable def kInts := kOf pInts fun (xs, ys, _) => { need := [], val := .b (dB (xs = ys)) }
noncomputable def G39 : PC := addPC G38 14 kInts
def pTd := ParL.cons pVeh (.cons (.row SK) (.cons (.row RK) (.cons (.agg (.cons pI (.cons pI .nil))) .nil)))
noncomputable def kTd := kOf pTd fun ((hx, hy, cap, st, en, _), l, t, (i, b, _), _) => { need := [], val := .v (.bool true) }
noncomputable def G40 : PC := addPC G39 8 kTd
end Go.Proofs.Ytojdfjmkdplpkaa
