/- Further contracts of the functions that the chapter's statements reach. No condition. -/
import Derived.Test.YtfhjnececgoadaaDoorS9P
import Derived.Test.YtfhjnececgoadaaDoorF9Td
import Derived.Test.YtfhjnececgoadaaDoorV4P
namespace Go.Proofs.YtfhjnececgoadaaDoor
open Go.Eng
set_option linter.unusedSimpArgs false
noncomputable def G26 : PC := addPC G25 40 kAs
def FK : List Kd := [.int .i64, .int .i64, .int .i64]
def pk (t : List (List Value)) (q k : Int) (i j : Nat) : Int := cond (decide (k = 0)) (rf t q i) (rf t q j)
def sq (l : List (List Value)) (i : Nat) : Int := geti (l.getD i []) 0
def sk (l : List (List Value)) (i : Nat) : Int := geti (l.getD i []) 1
def inL (t : List (List Value)) (q : Int) : Bool := decide (0 ≤ q) && decide (q < lenI t)
def rngs (l t : List (List Value)) : Bool := l.all fun s => inL t (geti s 0)
def brd1 (t : List (List Value)) (x : List Value) : Int := cond (decide (geti x 1 = 0)) (rf t (geti x 0) 8) (0 - rf t (geti x 0) 8)
def brd (t : List (List Value)) : List (List Value) → Int
  | [] => 0
  | x :: l => brd1 t x + brd t l
def lzS (t : List (List Value)) (q k : Int) (z : TS) : TS := ⟨z.n + dist z.x z.y (pk t q k 0 2) (pk t q k 1 3), max (z.n + dist z.x z.y (pk t q k 0 2) (pk t q k 1 3)) (pk t q k 4 6), max (z.n + dist z.x z.y (pk t q k 0 2) (pk t q k 1 3)) (pk t q k 4 6) + rf t q 9, pk t q k 0 2, pk t q k 1 3⟩
def lz (t l : List (List Value)) (hx hy st : Int) : Nat → TS
  | 0 => ⟨0, 0, st, hx, hy⟩
  | k + 1 => lzS t (sq l k) (sk l k) (lz t l hx hy st k)
def lB (t l : List (List Value)) (hx hy st : Int) (k : Nat) : Int := (lz t l hx hy st k).b
def lN (t l : List (List Value)) (hx hy st : Int) (k : Nat) : Int := (lz t l hx hy st k).n
def lX (t l : List (List Value)) (hx hy st : Int) (k : Nat) : Int := (lz t l hx hy st k).x
def lY (t l : List (List Value)) (hx hy st : Int) (k : Nat) : Int := (lz t l hx hy st k).y
def stB (t l : List (List Value)) (q k : Int) : Bool := inR t q k && (decide (cnt q 0 l = k) && decide (cnt q 1 l = 0))
def okS (t l : List (List Value)) (i : Nat) : Bool := stB t (l.take i) (sq l i) (sk l i)
def stE (t l : List (List Value)) (hx hy cap st : Int) (i : Nat) : Int := cond (decide (16 ≤ i)) 11 (cond (okS t l i) (cond (decide (cap < brd t (l.take (i + 1)))) 10 (cond (decide (pk t (sq l i) (sk l i) 5 7 < lB t l hx hy st (i + 1))) 9 0)) 8)
structure FT where
  c : Int
  p : Int
  i : Int
def fgood (g : Nat → Bool) : Nat → Nat
  | 0 => 0
  | n + 1 => cond (decide (fgood g n < n)) (fgood g n) (cond (g n) (n + 1) n)
def reqG (t : List (List Value)) (i : Nat) : Bool := decide (chkR (t.getD i []) = 0)
def stG (t l : List (List Value)) (hx hy cap st : Int) (i : Nat) : Bool := decide (stE t l hx hy cap st i = 0)
def lEnd (t l : List (List Value)) (hx hy st : Int) : Int := lN t l hx hy st l.length + dist (lX t l hx hy st l.length) (lY t l hx hy st l.length) hx hy
def chkT (hx hy cap st en : Int) (l t : List (List Value)) : FT := cond (decide (fgood (stG t l hx hy cap st) l.length = l.length)) (cond (decide (0 < brd t l)) ⟨8, 3, l.length⟩ (cond (decide (en < lEnd t l hx hy st)) ⟨9, 3, l.length⟩ ⟨0, 0, 0⟩)) ⟨stE t l hx hy cap st (fgood (stG t l hx hy cap st) l.length), 2, (fgood (stG t l hx hy cap st) l.length : Nat)⟩
def chkF (hx hy cap st en : Int) (l t : List (List Value)) : FT := cond (decide (veh hx hy cap st en = 0)) (cond (decide (fgood (reqG t) t.length = t.length)) (chkT hx hy cap st en l t) ⟨2, 1, (fgood (reqG t) t.length : Nat)⟩) ⟨2, 0, 0⟩
def fltR (f : FT) : List (List Value) := cond (decide (f.c = 0)) [] [[.int .i64 f.c, .int .i64 f.p, .int .i64 f.i]]
def mnL (r k : Int) (xs : List (List Value)) : LoopSpecs := fun g i => cond (Nat.beq g 90 && Nat.beq i 3) (some fun _ => cntSpec r k xs) none
def boSpec (t l : List (List Value)) : LoopSpec where
  S := Int
  regs := fun j => [(6, K j), (5, I (W (brd t (l.take j.toNat))))]
  keep := [0, 1]
  heap := fun _ => []
  inv := fun j => 0 ≤ j ∧ j ≤ l.length
  mu := fun j => ((l.length : Int) - j).toNat
def boL (t l : List (List Value)) : LoopSpecs := fun g i => cond (Nat.beq g 55 && Nat.beq i 3) (some fun _ => boSpec t l) none
def leSpec (t l : List (List Value)) (hx hy st : Int) : LoopSpec where
  S := Int
  regs := fun j => [(10, K j), (9, A11 (lN t l hx hy st j.toNat))]
  keep := [1, 2, 6]
  heap := fun j => [(8, .cells 32 [I (lX t l hx hy st j.toNat), I (lY t l hx hy st j.toNat)])]
  inv := fun j => 0 ≤ j ∧ j ≤ l.length
  mu := fun j => ((l.length : Int) - j).toNat
def leL (t l : List (List Value)) (hx hy st : Int) : LoopSpecs := fun g i => cond (Nat.beq g 56 && Nat.beq i 3) (some fun _ => leSpec t l hx hy st) none
def ck1Spec (t : List (List Value)) : LoopSpec where
  S := Int
  regs := fun k => [(7, K k)]
  keep := [1, 2, 3, 6]
  heap := fun _ => []
  inv := fun k => 0 ≤ k ∧ k ≤ t.length ∧ ∀ j, j < k.toNat → reqG t j = true
  mu := fun k => ((t.length : Int) - k).toNat
def ck2Spec (t l : List (List Value)) (hx hy cap st : Int) : LoopSpec where
  S := Int
  regs := fun k => [(8, K k)]
  keep := [1, 2, 3, 6]
  heap := fun _ => []
  inv := fun k => 0 ≤ k ∧ k ≤ l.length ∧ ∀ j, j < k.toNat → stG t l hx hy cap st j = true
  mu := fun k => ((l.length : Int) - k).toNat
def ckrL (t l : List (List Value)) (hx hy cap st : Int) : LoopSpecs := fun g i => cond (Nat.beq g 27) (cond (Nat.beq i 4) (some fun _ => ck1Spec t) (cond (Nat.beq i 9) (some fun _ => ck2Spec t l hx hy cap st) none)) none
def pQpl := ParL.cons pS (.cons (.row RK) .nil)
noncomputable def kQpl := kOf pQpl fun ((q, k, _), t, _) => { need := [inL t q], val := .agg [I (pk t q k 0 2), I (pk t q k 1 3)] }
noncomputable def G27 : PC := addPC G26 28 kQpl
def pQwi := ParL.cons pS (.cons (.row RK) .nil)
noncomputable def kQwi := kOf pQwi fun ((q, k, _), t, _) => { need := [inL t q], val := .agg [I (pk t q k 4 6), I (pk t q k 5 7)] }
noncomputable def G28 : PC := addPC G27 30 kQwi
def pQmn := ParL.cons (.row SK) (.cons (.agg (.cons pI (.cons pI .nil))) .nil)
noncomputable def kQmn := kOf pQmn fun (xs, (r, k, _), _) => { need := [], val := K (cnt r k xs) }
noncomputable def G29 : PC := addPC G28 90 kQmn
def pQst := ParL.cons (.row SK) (.cons pS (.cons (.row RK) .nil))
noncomputable def kQst := kOf pQst fun (l, (q, k, _), t, _) => { need := [], val := .b (stB t l q k) }
noncomputable def G30 : PC := addPC G29 80 kQst
def pQbo := ParL.cons (.row SK) (.cons (.row RK) .nil)
noncomputable def kQbo := kOf pQbo fun (l, t, _) => { need := [rngs l t], val := I (W (brd t l)) }
noncomputable def G31 : PC := addPC G30 55 kQbo
def pQle := ParL.cons pVeh (.cons (.row SK) (.cons (.row RK) .nil))
noncomputable def kQle := kOf pQle fun ((hx, hy, cap, st, en, _), l, t, _) => { need := [rngs l t, reqsOk t, decide (0 ≤ st ∧ st ≤ 1048576), decide (lenI l ≤ 16)], val := .tup [.agg [I (lX t l hx hy st l.length), I (lY t l hx hy st l.length)], A11 (lN t l hx hy st l.length)] }
noncomputable def G32 : PC := addPC G31 56 kQle
def pQsp := ParL.cons pVeh (.cons (.row SK) (.cons (.row RK) .nil))
noncomputable def kQsp := kOf pQsp fun ((hx, hy, cap, st, en, _), l, t, _) => { need := [rngs (l.take (l.length - 1)) t, reqsOk t, decide (0 ≤ st ∧ st ≤ 1048576), decide (1 ≤ lenI l)], val := B (stE t l hx hy cap st (l.length - 1)) 0 11 }
noncomputable def G33 : PC := addPC G32 54 kQsp
def pQck := ParL.cons pVeh (.cons (.row SK) (.cons (.row RK) .nil))
noncomputable def kQck := kOf pQck fun ((hx, hy, cap, st, en, _), l, t, _) => { need := [], val := .agg [B (chkF hx hy cap st en l t).c 0 11, B (chkF hx hy cap st en l t).p 0 3, K (chkF hx hy cap st en l t).i] }
noncomputable def G34 : PC := addPC G33 27 kQck
structure FcS where
  k : Int
  m : List (Int × List Value)
def Z1 : List Value := [.int .i64 0]
structure FcI (t l : List (List Value)) (hx hy cap st : Int) (s : FcS) : Prop where
  k0 : 0 ≤ s.k
  k1 : s.k ≤ l.length
  ok : ∀ j, j < s.k.toNat → stG t l hx hy cap st j = true
  m : ∀ r, geti (mget s.m r Z1) 0 = cnt r 0 (l.take s.k.toNat) + cnt r 1 (l.take s.k.toNat)
def fc1Spec (t : List (List Value)) : LoopSpec where
  S := Int
  regs := fun k => [(22, K k)]
  keep := [1, 2, 3, 20]
  heap := fun _ => []
  inv := fun k => 0 ≤ k ∧ k ≤ t.length ∧ ∀ j, j < k.toNat → reqG t j = true
  mu := fun k => ((t.length : Int) - k).toNat
def fc2Spec (r m : Nat) (t l : List (List Value)) (hx hy cap st en : Int) : LoopSpec where
  S := FcS
  regs := fun s => [(44, K s.k), (10, .v (.int .i64 0))]
  keep := [1, 2, 3, 42]
  heap := fun s => [(9, .cells 87 [I hx, I hy, I cap, I st, I en, .row r, .mp m, I (lX t l hx hy st s.k.toNat), I (lY t l hx hy st s.k.toNat), A11 (lN t l hx hy st s.k.toNat), .i .i64 (brd t (l.take s.k.toNat)) (-100000) 100000]), (35, .map .i64 [.int .i64] false s.m)]
  inv := FcI t l hx hy cap st
  mu := fun s => ((l.length : Int) - s.k).toNat
def fcL (t l : List (List Value)) (hx hy cap st en : Int) : LoopSpecs := fun g i => cond (Nat.beq g 17) (cond (Nat.beq i 4) (some fun _ => fc1Spec t) (cond (Nat.beq i 12) (some fun s => fc2Spec (slotOf s 2) (slotOf s 35) t l hx hy cap st en) none)) none
def pFpa := ParL.cons pS (.cons pReq .nil)
noncomputable def kFpa := kOf pFpa fun ((q, k, _), (fx, fy, tx, ty, pe, pl, de, dl, lo, se, _), _) => { need := [], val := .tup [.agg [I (cond (decide (k = 0)) fx tx), I (cond (decide (k = 0)) fy ty)], .agg [I (cond (decide (k = 0)) pe de), I (cond (decide (k = 0)) pl dl)]] }
noncomputable def G35 : PC := addPC G34 31 kFpa
def pFck := ParL.cons pVeh (.cons (.row SK) (.cons (.row RK) .nil))
noncomputable def kFck := kOf pFck fun ((hx, hy, cap, st, en, _), l, t, _) => { need := [], val := .er (decide ((chkF hx hy cap st en l t).c = 0)) 90 false 1000000, news := [.row 57 FK (fltR (chkF hx hy cap st en l t))] }
noncomputable def G36 : PC := addPC G35 17 kFck
def rN (ts : List (List Value)) (st : Int) : Nat → Int
  | 0 => st
  | k + 1 => geti (ts.getD k []) 2
def rOk (t l ts : List (List Value)) (hx hy st : Int) (i : Nat) : Bool := decide (rN ts st i + dist (lX t l hx hy st i) (lY t l hx hy st i) (pk t (sq l i) (sk l i) 0 2) (pk t (sq l i) (sk l i) 1 3) ≤ geti (ts.getD i []) 0 ∧ geti (ts.getD i []) 0 ≤ geti (ts.getD i []) 1 ∧ pk t (sq l i) (sk l i) 4 6 ≤ geti (ts.getD i []) 1 ∧ geti (ts.getD i []) 1 ≤ pk t (sq l i) (sk l i) 5 7 ∧ geti (ts.getD i []) 2 = geti (ts.getD i []) 1 + rf t (sq l i) 9)
def boB (t l : List (List Value)) (cap : Int) (i : Nat) : Bool := decide (brd t (l.take (i + 1)) ≤ cap)
def mayB (hx hy cap st en : Int) (l t : List (List Value)) : Bool := decide (veh hx hy cap st en = 0) && (decide (checkE l = 0) && (reqsOk t && (rngs l t && (List.range l.length).all (boB t l cap))))
def rEnd (t l ts : List (List Value)) (hx hy st : Int) : Int := rN ts st l.length + dist (lX t l hx hy st l.length) (lY t l hx hy st l.length) hx hy
def rightB (hx hy cap st en : Int) (l t ts : List (List Value)) : Bool := mayB hx hy cap st en l t && (decide (ts.length = l.length) && ((List.range l.length).all (rOk t l ts hx hy st) && decide (rEnd t l ts hx hy st ≤ en)))
def my1Spec (t : List (List Value)) : LoopSpec where
  S := Int
  regs := fun k => [(7, K k)]
  keep := [1, 2, 3]
  heap := fun _ => []
  inv := fun k => 0 ≤ k ∧ k ≤ t.length ∧ ∀ j, j < k.toNat → reqG t j = true
  mu := fun k => ((t.length : Int) - k).toNat
def my2Spec (t l : List (List Value)) : LoopSpec where
  S := Int
  regs := fun k => [(8, K k)]
  keep := [1, 2, 3]
  heap := fun _ => []
  inv := fun k => 0 ≤ k ∧ k ≤ l.length ∧ ∀ j, j < k.toNat → geti (l.getD j []) 0 < t.length
  mu := fun k => ((l.length : Int) - k).toNat
def my3Spec (t l : List (List Value)) (cap : Int) : LoopSpec where
  S := Int
  regs := fun k => [(9, K k)]
  keep := [1, 2, 3]
  heap := fun _ => []
  inv := fun k => 0 ≤ k ∧ k ≤ l.length ∧ ∀ j, j < k.toNat → boB t l cap j = true
  mu := fun k => ((l.length : Int) - k).toNat
def myL (t l : List (List Value)) (cap : Int) : LoopSpecs := fun g i => cond (Nat.beq g 33) (cond (Nat.beq i 4) (some fun _ => my1Spec t) (cond (Nat.beq i 9) (some fun _ => my2Spec t l) (cond (Nat.beq i 14) (some fun _ => my3Spec t l cap) none))) none
def riSpec (a b : Nat) (kp : List Nat) (t l ts : List (List Value)) (hx hy st : Int) : LoopSpec where
  S := Int
  regs := fun k => [(a, K k), (b, A11 (rN ts st k.toNat))]
  keep := kp
  heap := fun k => [(9, .cells 32 [I (lX t l hx hy st k.toNat), I (lY t l hx hy st k.toNat)])]
  inv := fun k => 0 ≤ k ∧ k ≤ l.length ∧ ∀ j, j < k.toNat → rOk t l ts hx hy st j = true
  mu := fun k => ((l.length : Int) - k).toNat
def riL (t l ts : List (List Value)) (hx hy st : Int) : LoopSpecs := fun g i => cond (Nat.beq i 5) (cond (Nat.beq g 14) (some fun _ => riSpec 34 10 [1, 2, 3, 4, 32] t l ts hx hy st) (cond (Nat.beq g 15) (some fun _ => riSpec 11 10 [1, 2, 3, 4] t l ts hx hy st) none)) none
def pTdE := ParL.cons (.er 90 false FK) .nil
noncomputable def kTdE := kOf pTdE fun ((p, xs), _) => { need := [!p], val := .agg [I (geti (xs.getD 0 []) 0), I (geti (xs.getD 0 []) 1), I (geti (xs.getD 0 []) 2)] }
noncomputable def G37 : PC := addPC G36 18 kTdE
def pTdI := ParL.cons (.ifc 90 (.ptr (.cons pI (.cons pI (.cons pI .nil))))) .nil
noncomputable def kTdI := kOf pTdI fun ((a, b, d, _), _) => { need := [], val := .agg [I a, I b, I d] }
noncomputable def G38 : PC := addPC G37 18 kTdI
noncomputable def kTold : Ctr := kOr kTdE kTdI
noncomputable def G39 : PC := addPC G38 18 kTold
def pAl := ParL.cons pVeh (.cons (.row SK) (.cons (.row RK) .nil))
noncomputable def kAl := kOf pAl fun ((hx, hy, cap, st, en, _), l, t, _) => { need := [], val := .v (.bool true) }
noncomputable def G40 : PC := addPC G39 12 kAl
def pQmy := ParL.cons pVeh (.cons (.row SK) (.cons (.row RK) .nil))
noncomputable def kQmy := kOf pQmy fun ((hx, hy, cap, st, en, _), l, t, _) => { need := [], val := .b (mayB hx hy cap st en l t) }
noncomputable def G41 : PC := addPC G40 33 kQmy
def pQri := ParL.cons pVeh (.cons (.row SK) (.cons (.row RK) (.cons (.row TK) .nil)))
noncomputable def kQri := kOf pQri fun ((hx, hy, cap, st, en, _), l, t, ts, _) => { need := [], val := .b (rightB hx hy cap st en l t ts) }
noncomputable def G42 : PC := addPC G41 15 kQri
def pFri := ParL.cons pVeh (.cons (.row SK) (.cons (.row RK) (.cons (.row TK) .nil)))
noncomputable def kFri := kOf pFri fun ((hx, hy, cap, st, en, _), l, t, ts, _) => { need := [], val := .b (rightB hx hy cap st en l t ts) }
noncomputable def G43 : PC := addPC G42 14 kFri
def pTol := ParL.cons (.er 90 false FK) (.cons pI (.cons pI (.cons pI .nil)))
noncomputable def kTol := kOf pTol fun ((p, xs), a, b, d, _) => { need := [], val := .b (!p && (decide (geti (xs.getD 0 []) 0 = a) && (decide (geti (xs.getD 0 []) 1 = b) && decide (geti (xs.getD 0 []) 2 = d)))) }
noncomputable def G44 : PC := addPC G43 20 kTol
noncomputable def GW : PC := litPC G44
def pWk := ParL.nil
noncomputable def kWk := kOf pWk fun _ => { need := [], val := .v (.bool true) }
noncomputable def G45 : PC := addPC G44 16 kWk
end Go.Proofs.YtfhjnececgoadaaDoor
