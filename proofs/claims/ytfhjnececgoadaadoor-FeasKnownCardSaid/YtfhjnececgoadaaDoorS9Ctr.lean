/- Contracts of the functions that the chapter's statements reach: what each answers, as plain functions. No condition. -/
import Derived.Test.YtfhjnececgoadaaDoorRows
import Derived.Test.YtfhjnececgoadaaDoorV4O
namespace Go.Proofs.YtfhjnececgoadaaDoor
open Go.Eng
theorem mixed : Tryd.prog.follows .mixedOrders = true := by kernel_rfl
def GL : PC := litPC noPC
theorem okGL : PCok Tryd.prog GL := litPC_ok noPC_ok
def G0 : PC := noPC
def I (n : Int) : SV := .i .i64 n (-9223372036854775808) 9223372036854775807
def K (n : Int) : SV := .i .i64 n 0 9223372036854775807
def pI : Par Int := .int .i64 (-9223372036854775808) 9223372036854775807
def mI : ParM Int := .of pI fun _ _ => rfl
def SK : List Kd := [.int .i64, .int .i64]
def pr (r k : Int) : List Value := [.int .i64 r, .int .i64 k]
noncomputable def dB (p : Prop) : Bool := @decide p (Classical.propDecidable p)
def isS (r k : Int) (x : List Value) : Bool := decide (geti x 0 = r) && decide (geti x 1 = k)
def cnt (r k : Int) : List (List Value) → Int
  | [] => 0
  | x :: l => cond (isS r k x) 1 0 + cnt r k l
def okAt (xs : List (List Value)) (i : Nat) : Bool :=
  decide (0 ≤ geti (xs.getD i []) 0) && ((decide (geti (xs.getD i []) 1 = 0) || decide (geti (xs.getD i []) 1 = 1)) && (decide (cnt (geti (xs.getD i []) 0) 0 xs = 1) && (decide (cnt (geti (xs.getD i []) 0) 1 xs = 1) &&
    (!decide (geti (xs.getD i []) 1 = 1) || decide (cnt (geti (xs.getD i []) 0) 0 (xs.take i) = 1)))))
def okB (xs : List (List Value)) : Bool := (List.range xs.length).all fun i => okAt xs i
def checkE (xs : List (List Value)) : Int := cond (decide (16 < lenI xs)) 11 (cond (okB xs) 0 8)
def cntSpec (r k : Int) (xs : List (List Value)) : LoopSpec where
  S := Int
  regs := fun j => [(6, K j), (5, K (cnt r k (xs.take j.toNat)))]
  keep := [0, 3]
  heap := fun _ => []
  inv := fun j => 0 ≤ j ∧ j ≤ xs.length
  mu := fun j => ((xs.length : Int) - j).toNat
def cntL (r k : Int) (xs : List (List Value)) : LoopSpecs := fun g i => cond (Nat.beq g 82 && Nat.beq i 3) (some fun _ => cntSpec r k xs) none
def rckSpec (xs : List (List Value)) : LoopSpec where
  S := Int
  regs := fun j => [(3, K j)]
  keep := [0]
  heap := fun _ => []
  inv := fun j => 0 ≤ j ∧ j ≤ xs.length ∧ ∀ i, i < j.toNat → okAt xs i = true
  mu := fun j => ((xs.length : Int) - j).toNat
def rckL (xs : List (List Value)) : LoopSpecs := fun g i => cond (Nat.beq g 61 && Nat.beq i 4) (some fun _ => rckSpec xs) none
structure CkS where
  j : Int
  m : List (Int × List Value)
def stepOk (xs : List (List Value)) (i : Nat) : Prop := 0 ≤ geti (xs.getD i []) 0 ∧ ((geti (xs.getD i []) 1 = 0 ∧ cnt (geti (xs.getD i []) 0) 0 (xs.take i) = 0 ∧ cnt (geti (xs.getD i []) 0) 1 (xs.take i) = 0) ∨
  (geti (xs.getD i []) 1 = 1 ∧ cnt (geti (xs.getD i []) 0) 0 (xs.take i) = 1 ∧ cnt (geti (xs.getD i []) 0) 1 (xs.take i) = 0))
structure MInv (xs : List (List Value)) (m : List (Int × List Value)) : Prop where
  all : ∀ x ∈ m, x.2 = pr (cnt x.1 0 xs) (cnt x.1 1 xs)
  nd : (m.map (·.1)).Nodup
  has : ∀ r, mget m r (pr 0 0) = pr (cnt r 0 xs) (cnt r 1 xs)
structure CkI (xs : List (List Value)) (s : CkS) : Prop where
  j0 : 0 ≤ s.j
  j1 : s.j ≤ xs.length
  ok : ∀ i, i < s.j.toNat → stepOk xs i
  mi : MInv (xs.take s.j.toNat) s.m
def ckSpec (xs : List (List Value)) : LoopSpec where
  S := CkS
  regs := fun s => [(15, K s.j), (2, .v (.int .i64 0))]
  keep := [0, 13]
  heap := fun s => [(3, .map .i64 SK true s.m)]
  inv := CkI xs
  mu := fun s => ((xs.length : Int) - s.j).toNat
structure WkS where
  seen : List Nat
  e : Int
def bad (m : List (Int × List Value)) (j : Nat) : Prop := geti (m.getD j (0, [])).2 0 ≠ geti (m.getD j (0, [])).2 1
structure WkI (m : List (Int × List Value)) (e0 : Int) (s : WkS) : Prop where
  lt : ∀ j ∈ s.seen, j < m.length
  nd : s.seen.Nodup
  e : (s.e = 8 ∧ (e0 = 8 ∨ ∃ j ∈ s.seen, bad m j)) ∨ (s.e = 0 ∧ e0 = 0 ∧ ∀ j ∈ s.seen, ¬ bad m j)
def walkSpec (mi : Nat) (m : List (Int × List Value)) (e0 : Int) : LoopSpec where
  S := WkS
  regs := fun s => [(2, .i .i64 s.e 0 8)]
  keep := [3]
  heap := fun s => [(59, .iter mi m.length s.seen)]
  inv := WkI m e0
  mu := fun s => m.length + 1 - s.seen.length
def ckL (xs : List (List Value)) : LoopSpecs := fun g i => cond (Nat.beq g 70) (cond (Nat.beq i 5) (some fun _ => ckSpec xs) (cond (Nat.beq i 17) (some fun st => walkSpec (slotOf st 3) (mapAt st 3) (intAt st 2)) none)) none
def pCnt := ParL.cons (.row SK) (.cons (.agg (.cons pI (.cons pI .nil))) .nil)
noncomputable def kCnt := kOf pCnt fun (xs, (r, k, _), _) => { need := [], val := K (cnt r k xs) }
noncomputable def G1 : PC := addPC G0 82 kCnt
def pRck := ParL.cons (.row SK) .nil
noncomputable def kRck := kOf pRck fun (xs, _) => { need := [], val := .i .i64 (checkE xs) 0 11 }
noncomputable def G2 : PC := addPC G1 61 kRck
def pCk := ParL.cons (.row SK) .nil
noncomputable def kCk := kOf pCk fun (xs, _) => { need := [], val := .i .i64 (checkE xs) 0 11 }
noncomputable def G3 : PC := addPC G2 70 kCk
noncomputable def GK : PC := litPC G3
abbrev PM (a b : Int) : Prop := 0 ≤ a ∧ a ≤ 1023 ∧ 0 ≤ b ∧ b ≤ 1023
abbrev WM (a b : Int) : Prop := 0 ≤ a ∧ a ≤ b ∧ b ≤ 1048576
def apart (a b : Int) : Int := max a b - min a b
def dist (a b c d : Int) : Int := if PM a b ∧ PM c d then apart a c + apart b d else 0
abbrev Wait (a b t : Int) : Prop := WM a b ∧ max t a ≤ b
def waitN (a b t : Int) : Int := if Wait a b t then max t a else 0
abbrev Chk (fx fy tx ty pe pl de dl lo se : Int) : Prop := PM fx fy ∧ PM tx ty ∧ WM pe pl ∧ WM de dl ∧ (1 ≤ lo ∧ lo ≤ 1000) ∧ (0 ≤ se ∧ se ≤ 1000)
def chk (fx fy tx ty pe pl de dl lo se : Int) : Int := if ¬ (PM fx fy ∧ PM tx ty) then 4 else if ¬ (WM pe pl ∧ WM de dl) then 5 else if ¬ ((1 ≤ lo ∧ lo ≤ 1000) ∧ (0 ≤ se ∧ se ≤ 1000)) then 6 else 0
def veh (hx hy cap st en : Int) : Int := if ¬ PM hx hy then 4 else if ¬ ((1 ≤ cap ∧ cap ≤ 100000) ∧ (0 ≤ st ∧ st ≤ en) ∧ (0 ≤ en ∧ en ≤ 1048576)) then 7 else 0
def plS (a b : Int) : SV := .agg [I a, I b]
def B (n lo hi : Int) : SV := .i .i64 n lo hi
def T20 (n : Int) : SV := .i .i64 n 0 1048576
def pPl : Par (Int × Int × Unit) := .agg (.cons pI (.cons pI .nil))
def pReq : Par (Int × Int × Int × Int × Int × Int × Int × Int × Int × Int × Unit) := .agg (.cons pI (.cons pI (.cons pI (.cons pI (.cons pI (.cons pI (.cons pI (.cons pI (.cons pI (.cons pI .nil))))))))))
def pVeh : Par (Int × Int × Int × Int × Int × Unit) := .agg (.cons pI (.cons pI (.cons pI (.cons pI (.cons pI .nil)))))
def req (fx fy tx ty pe pl de dl lo se : Int) : SV := .agg [I fx, I fy, I tx, I ty, I pe, I pl, I de, I dl, I lo, I se]
def vehS (hx hy cap st en : Int) : SV := .agg [I hx, I hy, I cap, I st, I en]
def NK : List Kd := [.bool, .int .i64]
def nd : List (List Value) → Int
  | [] => 0
  | x :: l => cond (getb x 0) (nd l) (geti x 1)
def ndSpec (xs : List (List Value)) : LoopSpec where
  S := Int
  regs := fun k => [(7, K k)]
  keep := [5]
  heap := fun _ => []
  inv := fun k => 0 ≤ k ∧ k ≤ xs.length ∧ nd (xs.drop k.toNat) = nd xs
  mu := fun k => ((xs.length : Int) - k).toNat
def ndL (xs : List (List Value)) : LoopSpecs := fun g i => cond (Nat.beq g 62 && Nat.beq i 2) (some fun _ => ndSpec xs) none
def apSpec (a b : Int) : LoopSpec where
  S := Int
  regs := fun i => [(5, I (IntKind.i64.wrap (i - min a b))), (6, I i)]
  keep := []
  heap := fun _ => []
  inv := fun i => min a b ≤ i ∧ i ≤ max a b
  mu := fun i => (max a b - i).toNat
def apL (a b : Int) : LoopSpecs := fun g i => cond (Nat.beq g 58 && Nat.beq i 3) (some fun _ => apSpec a b) none
def pOn := ParL.cons pI .nil
noncomputable def kOn := kOf pOn fun (a, _) => { need := [], val := .b (decide (0 ≤ a ∧ a ≤ 1023)) }
noncomputable def G4 : PC := addPC G3 81 kOn
def pPMay := ParL.cons pPl .nil
noncomputable def kPMay := kOf pPMay fun ((a, b, _), _) => { need := [], val := .b (decide (PM a b)) }
noncomputable def G5 : PC := addPC G4 59 kPMay
def pPMr := ParL.cons pPl .nil
noncomputable def kPMr := kOf pPMr fun ((a, b, _), _) => { need := [], val := .b (decide (PM a b)) }
noncomputable def G6 : PC := addPC G5 57 kPMr
def pWMay := ParL.cons pPl .nil
noncomputable def kWMay := kOf pWMay fun ((a, b, _), _) => { need := [], val := .b (decide (WM a b)) }
noncomputable def G7 : PC := addPC G6 64 kWMay
def pWMr := ParL.cons pPl .nil
noncomputable def kWMr := kOf pWMr fun ((a, b, _), _) => { need := [], val := .b (decide (WM a b)) }
noncomputable def G8 : PC := addPC G7 79 kWMr
def pWi := ParL.cons pI (.cons pI (.cons pI .nil))
noncomputable def kWi := kOf pWi fun (n, a, b, _) => { need := [], val := .b (decide (a ≤ n ∧ n ≤ b)) }
noncomputable def G9 : PC := addPC G8 63 kWi
def pFst := ParL.cons (.row NK) .nil
noncomputable def kFst := kOf pFst fun (xs, _) => { need := [], val := I (nd xs) }
noncomputable def G10 : PC := addPC G9 62 kFst
def pOch := ParL.cons pReq .nil
noncomputable def kOch := kOf pOch fun ((fx, fy, tx, ty, pe, pl, de, dl, lo, se, _), _) => { need := [], val := B (chk fx fy tx ty pe pl de dl lo se) 0 6 }
noncomputable def G11 : PC := addPC G10 36 kOch
def pRch := ParL.cons pReq .nil
noncomputable def kRch := kOf pRch fun ((fx, fy, tx, ty, pe, pl, de, dl, lo, se, _), _) => { need := [], val := B (chk fx fy tx ty pe pl de dl lo se) 0 6 }
noncomputable def G12 : PC := addPC G11 53 kRch
def pOve := ParL.cons pVeh .nil
noncomputable def kOve := kOf pOve fun ((hx, hy, cap, st, en, _), _) => { need := [], val := B (veh hx hy cap st en) 0 7 }
noncomputable def G13 : PC := addPC G12 34 kOve
def pRve := ParL.cons pVeh .nil
noncomputable def kRve := kOf pRve fun ((hx, hy, cap, st, en, _), _) => { need := [], val := B (veh hx hy cap st en) 0 7 }
noncomputable def G14 : PC := addPC G13 52 kRve
def pAp := ParL.cons pI (.cons pI .nil)
noncomputable def kAp := kOf pAp fun (a, b, _) => { need := [], val := I (IntKind.i64.wrap (apart a b)) }
noncomputable def G15 : PC := addPC G14 60 kAp
def pApr := ParL.cons pI (.cons pI .nil)
noncomputable def kApr := kOf pApr fun (a, b, _) => { need := [], val := I (IntKind.i64.wrap (apart a b)) }
noncomputable def G16 : PC := addPC G15 58 kApr
def pDs := ParL.cons pPl (.cons pPl .nil)
noncomputable def kDs := kOf pDs fun ((a, b, _), (x, y, _), _) => { need := [], val := B (dist a b x y) 0 2046 }
noncomputable def G17 : PC := addPC G16 32 kDs
def pDsr := ParL.cons pPl (.cons pPl .nil)
noncomputable def kDsr := kOf pDsr fun ((a, b, _), (x, y, _), _) => { need := [], val := B (dist a b x y) 0 2046 }
noncomputable def G18 : PC := addPC G17 29 kDsr
def pWt := ParL.cons pPl (.cons pI .nil)
noncomputable def kWt := kOf pWt fun ((a, b, _), t, _) => { need := [], val := .tup [T20 (waitN a b t), .b (decide (Wait a b t))] }
noncomputable def G19 : PC := addPC G18 71 kWt
noncomputable def GM : PC := litPC G19
def RK : List Kd := [.int .i64, .int .i64, .int .i64, .int .i64, .int .i64, .int .i64, .int .i64, .int .i64, .int .i64, .int .i64]
def TK : List Kd := [.int .i64, .int .i64, .int .i64]
def SN : SV := .row 1000000
def pS : Par (Int × Int × Unit) := .agg (.cons pI (.cons pI .nil))
def rf (t : List (List Value)) (q : Int) (j : Nat) : Int := geti (t.getD q.toNat []) j
def inR (t : List (List Value)) (q k : Int) : Bool := decide (0 ≤ q) && (decide (q < lenI t) && (decide (k = 0) || decide (k = 1)))
def part (t : List (List Value)) (q k : Int) (i j : Nat) : Int := cond (inR t q k) (cond (decide (k = 0)) (rf t q i) (rf t q j)) 0
def pX (t : List (List Value)) (q k : Int) : Int := part t q k 0 2
def pY (t : List (List Value)) (q k : Int) : Int := part t q k 1 3
def wE (t : List (List Value)) (q k : Int) : Int := part t q k 4 6
def wL (t : List (List Value)) (q k : Int) : Int := part t q k 5 7
def sv (t : List (List Value)) (q k : Int) : Int := part t q k 9 9
def chkR (x : List Value) : Int := chk (geti x 0) (geti x 1) (geti x 2) (geti x 3) (geti x 4) (geti x 5) (geti x 6) (geti x 7) (geti x 8) (geti x 9)
def reqsOk (t : List (List Value)) : Bool := t.all fun x => decide (chkR x = 0)
def stopsOk (l t : List (List Value)) : Bool := l.all fun s => inR t (geti s 0) (geti s 1)
def wrongE (hx hy cap st en : Int) (l t : List (List Value)) : Int := cond (decide (veh hx hy cap st en = 0) && reqsOk t) (cond (decide (checkE l = 0) && stopsOk l t) 0 8) 2
def wr1Spec (t : List (List Value)) : LoopSpec where
  S := Int
  regs := fun k => [(16, K k)]
  keep := [1, 2, 3, 6, 14]
  heap := fun _ => []
  inv := fun k => 0 ≤ k ∧ k ≤ t.length ∧ reqsOk (t.take k.toNat) = true
  mu := fun k => ((t.length : Int) - k).toNat
def wr2Spec (l t : List (List Value)) : LoopSpec where
  S := Int
  regs := fun k => [(8, K k)]
  keep := [0, 1, 2, 6]
  heap := fun _ => []
  inv := fun k => 0 ≤ k ∧ k ≤ l.length ∧ stopsOk (l.take k.toNat) t = true
  mu := fun k => ((l.length : Int) - k).toNat
def wrL (l t : List (List Value)) : LoopSpecs := fun g i => cond (Nat.beq g 44 && Nat.beq i 4) (some fun _ => wr1Spec t) (cond (Nat.beq g 72 && Nat.beq i 1) (some fun _ => wr2Spec l t) none)
def wrr1Spec (t : List (List Value)) : LoopSpec where
  S := Int
  regs := fun k => [(7, K k)]
  keep := [1, 2]
  heap := fun _ => []
  inv := fun k => 0 ≤ k ∧ k ≤ t.length ∧ reqsOk (t.take k.toNat) = true
  mu := fun k => ((t.length : Int) - k).toNat
def wrr2Spec (l t : List (List Value)) : LoopSpec where
  S := Int
  regs := fun k => [(8, K k)]
  keep := [1, 2]
  heap := fun _ => []
  inv := fun k => 0 ≤ k ∧ k ≤ l.length ∧ stopsOk (l.take k.toNat) t = true
  mu := fun k => ((l.length : Int) - k).toNat
def wrrL (l t : List (List Value)) : LoopSpecs := fun g i => cond (Nat.beq g 999 && Nat.beq i 4) (some fun _ => wrr1Spec t) (cond (Nat.beq g 999 && Nat.beq i 11) (some fun _ => wrr2Spec l t) none)
structure TS where
  a : Int
  b : Int
  n : Int
  x : Int
  y : Int
def arr (t : List (List Value)) (q k n x y : Int) : Int := n + dist x y (pX t q k) (pY t q k)
def beg (t : List (List Value)) (q k n x y : Int) : Int := waitN (wE t q k) (wL t q k) (arr t q k n x y)
def tsS (t : List (List Value)) (q k : Int) (z : TS) : TS := ⟨arr t q k z.n z.x z.y, beg t q k z.n z.x z.y, beg t q k z.n z.x z.y + sv t q k, pX t q k, pY t q k⟩
def ts (t l : List (List Value)) (hx hy st : Int) : Nat → TS
  | 0 => ⟨0, 0, st, hx, hy⟩
  | k + 1 => tsS t (geti (l.getD k []) 0) (geti (l.getD k []) 1) (ts t l hx hy st k)
def tA (t l : List (List Value)) (hx hy st : Int) (k : Nat) : Int := (ts t l hx hy st k).a
def tB (t l : List (List Value)) (hx hy st : Int) (k : Nat) : Int := (ts t l hx hy st k).b
def tN (t l : List (List Value)) (hx hy st : Int) (k : Nat) : Int := (ts t l hx hy st k).n
def tX (t l : List (List Value)) (hx hy st : Int) (k : Nat) : Int := (ts t l hx hy st k).x
def tY (t l : List (List Value)) (hx hy st : Int) (k : Nat) : Int := (ts t l hx hy st k).y
def tOk (t l : List (List Value)) (hx hy st : Int) (k : Nat) : Bool := decide (Wait (wE t (geti (l.getD k []) 0) (geti (l.getD k []) 1)) (wL t (geti (l.getD k []) 0) (geti (l.getD k []) 1)) (tA t l hx hy st (k + 1)))
def tRow (t l : List (List Value)) (hx hy st : Int) (k : Nat) : List Value := [.int .i64 (tA t l hx hy st (k + 1)), .int .i64 (tB t l hx hy st (k + 1)), .int .i64 (tN t l hx hy st (k + 1))]
def tRows (t l : List (List Value)) (hx hy st : Int) (n : Nat) : List (List Value) := (List.range n).map (tRow t l hx hy st)
def tEnd (t l : List (List Value)) (hx hy st : Int) : Int := tN t l hx hy st l.length + dist (tX t l hx hy st l.length) (tY t l hx hy st l.length) hx hy
def inTime (t l : List (List Value)) (hx hy st en : Int) : Bool := (List.range l.length).all (tOk t l hx hy st) && decide (tEnd t l hx hy st ≤ en)
def timesE (hx hy cap st en : Int) (l t : List (List Value)) : Int := cond (decide (wrongE hx hy cap st en l t = 0)) (cond (inTime t l hx hy st en) 0 9) (wrongE hx hy cap st en l t)
def timesR (hx hy cap st en : Int) (l t : List (List Value)) : List (List Value) := cond (decide (timesE hx hy cap st en l t = 0)) (tRows t l hx hy st l.length) []
def timesN (hx hy cap st en : Int) (l t : List (List Value)) : Int := cond (decide (timesE hx hy cap st en l t = 0)) (tEnd t l hx hy st) 0
structure TInv (t l : List (List Value)) (hx hy st : Int) (k : Int) : Prop where
  k0 : 0 ≤ k
  k1 : k ≤ l.length
  ok : ∀ i, i < k.toNat → tOk t l hx hy st i = true
def A11 (n : Int) : SV := .i .i64 n 0 1100000
def tmSpec (t l : List (List Value)) (hx hy st : Int) : LoopSpec where
  S := Int
  regs := fun k => [(8, K k)]
  keep := [0, 1, 2, 6]
  heap := fun k => [(26000, .cells 100 [A11 (tA t l hx hy st k.toNat), T20 (tB t l hx hy st k.toNat), A11 (tN t l hx hy st k.toNat), I (tX t l hx hy st k.toNat), I (tY t l hx hy st k.toNat)]), (6000, .cells 30 [SN])]
  news := fun k => [.row 40 TK (tRows t l hx hy st k.toNat)]
  inv := TInv t l hx hy st
  mu := fun k => ((l.length : Int) - k).toNat
def tmL (t l : List (List Value)) (hx hy st : Int) : LoopSpecs := fun g i => cond (Nat.beq g 72 && Nat.beq i 1) (some fun _ => tmSpec t l hx hy st) none
def tmrSpec (t l : List (List Value)) (hx hy st : Int) : LoopSpec where
  S := Int
  regs := fun k => [(13, K k), (12, A11 (tN t l hx hy st k.toNat)), (10, SN)]
  keep := [1, 2, 3]
  heap := fun k => [(11, .cells 32 [I (tX t l hx hy st k.toNat), I (tY t l hx hy st k.toNat)])]
  news := fun k => [.row 40 TK (tRows t l hx hy st k.toNat)]
  inv := TInv t l hx hy st
  mu := fun k => ((l.length : Int) - k).toNat
def tmrL (t l : List (List Value)) (hx hy st : Int) : LoopSpecs := fun g i => cond (Nat.beq g 999 && Nat.beq i 7) (some fun _ => tmrSpec t l hx hy st) none
def W (x : Int) : Int := IntKind.i64.wrap x
def sumD (i j : Nat) : List (List Value) → Int
  | [] => 0
  | x :: r => (geti x j - geti x i) + sumD i j r
def spSpec (xs : List (List Value)) : LoopSpec where
  S := Int
  regs := fun k => [(27, K k), (7, I (W (sumD 0 1 (xs.take k.toNat)))), (8, I (W (sumD 1 2 (xs.take k.toNat))))]
  keep := [3, 25]
  heap := fun _ => []
  inv := fun k => 0 ≤ k ∧ k ≤ xs.length
  mu := fun k => ((xs.length : Int) - k).toNat
def sprSpec (xs : List (List Value)) : LoopSpec where
  S := Int
  regs := fun k => [(15, K k), (13, I (W (sumD 0 1 (xs.take k.toNat)))), (14, I (W (sumD 1 2 (xs.take k.toNat))))]
  keep := [3, 10]
  heap := fun _ => []
  inv := fun k => 0 ≤ k ∧ k ≤ xs.length
  mu := fun k => ((xs.length : Int) - k).toNat
def spL (xs : List (List Value)) : LoopSpecs := fun g i => cond (Nat.beq g 999 && Nat.beq i 5) (some fun _ => spSpec xs) (cond (Nat.beq g 999 && Nat.beq i 6) (some fun _ => sprSpec xs) none)
def wayN (hx hy cap st en : Int) (l t : List (List Value)) : Int := cond (decide (timesE hx hy cap st en l t = 0)) (W (timesN hx hy cap st en l t - st - sumD 0 1 (timesR hx hy cap st en l t) - sumD 1 2 (timesR hx hy cap st en l t))) 0
def sameSpec (xs ys : List (List Value)) : LoopSpec where
  S := Int
  regs := fun k => [(5, K k)]
  keep := [0, 1]
  heap := fun _ => []
  inv := fun k => 0 ≤ k ∧ k ≤ xs.length ∧ xs.take k.toNat = ys.take k.toNat
  mu := fun k => ((xs.length : Int) - k).toNat
def sameL (f : Nat) (xs ys : List (List Value)) : LoopSpecs := fun g i => cond (Nat.beq g f && Nat.beq i 4) (some fun _ => sameSpec xs ys) none
def pWrp := ParL.cons pVeh (.cons (.row SK) (.cons (.row RK) .nil))
noncomputable def kWrp := kOf pWrp fun ((hx, hy, cap, st, en, _), l, t, _) => { need := [], val := B (wrongE hx hy cap st en l t) 0 8 }
noncomputable def G20 : PC := addPC G19 44 kWrp
def pTmp := ParL.cons pVeh (.cons (.row SK) (.cons (.row RK) .nil))
noncomputable def kTmp := kOf pTmp fun ((hx, hy, cap, st, en, _), l, t, _) => { need := [], val := .tup [SN, T20 (timesN hx hy cap st en l t), B (timesE hx hy cap st en l t) 0 9], news := [.row 40 TK (timesR hx hy cap st en l t)] }
noncomputable def G21 : PC := addPC G20 22 kTmp
def BK : List Kd := [.int .u8]
def U8 (n : Int) : SV := .i .u8 n 0 255
def pU8 : Par Int := .int .u8 0 255
def mU8 : ParM Int := .of pU8 fun _ _ => rfl
def AT (n : Int) : SV := .i .i64 n 0 2000
def mAt : ParM Int := .of (.int .i64 0 2000) fun _ _ => rfl
def mD : ParM (List (List Value) × Int × Int × Int × Unit) := .ptr 24 (.cons (.ror BK) (.cons mU8 (.cons mU8 (.cons mAt .nil))))
def dC (N w a : Int) : Blk := .cells 24 [.row 0, U8 N, U8 w, AT a]
def nx (bs : List (List Value)) (a n : Int) : Int := cond (decide (lenI bs = 0)) (a % n) ((geti (bs.getD (a % lenI bs).toNat []) 0 + a / lenI bs) % n)
def nxV (n : Int) : SV := .i .i64 n 0 1000
def wideN (w : Int) : Int := geti (([[.int .i64 400], [.int .i64 200], [.int .i64 90], [.int .i64 40]] : List (List Value)).getD (w % 4).toNat []) 0
def dPick (bs : List (List Value)) (a i : Int) : Int := 25 * i + nx bs (a + 1) 40
def dDrop (bs : List (List Value)) (a i : Int) : Int := dPick bs a i + nx bs (a + 2) 60
def dReq (bs : List (List Value)) (w a i : Int) : List Value := [.int .i64 (500 + nx bs (a + 3) 20), .int .i64 (500 + nx bs (a + 4) 20), .int .i64 (500 + nx bs (a + 5) 20), .int .i64 (500 + nx bs (a + 6) 20),
  .int .i64 (dPick bs a i), .int .i64 (dPick bs a i + wideN w), .int .i64 (dDrop bs a i), .int .i64 (dDrop bs a i + wideN w + 30), .int .i64 (1 + nx bs (a + 7) 9), .int .i64 (nx bs (a + 8) 4)]
def dReqs (bs : List (List Value)) (w a : Int) (n : Nat) : List (List Value) := (List.range n).map fun (i : Nat) => dReq bs w (a + 8 * (i : Int)) (i : Int)
def rqdSpec (bs : List (List Value)) (N w a n : Int) : LoopSpec where
  S := Int
  regs := fun k => [(6, .i .i64 k 0 10), (5, SN)]
  keep := [0]
  heap := fun k => [(0, dC N w (a + 8 * k))]
  news := fun k => [.row 49 RK (dReqs bs w a k.toNat)]
  inv := fun k => 0 ≤ k ∧ k ≤ n
  mu := fun k => (n - k).toNat
def rqdL (bs : List (List Value)) (N w a n : Int) : LoopSpecs := fun g i => cond (Nat.beq g 24 && Nat.beq i 3) (some fun _ => rqdSpec bs N w a n) none
def rK (bs : List (List Value)) (a : Int) (out : List (List Value)) : Int := lenI out - min (lenI out) (nx bs (a + 1) 3)
def rL (out : List (List Value)) (r k : Int) : List (List Value) := out.take k.toNat ++ pr r 0 :: out.drop k.toNat
def rJ (bs : List (List Value)) (a k : Int) (out : List (List Value)) : Int := k + 1 + nx bs (a + 2) (lenI out + 1 - k)
def rIns (l : List (List Value)) (r j : Int) : List (List Value) := l.take j.toNat ++ pr r 1 :: l.drop j.toNat
def dRoute (bs : List (List Value)) (a : Int) : Nat → List (List Value)
  | 0 => []
  | r + 1 => rIns (rL (dRoute bs a r) r (rK bs (a + 2 * (r : Int)) (dRoute bs a r))) r (rJ bs (a + 2 * (r : Int)) (rK bs (a + 2 * (r : Int)) (dRoute bs a r)) (dRoute bs a r))
def rtdSpec (bs : List (List Value)) (N w a n : Int) : LoopSpec where
  S := Int
  regs := fun k => [(8, .i .i64 k 0 10), (7, SN)]
  keep := [0]
  heap := fun k => [(0, dC N w (a + 2 * k))]
  news := fun k => [.row 61 SK (dRoute bs a k.toNat)]
  inv := fun k => 0 ≤ k ∧ k ≤ n
  mu := fun k => (n - k).toNat
def rtdL (bs : List (List Value)) (N w a n : Int) : LoopSpecs := fun g i => cond (Nat.beq g 26 && Nat.beq i 3) (some fun _ => rtdSpec bs N w a n) none
def dN (N : Int) : Int := N % 7
def dVx (bs : List (List Value)) (N : Int) : Int := 500 + nx bs (8 * dN N + 1) 20
def dVy (bs : List (List Value)) (N : Int) : Int := 500 + nx bs (8 * dN N + 2) 20
def dVc (bs : List (List Value)) (N : Int) : Int := 8 + nx bs (8 * dN N + 3) 20
def dVs (bs : List (List Value)) (N : Int) : Int := nx bs (8 * dN N + 4) 20
def dVe (bs : List (List Value)) (N : Int) : Int := 300 + 8 * nx bs (8 * dN N + 5) 100
def dOwn (bs : List (List Value)) (N : Int) : List (List Value) := dRoute bs (8 * dN N + 5) (dN N).toNat
def dTs (bs : List (List Value)) (N w : Int) : List (List Value) := dReqs bs w 0 (dN N).toNat
def D10 (n : Int) : SV := .i .i64 n 0 10000
def pNx := ParML.cons mD (.cons mI .nil)
noncomputable def kNx := kOfM pNx fun ((bs, N, w, a, _), n, _) => { need := [decide (0 ≤ a ∧ a ≤ 1000 ∧ 1 ≤ n ∧ n ≤ 100)], val := nxV (nx bs (a + 1) n), heap := [(1, dC N w (a + 1))] }
noncomputable def G22 : PC := addPC G21 51 kNx
def pRqs := ParML.cons mD (.cons mI .nil)
noncomputable def kRqs := kOfM pRqs fun ((bs, N, w, a, _), n, _) => { need := [decide (0 ≤ a ∧ a ≤ 100 ∧ 0 ≤ n ∧ n ≤ 6)], val := SN, heap := [(1, dC N w (a + 8 * n))], news := [.row 49 RK (dReqs bs w a n.toNat)] }
noncomputable def G23 : PC := addPC G22 24 kRqs
def pRou := ParML.cons mD (.cons mI (.cons mI .nil))
noncomputable def kRou := kOfM pRou fun ((bs, N, w, a, _), f, n, _) => { need := [decide (f = 0 ∧ 0 ≤ a ∧ a ≤ 100 ∧ 0 ≤ n ∧ n ≤ 6)], val := SN, heap := [(1, dC N w (a + 2 * n))], news := [.row 61 SK (dRoute bs a n.toNat)] }
noncomputable def G24 : PC := addPC G23 26 kRou
def pPrt := ParL.cons (.agg (.cons (.row BK) (.cons pU8 (.cons pU8 (.cons pI .nil))))) .nil
noncomputable def kPrt := kOf pPrt fun ((bs, N, w, a, _), _) => { need := [], val := .tup [.agg [D10 (dVx bs N), D10 (dVy bs N), D10 (dVc bs N), D10 (dVs bs N), D10 (dVe bs N)], .row 1000000, .row 1000001], news := [.row 61 SK (dOwn bs N), .row 49 RK (dTs bs N w)] }
noncomputable def G25 : PC := addPC G24 11 kPrt
end Go.Proofs.YtfhjnececgoadaaDoor
