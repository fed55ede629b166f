/- Contracts of the functions that the chapter's statements reach: what each answers, as plain functions. No condition. -/
import Derived.Test.YtojdfjmkdplpkaaRows
import Derived.Test.YtojdfjmkdplpkaaV3O
namespace Go.Proofs.Ytojdfjmkdplpkaa
open Go.Eng
theorem mixed : Try.prog.follows .mixedOrders = true := by kernel_rfl
def GL : PC := litPC noPC
theorem okGL : PCok Try.prog GL := litPC_ok noPC_ok
def G0 : PC := noPC
def I (n : Int) : SV := .i .i64 n (-9223372036854775808) 9223372036854775807
def K (n : Int) : SV := .i .i64 n 0 9223372036854775807
def pI : Par Int := .int .i64 (-9223372036854775808) 9223372036854775807
def mI : ParM Int := .of pI fun _ _ => rfl
def SK : List Kd := [.int .i64, .int .i64]
def pr (r k : Int) : List Value := [.int .i64 r, .int .i64 k]
noncomputable def dB (p : Prop) : Bool := @decide p (Classical.propDecidable p)
def isS (r k : Int) (x : List Value) : Bool := decide (geti x 0 = r) && decide (geti x 1 = k)
def cnt (r k : Int) : List (List Value) → Int
  | [] => 0
  | x :: l => cond (isS r k x) 1 0 + cnt r k l
def okAt (xs : List (List Value)) (i : Nat) : Bool :=
  decide (0 ≤ geti (xs.getD i []) 0) && ((decide (geti (xs.getD i []) 1 = 0) || decide (geti (xs.getD i []) 1 = 1)) && (decide (cnt (geti (xs.getD i []) 0) 0 xs = 1) && (decide (cnt (geti (xs.getD i []) 0) 1 xs = 1) &&
    (!decide (geti (xs.getD i []) 1 = 1) || decide (cnt (geti (xs.getD i []) 0) 0 (xs.take i) = 1)))))
def okB (xs : List (List Value)) : Bool := (List.range xs.length).all fun i => okAt xs i
def checkE (xs : List (List Value)) : Int := cond (decide (16 < lenI xs)) 11 (cond (okB xs) 0 8)
def cntSpec (r k : Int) (xs : List (List Value)) : LoopSpec where
  S := Int
  regs := fun j => [(6, K j), (5, K (cnt r k (xs.take j.toNat)))]
  keep := [0, 3]
  heap := fun _ => []
  inv := fun j => 0 ≤ j ∧ j ≤ xs.length
  mu := fun j => ((xs.length : Int) - j).toNat
def cntL (r k : Int) (xs : List (List Value)) : LoopSpecs := fun g i => cond (Nat.beq g 56 && Nat.beq i 3) (some fun _ => cntSpec r k xs) none
def rckSpec (xs : List (List Value)) : LoopSpec where
  S := Int
  regs := fun j => [(3, K j)]
  keep := [0]
  heap := fun _ => []
  inv := fun j => 0 ≤ j ∧ j ≤ xs.length ∧ ∀ i, i < j.toNat → okAt xs i = true
  mu := fun j => ((xs.length : Int) - j).toNat
def rckL (xs : List (List Value)) : LoopSpecs := fun g i => cond (Nat.beq g 46 && Nat.beq i 4) (some fun _ => rckSpec xs) none
structure CkS where
  j : Int
  m : List (Int × List Value)
def stepOk (xs : List (List Value)) (i : Nat) : Prop := 0 ≤ geti (xs.getD i []) 0 ∧ ((geti (xs.getD i []) 1 = 0 ∧ cnt (geti (xs.getD i []) 0) 0 (xs.take i) = 0 ∧ cnt (geti (xs.getD i []) 0) 1 (xs.take i) = 0) ∨
  (geti (xs.getD i []) 1 = 1 ∧ cnt (geti (xs.getD i []) 0) 0 (xs.take i) = 1 ∧ cnt (geti (xs.getD i []) 0) 1 (xs.take i) = 0))
structure MInv (xs : List (List Value)) (m : List (Int × List Value)) : Prop where
  all : ∀ x ∈ m, x.2 = pr (cnt x.1 0 xs) (cnt x.1 1 xs)
  nd : (m.map (·.1)).Nodup
  has : ∀ r, mget m r (pr 0 0) = pr (cnt r 0 xs) (cnt r 1 xs)
structure CkI (xs : List (List Value)) (s : CkS) : Prop where
  j0 : 0 ≤ s.j
  j1 : s.j ≤ xs.length
  ok : ∀ i, i < s.j.toNat → stepOk xs i
  mi : MInv (xs.take s.j.toNat) s.m
def ckSpec (xs : List (List Value)) : LoopSpec where
  S := CkS
  regs := fun s => [(15, K s.j), (2, .v (.int .i64 0))]
  keep := [0, 13]
  heap := fun s => [(3, .map .i64 SK true s.m)]
  inv := CkI xs
  mu := fun s => ((xs.length : Int) - s.j).toNat
structure WkS where
  seen : List Nat
  e : Int
def bad (m : List (Int × List Value)) (j : Nat) : Prop := geti (m.getD j (0, [])).2 0 ≠ geti (m.getD j (0, [])).2 1
structure WkI (m : List (Int × List Value)) (e0 : Int) (s : WkS) : Prop where
  lt : ∀ j ∈ s.seen, j < m.length
  nd : s.seen.Nodup
  e : (s.e = 8 ∧ (e0 = 8 ∨ ∃ j ∈ s.seen, bad m j)) ∨ (s.e = 0 ∧ e0 = 0 ∧ ∀ j ∈ s.seen, ¬ bad m j)
def walkSpec (mi : Nat) (m : List (Int × List Value)) (e0 : Int) : LoopSpec where
  S := WkS
  regs := fun s => [(2, .i .i64 s.e 0 8)]
  keep := [3]
  heap := fun s => [(59, .iter mi m.length s.seen)]
  inv := WkI m e0
  mu := fun s => m.length + 1 - s.seen.length
def ckL (xs : List (List Value)) : LoopSpecs := fun g i => cond (Nat.beq g 35) (cond (Nat.beq i 5) (some fun _ => ckSpec xs) (cond (Nat.beq i 17) (some fun st => walkSpec (slotOf st 3) (mapAt st 3) (intAt st 2)) none)) none
def pCnt := ParL.cons (.row SK) (.cons (.agg (.cons pI (.cons pI .nil))) .nil)
noncomputable def kCnt := kOf pCnt fun (xs, (r, k, _), _) => { need := [], val := K (cnt r k xs) }
noncomputable def G1 : PC := addPC G0 56 kCnt
def pRck := ParL.cons (.row SK) .nil
noncomputable def kRck := kOf pRck fun (xs, _) => { need := [], val := .i .i64 (checkE xs) 0 11 }
noncomputable def G2 : PC := addPC G1 46 kRck
def pCk := ParL.cons (.row SK) .nil
noncomputable def kCk := kOf pCk fun (xs, _) => { need := [], val := .i .i64 (checkE xs) 0 11 }
noncomputable def G3 : PC := addPC G2 35 kCk
noncomputable def GK : PC := litPC G3
abbrev PM (a b : Int) : Prop := 0 ≤ a ∧ a ≤ 1023 ∧ 0 ≤ b ∧ b ≤ 1023
abbrev WM (a b : Int) : Prop := 0 ≤ a ∧ a ≤ b ∧ b ≤ 1048576
def apart (a b : Int) : Int := max a b - min a b
def dist (a b c d : Int) : Int := if PM a b ∧ PM c d then apart a c + apart b d else 0
abbrev Wait (a b t : Int) : Prop := WM a b ∧ max t a ≤ b
def waitN (a b t : Int) : Int := if Wait a b t then max t a else 0
abbrev Chk (fx fy tx ty pe pl de dl lo se : Int) : Prop := PM fx fy ∧ PM tx ty ∧ WM pe pl ∧ WM de dl ∧ (1 ≤ lo ∧ lo ≤ 1000) ∧ (0 ≤ se ∧ se ≤ 1000)
def chk (fx fy tx ty pe pl de dl lo se : Int) : Int := if ¬ (PM fx fy ∧ PM tx ty) then 4 else if ¬ (WM pe pl ∧ WM de dl) then 5 else if ¬ ((1 ≤ lo ∧ lo ≤ 1000) ∧ (0 ≤ se ∧ se ≤ 1000)) then 6 else 0
def veh (hx hy cap st en : Int) : Int := if ¬ PM hx hy then 4 else if ¬ ((1 ≤ cap ∧ cap ≤ 100000) ∧ (0 ≤ st ∧ st ≤ en) ∧ (0 ≤ en ∧ en ≤ 1048576)) then 7 else 0
def plS (a b : Int) : SV := .agg [I a, I b]
def B (n lo hi : Int) : SV := .i .i64 n lo hi
def T20 (n : Int) : SV := .i .i64 n 0 1048576
def pPl : Par (Int × Int × Unit) := .agg (.cons pI (.cons pI .nil))
def pReq : Par (Int × Int × Int × Int × Int × Int × Int × Int × Int × Int × Unit) := .agg (.cons pI (.cons pI (.cons pI (.cons pI (.cons pI (.cons pI (.cons pI (.cons pI (.cons pI (.cons pI .nil))))))))))
def pVeh : Par (Int × Int × Int × Int × Int × Unit) := .agg (.cons pI (.cons pI (.cons pI (.cons pI (.cons pI .nil)))))
def req (fx fy tx ty pe pl de dl lo se : Int) : SV := .agg [I fx, I fy, I tx, I ty, I pe, I pl, I de, I dl, I lo, I se]
def vehS (hx hy cap st en : Int) : SV := .agg [I hx, I hy, I cap, I st, I en]
def NK : List Kd := [.bool, .int .i64]
def nd : List (List Value) → Int
  | [] => 0
  | x :: l => cond (getb x 0) (nd l) (geti x 1)
def ndSpec (xs : List (List Value)) : LoopSpec where
  S := Int
  regs := fun k => [(7, K k)]
  keep := [5]
  heap := fun _ => []
  inv := fun k => 0 ≤ k ∧ k ≤ xs.length ∧ nd (xs.drop k.toNat) = nd xs
  mu := fun k => ((xs.length : Int) - k).toNat
def ndL (xs : List (List Value)) : LoopSpecs := fun g i => cond (Nat.beq g 50 && Nat.beq i 2) (some fun _ => ndSpec xs) none
def apSpec (a b : Int) : LoopSpec where
  S := Int
  regs := fun i => [(5, I (IntKind.i64.wrap (i - min a b))), (6, I i)]
  keep := []
  heap := fun _ => []
  inv := fun i => min a b ≤ i ∧ i ≤ max a b
  mu := fun i => (max a b - i).toNat
def apL (a b : Int) : LoopSpecs := fun g i => cond (Nat.beq g 49 && Nat.beq i 3) (some fun _ => apSpec a b) none
def pOn := ParL.cons pI .nil
noncomputable def kOn := kOf pOn fun (a, _) => { need := [], val := .b (decide (0 ≤ a ∧ a ≤ 1023)) }
noncomputable def G4 : PC := addPC G3 53 kOn
def pPMay := ParL.cons pPl .nil
noncomputable def kPMay := kOf pPMay fun ((a, b, _), _) => { need := [], val := .b (decide (PM a b)) }
noncomputable def G5 : PC := addPC G4 38 kPMay
def pPMr := ParL.cons pPl .nil
noncomputable def kPMr := kOf pPMr fun ((a, b, _), _) => { need := [], val := .b (decide (PM a b)) }
noncomputable def G6 : PC := addPC G5 48 kPMr
def pWMay := ParL.cons pPl .nil
noncomputable def kWMay := kOf pWMay fun ((a, b, _), _) => { need := [], val := .b (decide (WM a b)) }
noncomputable def G7 : PC := addPC G6 52 kWMay
def pWMr := ParL.cons pPl .nil
noncomputable def kWMr := kOf pWMr fun ((a, b, _), _) => { need := [], val := .b (decide (WM a b)) }
noncomputable def G8 : PC := addPC G7 55 kWMr
def pWi := ParL.cons pI (.cons pI (.cons pI .nil))
noncomputable def kWi := kOf pWi fun (n, a, b, _) => { need := [], val := .b (decide (a ≤ n ∧ n ≤ b)) }
noncomputable def G9 : PC := addPC G8 51 kWi
def pFst := ParL.cons (.row NK) .nil
noncomputable def kFst := kOf pFst fun (xs, _) => { need := [], val := I (nd xs) }
noncomputable def G10 : PC := addPC G9 50 kFst
def pOch := ParL.cons pReq .nil
noncomputable def kOch := kOf pOch fun ((fx, fy, tx, ty, pe, pl, de, dl, lo, se, _), _) => { need := [], val := B (chk fx fy tx ty pe pl de dl lo se) 0 6 }
noncomputable def G11 : PC := addPC G10 34 kOch
def pRch := ParL.cons pReq .nil
noncomputable def kRch := kOf pRch fun ((fx, fy, tx, ty, pe, pl, de, dl, lo, se, _), _) => { need := [], val := B (chk fx fy tx ty pe pl de dl lo se) 0 6 }
noncomputable def G12 : PC := addPC G11 45 kRch
def pOve := ParL.cons pVeh .nil
noncomputable def kOve := kOf pOve fun ((hx, hy, cap, st, en, _), _) => { need := [], val := B (veh hx hy cap st en) 0 7 }
noncomputable def G13 : PC := addPC G12 33 kOve
def pRve := ParL.cons pVeh .nil
noncomputable def kRve := kOf pRve fun ((hx, hy, cap, st, en, _), _) => { need := [], val := B (veh hx hy cap st en) 0 7 }
noncomputable def G14 : PC := addPC G13 44 kRve
def pAp := ParL.cons pI (.cons pI .nil)
noncomputable def kAp := kOf pAp fun (a, b, _) => { need := [], val := I (IntKind.i64.wrap (apart a b)) }
noncomputable def G15 : PC := addPC G14 39 kAp
def pApr := ParL.cons pI (.cons pI .nil)
noncomputable def kApr := kOf pApr fun (a, b, _) => { need := [], val := I (IntKind.i64.wrap (apart a b)) }
noncomputable def G16 : PC := addPC G15 49 kApr
def pDs := ParL.cons pPl (.cons pPl .nil)
noncomputable def kDs := kOf pDs fun ((a, b, _), (x, y, _), _) => { need := [], val := B (dist a b x y) 0 2046 }
noncomputable def G17 : PC := addPC G16 24 kDs
def pDsr := ParL.cons pPl (.cons pPl .nil)
noncomputable def kDsr := kOf pDsr fun ((a, b, _), (x, y, _), _) => { need := [], val := B (dist a b x y) 0 2046 }
noncomputable def G18 : PC := addPC G17 32 kDsr
def pWt := ParL.cons pPl (.cons pI .nil)
noncomputable def kWt := kOf pWt fun ((a, b, _), t, _) => { need := [], val := .tup [T20 (waitN a b t), .b (decide (Wait a b t))] }
noncomputable def G19 : PC := addPC G18 27 kWt
noncomputable def GM : PC := litPC G19
def RK : List Kd := [.int .i64, .int .i64, .int .i64, .int .i64, .int .i64, .int .i64, .int .i64, .int .i64, .int .i64, .int .i64]
def TK : List Kd := [.int .i64, .int .i64, .int .i64]
def SN : SV := .row 1000000
def pS : Par (Int × Int × Unit) := .agg (.cons pI (.cons pI .nil))
def rf (t : List (List Value)) (q : Int) (j : Nat) : Int := geti (t.getD q.toNat []) j
def inR (t : List (List Value)) (q k : Int) : Bool := decide (0 ≤ q) && (decide (q < lenI t) && (decide (k = 0) || decide (k = 1)))
def part (t : List (List Value)) (q k : Int) (i j : Nat) : Int := cond (inR t q k) (cond (decide (k = 0)) (rf t q i) (rf t q j)) 0
def pX (t : List (List Value)) (q k : Int) : Int := part t q k 0 2
def pY (t : List (List Value)) (q k : Int) : Int := part t q k 1 3
def wE (t : List (List Value)) (q k : Int) : Int := part t q k 4 6
def wL (t : List (List Value)) (q k : Int) : Int := part t q k 5 7
def sv (t : List (List Value)) (q k : Int) : Int := part t q k 9 9
def chkR (x : List Value) : Int := chk (geti x 0) (geti x 1) (geti x 2) (geti x 3) (geti x 4) (geti x 5) (geti x 6) (geti x 7) (geti x 8) (geti x 9)
def reqsOk (t : List (List Value)) : Bool := t.all fun x => decide (chkR x = 0)
def stopsOk (l t : List (List Value)) : Bool := l.all fun s => inR t (geti s 0) (geti s 1)
def wrongE (hx hy cap st en : Int) (l t : List (List Value)) : Int := cond (decide (veh hx hy cap st en = 0) && reqsOk t) (cond (decide (checkE l = 0) && stopsOk l t) 0 8) 2
def wr1Spec (t : List (List Value)) : LoopSpec where
  S := Int
  regs := fun k => [(16, K k)]
  keep := [1, 2, 3, 6, 14]
  heap := fun _ => []
  inv := fun k => 0 ≤ k ∧ k ≤ t.length ∧ reqsOk (t.take k.toNat) = true
  mu := fun k => ((t.length : Int) - k).toNat
def wr2Spec (l t : List (List Value)) : LoopSpec where
  S := Int
  regs := fun k => [(8, K k)]
  keep := [0, 1, 2, 6]
  heap := fun _ => []
  inv := fun k => 0 ≤ k ∧ k ≤ l.length ∧ stopsOk (l.take k.toNat) t = true
  mu := fun k => ((l.length : Int) - k).toNat
def wrL (l t : List (List Value)) : LoopSpecs := fun g i => cond (Nat.beq g 21 && Nat.beq i 4) (some fun _ => wr1Spec t) (cond (Nat.beq g 36 && Nat.beq i 1) (some fun _ => wr2Spec l t) none)
def wrr1Spec (t : List (List Value)) : LoopSpec where
  S := Int
  regs := fun k => [(7, K k)]
  keep := [1, 2]
  heap := fun _ => []
  inv := fun k => 0 ≤ k ∧ k ≤ t.length ∧ reqsOk (t.take k.toNat) = true
  mu := fun k => ((t.length : Int) - k).toNat
def wrr2Spec (l t : List (List Value)) : LoopSpec where
  S := Int
  regs := fun k => [(8, K k)]
  keep := [1, 2]
  heap := fun _ => []
  inv := fun k => 0 ≤ k ∧ k ≤ l.length ∧ stopsOk (l.take k.toNat) t = true
  mu := fun k => ((l.length : Int) - k).toNat
def wrrL (l t : List (List Value)) : LoopSpecs := fun g i => cond (Nat.beq g 30 && Nat.beq i 4) (some fun _ => wrr1Spec t) (cond (Nat.beq g 30 && Nat.beq i 11) (some fun _ => wrr2Spec l t) none)
structure TS where
  a : Int
  b : Int
  n : Int
  x : Int
  y : Int
def arr (t : List (List Value)) (q k n x y : Int) : Int := n + dist x y (pX t q k) (pY t q k)
def beg (t : List (List Value)) (q k n x y : Int) : Int := waitN (wE t q k) (wL t q k) (arr t q k n x y)
def tsS (t : List (List Value)) (q k : Int) (z : TS) : TS := ⟨arr t q k z.n z.x z.y, beg t q k z.n z.x z.y, beg t q k z.n z.x z.y + sv t q k, pX t q k, pY t q k⟩
def ts (t l : List (List Value)) (hx hy st : Int) : Nat → TS
  | 0 => ⟨0, 0, st, hx, hy⟩
  | k + 1 => tsS t (geti (l.getD k []) 0) (geti (l.getD k []) 1) (ts t l hx hy st k)
def tA (t l : List (List Value)) (hx hy st : Int) (k : Nat) : Int := (ts t l hx hy st k).a
def tB (t l : List (List Value)) (hx hy st : Int) (k : Nat) : Int := (ts t l hx hy st k).b
def tN (t l : List (List Value)) (hx hy st : Int) (k : Nat) : Int := (ts t l hx hy st k).n
def tX (t l : List (List Value)) (hx hy st : Int) (k : Nat) : Int := (ts t l hx hy st k).x
def tY (t l : List (List Value)) (hx hy st : Int) (k : Nat) : Int := (ts t l hx hy st k).y
def tOk (t l : List (List Value)) (hx hy st : Int) (k : Nat) : Bool := decide (Wait (wE t (geti (l.getD k []) 0) (geti (l.getD k []) 1)) (wL t (geti (l.getD k []) 0) (geti (l.getD k []) 1)) (tA t l hx hy st (k + 1)))
def tRow (t l : List (List Value)) (hx hy st : Int) (k : Nat) : List Value := [.int .i64 (tA t l hx hy st (k + 1)), .int .i64 (tB t l hx hy st (k + 1)), .int .i64 (tN t l hx hy st (k + 1))]
def tRows (t l : List (List Value)) (hx hy st : Int) (n : Nat) : List (List Value) := (List.range n).map (tRow t l hx hy st)
def tEnd (t l : List (List Value)) (hx hy st : Int) : Int := tN t l hx hy st l.length + dist (tX t l hx hy st l.length) (tY t l hx hy st l.length) hx hy
def inTime (t l : List (List Value)) (hx hy st en : Int) : Bool := (List.range l.length).all (tOk t l hx hy st) && decide (tEnd t l hx hy st ≤ en)
def timesE (hx hy cap st en : Int) (l t : List (List Value)) : Int := cond (decide (wrongE hx hy cap st en l t = 0)) (cond (inTime t l hx hy st en) 0 9) (wrongE hx hy cap st en l t)
def timesR (hx hy cap st en : Int) (l t : List (List Value)) : List (List Value) := cond (decide (timesE hx hy cap st en l t = 0)) (tRows t l hx hy st l.length) []
def timesN (hx hy cap st en : Int) (l t : List (List Value)) : Int := cond (decide (timesE hx hy cap st en l t = 0)) (tEnd t l hx hy st) 0
structure TInv (t l : List (List Value)) (hx hy st : Int) (k : Int) : Prop where
  k0 : 0 ≤ k
  k1 : k ≤ l.length
  ok : ∀ i, i < k.toNat → tOk t l hx hy st i = true
def A11 (n : Int) : SV := .i .i64 n 0 1100000
def tmSpec (t l : List (List Value)) (hx hy st : Int) : LoopSpec where
  S := Int
  regs := fun k => [(8, K k)]
  keep := [0, 1, 2, 6]
  heap := fun k => [(26000, .cells 69 [A11 (tA t l hx hy st k.toNat), T20 (tB t l hx hy st k.toNat), A11 (tN t l hx hy st k.toNat), I (tX t l hx hy st k.toNat), I (tY t l hx hy st k.toNat)]), (6000, .cells 46 [SN])]
  news := fun k => [.row 55 TK (tRows t l hx hy st k.toNat)]
  inv := TInv t l hx hy st
  mu := fun k => ((l.length : Int) - k).toNat
def tmL (t l : List (List Value)) (hx hy st : Int) : LoopSpecs := fun g i => cond (Nat.beq g 36 && Nat.beq i 1) (some fun _ => tmSpec t l hx hy st) none
def tmrSpec (t l : List (List Value)) (hx hy st : Int) : LoopSpec where
  S := Int
  regs := fun k => [(13, K k), (12, A11 (tN t l hx hy st k.toNat)), (10, SN)]
  keep := [1, 2, 3]
  heap := fun k => [(11, .cells 29 [I (tX t l hx hy st k.toNat), I (tY t l hx hy st k.toNat)])]
  news := fun k => [.row 55 TK (tRows t l hx hy st k.toNat)]
  inv := TInv t l hx hy st
  mu := fun k => ((l.length : Int) - k).toNat
def tmrL (t l : List (List Value)) (hx hy st : Int) : LoopSpecs := fun g i => cond (Nat.beq g 999 && Nat.beq i 7) (some fun _ => tmrSpec t l hx hy st) none
def W (x : Int) : Int := IntKind.i64.wrap x
def sumD (i j : Nat) : List (List Value) → Int
  | [] => 0
  | x :: r => (geti x j - geti x i) + sumD i j r
def spSpec (xs : List (List Value)) : LoopSpec where
  S := Int
  regs := fun k => [(27, K k), (7, I (W (sumD 0 1 (xs.take k.toNat)))), (8, I (W (sumD 1 2 (xs.take k.toNat))))]
  keep := [3, 25]
  heap := fun _ => []
  inv := fun k => 0 ≤ k ∧ k ≤ xs.length
  mu := fun k => ((xs.length : Int) - k).toNat
def sprSpec (xs : List (List Value)) : LoopSpec where
  S := Int
  regs := fun k => [(15, K k), (13, I (W (sumD 0 1 (xs.take k.toNat)))), (14, I (W (sumD 1 2 (xs.take k.toNat))))]
  keep := [3, 10]
  heap := fun _ => []
  inv := fun k => 0 ≤ k ∧ k ≤ xs.length
  mu := fun k => ((xs.length : Int) - k).toNat
def spL (xs : List (List Value)) : LoopSpecs := fun g i => cond (Nat.beq g 999 && Nat.beq i 5) (some fun _ => spSpec xs) (cond (Nat.beq g 999 && Nat.beq i 6) (some fun _ => sprSpec xs) none)
def wayN (hx hy cap st en : Int) (l t : List (List Value)) : Int := cond (decide (timesE hx hy cap st en l t = 0)) (W (timesN hx hy cap st en l t - st - sumD 0 1 (timesR hx hy cap st en l t) - sumD 1 2 (timesR hx hy cap st en l t))) 0
def sameSpec (xs ys : List (List Value)) : LoopSpec where
  S := Int
  regs := fun k => [(5, K k)]
  keep := [0, 1]
  heap := fun _ => []
  inv := fun k => 0 ≤ k ∧ k ≤ xs.length ∧ xs.take k.toNat = ys.take k.toNat
  mu := fun k => ((xs.length : Int) - k).toNat
def sameL (f : Nat) (xs ys : List (List Value)) : LoopSpecs := fun g i => cond (Nat.beq g f && Nat.beq i 4) (some fun _ => sameSpec xs ys) none
def pPlr := ParL.cons pS (.cons (.row RK) .nil)
noncomputable def kPlr := kOf pPlr fun ((q, k, _), t, _) => { need := [], val := .tup [.agg [I (pX t q k), I (pY t q k)], .b (inR t q k)] }
noncomputable def G20 : PC := addPC G19 47 kPlr
def pWrp := ParL.cons pVeh (.cons (.row SK) (.cons (.row RK) .nil))
noncomputable def kWrp := kOf pWrp fun ((hx, hy, cap, st, en, _), l, t, _) => { need := [], val := B (wrongE hx hy cap st en l t) 0 8 }
noncomputable def G21 : PC := addPC G20 21 kWrp
def pWrr := ParL.cons pVeh (.cons (.row SK) (.cons (.row RK) .nil))
noncomputable def kWrr := kOf pWrr fun ((hx, hy, cap, st, en, _), l, t, _) => { need := [], val := B (wrongE hx hy cap st en l t) 0 8 }
noncomputable def G22 : PC := addPC G21 30 kWrr
def pTmp := ParL.cons pVeh (.cons (.row SK) (.cons (.row RK) .nil))
noncomputable def kTmp := kOf pTmp fun ((hx, hy, cap, st, en, _), l, t, _) => { need := [], val := .tup [SN, T20 (timesN hx hy cap st en l t), B (timesE hx hy cap st en l t) 0 9], news := [.row 55 TK (timesR hx hy cap st en l t)] }
noncomputable def G23 : PC := addPC G22 10 kTmp
def pSmt := ParL.cons (.row TK) (.cons (.row TK) .nil)
noncomputable def kSmt := kOf pSmt fun (xs, ys, _) => { need := [], val := .b (dB (xs = ys)) }
noncomputable def G24 : PC := addPC G23 20 kSmt
def PK : List Kd := [.int .i64]
def lst (n : Int) : List (List Value) → Int
  | [] => n
  | x :: l => lst (min n (geti x 0)) l
def lsSpec (n : Int) (xs : List (List Value)) : LoopSpec where
  S := Int
  regs := fun k => [(9, K k), (0, I (lst n (xs.take k.toNat)))]
  keep := [7]
  heap := fun _ => []
  inv := fun k => 0 ≤ k ∧ k ≤ xs.length
  mu := fun k => ((xs.length : Int) - k).toNat
def lsL (n : Int) (xs : List (List Value)) : LoopSpecs := fun g i => cond (Nat.beq g 43 && Nat.beq i 2) (some fun _ => lsSpec n xs) none
def sp (t l : List (List Value)) (k : Int) (i j : Nat) (e : Int) : Int := cond (decide (k = lenI l)) e (cond (decide (geti (l.getD k.toNat []) 1 = 0)) (rf t (geti (l.getD k.toNat []) 0) i) (rf t (geti (l.getD k.toNat []) 0) j))
def spNeed (t l : List (List Value)) (k : Int) : Bool := decide (k = lenI l) || (decide (0 ≤ k ∧ k < lenI l) && decide (0 ≤ geti (l.getD k.toNat []) 0 ∧ geti (l.getD k.toNat []) 0 < lenI t))
/-- The latest Begin of the stop that is j-th from the end; none: the shift's end. -/
def lat (t l : List (List Value)) (hx hy en : Int) : Nat → Int
  | 0 => en
  | j + 1 => min (sp t l ((l.length - (j + 1) : Nat) : Int) 5 7 en) (lat t l hx hy en j - sp t l ((l.length - (j + 1) : Nat) : Int) 9 9 0 - dist (sp t l ((l.length - (j + 1) : Nat) : Int) 0 2 hx) (sp t l ((l.length - (j + 1) : Nat) : Int) 1 3 hy) (sp t l ((l.length - j : Nat) : Int) 0 2 hx) (sp t l ((l.length - j : Nat) : Int) 1 3 hy))
def latR (t l : List (List Value)) (hx hy en : Int) : Nat → List (List Value)
  | 0 => List.replicate l.length [.int .i64 0]
  | j + 1 => (latR t l hx hy en j).set (l.length - (j + 1)) [.int .i64 (lat t l hx hy en (j + 1))]
def latest (hx hy cap st en : Int) (l t : List (List Value)) : List (List Value) := cond (decide (timesE hx hy cap st en l t = 0)) (latR t l hx hy en l.length) []
def LB (n : Int) : SV := .i .i64 n (-1000000) 1048576
def ltSpec (t l : List (List Value)) (hx hy en : Int) : LoopSpec where
  S := Int
  regs := fun j => [(5, .i .i64 ((l.length : Int) - 1 - j) (-1) 9223372036854775807), (4, LB (lat t l hx hy en j.toNat))]
  keep := [0, 1, 3]
  heap := fun j => [(27000, .row 3 PK (latR t l hx hy en j.toNat))]
  inv := fun j => 0 ≤ j ∧ j ≤ l.length
  mu := fun j => ((l.length : Int) - j).toNat
def ltL (t l : List (List Value)) (hx hy en : Int) : LoopSpecs := fun g i => cond (Nat.beq g 42 && Nat.beq i 3) (some fun _ => ltSpec t l hx hy en) none
def pLine : Par (Int × Int × Int × Int × Int × List (List Value) × List (List Value) × Unit) := .agg (.cons pI (.cons pI (.cons pI (.cons pI (.cons pI (.cons (.row SK) (.cons (.row RK) .nil)))))))
def pLs := ParL.cons pI (.cons (.row PK) .nil)
noncomputable def kLs := kOf pLs fun (n, xs, _) => { need := [], val := I (lst n xs) }
noncomputable def G25 : PC := addPC G24 43 kLs
def pSp := ParL.cons pLine (.cons pI .nil)
noncomputable def kSp := kOf pSp fun ((hx, hy, cap, st, en, l, t, _), k, _) => { need := [spNeed t l k], val := .agg [I (sp t l k 0 2 hx), I (sp t l k 1 3 hy), I (sp t l k 4 6 0), I (sp t l k 5 7 en), I (sp t l k 9 9 0)] }
noncomputable def G26 : PC := addPC G25 26 kSp
def pLt := ParL.cons pVeh (.cons (.row SK) (.cons (.row RK) .nil))
noncomputable def kLt := kOf pLt fun ((hx, hy, cap, st, en, _), l, t, _) => { need := [], val := .tup [SN, B (timesE hx hy cap st en l t) 0 9], news := [.row 3 PK (latest hx hy cap st en l t)] }
noncomputable def G27 : PC := addPC G26 13 kLt
noncomputable def GT : PC := litPC G27
def hasR (r : Int) (xs : List (List Value)) : Bool := xs.any fun x => decide (geti x 0 = r)
def wOk (xs : List (List Value)) (r i j : Int) : Bool := decide (0 ≤ i) && (decide (i ≤ j) && (decide (j ≤ lenI xs) && (decide (0 ≤ r) && (decide (lenI xs + 2 ≤ 16) && !hasR r xs))))
def wRow (xs : List (List Value)) (r i j : Int) : List (List Value) := xs.take i.toNat ++ (pr r 0 :: ((xs.drop i.toNat).take (j - i).toNat ++ (pr r 1 :: xs.drop j.toNat)))
def wth (xs : List (List Value)) (r i j : Int) : List (List Value) := cond (wOk xs r i j) (wRow xs r i j) []
def wpre (xs : List (List Value)) (r i j : Int) : Nat → List (List Value)
  | 0 => []
  | k + 1 => wpre xs r i j k ++ (cond (decide ((k : Int) = i)) [pr r 0] [] ++ (cond (decide ((k : Int) = j)) [pr r 1] [] ++ cond (decide ((k : Int) < xs.length)) [xs.getD k []] []))
def withSpec (xs : List (List Value)) (r i j : Int) : LoopSpec where
  S := Int
  regs := fun k => [(11, K k), (10, SN)]
  keep := [0]
  heap := fun _ => []
  news := fun k => [.row 58 SK (wpre xs r i j k.toNat)]
  inv := fun k => 0 ≤ k ∧ k ≤ (xs.length : Int) + 1 ∧ hasR r (xs.take k.toNat) = false
  mu := fun k => ((xs.length : Int) + 1 - k).toNat
def withL (xs : List (List Value)) (r i j : Int) : LoopSpecs := fun g q => cond (Nat.beq g 29 && Nat.beq q 5) (some fun _ => withSpec xs r i j) none
def BK : List Kd := [.int .u8]
def byt (bs : List (List Value)) (k : Nat) : Int := geti (bs.getD k []) 0
def madeN (bs : List (List Value)) : Nat → List (List Value)
  | 0 => []
  | k + 1 => wth (madeN bs k) k (min (byt bs (2 * k) % (lenI (madeN bs k) + 1)) (byt bs (2 * k + 1) % (lenI (madeN bs k) + 1))) (max (byt bs (2 * k) % (lenI (madeN bs k) + 1)) (byt bs (2 * k + 1) % (lenI (madeN bs k) + 1)))
def made (bs : List (List Value)) : List (List Value) := madeN bs (min (bs.length / 2) 6)
def mdSpec (bs : List (List Value)) : LoopSpec where
  S := Int
  regs := fun k => [(4, K (2 * k)), (3, SN)]
  keep := [0]
  heap := fun _ => []
  news := fun k => [.row 58 SK (madeN bs k.toNat)]
  inv := fun k => 0 ≤ k ∧ k ≤ 6 ∧ 2 * k ≤ bs.length
  mu := fun k => (6 - k).toNat
def mdL (bs : List (List Value)) : LoopSpecs := fun g q => cond (Nat.beq g 16 && Nat.beq q 3) (some fun _ => mdSpec bs) none
def pWr := ParL.cons (.row SK) (.cons pI (.cons pI (.cons pI .nil)))
noncomputable def kWr := kOf pWr fun (xs, r, i, j, _) => { need := [decide (lenI xs ≤ 1000000)], val := .tup [SN, .b (wOk xs r i j)], news := [.row 58 SK (wth xs r i j)] }
noncomputable def G28 : PC := addPC G27 29 kWr
def pMd := ParL.cons (.row BK) .nil
noncomputable def kMd := kOf pMd fun (bs, _) => { need := [], val := SN, news := [.row 58 SK (made bs)] }
noncomputable def G29 : PC := addPC G28 16 kMd
def A6 : List Kd := [.int .u8, .int .u8, .int .u8, .int .u8, .int .u8, .int .u8]
def U8 (n : Int) : SV := .i .u8 n 0 255
def pU8 : Par Int := .int .u8 0 255
def pU16 : Par Int := .int .u16 0 65535
def q1 (w : Int) (x : List Value) : List Value := [.int .i64 (geti x 0 % 16), .int .i64 (geti x 0 / 16), .int .i64 (geti x 1 % 16), .int .i64 (geti x 1 / 16), .int .i64 (geti x 2), .int .i64 (geti x 2 + (20 + 4 * w)), .int .i64 (geti x 3), .int .i64 (geti x 3 + (20 + 4 * w) + 60), .int .i64 (1 + geti x 4 % 40), .int .i64 (geti x 5 % 8)]
def q2 (n : Int) : List Value := [.int .i64 0, .int .i64 0, .int .i64 0, .int .i64 0, .int .i64 0, .int .i64 400, .int .i64 0, .int .i64 900, .int .i64 2, .int .i64 n]
def qs (w : Int) (rs : List (List Value)) : List (List Value) := (rs.take 12).map (q1 w)
def qAdd : List (List Value) → Nat → List (List Value)
  | xs, 0 => xs
  | xs, n + 1 => qAdd (xs ++ [q2 xs.length]) n
def pTs (w : Int) (rs : List (List Value)) : List (List Value) := qAdd (qs w rs) (6 - (qs w rs).length)
def p1Spec (w : Int) (rs : List (List Value)) : LoopSpec where
  S := Int
  regs := fun k => [(7, K k), (6, SN)]
  keep := [1, 2, 5]
  heap := fun _ => []
  news := fun k => [.row 41 RK (qs w (rs.take k.toNat))]
  inv := fun k => 0 ≤ k ∧ k ≤ 12 ∧ k ≤ rs.length
  mu := fun k => (12 - k).toNat
def p2Spec (w : Int) (rs : List (List Value)) : LoopSpec where
  S := Int
  regs := fun _ => [(6, SN)]
  keep := [1, 2, 5]
  heap := fun _ => []
  news := fun k => [.row 41 RK (qAdd (qs w rs) k.toNat)]
  inv := fun k => 0 ≤ k ∧ k ≤ 6 - min (qs w rs).length 6
  mu := fun k => (6 - k).toNat
def prL (w : Int) (rs : List (List Value)) : LoopSpecs := fun g i => cond (Nat.beq g 7) (cond (Nat.beq i 5) (some fun _ => p1Spec w rs) (cond (Nat.beq i 11) (some fun _ => p2Spec w rs) none)) none
def pPlc := ParL.cons pU8 .nil
noncomputable def kPlc := kOf pPlc fun (n, _) => { need := [], val := .agg [B (n % 16) 0 15, B (n / 16) 0 255] }
noncomputable def G30 : PC := addPC G29 15 kPlc
def pPrt := ParL.cons (.agg (.cons pU8 (.cons pU8 (.cons (.row A6) (.cons (.row BK) (.cons pU8 (.cons pU16 .nil))))))) .nil
noncomputable def kPrt := kOf pPrt fun ((h, w, rs, bs, s, e, _), _) => { need := [], val := .tup [.agg [B (h % 16) 0 15, B (h / 16) 0 255, B (1 + w * 20) 0 10000, B (s % 50) 0 10000, B (s % 50 + e % 900) 0 10000], SN, .row 1000001], news := [.row 41 RK (pTs w rs), .row 58 SK (made bs)] }
noncomputable def G31 : PC := addPC G30 7 kPrt
def pWk := ParL.nil
noncomputable def kWk := kOf pWk fun _ => { need := [], val := .v (.bool true) }
noncomputable def G32 : PC := addPC G31 9 kWk
def W64 (x : Int) : Int := IntKind.i64.wrap x
def fl (a xs : List (List Value)) : Nat → List (List Value)
  | 0 => a
  | k + 1 => (fl a xs k).set k [.int .i64 (W64 (geti ((fl a xs k).getD k []) 0 - geti (xs.getD k []) 1))]
def floats (hx hy cap st en : Int) (l t : List (List Value)) : List (List Value) := fl (latest hx hy cap st en l t) (timesR hx hy cap st en l t) (timesR hx hy cap st en l t).length
def flSpec (a xs : List (List Value)) : LoopSpec where
  S := Int
  regs := fun k => [(34, K k)]
  keep := [32]
  heap := fun k => [(11, .row 3 PK (fl a xs k.toNat))]
  inv := fun k => 0 ≤ k ∧ k ≤ xs.length
  mu := fun k => ((xs.length : Int) - k).toNat
def flL (a xs : List (List Value)) : LoopSpecs := fun g i => cond (Nat.beq g 11 && Nat.beq i 6) (some fun _ => flSpec a xs) none
/-- A push of stop i: when the m-th stop from it begins (m = 0: itself), and when is come to what lies behind that. -/
def sq (l : List (List Value)) (k : Nat) : Int := geti (l.getD k []) 0
def sk (l : List (List Value)) (k : Nat) : Int := geti (l.getD k []) 1
structure PS where
  b : Int
  e : Int
def pGo (t l : List (List Value)) (hx hy : Int) (k : Nat) (b : Int) : Int := b + sp t l (k : Int) 9 9 0 + dist (sp t l (k : Int) 0 2 hx) (sp t l (k : Int) 1 3 hy) (sp t l ((k + 1 : Nat) : Int) 0 2 hx) (sp t l ((k + 1 : Nat) : Int) 1 3 hy)
def ps (t l : List (List Value)) (hx hy en : Int) (i : Nat) (b0 : Int) : Nat → PS
  | 0 => ⟨b0, pGo t l hx hy i b0⟩
  | m + 1 => ⟨waitN (sp t l ((i + (m + 1) : Nat) : Int) 4 6 0) (sp t l ((i + (m + 1) : Nat) : Int) 5 7 en) (ps t l hx hy en i b0 m).e, pGo t l hx hy (i + (m + 1)) (waitN (sp t l ((i + (m + 1) : Nat) : Int) 4 6 0) (sp t l ((i + (m + 1) : Nat) : Int) 5 7 en) (ps t l hx hy en i b0 m).e)⟩
def pB (t l : List (List Value)) (hx hy en : Int) (i : Nat) (b0 : Int) (m : Nat) : Int := (ps t l hx hy en i b0 m).b
def pE (t l : List (List Value)) (hx hy en : Int) (i : Nat) (b0 : Int) (m : Nat) : Int := (ps t l hx hy en i b0 m).e
def pW (t l : List (List Value)) (hx hy en : Int) (i : Nat) (b0 : Int) (m : Nat) : Bool := decide (Wait (sp t l ((i + (m + 1) : Nat) : Int) 4 6 0) (sp t l ((i + (m + 1) : Nat) : Int) 5 7 en) (pE t l hx hy en i b0 m))
def pR (t l : List (List Value)) (hx hy en : Int) (i : Nat) (a0 b0 : Int) (xs : List (List Value)) : Nat → List (List Value)
  | 0 => xs.set i [.int .i64 a0, .int .i64 b0, .int .i64 (b0 + sp t l (i : Int) 9 9 0)]
  | m + 1 => (pR t l hx hy en i a0 b0 xs m).set (i + (m + 1)) [.int .i64 (pE t l hx hy en i b0 m), .int .i64 (pB t l hx hy en i b0 (m + 1)), .int .i64 (pB t l hx hy en i b0 (m + 1) + sp t l ((i + (m + 1) : Nat) : Int) 9 9 0)]
def p0 (xs : List (List Value)) (i : Nat) (by' : Int) : Int := geti (xs.getD i []) 1 + by'
def pE0 (t l : List (List Value)) (en : Int) (i : Nat) (b0 : Int) : Int := cond (decide (sp t l (i : Int) 5 7 en < b0)) 9 0
def pIn (t l : List (List Value)) (hx hy en : Int) (i : Nat) (b0 : Int) : Bool := decide (b0 ≤ sp t l (i : Int) 5 7 en) && ((List.range (l.length - 1 - i)).all (pW t l hx hy en i b0) && decide (pE t l hx hy en i b0 (l.length - 1 - i) ≤ en))
def pArg (l : List (List Value)) (i by' : Int) : Bool := decide (0 ≤ i) && (decide (i < lenI l) && (decide (0 ≤ by') && decide (by' ≤ 1048576)))
def pushE (hx hy cap st en : Int) (l t : List (List Value)) (i by' : Int) : Int := cond (decide (timesE hx hy cap st en l t = 0)) (cond (pArg l i by') (cond (pIn t l hx hy en i.toNat (p0 (timesR hx hy cap st en l t) i.toNat by')) 0 9) 2) (timesE hx hy cap st en l t)
def pushR (hx hy cap st en : Int) (l t : List (List Value)) (i by' : Int) : List (List Value) := cond (decide (pushE hx hy cap st en l t i by' = 0)) (pR t l hx hy en i.toNat (geti ((timesR hx hy cap st en l t).getD i.toNat []) 0) (p0 (timesR hx hy cap st en l t) i.toNat by') (timesR hx hy cap st en l t) (l.length - 1 - i.toNat)) []
def pushN (hx hy cap st en : Int) (l t : List (List Value)) (i by' : Int) : Int := cond (decide (pushE hx hy cap st en l t i by' = 0)) (pE t l hx hy en i.toNat (p0 (timesR hx hy cap st en l t) i.toNat by') (l.length - 1 - i.toNat)) 0
structure PInv (t l : List (List Value)) (hx hy en : Int) (i : Nat) (b0 : Int) (m : Int) : Prop where
  m0 : 0 ≤ m
  m1 : i + m + 1 ≤ l.length
  ok : ∀ j, j < m.toNat → pW t l hx hy en i b0 j = true
def A20 (n : Int) : SV := .i .i64 n 0 4000000
def puSpec (t l : List (List Value)) (hx hy en : Int) (i : Nat) (a0 b0 : Int) (xs : List (List Value)) : LoopSpec where
  S := Int
  regs := fun m => [(15, K (i + 1 + m)), (11, A20 (pE t l hx hy en i b0 m.toNat))]
  keep := [1, 2, 5, 13, 10]
  heap := fun m => [(23, .row 55 TK (pR t l hx hy en i a0 b0 xs m.toNat)), (12, .cells 47 [B (pE0 t l en i b0) 0 9])]
  inv := PInv t l hx hy en i b0
  mu := fun m => ((l.length : Int) - m).toNat
def puL (hx hy cap st en : Int) (l t : List (List Value)) (i by' : Int) : LoopSpecs := fun g q => cond (Nat.beq g 12 && Nat.beq q 10) (some fun _ => puSpec t l hx hy en i.toNat (geti ((timesR hx hy cap st en l t).getD i.toNat []) 0) (p0 (timesR hx hy cap st en l t) i.toNat by') (timesR hx hy cap st en l t)) none
def pFl := ParL.cons pVeh (.cons (.row SK) (.cons (.row RK) .nil))
noncomputable def kFl := kOf pFl fun ((hx, hy, cap, st, en, _), l, t, _) => { need := [], val := .tup [SN, B (timesE hx hy cap st en l t) 0 9], news := [.row 3 PK (floats hx hy cap st en l t)] }
noncomputable def G33 : PC := addPC G32 11 kFl
def pPu := ParL.cons pVeh (.cons (.row SK) (.cons (.row RK) (.cons pI (.cons pI .nil))))
noncomputable def kPu := kOf pPu fun ((hx, hy, cap, st, en, _), l, t, i, b, _) => { need := [], val := .tup [SN, B (pushN hx hy cap st en l t i b) 0 1048576, B (pushE hx hy cap st en l t i b) 0 9], news := [.row 55 TK (pushR hx hy cap st en l t i b)] }
noncomputable def G34 : PC := addPC G33 12 kPu
end Go.Proofs.Ytojdfjmkdplpkaa
