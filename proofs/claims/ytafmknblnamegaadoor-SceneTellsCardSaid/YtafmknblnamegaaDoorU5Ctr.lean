/- Contracts of the functions that the chapter's statements reach: what each answers, as plain functions. No condition. -/
import Derived.Test.YtafmknblnamegaaDoorRows
import Derived.Test.YtafmknblnamegaaDoorU5Td
import Derived.Test.YtafmknblnamegaaDoorV8O
namespace Go.Proofs.YtafmknblnamegaaDoor
open Go.Eng
theorem mixed : Tryd.prog.follows .mixedOrders = true := by kernel_rfl
def GL : PC := litPC noPC
theorem okGL : PCok Tryd.prog GL := litPC_ok noPC_ok
def G0 : PC := noPC
def I (n : Int) : SV := .i .i64 n (-9223372036854775808) 9223372036854775807
def K (n : Int) : SV := .i .i64 n 0 9223372036854775807
def pI : Par Int := .int .i64 (-9223372036854775808) 9223372036854775807
def mI : ParM Int := .of pI fun _ _ => rfl
noncomputable def dB (p : Prop) : Bool := @decide p (Classical.propDecidable p)
def mF : ParML (Int × Int × Int × Unit) := .cons mI (.cons mI (.cons mI .nil))
def mW : ParM ((Int × Int × Int × Unit) × Unit) := .ifc 87 (.agg (.cons (.ptr 43 mF) .nil))
def fC (c p i : Int) : Blk := .cells 43 [I c, I p, I i]
abbrev PM (a b : Int) : Prop := 0 ≤ a ∧ a ≤ 1023 ∧ 0 ≤ b ∧ b ≤ 1023
abbrev WM (a b : Int) : Prop := 0 ≤ a ∧ a ≤ b ∧ b ≤ 1048576
def apart (a b : Int) : Int := max a b - min a b
def dist (a b c d : Int) : Int := if PM a b ∧ PM c d then apart a c + apart b d else 0
abbrev Wait (a b t : Int) : Prop := WM a b ∧ max t a ≤ b
def waitN (a b t : Int) : Int := if Wait a b t then max t a else 0
abbrev Chk (fx fy tx ty pe pl de dl lo se : Int) : Prop := PM fx fy ∧ PM tx ty ∧ WM pe pl ∧ WM de dl ∧ (1 ≤ lo ∧ lo ≤ 1000) ∧ (0 ≤ se ∧ se ≤ 1000)
def chk (fx fy tx ty pe pl de dl lo se : Int) : Int := if ¬ (PM fx fy ∧ PM tx ty) then 4 else if ¬ (WM pe pl ∧ WM de dl) then 5 else if ¬ ((1 ≤ lo ∧ lo ≤ 1000) ∧ (0 ≤ se ∧ se ≤ 1000)) then 6 else 0
def veh (hx hy cap st en : Int) : Int := if ¬ PM hx hy then 4 else if ¬ ((1 ≤ cap ∧ cap ≤ 100000) ∧ (0 ≤ st ∧ st ≤ en) ∧ (0 ≤ en ∧ en ≤ 1048576)) then 7 else 0
def plS (a b : Int) : SV := .agg [I a, I b]
def B (n lo hi : Int) : SV := .i .i64 n lo hi
def T20 (n : Int) : SV := .i .i64 n 0 1048576
def pPl : Par (Int × Int × Unit) := .agg (.cons pI (.cons pI .nil))
def pReq : Par (Int × Int × Int × Int × Int × Int × Int × Int × Int × Int × Unit) := .agg (.cons pI (.cons pI (.cons pI (.cons pI (.cons pI (.cons pI (.cons pI (.cons pI (.cons pI (.cons pI .nil))))))))))
def pVeh : Par (Int × Int × Int × Int × Int × Unit) := .agg (.cons pI (.cons pI (.cons pI (.cons pI (.cons pI .nil)))))
def req (fx fy tx ty pe pl de dl lo se : Int) : SV := .agg [I fx, I fy, I tx, I ty, I pe, I pl, I de, I dl, I lo, I se]
def vehS (hx hy cap st en : Int) : SV := .agg [I hx, I hy, I cap, I st, I en]
def NK : List Kd := [.bool, .int .i64]
def nd : List (List Value) → Int
  | [] => 0
  | x :: l => cond (getb x 0) (nd l) (geti x 1)
def ndSpec (xs : List (List Value)) : LoopSpec where
  S := Int
  regs := fun k => [(7, K k)]
  keep := [5]
  heap := fun _ => []
  inv := fun k => 0 ≤ k ∧ k ≤ xs.length ∧ nd (xs.drop k.toNat) = nd xs
  mu := fun k => ((xs.length : Int) - k).toNat
def ndL (xs : List (List Value)) : LoopSpecs := fun g i => cond (Nat.beq g 51 && Nat.beq i 2) (some fun _ => ndSpec xs) none
def apSpec (a b : Int) : LoopSpec where
  S := Int
  regs := fun i => [(5, I (IntKind.i64.wrap (i - min a b))), (6, I i)]
  keep := []
  heap := fun _ => []
  inv := fun i => min a b ≤ i ∧ i ≤ max a b
  mu := fun i => (max a b - i).toNat
def apL (a b : Int) : LoopSpecs := fun g i => cond (Nat.beq g 0 && Nat.beq i 3) (some fun _ => apSpec a b) none
def pOn := ParL.cons pI .nil
noncomputable def kOn := kOf pOn fun (a, _) => { need := [], val := .b (decide (0 ≤ a ∧ a ≤ 1023)) }
noncomputable def G1 : PC := addPC G0 58 kOn
def pPMay := ParL.cons pPl .nil
noncomputable def kPMay := kOf pPMay fun ((a, b, _), _) => { need := [], val := .b (decide (PM a b)) }
noncomputable def G2 : PC := addPC G1 52 kPMay
def pPMr := ParL.cons pPl .nil
noncomputable def kPMr := kOf pPMr fun ((a, b, _), _) => { need := [], val := .b (decide (PM a b)) }
noncomputable def G3 : PC := addPC G2 44 kPMr
def pWMay := ParL.cons pPl .nil
noncomputable def kWMay := kOf pWMay fun ((a, b, _), _) => { need := [], val := .b (decide (WM a b)) }
noncomputable def G4 : PC := addPC G3 53 kWMay
def pWMr := ParL.cons pPl .nil
noncomputable def kWMr := kOf pWMr fun ((a, b, _), _) => { need := [], val := .b (decide (WM a b)) }
noncomputable def G5 : PC := addPC G4 45 kWMr
def pWi := ParL.cons pI (.cons pI (.cons pI .nil))
noncomputable def kWi := kOf pWi fun (n, a, b, _) => { need := [], val := .b (decide (a ≤ n ∧ n ≤ b)) }
noncomputable def G6 : PC := addPC G5 54 kWi
def pFst := ParL.cons (.row NK) .nil
noncomputable def kFst := kOf pFst fun (xs, _) => { need := [], val := I (nd xs) }
noncomputable def G7 : PC := addPC G6 51 kFst
def pOch := ParL.cons pReq .nil
noncomputable def kOch := kOf pOch fun ((fx, fy, tx, ty, pe, pl, de, dl, lo, se, _), _) => { need := [], val := B (chk fx fy tx ty pe pl de dl lo se) 0 6 }
noncomputable def G8 : PC := addPC G7 38 kOch
def pRch := ParL.cons pReq .nil
noncomputable def kRch := kOf pRch fun ((fx, fy, tx, ty, pe, pl, de, dl, lo, se, _), _) => { need := [], val := B (chk fx fy tx ty pe pl de dl lo se) 0 6 }
noncomputable def G9 : PC := addPC G8 29 kRch
def pOve := ParL.cons pVeh .nil
noncomputable def kOve := kOf pOve fun ((hx, hy, cap, st, en, _), _) => { need := [], val := B (veh hx hy cap st en) 0 7 }
noncomputable def G10 : PC := addPC G9 40 kOve
def pRve := ParL.cons pVeh .nil
noncomputable def kRve := kOf pRve fun ((hx, hy, cap, st, en, _), _) => { need := [], val := B (veh hx hy cap st en) 0 7 }
noncomputable def G11 : PC := addPC G10 46 kRve
def pSw := ParL.cons pI (.cons pI (.cons pI .nil))
noncomputable def kSw := kOf pSw fun (n, a, b, _) => { need := [], val := .b (decide (a ≤ n ∧ n ≤ b)) }
noncomputable def G12 : PC := addPC G11 35 kSw
def pWhen := ParL.cons .bool (.cons (.int .i64 0 100) .nil)
noncomputable def kWhen := kOf pWhen fun (p, e, _) => { need := [], val := .i .i64 (cond p e 0) 0 100 }
noncomputable def G13 : PC := addPC G12 36 kWhen
noncomputable def G14 : PC := addPC G13 33 kAs
def pTl := ParML.cons mW .nil
noncomputable def kTl := kOfM pTl fun (((c, p, i, _), _), _) => { need := [], val := .agg [I c, I p, I i], heap := [(0, fC c p i)] }
noncomputable def G15 : PC := addPC G14 17 kTl
def pTd := ParML.cons mW (.cons (.agg mF) .nil)
noncomputable def kTd := kOfM pTd fun (((c, p, i, _), _), (a, b, d, _), _) => { need := [decide (a ≠ 0)], val := .b (decide (c = a) && (decide (p = b) && decide (i = d))), heap := [(0, fC c p i)] }
noncomputable def G16 : PC := addPC G15 10 kTd
def pOne := ParL.nil
noncomputable def kOne := kOf pOne fun _ => { need := [], val := .agg [I 0, I 0, I 1, I 0, I 0, I 50, I 0, I 50, I 1, I 0] }
noncomputable def G17 : PC := addPC G16 19 kOne
def pLst := ParL.nil
noncomputable def kLst := kOf pLst fun _ => { need := [], val := .agg [.v (.slice none 0 0), .sl 1000002 0 1 1, .v (.slice none 0 0), I 1, I 1, I 0, .sl 1000001 0 1 1], news := [.cells 57 [I 0, I 0, I 5, I 0, I 99], .cells 73 [.v (.slice none 0 0)], .cells 53 [.sl 1000000 0 1 1, .v (.slice none 0 0)]] }
noncomputable def G18 : PC := addPC G17 18 kLst
noncomputable def GK : PC := litPC G18
end Go.Proofs.YtafmknblnamegaaDoor
