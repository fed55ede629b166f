/- Contracts of the functions that the chapter's statements reach: what each answers, as plain functions. No condition. -/
import Derived.Test.YteklfbeeiahcpaaRows
import Derived.Test.YteklfbeeiahcpaaV3O
namespace Go.Proofs.Yteklfbeeiahcpaa
open Go.Eng
theorem mixed : Try.prog.follows .mixedOrders = true := by kernel_rfl
def GL : PC := litPC noPC
theorem okGL : PCok Try.prog GL := litPC_ok noPC_ok
def G0 : PC := noPC
def I (n : Int) : SV := .i .i64 n (-9223372036854775808) 9223372036854775807
def U (n : Int) : SV := .i .u64 n 0 18446744073709551615
def K (n : Int) : SV := .i .i64 n 0 9223372036854775807
def W (x : Int) : Int := IntKind.i64.wrap x
def pI : Par Int := .int .i64 (-9223372036854775808) 9223372036854775807
def pU : Par Int := .int .u64 0 18446744073709551615
def mI : ParM Int := .of pI fun _ _ => rfl
def mU : ParM Int := .of pU fun _ _ => rfl
def EK : List Kd := [.int .i64, .int .i64, .int .u64]
def ent (f t n : Int) : List Value := [.int .i64 f, .int .i64 t, .int .u64 n]
def wv (c : Int) (x : List Value) : Int := (if geti x 1 = c then geti x 2 else 0) - (if geti x 0 = c then geti x 2 else 0)
def net (c : Int) : List (List Value) → Int
  | [] => 0
  | x :: l => wv c x + net c l
def netN (xs : List (List Value)) : Nat → Int
  | 0 => 0
  | n + 1 => netN xs n + net n xs
def totSpec (c : Int) (xs : List (List Value)) : LoopSpec where
  S := Int
  regs := fun k => [(9, K k), (4, I (W (net c (xs.take k.toNat))))]
  keep := [7]
  heap := fun _ => []
  inv := fun k => 0 ≤ k ∧ k ≤ xs.length
  mu := fun k => ((xs.length : Int) - k).toNat
def totL (c : Int) (xs : List (List Value)) : LoopSpecs := fun g i => cond (Nat.beq g 19 && Nat.beq i 2) (some fun _ => totSpec c xs) none
def sumSpec (N : Int) (xs : List (List Value)) : LoopSpec where
  S := Int
  regs := fun k => [(10, K k), (2, I (W (netN xs k.toNat)))]
  keep := [0]
  heap := fun _ => []
  inv := fun k => 0 ≤ k ∧ k ≤ N
  mu := fun k => (N - k).toNat
def sumL (N : Int) (xs : List (List Value)) : LoopSpecs := fun g i => cond (Nat.beq g 15 && Nat.beq i 4) (some fun _ => sumSpec N xs) none
def rofSpec (c : Int) (xs : List (List Value)) : LoopSpec where
  S := Int
  regs := fun k => [(6, K k), (5, I (W (net c (xs.take k.toNat))))]
  keep := [0]
  heap := fun _ => []
  inv := fun k => 0 ≤ k ∧ k ≤ xs.length
  mu := fun k => ((xs.length : Int) - k).toNat
def rofL (c : Int) (xs : List (List Value)) : LoopSpecs := fun g i => cond (Nat.beq g 18 && Nat.beq i 3) (some fun _ => rofSpec c xs) none
def pL : Par (Int × List (List Value) × Unit) := .ptr (.cons pI (.cons (.row EK) .nil))
def mL (t e : TypeId) : ParM (Int × List (List Value) × Unit) := .ptr t (.cons mI (.cons (.row e EK) .nil))
def payE (N f t n : Int) : Int := if f < 0 ∨ N ≤ f ∨ t < 0 ∨ N ≤ t then 12 else if f = t then 2 else if 16777216 < n then 3 else 0
def payX (N f t n : Int) (xs : List (List Value)) : List (List Value) := if payE N f t n = 0 then xs ++ [ent f t n] else xs
noncomputable def dB (p : Prop) : Bool := @decide p (Classical.propDecidable p)
def valE (N : Int) (x : List Value) : Prop := x = ent (geti x 0) (geti x 1) (geti x 2) ∧ 0 ≤ geti x 0 ∧ geti x 0 < N ∧ 0 ≤ geti x 1 ∧ geti x 1 < N
def Valid (N : Int) (xs : List (List Value)) : Prop := ∀ x ∈ xs, valE N x
def pTot := ParL.cons (.row EK) (.cons (.fn 20 (.cons pI .nil) .nil) .nil)
noncomputable def kTot := kOf pTot fun (xs, ((c, _), _), _) => { need := [], val := I (W (net c xs)) }
noncomputable def G1 : PC := addPC G0 19 kTot
def pBal := ParL.cons pL (.cons pI .nil)
noncomputable def kBal := kOf pBal fun ((N, xs, _), c, _) => { need := [], val := I (W (net c xs)) }
noncomputable def G2 : PC := addPC G1 14 kBal
def pSum := ParL.cons pL .nil
noncomputable def kSum := kOf pSum fun ((N, xs, _), _) => { need := [decide (0 ≤ N)], val := I (W (netN xs N.toNat)) }
noncomputable def G3 : PC := addPC G2 15 kSum
def pRof := ParL.cons pL (.cons pI .nil)
noncomputable def kRof := kOf pRof fun ((N, xs, _), c, _) => { need := [], val := I (W (net c xs)) }
noncomputable def G4 : PC := addPC G3 18 kRof
def pPay := ParML.cons (mL 50 47) (.cons mI (.cons mI (.cons mU .nil)))
noncomputable def kPay := kOfM pPay fun ((N, xs, _), f, t, n, _) => { need := [decide (lenI xs ≤ 1000000)], val := .i .i64 (payE N f t n) 0 12, heap := [(1, .cells 50 [I N, .row 1000000])], news := [.row 47 EK (payX N f t n xs)] }
noncomputable def G5 : PC := addPC G4 11 kPay
def pRpay := ParML.cons (mL 53 54) (.cons mI (.cons mI (.cons mU .nil)))
noncomputable def kRpay := kOfM pRpay fun ((N, xs, _), f, t, n, _) => { need := [decide (lenI xs ≤ 1000000)], val := .i .i64 (payE N f t n) 0 12, heap := [(1, .cells 53 [I N, .row 1000000])], news := [.row 54 EK (payX N f t n xs)] }
noncomputable def G6 : PC := addPC G5 12 kRpay
def alSpec1 (xs : List (List Value)) : LoopSpec where
  S := Int
  regs := fun k => [(6, K k)]
  keep := [0, 1, 5]
  heap := fun _ => []
  inv := fun k => 0 ≤ k ∧ k ≤ xs.length
  mu := fun k => ((xs.length : Int) - k).toNat
def alSpec2 : LoopSpec where
  S := Int
  regs := fun k => [(7, .i .i64 k (-1) 10)]
  keep := [0, 1]
  heap := fun _ => []
  inv := fun k => -1 ≤ k ∧ k ≤ 10
  mu := fun k => (10 - k).toNat
def alL (xs : List (List Value)) : LoopSpecs := fun g i => cond (Nat.beq g 13) (cond (Nat.beq i 5) (some fun _ => alSpec1 xs) (cond (Nat.beq i 10) (some fun _ => alSpec2) none)) none
def AlOk (N M : Int) (xs ys : List (List Value)) : Prop := ys = xs ∧ M = N ∧ Valid N xs ∧ 0 ≤ N ∧ N ≤ 8 ∧ xs.length ≤ 1000000
def pAl := ParL.cons pL (.cons pL .nil)
noncomputable def kAl := kOf pAl fun ((N, xs, _), (M, ys, _), _) => { need := [dB (AlOk N M xs ys)], val := .v (.bool true) }
noncomputable def G7 : PC := addPC G6 13 kAl
def pWk := ParL.nil
noncomputable def kWk := kOf pWk fun _ => { need := [], val := .v (.bool true) }
noncomputable def G8 : PC := addPC G7 9 kWk
def AK : List Kd := [.int .u8, .int .u8, .int .u64]
def paidE (a : List Value) : List Value := ent (geti a 0 % 8) ((geti a 0 % 8 + 1 + geti a 1 % 7) % 8) (geti a 2 % 16777217)
def paidX (xs : List (List Value)) : List (List Value) := (xs.take 50).map paidE
def paidSpec (xs : List (List Value)) : LoopSpec where
  S := Int
  regs := fun k => [(5, .i .i64 k 0 50)]
  keep := [0]
  heap := fun _ => [(3, .cells 50 [.v (.int .i64 8), .row 1000000])]
  news := fun k => [.row 47 EK ((xs.take k.toNat).map paidE)]
  inv := fun k => 0 ≤ k ∧ k ≤ xs.length ∧ k ≤ 50
  mu := fun k => (50 - k).toNat
def paidL (xs : List (List Value)) : LoopSpecs := fun g i => cond (Nat.beq g 16 && Nat.beq i 5) (some fun _ => paidSpec xs) none
def pPd := ParL.cons (.row AK) .nil
noncomputable def kPd := kOf pPd fun (xs, _) => { need := [], val := .ptr 1000000 0, news := [.cells 50 [.v (.int .i64 8), .row 1000001], .row 47 EK (paidX xs)] }
noncomputable def G9 : PC := addPC G8 16 kPd
end Go.Proofs.Yteklfbeeiahcpaa
