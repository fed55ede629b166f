/- Contracts of the functions that the chapter's statements reach: what each answers, as plain functions. No condition. -/
import Derived.Test.YtjdoiblonbinjaaRows
import Derived.Test.YtjdoiblonbinjaaV3O
namespace Go.Proofs.Ytjdoiblonbinjaa
open Go.Eng
theorem mixed : Try.prog.follows .mixedOrders = true := by kernel_rfl
def GL : PC := litPC noPC
theorem okGL : PCok Try.prog GL := litPC_ok noPC_ok
def G0 : PC := noPC
def I (n : Int) : SV := .i .i64 n (-9223372036854775808) 9223372036854775807
def K (n : Int) : SV := .i .i64 n 0 9223372036854775807
def S (b : ByteArray) : SV := .s b 9223372036854775807
def pI : Par Int := .int .i64 (-9223372036854775808) 9223372036854775807
def mI : ParM Int := .of pI fun _ _ => rfl
def pS : Par ByteArray := .str 9223372036854775807
def mS : ParM ByteArray := .of pS fun _ _ => rfl
def PK : List Kd := [.int .i64, .int .i64, .str]
def pk (f t : Int) (s : ByteArray) : List Value := [.int .i64 f, .int .i64 t, .string s]
def pL : Par (Int × List (List Value) × Unit) := .ptr (.cons pI (.cons (.row PK) .nil))
def mL (t e : TypeId) : ParM (Int × List (List Value) × Unit) := .ptr t (.cons mI (.cons (.row e PK) .nil))
noncomputable def dB (p : Prop) : Bool := @decide p (Classical.propDecidable p)
def okC (N c : Int) : Prop := -1 ≤ c ∧ c < N
def sendE (N f t : Int) : Int := if f < -1 ∨ N ≤ f ∨ t < -1 ∨ N ≤ t then 12 else if f = t then 2 else 0
def sendX (N f t : Int) (s : ByteArray) (xs : List (List Value)) : List (List Value) := if sendE N f t = 0 then xs ++ [pk f t s] else xs
def inX (i : Int) (xs : List (List Value)) : Prop := 0 ≤ i ∧ i < xs.length
noncomputable def at0 (i : Int) (xs : List (List Value)) : List Value := if dB (inX i xs) = true then xs.getD i.toNat [] else pk 0 0 .empty
noncomputable def atV (i : Int) (xs : List (List Value)) : SV := .agg [I (geti (at0 i xs) 0), I (geti (at0 i xs) 1), S (gets (at0 i xs) 2)]
noncomputable def errI (i : Int) (xs : List (List Value)) : Int := cond (dB (inX i xs)) 0 12
noncomputable def delX (i : Int) (xs : List (List Value)) : List (List Value) := cond (dB (inX i xs)) (xs.eraseIdx i.toNat) xs
noncomputable def twX (i : Int) (xs : List (List Value)) : List (List Value) := cond (dB (inX i xs)) (xs ++ [xs.getD i.toNat []]) xs
def sameSpec (xs : List (List Value)) (ys : List (List Value)) : LoopSpec where
  S := Int
  regs := fun k => [(5, K k)]
  keep := [0, 1]
  heap := fun _ => []
  inv := fun k => 0 ≤ k ∧ k ≤ xs.length ∧ xs.take k.toNat = ys.take k.toNat
  mu := fun k => ((xs.length : Int) - k).toNat
def sameL (xs ys : List (List Value)) : LoopSpecs := fun g i => cond (Nat.beq g 23 && Nat.beq i 4) (some fun _ => sameSpec xs ys) none
def rest (i : Int) (xs : List (List Value)) (k : Nat) : List (List Value) := if 0 ≤ i ∧ i < k then (xs.take k).eraseIdx i.toNat else xs.take k
def rdelSpec (i : Int) (xs : List (List Value)) : LoopSpec where
  S := Int
  regs := fun k => [(7, K k), (6, .row 1000000)]
  keep := [0, 4]
  heap := fun _ => []
  news := fun k => [.row 38 PK (rest i xs k.toNat)]
  inv := fun k => 0 ≤ k ∧ k ≤ xs.length
  mu := fun k => ((xs.length : Int) - k).toNat
def rdelL (i : Int) (xs : List (List Value)) : LoopSpecs := fun g i' => cond (Nat.beq g 14 && Nat.beq i' 5) (some fun _ => rdelSpec i xs) none
def pLen := ParL.cons pL .nil
noncomputable def kLen := kOf pLen fun ((N, xs, _), _) => { need := [], val := K xs.length }
noncomputable def G1 : PC := addPC G0 22 kLen
def pCln := ParL.cons (.row PK) .nil
noncomputable def kCln := kOf pCln fun (xs, _) => { need := [decide (lenI xs ≤ 1000000)], val := .row 1000000, news := [.row 38 PK xs] }
noncomputable def G2 : PC := addPC G1 27 kCln
def pAll := ParL.cons pL .nil
noncomputable def kAll := kOf pAll fun ((N, xs, _), _) => { need := [decide (lenI xs ≤ 1000000)], val := .row 1000000, news := [.row 38 PK xs] }
noncomputable def G3 : PC := addPC G2 20 kAll
def pSame := ParL.cons (.row PK) (.cons (.row PK) .nil)
noncomputable def kSame := kOf pSame fun (xs, ys, _) => { need := [], val := .b (dB (xs = ys)) }
noncomputable def G4 : PC := addPC G3 23 kSame
def pAt := ParL.cons pL (.cons pI .nil)
noncomputable def kAt := kOf pAt fun ((N, xs, _), i, _) => { need := [], val := .tup [atV i xs, .b (dB (inX i xs))] }
noncomputable def G5 : PC := addPC G4 19 kAt
def pOne := ParL.cons pL (.cons pI .nil)
noncomputable def kOne := kOf pOne fun ((N, xs, _), i, _) => { need := [decide (0 ≤ N)], val := .b (decide (-1 ≤ i ∧ i < N)) }
noncomputable def G6 : PC := addPC G5 26 kOne
def pSend := ParML.cons (mL 53 38) (.cons mI (.cons mI (.cons mS .nil)))
noncomputable def kSend := kOfM pSend fun ((N, xs, _), f, t, s, _) => { need := [decide (lenI xs ≤ 1000000)], val := .i .i64 (sendE N f t) 0 12, heap := [(1, .cells 53 [I N, .row 1000000])], news := [.row 38 PK (sendX N f t s xs)] }
noncomputable def G7 : PC := addPC G6 11 kSend
def pRsend := ParML.cons (mL 55 38) (.cons mI (.cons mI (.cons mS .nil)))
noncomputable def kRsend := kOfM pRsend fun ((N, xs, _), f, t, s, _) => { need := [decide (lenI xs ≤ 1000000), decide (0 ≤ N)], val := .i .i64 (sendE N f t) 0 12, heap := [(1, .cells 55 [I N, .row 1000000])], news := [.row 38 PK (sendX N f t s xs)] }
noncomputable def G8 : PC := addPC G7 12 kRsend
def pDel := ParML.cons (mL 53 38) (.cons mI .nil)
noncomputable def kDel := kOfM pDel fun ((N, xs, _), i, _) => { need := [decide (lenI xs ≤ 1000000)], val := .tup [atV i xs, .i .i64 (errI i xs) 0 12], heap := [(1, .cells 53 [I N, .row 1000000])], news := [.row 38 PK (delX i xs)] }
noncomputable def G9 : PC := addPC G8 13 kDel
def pRdel := ParML.cons (mL 55 38) (.cons mI .nil)
noncomputable def kRdel := kOfM pRdel fun ((N, xs, _), i, _) => { need := [decide (lenI xs ≤ 1000000)], val := .tup [atV i xs, .i .i64 (errI i xs) 0 12], heap := [(1, .cells 55 [I N, .row 1000000])], news := [.row 38 PK (delX i xs)] }
noncomputable def G10 : PC := addPC G9 14 kRdel
def pDrop := ParML.cons (mL 53 38) (.cons mI .nil)
noncomputable def kDrop := kOfM pDrop fun ((N, xs, _), i, _) => { need := [decide (lenI xs ≤ 1000000)], val := .i .i64 (errI i xs) 0 12, heap := [(1, .cells 53 [I N, .row 1000000])], news := [.row 38 PK (delX i xs)] }
noncomputable def G11 : PC := addPC G10 15 kDrop
def pTw := ParML.cons (mL 53 38) (.cons mI .nil)
noncomputable def kTw := kOfM pTw fun ((N, xs, _), i, _) => { need := [decide (lenI xs ≤ 1000000)], val := .i .i64 (errI i xs) 0 12, heap := [(1, .cells 53 [I N, .row 1000000])], news := [.row 38 PK (twX i xs)] }
noncomputable def G12 : PC := addPC G11 16 kTw
def pRtw := ParML.cons (mL 55 38) (.cons mI .nil)
noncomputable def kRtw := kOfM pRtw fun ((N, xs, _), i, _) => { need := [decide (lenI xs ≤ 1000000)], val := .i .i64 (errI i xs) 0 12, heap := [(1, .cells 55 [I N, .row 1000000])], news := [.row 38 PK (twX i xs)] }
noncomputable def G13 : PC := addPC G12 17 kRtw
def pWk := ParL.nil
noncomputable def kWk := kOf pWk fun _ => { need := [], val := .v (.bool true) }
noncomputable def G14 : PC := addPC G13 9 kWk
def alSpec (xs : List (List Value)) : LoopSpec where
  S := Int
  regs := fun k => [(5, .i .i64 k (-1) 9223372036854775807)]
  keep := [0, 1]
  heap := fun _ => []
  inv := fun k => -1 ≤ k ∧ k ≤ xs.length + 1
  mu := fun k => ((xs.length : Int) + 1 - k).toNat
def alL (xs : List (List Value)) : LoopSpecs := fun g i => cond (Nat.beq g 18 && Nat.beq i 4) (some fun _ => alSpec xs) none
def AlOk (xs ys : List (List Value)) : Prop := ys = xs ∧ xs.length ≤ 1000000
noncomputable def cnt (p : List Value) : List (List Value) → Int
  | [] => 0
  | x :: l => cond (dB (x = p)) 1 0 + cnt p l
noncomputable def cntSpec (p : List Value) (xs : List (List Value)) : LoopSpec where
  S := Int
  regs := fun k => [(6, K k), (5, K (cnt p (xs.take k.toNat)))]
  keep := [0, 3]
  heap := fun _ => []
  inv := fun k => 0 ≤ k ∧ k ≤ xs.length
  mu := fun k => ((xs.length : Int) - k).toNat
noncomputable def cntL (p : List Value) (xs : List (List Value)) : LoopSpecs := fun g i => cond (Nat.beq g 21 && Nat.beq i 3) (some fun _ => cntSpec p xs) none
def pAl := ParL.cons pL (.cons pL .nil)
noncomputable def kAl := kOf pAl fun ((N, xs, _), (M, ys, _), _) => { need := [dB (AlOk xs ys)], val := .v (.bool true) }
noncomputable def G15 : PC := addPC G14 18 kAl
def pCnt := ParL.cons (.row PK) (.cons (.agg (.cons pI (.cons pI (.cons pS .nil)))) .nil)
noncomputable def kCnt := kOf pCnt fun (xs, (f, t, s, _), _) => { need := [], val := K (cnt (pk f t s) xs) }
noncomputable def G16 : PC := addPC G15 21 kCnt
end Go.Proofs.Ytjdoiblonbinjaa
