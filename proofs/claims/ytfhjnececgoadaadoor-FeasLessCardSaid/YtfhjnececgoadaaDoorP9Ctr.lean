/- Further contracts of the functions that the chapter's statements reach. No condition. -/
import Derived.Test.YtfhjnececgoadaaDoorF9P
namespace Go.Proofs.YtfhjnececgoadaaDoor
open Go.Eng
set_option linter.unusedSimpArgs false
def pI8 : Par Int := .int .i8 (-128) 127
def byN (bs : List (List Value)) (k : Nat) : Int := cond (decide (bs.length = 0)) 0 (geti (bs.getD (k % bs.length) []) 0)
def wzS (t : List (List Value)) (q k : Int) (z : TS) (b : Int) : TS := ⟨z.n + dist z.x z.y (pk t q k 0 2) (pk t q k 1 3) + b % 8, max (z.n + dist z.x z.y (pk t q k 0 2) (pk t q k 1 3) + b % 8) (pk t q k 4 6) + b / 8, max (z.n + dist z.x z.y (pk t q k 0 2) (pk t q k 1 3) + b % 8) (pk t q k 4 6) + b / 8 + rf t q 9, pk t q k 0 2, pk t q k 1 3⟩
def wz (t l bs : List (List Value)) (hx hy st : Int) : Nat → TS
  | 0 => ⟨0, 0, st, hx, hy⟩
  | k + 1 => wzS t (sq l k) (sk l k) (wz t l bs hx hy st k) (byN bs k)
def wN (t l bs : List (List Value)) (hx hy st : Int) (k : Nat) : Int := (wz t l bs hx hy st k).n
def wA (t l bs : List (List Value)) (hx hy st : Int) (k : Nat) : Int := (wz t l bs hx hy st k).a
def wB (t l bs : List (List Value)) (hx hy st : Int) (k : Nat) : Int := (wz t l bs hx hy st k).b
def wRow (t l bs : List (List Value)) (hx hy st : Int) (k : Nat) : List Value := [.int .i64 (wA t l bs hx hy st (k + 1)), .int .i64 (wB t l bs hx hy st (k + 1)), .int .i64 (wN t l bs hx hy st (k + 1))]
def wRows (t l bs : List (List Value)) (hx hy st : Int) (m : Nat) : List (List Value) := (List.range m).map (wRow t l bs hx hy st)
def adj (x : List Value) (w d : Int) : List Value := cond (decide (w % 3 = 0)) [.int .i64 (geti x 0 + d), .int .i64 (geti x 1), .int .i64 (geti x 2)] (cond (decide (w % 3 = 1)) [.int .i64 (geti x 0), .int .i64 (geti x 1 + d), .int .i64 (geti x 2)] [.int .i64 (geti x 0), .int .i64 (geti x 1), .int .i64 (geti x 2 + d)])
def pT (t l bs : List (List Value)) (hx hy st a w d : Int) : List (List Value) := (wRows t l bs hx hy st l.length).set (a.toNat % l.length) (adj ((wRows t l bs hx hy st l.length).getD (a.toNat % l.length) []) w d)
def ptSpec (t l bs : List (List Value)) (hx hy st : Int) : LoopSpec where
  S := Int
  regs := fun k => [(12, K k), (11, A11 (wN t l bs hx hy st k.toNat)), (9, SN)]
  keep := [2, 3, 4, 5]
  heap := fun k => [(10, .cells 32 [I (lX t l hx hy st k.toNat), I (lY t l hx hy st k.toNat)])]
  news := fun k => [.row 40 TK (wRows t l bs hx hy st k.toNat)]
  inv := fun k => 0 ≤ k ∧ k ≤ l.length
  mu := fun k => ((l.length : Int) - k).toNat
def ptL (t l bs : List (List Value)) (hx hy st : Int) : LoopSpecs := fun g i => cond (Nat.beq g 13 && Nat.beq i 4) (some fun _ => ptSpec t l bs hx hy st) none
def pPti := ParL.cons (.agg (.cons (.row [.int .u8]) (.cons pU8 (.cons pU8 (.cons pI8 .nil))))) (.cons pVeh (.cons (.row SK) (.cons (.row RK) .nil)))
noncomputable def kPti := kOf pPti fun ((bs, a, w, d, _), (hx, hy, cap, st, en, _), l, t, _) => { need := [rngs l t, reqsOk t, decide (0 ≤ st ∧ st ≤ 1048576), decide (lenI l ≤ 16)], val := SN, news := [.row 40 TK (pT t l bs hx hy st a w d)] }
noncomputable def G46 : PC := addPC G45 13 kPti
end Go.Proofs.YtfhjnececgoadaaDoor
