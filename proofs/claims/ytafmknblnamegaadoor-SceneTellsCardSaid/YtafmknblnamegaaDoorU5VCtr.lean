/- Further contracts of the functions that the chapter's statements reach. No condition. -/
import Derived.Test.YtafmknblnamegaaDoorU5EP
namespace Go.Proofs.YtafmknblnamegaaDoor
open Go.Eng
set_option linter.unusedSimpArgs false
def tnC (t : Int) (cs : Fm) : Nat := (t.tmod (cs.length : Int)).toNat
def tnN (ts : Rw) (cs : Fm) (ls : Rw) (ds : Fm) (t : Int) : Bool := decide ((lenI ts ≤ 1000 ∧ lenI ls ≤ 1000 ∧ 1 ≤ (cs.length : Int) ∧ (cs.length : Int) ≤ 1000 ∧ (ds.length : Int) ≤ 1000) ∧ 1 ≤ lenI (fle (cs.getD (tnC t cs) [])) ∧ lenI (fle (cs.getD (tnC t cs) [])) ≤ 1000 ∧ lenI (own (cs.getD (tnC t cs) [])) ≤ 1000)
def rwSet (xs : Rw) (k : Nat) (f : List Value → List Value) : Rw := xs.set k (f (xs.getD k []))
def rqServe (n : Int) (x : List Value) : List Value := [.int .i64 (geti x 0), .int .i64 (geti x 1), .int .i64 (geti x 2), .int .i64 (geti x 3), .int .i64 (geti x 4), .int .i64 (geti x 5), .int .i64 (geti x 6), .int .i64 (geti x 7), .int .i64 (geti x 8), .int .i64 n]
def rqToX (n : Int) (x : List Value) : List Value := [.int .i64 (geti x 0), .int .i64 (geti x 1), .int .i64 n, .int .i64 (geti x 3), .int .i64 (geti x 4), .int .i64 (geti x 5), .int .i64 (geti x 6), .int .i64 (geti x 7), .int .i64 (geti x 8), .int .i64 (geti x 9)]
def veCap (n : Int) (x : List Value) : List Value := [.int .i64 (geti x 0), .int .i64 (geti x 1), .int .i64 n, .int .i64 (geti x 3), .int .i64 (geti x 4)]
def veEnd (n : Int) (x : List Value) : List Value := [.int .i64 (geti x 0), .int .i64 (geti x 1), .int .i64 (geti x 2), .int .i64 (geti x 3), .int .i64 n]
def loRes (n : Int) (x : List Value) : List Value := [.int .i64 (geti x 0), .int .i64 n]
def tnA (w n a : Int) : Int := if w % 12 = 0 then n else a
def tnB (w n b : Int) : Int := if w % 12 = 9 then n else b
def tnD (w n d : Int) : Int := if w % 12 = 1 then n else d
def tnOw (w n : Int) (os : Rw) : Rw := if w % 12 = 2 then os ++ [[.int .i64 n]] else if w % 12 = 5 then [] else os
def tnFl (w n : Int) (fl : Rw) : Rw := if w % 12 = 3 then rwSet fl 0 (veCap n) else if w % 12 = 4 then rwSet fl ((fl.length : Int) - 1).toNat (veEnd n) else if w % 12 = 8 then [] else fl
def tnLs (w t n : Int) (ls : Rw) : Rw := if w % 12 = 7 then ls ++ [[.int .i64 n, .int .i64 0]] else if w % 12 = 11 ∧ 0 < (ls.length : Int) then rwSet ls (t.tmod ls.length).toNat (loRes n) else ls
def tnTs (w t n : Int) (ts : Rw) : Rw := if 10 ≤ w % 12 ∧ 0 < (ts.length : Int) then rwSet (rwSet ts (t.tmod ts.length).toNat (rqServe n)) (t.tmod ts.length).toNat (rqToX (IntKind.i64.wrap (1000 + n))) else ts
def tnDs (w : Int) (ds : Fm) : Nat := if w % 12 = 6 then 1 + ds.length else ds.length
def pTn := ParML.cons (.agg (.cons mU8 (.cons mU8 (.cons mI .nil)))) (.cons (.agg (.cons (.row 66 RK) (.cons (.rr 53 CF) (.cons (.row 59 LK) (.cons mI (.cons mI (.cons mI (.cons (.rr 73 DF) .nil)))))))) .nil)
noncomputable def kTn := kOfM pTn fun ((w, t, n, _), (ts, cs, ls, a, b, d, ds, _), _) => { need := [tnN ts cs ls ds t], val := .agg [SN, .row 1000005, .row 1000001, I (tnA w n a), I (tnB w n b), I (tnD w n d), .row 1000006], heap := [(0, .row 66 RK ts), (1, .fam CF cs none), (2, .rr 53 1), (3, .row 59 LK ls), (4, .fam DF ds none), (5, .rr 73 4)], news := [.row 66 RK (tnTs w t n ts), .row 59 LK (tnLs w t n ls), .row 57 VK (tnFl w n (fle (cs.getD (tnC t cs) []))), .row 3 I64 (tnOw w n (own (cs.getD (tnC t cs) []))), .der cs.length 1 CF [(tnC t cs, 1, .row 1000003), (tnC t cs, 0, .row 1000002)], .rr 53 1000004, .opq (tnDs w ds)] }
noncomputable def G34 : PC := addPC G33 8 kTn
end Go.Proofs.YtafmknblnamegaaDoor
