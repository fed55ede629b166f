/- Further contracts of the functions that the chapter's statements reach. No condition. -/
import Derived.Test.YtcbmppkejphffaaT3P
import Derived.Test.YtcbmppkejphffaaV6P
namespace Go.Proofs.Ytcbmppkejphffaa
open Go.Eng
set_option linter.unusedSimpArgs false
def KF : List Kf := [.sl 33 SW]
abbrev Rows4 := List (List (List (List Value)))
def rowK (css : Rows4) (c : Int) : List (List Value) := (css.getD c.toNat []).getD 0 []
def tickT (l : List (List Value)) (t : Int) : Bool := cond (decide (l.length = 0)) (decide (0 ≤ t)) (decide (lastT l ≤ t))
def addC (tick : Bool) (css : Rows4) (c : Int) (k : Int) (b : ByteArray) (r n : Int) : Int := cond (decide (0 ≤ c) && decide (c < css.length)) (cond (tick && mayB k b r n) 0 2) 12
def addS (code : Int) (css : Rows4) (c : Int) (v : List Value) : Rows4 := cond (decide (code = 0)) (css.set c.toNat [rowK css c ++ [v]]) css
def pTad := ParML.cons (.ptr 56 (.cons (.rr 38 KF) .nil)) (.cons (.of pI fun _ _ => rfl) (.cons (.of pSaw fun _ _ => rfl) .nil))
noncomputable def kTad := kOfM pTad fun ((css, _), c, (k, t, b, r, n, _), _) => { need := [decide ((rowK css c).length ≤ 1000000)], val := .i .i64 (addC (tickT (rowK css c) t) css c k b r n) 0 12, heap := [(2, .cells 56 [.row 1000001])], news := [.fam KF (addS (addC (tickT (rowK css c) t) css c k b r n) css c (sawV k t b r n)) none, .rr 38 1000000] }
noncomputable def G8 : PC := addPC G7 11 kTad
def pTar := ParML.cons (.ptr 58 (.cons (.rr 38 KF) .nil)) (.cons (.of pI fun _ _ => rfl) (.cons (.of pSaw fun _ _ => rfl) .nil))
noncomputable def kTar := kOfM pTar fun ((css, _), c, (k, t, b, r, n, _), _) => { need := [decide ((rowK css c).length ≤ 1000000)], val := .i .i64 (addC (tickB (rowK css c) t) css c k b r n) 0 12, heap := [(2, .cells 58 [.row 1000001])], news := [.fam KF (addS (addC (tickB (rowK css c) t) css c k b r n) css c (sawV k t b r n)) none, .rr 38 1000000] }
noncomputable def G9 : PC := addPC G8 12 kTar
def rowO (css : Rows4) (c : Int) : List (List Value) := cond (decide (0 ≤ c) && decide (c < css.length)) (rowK css c) []
def pTof := ParML.cons (.ptr 56 (.cons (.rr 38 KF) .nil)) (.cons (.of pI fun _ _ => rfl) .nil)
noncomputable def kTof := kOfM pTof fun ((css, _), c, _) => { need := [decide ((rowK css c).length ≤ 1000000)], val := .row 1000000, heap := [(0, .fam KF css none), (1, .rr 38 0), (2, .cells 56 [.row 1])], news := [.row 33 SW (rowO css c)] }
noncomputable def G10 : PC := addPC G9 14 kTof
end Go.Proofs.Ytcbmppkejphffaa
