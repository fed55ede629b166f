/- Further contracts of the functions that the chapter's statements reach. No condition. -/
import Derived.Test.YtafmknblnamegaaDoorS5KP
namespace Go.Proofs.YtafmknblnamegaaDoor
open Go.Eng
set_option linter.unusedSimpArgs false
def tlA (p : Bool) (xs : Rw) (j : Nat) : Int := cond p 0 (geti (xs.getD 0 []) j)
def tdB (p : Bool) (xs : Rw) (a b d : Int) : Bool := decide (p = false ↔ a ≠ 0) && decide (tlA p xs 0 = a ∧ tlA p xs 1 = b ∧ tlA p xs 2 = d)
def pTl2 := ParL.cons (.er 87 true FK) .nil
noncomputable def kTl2 := kOf pTl2 fun ((p, xs), _) => { need := [!p], val := .agg [I (tlA p xs 0), I (tlA p xs 1), I (tlA p xs 2)] }
noncomputable def G28 : PC := addPC G27 17 (kOr kTl2 kTl)
def pTd2 := ParL.cons (.er 87 true FK) (.cons (.agg (.cons pI (.cons pI (.cons pI .nil)))) .nil)
noncomputable def kTd2 := kOf pTd2 fun ((p, xs), (a, b, d, _), _) => { need := [!p], val := .b (tdB p xs a b d) }
noncomputable def G29 : PC := addPC G28 10 (kOr kTd2 kTd)
end Go.Proofs.YtafmknblnamegaaDoor
