/- Further contracts of the functions that the chapter's statements reach. No condition. -/
import Derived.Test.YtafmknblnamegaaDoorS5WP
namespace Go.Proofs.YtafmknblnamegaaDoor
open Go.Eng
set_option linter.unusedSimpArgs false
def vR (p q r s t : Int) : List Value := [.int .i64 p, .int .i64 q, .int .i64 r, .int .i64 s, .int .i64 t]
def csK (v : List Value) (os : Rw) : Fm := [[[v], os]]
def dsK : Fm := [[[]]]
def mVe : ParM ((Int × Int × Int × Int × Int × Unit)) := .sl 57 1 (.cons mI (.cons mI (.cons mI (.cons mI (.cons mI .nil)))))
def mCa : ParM ((Int × Int × Int × Int × Int × Unit) × Rw × Unit) := .sl 53 1 (.cons mVe (.cons (.row 3 I64) .nil))
def mDr : ParM (Unit × Unit) := .sl 73 1 (.cons .nilsl .nil)
def mS1 : ParM (Rw × ((Int × Int × Int × Int × Int × Unit) × Rw × Unit) × Rw × Int × Int × Int × (Unit × Unit) × Unit) := .agg (.cons (.row 66 RK) (.cons mCa (.cons (.row 59 LK) (.cons mI (.cons mI (.cons mI (.cons mDr .nil)))))))
def mL2 : ParM (Int × Int × Int × Int × Unit) := .sl 59 2 (.cons mI (.cons mI (.cons mI (.cons mI .nil))))
def mS3 : ParM (Rw × ((Int × Int × Int × Int × Int × Unit) × Rw × Unit) × (Int × Int × Int × Int × Unit) × Int × Int × Int × (Unit × Unit) × Unit) := .agg (.cons (.row 66 RK) (.cons mCa (.cons mL2 (.cons mI (.cons mI (.cons mI (.cons mDr .nil)))))))
def s1A (a b d : Int) : SV := .agg [.row 0, .sl 3 0 1 1, .row 4, I a, I b, I d, .sl 5 0 1 1]
def s3A (a b d : Int) : SV := .agg [.row 0, .sl 3 0 1 1, .sl 4 0 2 2, I a, I b, I d, .sl 5 0 1 1]
def lK (l0 l1 l2 l3 : Int) : Rw := [[.int .i64 l0, .int .i64 l1], [.int .i64 l2, .int .i64 l3]]
def s1L (ts : Rw) (cs : Fm) (ls : Rw) (z : Bool) : LoopSpecs := fun g i =>
  cond (Nat.beq g 37 && Nat.beq i 1) (some fun _ => rqS ts) <|
  cond (Nat.beq g 39) (cond (Nat.beq i 9) (some fun _ => onS ts cs 0) <| cond (Nat.beq i 15) (some fun _ => unS ts cs) none) <|
  cond (z && (Nat.beq g 42 && Nat.beq i 1)) (some fun _ => poS ts ls) none
def pCk1 := ParML.cons mS1 .nil
noncomputable def kCk1 := kOfM pCk1 fun ((ts, ((p, q, r, s, t, _), os, _), ls, a, b, d, _, _), _) => { need := [], val := .er (decide ((ckF ts (csK (vR p q r s t) os) ls a b d dsK).c = 0)) 87 true 1000000, heap := [(0, .row 66 RK ts), (1, .cells 57 [I p, I q, I r, I s, I t]), (2, .row 3 I64 os), (3, .cells 53 [.sl 1 0 1 1, .row 2]), (4, .row 59 LK ls), (5, .cells 73 [nilS])], news := [.row 43 FK (flR (ckF ts (csK (vR p q r s t) os) ls a b d dsK))] }
noncomputable def G26 : PC := addPC G25 11 kCk1
def pCk3 := ParML.cons mS3 .nil
noncomputable def kCk3 := kOfM pCk3 fun ((ts, ((p, q, r, s, t, _), os, _), (l0, l1, l2, l3, _), a, b, d, _, _), _) => { need := [], val := .er (decide ((ckF ts (csK (vR p q r s t) os) (lK l0 l1 l2 l3) a b d dsK).c = 0)) 87 true 1000000, heap := [(0, .row 66 RK ts), (1, .cells 57 [I p, I q, I r, I s, I t]), (2, .row 3 I64 os), (3, .cells 53 [.sl 1 0 1 1, .row 2]), (4, .cells 59 [I l0, I l1, I l2, I l3]), (5, .cells 73 [nilS])], news := [.row 43 FK (flR (ckF ts (csK (vR p q r s t) os) (lK l0 l1 l2 l3) a b d dsK))] }
noncomputable def G27 : PC := addPC G26 11 (kOr kCk3 kCk1)
end Go.Proofs.YtafmknblnamegaaDoor
