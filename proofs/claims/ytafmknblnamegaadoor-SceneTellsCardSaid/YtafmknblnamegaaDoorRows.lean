/-
  NARROWER THAN 'FOR EVERY INPUT', by the rows' own cells (each row's printed sentence says how): SceneTells: laid · SceneTurned: laid · SceneOwns: laid · SceneKnown: laid.
  DERIVED. THE GIVEN ROWS OF THIS SEAT. 4 by the template 'for every input the law returns true; each argument reads behind the call as it read before'; 0 by the template 'total and deterministic' (their statements: YtafmknblnamegaaDoorTotals.lean).
  GIVEN WITH THE SEED: the statements are not yours to turn. If you find one false, say at which input.
  Laid BY PROGRAM, IN A SANDBOX (cutbox-rows.mjs): the forced cells as the released guide's own fill.sh prints them over the translation 5029cab762f28426… (all of the seat's roots in one cut). By AI agents, Wed Nov 11 2026. No macro, syntax, notation, axiom, sorry.
-/
import Derived.Test.YtafmknblnamegaaDoorChecked
import GoSem.Claim
import GoSem.ClaimJoined
import GoSem.ClaimMapViews
import Derived.JoinedTies
import Derived.KernelRfl
namespace Go.Proofs.YtafmknblnamegaaDoor
/- THE CELL 'sum', in the pinned program and in every row, IS THE sha256 OF THE DUMP (.gsa) THAT YtafmknblnamegaaDoorProg.lean LOADS. Nothing in Lean hashes anything: it is a label: what it is worth is what the hold of that sum in a sandbox is worth. -/
noncomputable def Tryd.pinned : Pinned := { name := "ytafmknblnamegaadoor", sum := "5029cab762f284261873b7dacd917073470e136c7e192fbc5047b1b6e0d753e1", checked := Tryd.checked }
namespace Rows
def none {H : Type} : Left H := { results := [], args := [] }

/- WHAT THE LISTED PACKAGE-LEVEL VARIABLES READ AS WHEN THE CALL BEGINS. Each datum BY PROGRAM (the guide's laid-datum.mjs) off the statement by which the dump's own 'gosem.cut.vars' lays the variable. In a bare row this is a premise. The card (YtafmknblnamegaaDoorCards.lean) ties it to the program's text. -/
def laid_errors_errorType {H : Type} : DataW H := .iface "internal/reflectlite.rtype" (.agg [.ptr (.lit (.string [101, 114, 114, 111, 114]))])

/-- 'consignlaw05.SceneTells': WHATEVER THE INPUT: true; the input reads as it did. -/
def sceneTellsSpec : ChangeSpec := { name := "sceneTells", fn := fun _ => fun
  | [d1, d2, d3] => { results := [.lit (.bool true)], args := [d1, d2, d3] }
  | _ => none }
def sceneTellsRow : OpenClaim := { program := "ytafmknblnamegaadoor", sum := "5029cab762f284261873b7dacd917073470e136c7e192fbc5047b1b6e0d753e1", func := "consign/consignlaw05.SceneTells", spec := "sceneTells", inPlace := ["internal/reflectlite.ValueOf", "(internal/reflectlite.Value).Type", "(internal/reflectlite.Value).IsNil", "internal/reflectlite.TypeOf", "(internal/reflectlite.Value).Elem", "(internal/reflectlite.Value).Set"], unfollowed := true, recurses := true, named := ["errors.errorType"], apart := false, laid := [("errors.errorType", laid_errors_errorType)] }
def SceneTellsSaid : Prop := sceneTellsRow.holds Tryd.pinned (OpenSpec.ofChange sceneTellsSpec)

/-- ITS FALSE NEIGHBOUR: 'it returns false'. Refute it at one input. -/
def sceneTellsWrong : ChangeSpec := { name := "sceneTells", fn := fun _ => fun
  | [d1, d2, d3] => { results := [.lit (.bool false)], args := [d1, d2, d3] }
  | _ => none }
def SceneTellsWrongFalsely : Prop := sceneTellsRow.holds Tryd.pinned (OpenSpec.ofChange sceneTellsWrong)

/-- 'consignlaw05.SceneTurned': WHATEVER THE INPUT: true; the input reads as it did. -/
def sceneTurnedSpec : ChangeSpec := { name := "sceneTurned", fn := fun _ => fun
  | [d1, d2] => { results := [.lit (.bool true)], args := [d1, d2] }
  | _ => none }
def sceneTurnedRow : OpenClaim := { program := "ytafmknblnamegaadoor", sum := "5029cab762f284261873b7dacd917073470e136c7e192fbc5047b1b6e0d753e1", func := "consign/consignlaw05.SceneTurned", spec := "sceneTurned", inPlace := ["internal/reflectlite.ValueOf", "(internal/reflectlite.Value).Type", "(internal/reflectlite.Value).IsNil", "internal/reflectlite.TypeOf", "(internal/reflectlite.Value).Elem", "(internal/reflectlite.Value).Set"], unfollowed := true, recurses := true, named := ["errors.errorType"], apart := false, laid := [("errors.errorType", laid_errors_errorType)] }
def SceneTurnedSaid : Prop := sceneTurnedRow.holds Tryd.pinned (OpenSpec.ofChange sceneTurnedSpec)

/-- ITS FALSE NEIGHBOUR: 'it returns false'. Refute it at one input. -/
def sceneTurnedWrong : ChangeSpec := { name := "sceneTurned", fn := fun _ => fun
  | [d1, d2] => { results := [.lit (.bool false)], args := [d1, d2] }
  | _ => none }
def SceneTurnedWrongFalsely : Prop := sceneTurnedRow.holds Tryd.pinned (OpenSpec.ofChange sceneTurnedWrong)

/-- 'consignlaw05.SceneOwns': WHATEVER THE INPUT: true; the input reads as it did. -/
def sceneOwnsSpec : ChangeSpec := { name := "sceneOwns", fn := fun _ => fun
  | [d1, d2] => { results := [.lit (.bool true)], args := [d1, d2] }
  | _ => none }
def sceneOwnsRow : OpenClaim := { program := "ytafmknblnamegaadoor", sum := "5029cab762f284261873b7dacd917073470e136c7e192fbc5047b1b6e0d753e1", func := "consign/consignlaw05.SceneOwns", spec := "sceneOwns", inPlace := ["internal/reflectlite.ValueOf", "(internal/reflectlite.Value).Type", "(internal/reflectlite.Value).IsNil", "internal/reflectlite.TypeOf", "(internal/reflectlite.Value).Elem", "(internal/reflectlite.Value).Set"], unfollowed := true, recurses := true, named := ["errors.errorType"], apart := false, laid := [("errors.errorType", laid_errors_errorType)] }
def SceneOwnsSaid : Prop := sceneOwnsRow.holds Tryd.pinned (OpenSpec.ofChange sceneOwnsSpec)

/-- ITS FALSE NEIGHBOUR: 'it returns false'. Refute it at one input. -/
def sceneOwnsWrong : ChangeSpec := { name := "sceneOwns", fn := fun _ => fun
  | [d1, d2] => { results := [.lit (.bool false)], args := [d1, d2] }
  | _ => none }
def SceneOwnsWrongFalsely : Prop := sceneOwnsRow.holds Tryd.pinned (OpenSpec.ofChange sceneOwnsWrong)

/-- 'consignlaw05.SceneKnown': WHATEVER THE INPUT: true; the input reads as it did. -/
def sceneKnownSpec : ChangeSpec := { name := "sceneKnown", fn := fun _ => fun
  | [] => { results := [.lit (.bool true)], args := [] }
  | _ => none }
def sceneKnownRow : OpenClaim := { program := "ytafmknblnamegaadoor", sum := "5029cab762f284261873b7dacd917073470e136c7e192fbc5047b1b6e0d753e1", func := "consign/consignlaw05.SceneKnown", spec := "sceneKnown", inPlace := ["internal/reflectlite.ValueOf", "(internal/reflectlite.Value).Type", "(internal/reflectlite.Value).IsNil", "internal/reflectlite.TypeOf", "(internal/reflectlite.Value).Elem", "(internal/reflectlite.Value).Set"], unfollowed := true, recurses := true, named := ["errors.errorType"], apart := false, laid := [("errors.errorType", laid_errors_errorType)] }
def SceneKnownSaid : Prop := sceneKnownRow.holds Tryd.pinned (OpenSpec.ofChange sceneKnownSpec)

/-- ITS FALSE NEIGHBOUR: 'it returns false'. Refute it at one input. -/
def sceneKnownWrong : ChangeSpec := { name := "sceneKnown", fn := fun _ => fun
  | [] => { results := [.lit (.bool false)], args := [] }
  | _ => none }
def SceneKnownWrongFalsely : Prop := sceneKnownRow.holds Tryd.pinned (OpenSpec.ofChange sceneKnownWrong)

/- THE SECOND FORM. 'bulk': how many values and letters a reading holds, each counted each time it is reached (what is shared counts as often as it is met; a slice's spare places count too). A statement '..UptoSaid' is the law's where the arguments, and the package variables that the reading takes, are together of bulk at most 1048576: NARROWER than '..Said'. Prove '..Said' where nothing that the law and all that it calls make is longer than what came in: it says more and counts as full. Else prove '..UptoSaid'. A law counts once. -/
mutual
def uptoBulk {H : Type} : DataW H → Nat
  | .lit (.string bytes) => bytes.length + 1
  | .lit _ => 1
  | .nil => 1
  | .ptr d => uptoBulk d + 1
  | .slice elems spare => uptoBulkAll elems + uptoBulkAll spare + 1
  | .agg parts => uptoBulkAll parts + 1
  | .iface _ d => uptoBulk d + 1
  | .map entries => uptoBulkEntries entries + 1
  | .held _ => 1
def uptoBulkAll {H : Type} : List (DataW H) → Nat
  | [] => 0
  | d :: r => uptoBulk d + uptoBulkAll r
def uptoBulkEntries {H : Type} : List (Lit × DataW H) → Nat
  | [] => 0
  | x :: r => uptoBulkEntry x + uptoBulkEntries r
def uptoBulkEntry {H : Type} : Lit × DataW H → Nat
  | (.string bytes, d) => bytes.length + uptoBulk d + 1
  | (_, d) => uptoBulk d + 1
 end
def uptoSmall : (H : Type) → List (DataW H) → Bool := fun _ ds => decide (uptoBulkAll ds ≤ 1048576)
def OpenSpec.upto (s : _root_.Go.ChangeSpec) : _root_.Go.OpenSpec := { _root_.Go.OpenSpec.ofChange s with cond := some uptoSmall }

/-- 'consignlaw05.SceneTells', WHERE WHAT IT READS IS OF BULK AT MOST 1048576: true; the input reads as it did. -/
def sceneTellsUptoRow : OpenClaim := { program := "ytafmknblnamegaadoor", sum := "5029cab762f284261873b7dacd917073470e136c7e192fbc5047b1b6e0d753e1", func := "consign/consignlaw05.SceneTells", spec := "sceneTells", inPlace := ["internal/reflectlite.ValueOf", "(internal/reflectlite.Value).Type", "(internal/reflectlite.Value).IsNil", "internal/reflectlite.TypeOf", "(internal/reflectlite.Value).Elem", "(internal/reflectlite.Value).Set"], unfollowed := true, recurses := true, named := ["errors.errorType"], apart := false, laid := [("errors.errorType", laid_errors_errorType)], narrowed := true }
def SceneTellsUptoSaid : Prop := sceneTellsUptoRow.holds Tryd.pinned (OpenSpec.upto sceneTellsSpec)

/-- 'consignlaw05.SceneTurned', WHERE WHAT IT READS IS OF BULK AT MOST 1048576: true; the input reads as it did. -/
def sceneTurnedUptoRow : OpenClaim := { program := "ytafmknblnamegaadoor", sum := "5029cab762f284261873b7dacd917073470e136c7e192fbc5047b1b6e0d753e1", func := "consign/consignlaw05.SceneTurned", spec := "sceneTurned", inPlace := ["internal/reflectlite.ValueOf", "(internal/reflectlite.Value).Type", "(internal/reflectlite.Value).IsNil", "internal/reflectlite.TypeOf", "(internal/reflectlite.Value).Elem", "(internal/reflectlite.Value).Set"], unfollowed := true, recurses := true, named := ["errors.errorType"], apart := false, laid := [("errors.errorType", laid_errors_errorType)], narrowed := true }
def SceneTurnedUptoSaid : Prop := sceneTurnedUptoRow.holds Tryd.pinned (OpenSpec.upto sceneTurnedSpec)

/-- 'consignlaw05.SceneOwns', WHERE WHAT IT READS IS OF BULK AT MOST 1048576: true; the input reads as it did. -/
def sceneOwnsUptoRow : OpenClaim := { program := "ytafmknblnamegaadoor", sum := "5029cab762f284261873b7dacd917073470e136c7e192fbc5047b1b6e0d753e1", func := "consign/consignlaw05.SceneOwns", spec := "sceneOwns", inPlace := ["internal/reflectlite.ValueOf", "(internal/reflectlite.Value).Type", "(internal/reflectlite.Value).IsNil", "internal/reflectlite.TypeOf", "(internal/reflectlite.Value).Elem", "(internal/reflectlite.Value).Set"], unfollowed := true, recurses := true, named := ["errors.errorType"], apart := false, laid := [("errors.errorType", laid_errors_errorType)], narrowed := true }
def SceneOwnsUptoSaid : Prop := sceneOwnsUptoRow.holds Tryd.pinned (OpenSpec.upto sceneOwnsSpec)

/-- 'consignlaw05.SceneKnown', WHERE WHAT IT READS IS OF BULK AT MOST 1048576: true; the input reads as it did. -/
def sceneKnownUptoRow : OpenClaim := { program := "ytafmknblnamegaadoor", sum := "5029cab762f284261873b7dacd917073470e136c7e192fbc5047b1b6e0d753e1", func := "consign/consignlaw05.SceneKnown", spec := "sceneKnown", inPlace := ["internal/reflectlite.ValueOf", "(internal/reflectlite.Value).Type", "(internal/reflectlite.Value).IsNil", "internal/reflectlite.TypeOf", "(internal/reflectlite.Value).Elem", "(internal/reflectlite.Value).Set"], unfollowed := true, recurses := true, named := ["errors.errorType"], apart := false, laid := [("errors.errorType", laid_errors_errorType)], narrowed := true }
def SceneKnownUptoSaid : Prop := sceneKnownUptoRow.holds Tryd.pinned (OpenSpec.upto sceneKnownSpec)

end Rows
end Go.Proofs.YtafmknblnamegaaDoor
