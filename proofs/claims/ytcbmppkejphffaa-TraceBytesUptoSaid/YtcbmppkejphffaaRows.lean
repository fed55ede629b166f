/-
  No cell of these rows narrows 'for every input' (looked for: loops, veiled, ifaces, maps, wideKeys, modest, calm, conditions, laid).
  DERIVED. THE GIVEN ROWS OF THIS SEAT. 5 by the template 'for every input the law returns true; each argument reads behind the call as it read before'; 0 by the template 'total and deterministic' (their statements: YtcbmppkejphffaaTotals.lean).
  GIVEN WITH THE SEED: the statements are not yours to turn. If you find one false, say at which input.
  Laid BY PROGRAM, IN A SANDBOX (cutbox-rows.mjs): the forced cells as the released guide's own fill.sh prints them over the translation 7f474a87f836ee1f… (all of the seat's roots in one cut). By AI agents, Wed Nov 11 2026. No macro, syntax, notation, axiom, sorry.
-/
import Derived.Test.YtcbmppkejphffaaChecked
import GoSem.Claim
import GoSem.ClaimJoined
import GoSem.ClaimMapViews
import Derived.JoinedTies
import Derived.KernelRfl
namespace Go.Proofs.Ytcbmppkejphffaa
/- THE CELL 'sum', in the pinned program and in every row, IS THE sha256 OF THE DUMP (.gsa) THAT YtcbmppkejphffaaProg.lean LOADS. Nothing in Lean hashes anything: it is a label: what it is worth is what the hold of that sum in a sandbox is worth. -/
noncomputable def Try.pinned : Pinned := { name := "ytcbmppkejphffaa", sum := "7f474a87f836ee1f353c69fea73700c2b9e3561d7b940f3a7cf7c010dc48dbae", checked := Try.checked }
namespace Rows
def none {H : Type} : Left H := { results := [], args := [] }

/-- 'consignlaw27.TraceTells': WHATEVER THE INPUT: true; the input reads as it did. -/
def traceTellsSpec : ChangeSpec := { name := "traceTells", fn := fun _ => fun
  | [d1, d2] => { results := [.lit (.bool true)], args := [d1, d2] }
  | _ => none }
def traceTellsRow : OpenClaim := { program := "ytcbmppkejphffaa", sum := "7f474a87f836ee1f353c69fea73700c2b9e3561d7b940f3a7cf7c010dc48dbae", func := "consign/consignlaw27.TraceTells", spec := "traceTells", unfollowed := true, recurses := true, apart := false }
def TraceTellsSaid : Prop := traceTellsRow.holds Try.pinned (OpenSpec.ofChange traceTellsSpec)

/-- ITS FALSE NEIGHBOUR: 'it returns false'. Refute it at one input. -/
def traceTellsWrong : ChangeSpec := { name := "traceTells", fn := fun _ => fun
  | [d1, d2] => { results := [.lit (.bool false)], args := [d1, d2] }
  | _ => none }
def TraceTellsWrongFalsely : Prop := traceTellsRow.holds Try.pinned (OpenSpec.ofChange traceTellsWrong)

/-- 'consignlaw27.TraceRows': WHATEVER THE INPUT: true; the input reads as it did. -/
def traceRowsSpec : ChangeSpec := { name := "traceRows", fn := fun _ => fun
  | [d1, d2, d3] => { results := [.lit (.bool true)], args := [d1, d2, d3] }
  | _ => none }
def traceRowsRow : OpenClaim := { program := "ytcbmppkejphffaa", sum := "7f474a87f836ee1f353c69fea73700c2b9e3561d7b940f3a7cf7c010dc48dbae", func := "consign/consignlaw27.TraceRows", spec := "traceRows", unfollowed := true, recurses := true, apart := false }
def TraceRowsSaid : Prop := traceRowsRow.holds Try.pinned (OpenSpec.ofChange traceRowsSpec)

/-- ITS FALSE NEIGHBOUR: 'it returns false'. Refute it at one input. -/
def traceRowsWrong : ChangeSpec := { name := "traceRows", fn := fun _ => fun
  | [d1, d2, d3] => { results := [.lit (.bool false)], args := [d1, d2, d3] }
  | _ => none }
def TraceRowsWrongFalsely : Prop := traceRowsRow.holds Try.pinned (OpenSpec.ofChange traceRowsWrong)

/-- 'consignlaw27.TraceBytes': WHATEVER THE INPUT: true; the input reads as it did. -/
def traceBytesSpec : ChangeSpec := { name := "traceBytes", fn := fun _ => fun
  | [d1, d2, d3, d4] => { results := [.lit (.bool true)], args := [d1, d2, d3, d4] }
  | _ => none }
def traceBytesRow : OpenClaim := { program := "ytcbmppkejphffaa", sum := "7f474a87f836ee1f353c69fea73700c2b9e3561d7b940f3a7cf7c010dc48dbae", func := "consign/consignlaw27.TraceBytes", spec := "traceBytes", unfollowed := true, recurses := true, apart := false }
def TraceBytesSaid : Prop := traceBytesRow.holds Try.pinned (OpenSpec.ofChange traceBytesSpec)

/-- ITS FALSE NEIGHBOUR: 'it returns false'. Refute it at one input. -/
def traceBytesWrong : ChangeSpec := { name := "traceBytes", fn := fun _ => fun
  | [d1, d2, d3, d4] => { results := [.lit (.bool false)], args := [d1, d2, d3, d4] }
  | _ => none }
def TraceBytesWrongFalsely : Prop := traceBytesRow.holds Try.pinned (OpenSpec.ofChange traceBytesWrong)

/-- 'consignlaw27.TraceApart': WHATEVER THE INPUT: true; the input reads as it did. -/
def traceApartSpec : ChangeSpec := { name := "traceApart", fn := fun _ => fun
  | [d] => { results := [.lit (.bool true)], args := [d] }
  | _ => none }
def traceApartRow : OpenClaim := { program := "ytcbmppkejphffaa", sum := "7f474a87f836ee1f353c69fea73700c2b9e3561d7b940f3a7cf7c010dc48dbae", func := "consign/consignlaw27.TraceApart", spec := "traceApart", unfollowed := true, recurses := true, apart := false }
def TraceApartSaid : Prop := traceApartRow.holds Try.pinned (OpenSpec.ofChange traceApartSpec)

/-- ITS FALSE NEIGHBOUR: 'it returns false'. Refute it at one input. -/
def traceApartWrong : ChangeSpec := { name := "traceApart", fn := fun _ => fun
  | [d] => { results := [.lit (.bool false)], args := [d] }
  | _ => none }
def TraceApartWrongFalsely : Prop := traceApartRow.holds Try.pinned (OpenSpec.ofChange traceApartWrong)

/-- 'consignlaw27.TraceKnown': WHATEVER THE INPUT: true; the input reads as it did. -/
def traceKnownSpec : ChangeSpec := { name := "traceKnown", fn := fun _ => fun
  | [] => { results := [.lit (.bool true)], args := [] }
  | _ => none }
def traceKnownRow : OpenClaim := { program := "ytcbmppkejphffaa", sum := "7f474a87f836ee1f353c69fea73700c2b9e3561d7b940f3a7cf7c010dc48dbae", func := "consign/consignlaw27.TraceKnown", spec := "traceKnown", unfollowed := true, recurses := true, apart := false }
def TraceKnownSaid : Prop := traceKnownRow.holds Try.pinned (OpenSpec.ofChange traceKnownSpec)

/-- ITS FALSE NEIGHBOUR: 'it returns false'. Refute it at one input. -/
def traceKnownWrong : ChangeSpec := { name := "traceKnown", fn := fun _ => fun
  | [] => { results := [.lit (.bool false)], args := [] }
  | _ => none }
def TraceKnownWrongFalsely : Prop := traceKnownRow.holds Try.pinned (OpenSpec.ofChange traceKnownWrong)

/- THE SECOND FORM. 'bulk': how many values and letters a reading holds, each counted each time it is reached (what is shared counts as often as it is met; a slice's spare places count too). A statement '..UptoSaid' is the law's where the arguments, and the package variables that the reading takes, are together of bulk at most 1048576: NARROWER than '..Said'. Prove '..Said' where nothing that the law and all that it calls make is longer than what came in: it says more and counts as full. Else prove '..UptoSaid'. A law counts once. -/
mutual
def uptoBulk {H : Type} : DataW H → Nat
  | .lit (.string bytes) => bytes.length + 1
  | .lit _ => 1
  | .nil => 1
  | .ptr d => uptoBulk d + 1
  | .slice elems spare => uptoBulkAll elems + uptoBulkAll spare + 1
  | .agg parts => uptoBulkAll parts + 1
  | .iface _ d => uptoBulk d + 1
  | .map entries => uptoBulkEntries entries + 1
  | .held _ => 1
def uptoBulkAll {H : Type} : List (DataW H) → Nat
  | [] => 0
  | d :: r => uptoBulk d + uptoBulkAll r
def uptoBulkEntries {H : Type} : List (Lit × DataW H) → Nat
  | [] => 0
  | x :: r => uptoBulkEntry x + uptoBulkEntries r
def uptoBulkEntry {H : Type} : Lit × DataW H → Nat
  | (.string bytes, d) => bytes.length + uptoBulk d + 1
  | (_, d) => uptoBulk d + 1
 end
def uptoSmall : (H : Type) → List (DataW H) → Bool := fun _ ds => decide (uptoBulkAll ds ≤ 1048576)
def OpenSpec.upto (s : _root_.Go.ChangeSpec) : _root_.Go.OpenSpec := { _root_.Go.OpenSpec.ofChange s with cond := some uptoSmall }

/-- 'consignlaw27.TraceTells', WHERE WHAT IT READS IS OF BULK AT MOST 1048576: true; the input reads as it did. -/
def traceTellsUptoRow : OpenClaim := { program := "ytcbmppkejphffaa", sum := "7f474a87f836ee1f353c69fea73700c2b9e3561d7b940f3a7cf7c010dc48dbae", func := "consign/consignlaw27.TraceTells", spec := "traceTells", unfollowed := true, recurses := true, apart := false, narrowed := true }
def TraceTellsUptoSaid : Prop := traceTellsUptoRow.holds Try.pinned (OpenSpec.upto traceTellsSpec)

/-- 'consignlaw27.TraceRows', WHERE WHAT IT READS IS OF BULK AT MOST 1048576: true; the input reads as it did. -/
def traceRowsUptoRow : OpenClaim := { program := "ytcbmppkejphffaa", sum := "7f474a87f836ee1f353c69fea73700c2b9e3561d7b940f3a7cf7c010dc48dbae", func := "consign/consignlaw27.TraceRows", spec := "traceRows", unfollowed := true, recurses := true, apart := false, narrowed := true }
def TraceRowsUptoSaid : Prop := traceRowsUptoRow.holds Try.pinned (OpenSpec.upto traceRowsSpec)

/-- 'consignlaw27.TraceBytes', WHERE WHAT IT READS IS OF BULK AT MOST 1048576: true; the input reads as it did. -/
def traceBytesUptoRow : OpenClaim := { program := "ytcbmppkejphffaa", sum := "7f474a87f836ee1f353c69fea73700c2b9e3561d7b940f3a7cf7c010dc48dbae", func := "consign/consignlaw27.TraceBytes", spec := "traceBytes", unfollowed := true, recurses := true, apart := false, narrowed := true }
def TraceBytesUptoSaid : Prop := traceBytesUptoRow.holds Try.pinned (OpenSpec.upto traceBytesSpec)

/-- 'consignlaw27.TraceApart', WHERE WHAT IT READS IS OF BULK AT MOST 1048576: true; the input reads as it did. -/
def traceApartUptoRow : OpenClaim := { program := "ytcbmppkejphffaa", sum := "7f474a87f836ee1f353c69fea73700c2b9e3561d7b940f3a7cf7c010dc48dbae", func := "consign/consignlaw27.TraceApart", spec := "traceApart", unfollowed := true, recurses := true, apart := false, narrowed := true }
def TraceApartUptoSaid : Prop := traceApartUptoRow.holds Try.pinned (OpenSpec.upto traceApartSpec)

/-- 'consignlaw27.TraceKnown', WHERE WHAT IT READS IS OF BULK AT MOST 1048576: true; the input reads as it did. -/
def traceKnownUptoRow : OpenClaim := { program := "ytcbmppkejphffaa", sum := "7f474a87f836ee1f353c69fea73700c2b9e3561d7b940f3a7cf7c010dc48dbae", func := "consign/consignlaw27.TraceKnown", spec := "traceKnown", unfollowed := true, recurses := true, apart := false, narrowed := true }
def TraceKnownUptoSaid : Prop := traceKnownUptoRow.holds Try.pinned (OpenSpec.upto traceKnownSpec)

end Rows
end Go.Proofs.Ytcbmppkejphffaa
