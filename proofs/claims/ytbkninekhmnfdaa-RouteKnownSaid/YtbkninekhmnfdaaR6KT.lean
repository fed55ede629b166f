/- The law RouteKnown: its loops, and its normal forms. No condition. -/
import Derived.Test.YtbkninekhmnfdaaR6P
import Derived.Test.YtbkninekhmnfdaaV3M
namespace Go.Proofs.Ytbkninekhmnfdaa
open Go.Eng
set_option linter.unusedSimpArgs false
noncomputable def GK : PC := litPC G3
theorem okGK : PCok Try.prog GK := litPC_ok okG3
set_option maxRecDepth 1000000 in
theorem tRK  : (fnS Try.prog GK noLoops 400 7 [] [] fun u _ => isYes u) =
(true = true) := by kernel_rfl
end Go.Proofs.Ytbkninekhmnfdaa
