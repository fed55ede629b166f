/- The law SlackKnown: its loops, and its normal forms. No condition. -/
import Derived.Test.YtojdfjmkdplpkaaS0P
import Derived.Test.YtojdfjmkdplpkaaV3M
namespace Go.Proofs.Ytojdfjmkdplpkaa
open Go.Eng
set_option linter.unusedSimpArgs false

set_option maxRecDepth 1000000 in
theorem tKn  : (fnS Try.prog GT noLoops 400 6 [] [] fun u _ => isYes u) =
(true = true) := by kernel_rfl
end Go.Proofs.Ytojdfjmkdplpkaa
