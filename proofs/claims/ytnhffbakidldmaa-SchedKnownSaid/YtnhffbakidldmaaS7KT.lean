/- The law SchedKnown: its loops, and its normal forms. No condition. -/
import Derived.Test.YtnhffbakidldmaaS7P
import Derived.Test.YtnhffbakidldmaaV3M
namespace Go.Proofs.Ytnhffbakidldmaa
open Go.Eng
set_option linter.unusedSimpArgs false

set_option maxRecDepth 1000000 in
theorem tKn  : (fnS Try.prog GS noLoops 400 6 [] [] fun u _ => isYes u) =
(true = true) := by kernel_rfl
end Go.Proofs.Ytnhffbakidldmaa
