/- The law WireKnown: its loops, and its normal forms. No condition. -/
import Derived.Test.YtjdoiblonbinjaaW25Ctr
import Derived.Test.YtjdoiblonbinjaaV3M
namespace Go.Proofs.Ytjdoiblonbinjaa
open Go.Eng
set_option linter.unusedSimpArgs false

set_option maxRecDepth 1000000 in
theorem tKnL  : (fnS Try.prog GL noLoops 200 6 [] [] fun u _ => isYes u) =
(True ∧ True ∧ true = true) := by kernel_rfl
end Go.Proofs.Ytjdoiblonbinjaa
