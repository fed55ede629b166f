/- The law TraceKnown: its loops, and its normal forms. No condition. -/
import Derived.Test.YtcbmppkejphffaaT2P
import Derived.Test.YtcbmppkejphffaaV5M
namespace Go.Proofs.Ytcbmppkejphffaa
open Go.Eng
set_option linter.unusedSimpArgs false

set_option maxRecDepth 1000000 in
theorem tKn  : (fnS Try.prog GV noLoops 400 7 [] [] fun u _ => isYes u) =
(True ∧ true = true) := by kernel_rfl
end Go.Proofs.Ytcbmppkejphffaa
