/- The law FeasKnown: its loops, and its normal forms. No condition. -/
import Derived.Test.YtfhjnececgoadaaDoorF9P
import Derived.Test.YtfhjnececgoadaaDoorV4M
namespace Go.Proofs.YtfhjnececgoadaaDoor
open Go.Eng
set_option linter.unusedSimpArgs false
noncomputable def GX : PC := litPC G45
theorem okGX : PCok Tryd.prog GX := litPC_ok okG45
set_option maxRecDepth 1000000 in
theorem tKn  : (fnS Tryd.prog GX noLoops 400 7 [] [] fun u _ => isYes u) =
(true = true) := by kernel_rfl
end Go.Proofs.YtfhjnececgoadaaDoor
