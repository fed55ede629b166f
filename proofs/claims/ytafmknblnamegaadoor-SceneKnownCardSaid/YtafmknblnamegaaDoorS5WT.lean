/- The engine's normal forms of these functions. No condition. -/
import Derived.Test.YtafmknblnamegaaDoorS5WCtr
namespace Go.Proofs.YtafmknblnamegaaDoor
open Go.Eng
set_option maxRecDepth 1000000 in
theorem tWk5  : (fnS Tryd.prog GK (noLoops) 400 16 [] [] (fitOut ({ need := [], val := .v (.bool true) }))) =
(true = true ∧ True) := by kernel_rfl
end Go.Proofs.YtafmknblnamegaaDoor
