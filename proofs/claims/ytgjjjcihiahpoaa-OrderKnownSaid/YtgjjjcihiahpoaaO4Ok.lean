/- The engine's normal form for Ok. No condition. -/
import Derived.Test.YtgjjjcihiahpoaaO4Ctr
namespace Go.Proofs.Ytgjjjcihiahpoaa
open Go.Eng
set_option maxRecDepth 1000000 in
theorem t7 (R : SV → Prop) : (fnS Try.prog G29 noLoops 100 7 [] [] fun v _ => R v) =
(R (SV.v (Value.bool true))) := by kernel_rfl
end Go.Proofs.Ytgjjjcihiahpoaa
