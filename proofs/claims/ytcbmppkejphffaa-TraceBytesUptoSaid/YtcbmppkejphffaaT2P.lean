/- The contracts hold. No condition. -/
import Derived.Test.YtcbmppkejphffaaT2T
import Derived.Test.YtcbmppkejphffaaV6N
namespace Go.Proofs.Ytcbmppkejphffaa
open Go.Eng
set_option linter.unusedSimpArgs false
theorem okG0 : PCok Try.prog G0 := noPC_ok
set_option maxHeartbeats 4000000 in
theorem okWk : CtrOk Try.prog 10 kWk := good_of okGL mixed (fun _ => noLoops) 300 fun _ hf hn => by
  refine ⟨rfl, Eq.mpr (tWk ) ?_⟩
  (repeat' (first | exact True.intro | rfl | apply And.intro))
theorem okG1 : PCok Try.prog G1 := addPC_ok okG0 okWk
theorem okGV : PCok Try.prog GV := litPC_ok okG1
end Go.Proofs.Ytcbmppkejphffaa
