/- These contracts hold. No condition. -/
import Derived.Test.YtafmknblnamegaaDoorS5WT
import Derived.Test.YtafmknblnamegaaDoorV7N
namespace Go.Proofs.YtafmknblnamegaaDoor
open Go.Eng
set_option linter.unusedSimpArgs false
set_option maxHeartbeats 4000000 in
theorem okWk5 : CtrOk Tryd.prog 16 kWk5 := good_of okGK mixed (fun _ => noLoops) 400 fun _ hf hn => by
  refine ⟨rfl, Eq.mpr (tWk5 ) ?_⟩
  exact ⟨rfl, trivial⟩
theorem okG25 : PCok Tryd.prog G25 := addPC_ok okG24 okWk5
end Go.Proofs.YtafmknblnamegaaDoor
