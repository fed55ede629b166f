/- OrderKnown answers true at every input. No condition. -/
import Derived.Test.YtgjjjcihiahpoaaO4Ok
import Derived.Test.YtgjjjcihiahpoaaO4P
import Derived.Test.YtgjjjcihiahpoaaEngM
namespace Go.Proofs.Ytgjjjcihiahpoaa
open Go.Eng
namespace orderKnown
set_option maxHeartbeats 4000000 in
set_option maxRecDepth 100000 in
theorem fallI  : fnS Try.prog G29 noLoops 100 7 [] [] fun v _ => isYes v := by
  refine Eq.mpr (t7  isYes) ?_
  rfl
def shapes : List (Bool × List Kd2) := []
theorem fall (ss : List SV) (h : ParsOk shapes ss) : fnS Try.prog G29 noLoops 100 7 ss [] fun u _ => isYes u := by
  obtain rfl := ps_nil h
  exact fallI 
end orderKnown
end Go.Proofs.Ytgjjjcihiahpoaa
