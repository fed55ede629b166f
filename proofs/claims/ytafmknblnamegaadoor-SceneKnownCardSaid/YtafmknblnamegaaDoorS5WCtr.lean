/- Further contracts of the functions that the chapter's statements reach. No condition. -/
import Derived.Test.YtafmknblnamegaaDoorS5DP
namespace Go.Proofs.YtafmknblnamegaaDoor
open Go.Eng
set_option linter.unusedSimpArgs false
def pWk5 := ParL.nil
noncomputable def kWk5 := kOf pWk5 fun _ => { need := [], val := .v (.bool true) }
noncomputable def G25 : PC := addPC G24 16 kWk5
end Go.Proofs.YtafmknblnamegaaDoor
