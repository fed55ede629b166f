/- Contracts of the functions that the chapter's statements reach: what each answers, as plain functions. No condition. -/
import Derived.Test.YtcbmppkejphffaaRows
import Derived.Test.YtcbmppkejphffaaV6O
namespace Go.Proofs.Ytcbmppkejphffaa
open Go.Eng
theorem mixed : Try.prog.follows .mixedOrders = true := by kernel_rfl
def GL : PC := litPC noPC
theorem okGL : PCok Try.prog GL := litPC_ok noPC_ok
def G0 : PC := noPC
def TS : List Kd := [.int .i64, .int .i64, .int .i64, .int .u64, .str]
def pWk := ParL.nil
noncomputable def kWk := kOf pWk fun _ => { need := [], val := .v (.bool true) }
noncomputable def G1 : PC := addPC G0 10 kWk
noncomputable def GV : PC := litPC G1
end Go.Proofs.Ytcbmppkejphffaa
