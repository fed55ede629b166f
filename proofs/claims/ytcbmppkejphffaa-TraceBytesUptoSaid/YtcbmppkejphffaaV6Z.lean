/- What the package-level variable of the first block holds, where a road reads it. No condition. -/
import Derived.WalkKit
namespace Go.Eng
def theG : Option Value := none
end Go.Eng
