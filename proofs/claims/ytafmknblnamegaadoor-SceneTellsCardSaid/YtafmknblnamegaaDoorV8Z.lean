/- What the package-level variable of the first block holds, where a road reads it: errors.errorType, chapter 05. No condition. -/
import Derived.WalkKit
namespace Go.Eng
def theG : Option Value := some (.iface 119 (.agg #[.pointer (some ⟨1, 39, none⟩)]))
end Go.Eng
