/- What the package-level variable of the first block holds, where a road reads it: errors.errorType, chapter 09. No condition. -/
import Derived.WalkKit
namespace Go.Eng
def theG : Option Value := some (.iface 158 (.agg #[.pointer (some ⟨1, 51, none⟩)]))
end Go.Eng
