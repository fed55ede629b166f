/- The law SlackTells: its loops, and its normal forms. No condition. -/
import Derived.Test.YtojdfjmkdplpkaaS1P
import Derived.Test.YtojdfjmkdplpkaaV3M
namespace Go.Proofs.Ytojdfjmkdplpkaa
open Go.Eng
set_option linter.unusedSimpArgs false

set_option maxRecDepth 1000000 in
theorem tST (x0 x1 : Int) (x2 x3 : List (List Value)) (x4 x5 : Int) (x6 : List (List Value)) (x7 x8 x9 x10 x11 x12 x13 : Int) : (fnS Try.prog G40 noLoops 200 3 [.agg [.i .u8 x0 (0) 255, .i .u8 x1 (0) 255, .row 0, .row 1, .i .u8 x4 (0) 255, .i .u16 x5 (0) 65535], .agg [.row 2, I x7, I x8, I x9, I x10, I x11], .agg [I x12, I x13]] [.ror [.int .u8, .int .u8, .int .u8, .int .u8, .int .u8, .int .u8] x2 false, .ror [.int .u8] x3 false, .ror [.int .i64, .int .i64] x6 false] fun u _ => isYes u) =
(∀ (z15 : Int), z15 = x0 % (16 : Int) → ∀ (z17 : Int), z17 = x0 / (16 : Int) → ∀ (z19 : Int), z19 = (1 : Int) + x1 * (20 : Int) → ∀ (z21 : Int), z21 = x4 % (50 : Int) → ∀ (z23 : Int), z23 = x4 % (50 : Int) + x5 % (900 : Int) → bif decide (lenI (pTs x1 x2) ≤ (879609302220 : Int)) then ∀ (z25 : Int), z25 = IntKind.u64.wrap x12 → ∀ (z27 : Int), z27 = (↑([] ++ pTs x1 x2).length : Int) → ∀ (z29 : Int), z29 = z27 → bif !decide (z29 = (0 : Int)) then ∀ (z31 : Int), z31 = z25.tmod z29 → ∀ (z33 : Int), z33 = IntKind.i64.wrap z31 → bif decide ((0 : Int) ≤ z33) && decide (z33 < (↑([] ++ pTs x1 x2).length : Int)) then ∀ (z35 : Int), z35 = (↑x6.length : Int) → ∀ (z37 : Int), z37 = min z35 (20 : Int) → bif true && (decide ((0 : Int) ≤ z37) && decide (z37 ≤ (↑x6.length : Int))) then true = true else False else False else False else False) := by kernel_rfl
end Go.Proofs.Ytojdfjmkdplpkaa
