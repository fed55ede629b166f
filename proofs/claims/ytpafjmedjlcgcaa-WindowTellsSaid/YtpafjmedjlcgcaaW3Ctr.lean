/- Contracts of the functions that the chapter's statements reach: what each answers, as plain functions. No condition. -/
import Derived.Test.YtpafjmedjlcgcaaRows
import Derived.Test.YtpafjmedjlcgcaaEngK
namespace Go.Proofs.Ytpafjmedjlcgcaa
open Go.Eng
def G0 : PC := noPC
def I (n : Int) : SV := .i .i64 n (-9223372036854775808) 9223372036854775807
def win (a b : Int) : SV := .agg [I a, I b]
def T20 (n : Int) : SV := .i .i64 n 0 1048576
def wout (a b : Int) : SV := .agg [T20 a, T20 b]
/-- A window may be. -/
abbrev May (a b : Int) : Prop := 0 ≤ a ∧ a ≤ b ∧ b ≤ 1048576
abbrev Meet (a b c d : Int) : Prop := May a b ∧ May c d ∧ max a c ≤ min b d
def meetE (a b c d : Int) : Int := if Meet a b c d then max a c else 0
def meetL (a b c d : Int) : Int := if Meet a b c d then min b d else 0
abbrev Has (a b t : Int) : Prop := May a b ∧ a ≤ t ∧ t ≤ b
abbrev Wait (a b t : Int) : Prop := May a b ∧ max t a ≤ b
def waitN (a b t : Int) : Int := if Wait a b t then max t a else 0
abbrev Shift (a b d : Int) : Prop := May a b ∧ -a ≤ d ∧ d ≤ 1048576 - b
def shiftE (a b d : Int) : Int := if Shift a b d then a + d else 0
def shiftL (a b d : Int) : Int := if Shift a b d then b + d else 0
def pI : Par Int := .int .i64 (-9223372036854775808) 9223372036854775807
def pWin : Par (Int × Int × Unit) := .agg (.cons pI (.cons pI .nil))
def kMay25 := kOf (.cons pWin .nil) fun ((a, b, _), _) => ([], .b (decide (May a b)))
def G1 : PC := addPC G0 25 kMay25
def kMay15 := kOf (.cons pWin .nil) fun ((a, b, _), _) => ([], .b (decide (May a b)))
def G2 : PC := addPC G1 15 kMay15
def kMay14 := kOf (.cons pWin .nil) fun ((a, b, _), _) => ([], .b (decide (May a b)))
def G3 : PC := addPC G2 14 kMay14
def kMeet9 := kOf (.cons pWin (.cons pWin .nil)) fun ((a, b, _), (c, d, _), _) => ([], .tup [wout (meetE a b c d) (meetL a b c d), .b (decide (Meet a b c d))])
def G4 : PC := addPC G3 9 kMeet9
def kMeet13 := kOf (.cons pWin (.cons pWin .nil)) fun ((a, b, _), (c, d, _), _) => ([], .tup [wout (meetE a b c d) (meetL a b c d), .b (decide (Meet a b c d))])
def G5 : PC := addPC G4 13 kMeet13
def kHas10 := kOf (.cons pWin (.cons pI .nil)) fun ((a, b, _), t, _) => ([], .b (decide (Has a b t)))
def G6 : PC := addPC G5 10 kHas10
def kHas18 := kOf (.cons pWin (.cons pI .nil)) fun ((a, b, _), t, _) => ([], .b (decide (Has a b t)))
def G7 : PC := addPC G6 18 kHas18
def kWait11 := kOf (.cons pWin (.cons pI .nil)) fun ((a, b, _), t, _) => ([], .tup [T20 (waitN a b t), .b (decide (Wait a b t))])
def G8 : PC := addPC G7 11 kWait11
def kWait16 := kOf (.cons pWin (.cons pI .nil)) fun ((a, b, _), t, _) => ([], .tup [T20 (waitN a b t), .b (decide (Wait a b t))])
def G9 : PC := addPC G8 16 kWait16
def kShift12 := kOf (.cons pWin (.cons pI .nil)) fun ((a, b, _), t, _) => ([], .tup [wout (shiftE a b t) (shiftL a b t), .b (decide (Shift a b t))])
def G10 : PC := addPC G9 12 kShift12
def kShift17 := kOf (.cons pWin (.cons pI .nil)) fun ((a, b, _), t, _) => ([], .tup [wout (shiftE a b t) (shiftL a b t), .b (decide (Shift a b t))])
def G11 : PC := addPC G10 17 kShift17
def kSpan := kOf (.cons (.intAny .i64) (.cons (.intAny .i64) .nil)) fun ((a, la, ha), (b, lb, hb), _) => ([], .agg [.i .i64 a la ha, .i .i64 b lb hb])
def G12 : PC := addPC G11 8 kSpan
def kWorks := kOf (.nil) fun _ => ([], .v (.bool true))
def G13 : PC := addPC G12 7 kWorks
end Go.Proofs.Ytpafjmedjlcgcaa
