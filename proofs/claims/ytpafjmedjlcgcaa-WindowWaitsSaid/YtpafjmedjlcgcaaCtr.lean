/- Contracts of the functions that chapter 3's statements reach: what each answers, as plain functions. No condition. -/
import Derived.Test.YtpafjmedjlcgcaaRows
import Derived.Test.YtpafjmedjlcgcaaEngK
namespace Go.Proofs.Ytpafjmedjlcgcaa
open Go.Eng
def win (a b : Int) : SV := .agg [.v (.int .i64 a), .v (.int .i64 b)]
def bo (b : Bool) : SV := .v (.bool b)
def i6 (n : Int) : SV := .v (.int .i64 n)
/-- A window may be. -/
def mayB (a b : Int) : Bool := decide (0 ≤ a) && (decide (a ≤ b) && decide (b ≤ 1048576))
def meetB (a b c d : Int) : Bool := mayB a b && (mayB c d && decide (max a c ≤ min b d))
def meetE (a b c d : Int) : Int := cond (meetB a b c d) (max a c) 0
def meetL (a b c d : Int) : Int := cond (meetB a b c d) (min b d) 0
def hasB (a b t : Int) : Bool := mayB a b && (decide (a ≤ t) && decide (t ≤ b))
def waitB (a b t : Int) : Bool := mayB a b && decide (max t a ≤ b)
def waitN (a b t : Int) : Int := cond (waitB a b t) (max t a) 0
def shiftB (a b d : Int) : Bool := mayB a b && (decide (-a ≤ d) && decide (d ≤ 1048576 - b))
def shiftE (a b d : Int) : Int := cond (shiftB a b d) (a + d) 0
def shiftL (a b d : Int) : Int := cond (shiftB a b d) (b + d) 0
def pWin : Par (Int × Int × Unit) := .agg (.cons (.int .i64) (.cons (.int .i64) .nil))
def pInt : Par Int := .int .i64
def kMay := kOf (.cons pWin .nil) fun ((a, b, _), _) => ([], bo (mayB a b))
def kMeet := kOf (.cons pWin (.cons pWin .nil)) fun ((a, b, _), (c, d, _), _) => ([], .tup [win (meetE a b c d) (meetL a b c d), bo (meetB a b c d)])
def kHas := kOf (.cons pWin (.cons pInt .nil)) fun ((a, b, _), t, _) => ([], bo (hasB a b t))
def kWait := kOf (.cons pWin (.cons pInt .nil)) fun ((a, b, _), t, _) => ([], .tup [i6 (waitN a b t), bo (waitB a b t)])
def kShift := kOf (.cons pWin (.cons pInt .nil)) fun ((a, b, _), t, _) => ([], .tup [win (shiftE a b t) (shiftL a b t), bo (shiftB a b t)])
def kSpan := kOf (.cons pInt (.cons pInt .nil)) fun (a, b, _) => ([], win a b)
/-- With span.may known. -/
def G1 : PC := addPC noPC 25 kMay
/-- With all of package window, and the document's. -/
def G2 : PC := addPC (addPC (addPC (addPC (addPC (addPC (addPC (addPC (addPC (addPC (addPC G1 14 kMay) 15 kMay) 9 kMeet) 13 kMeet) 10 kHas) 18 kHas) 11 kWait) 16 kWait) 12 kShift) 17 kShift) 8 kSpan
def kWorks := kOf .nil fun _ => ([], bo true)
/-- With the examples, too. -/
def G3 : PC := addPC G2 7 kWorks
end Go.Proofs.Ytpafjmedjlcgcaa
