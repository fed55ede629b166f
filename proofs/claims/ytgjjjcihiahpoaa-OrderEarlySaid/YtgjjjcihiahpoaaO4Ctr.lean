/- Contracts of the functions that the chapter's statements reach: what each answers, as plain functions. No condition. -/
import Derived.Test.YtgjjjcihiahpoaaRows
import Derived.Test.YtgjjjcihiahpoaaEngK
namespace Go.Proofs.Ytgjjjcihiahpoaa
open Go.Eng
def G0 : PC := noPC
def I (n : Int) : SV := .i .i64 n (-9223372036854775808) 9223372036854775807
def B (n lo hi : Int) : SV := .i .i64 n lo hi
def plS (a b : Int) : SV := .agg [I a, I b]
def T20 (n : Int) : SV := .i .i64 n 0 1048576
abbrev PM (a b : Int) : Prop := 0 ≤ a ∧ a ≤ 1023 ∧ 0 ≤ b ∧ b ≤ 1023
abbrev WM (a b : Int) : Prop := 0 ≤ a ∧ a ≤ b ∧ b ≤ 1048576
def apart (a b : Int) : Int := max a b - min a b
def dist (a b c d : Int) : Int := if PM a b ∧ PM c d then apart a c + apart b d else 0
abbrev Wait (a b t : Int) : Prop := WM a b ∧ max t a ≤ b
def waitN (a b t : Int) : Int := if Wait a b t then max t a else 0
/-- A request's cells: from, to, pick, drop, load, serve. -/
abbrev Chk (fx fy tx ty pe pl de dl lo se : Int) : Prop := PM fx fy ∧ PM tx ty ∧ WM pe pl ∧ WM de dl ∧ (1 ≤ lo ∧ lo ≤ 1000) ∧ (0 ≤ se ∧ se ≤ 1000)
def chk (fx fy tx ty pe pl de dl lo se : Int) : Int := if ¬ (PM fx fy ∧ PM tx ty) then 4 else if ¬ (WM pe pl ∧ WM de dl) then 5 else if ¬ ((1 ≤ lo ∧ lo ≤ 1000) ∧ (0 ≤ se ∧ se ≤ 1000)) then 6 else 0
def veh (hx hy cap st en : Int) : Int := if ¬ PM hx hy then 4 else if ¬ ((1 ≤ cap ∧ cap ≤ 100000) ∧ (0 ≤ st ∧ st ≤ en) ∧ (0 ≤ en ∧ en ≤ 1048576)) then 7 else 0
def there (fx fy pe hx hy st : Int) : Int := max (st + dist hx hy fx fy) pe
def other (fx fy tx ty pe de se hx hy st : Int) : Int := max (there fx fy pe hx hy st + se + dist fx fy tx ty) de
def home (fx fy tx ty pe de se hx hy st : Int) : Int := other fx fy tx ty pe de se hx hy st + se + dist tx ty hx hy
abbrev Alone (fx fy tx ty pe pl de dl lo se hx hy cap st en : Int) : Prop := chk fx fy tx ty pe pl de dl lo se = 0 ∧ veh hx hy cap st en = 0 ∧ lo ≤ cap ∧
  there fx fy pe hx hy st ≤ pl ∧ other fx fy tx ty pe de se hx hy st ≤ dl ∧ home fx fy tx ty pe de se hx hy st ≤ en
def alone (fx fy tx ty pe pl de dl lo se hx hy cap st en : Int) : Int := if Alone fx fy tx ty pe pl de dl lo se hx hy cap st en then home fx fy tx ty pe de se hx hy st else 0
def least (fx fy tx ty pe pl de dl lo se : Int) : Int := if chk fx fy tx ty pe pl de dl lo se = 0 then se + dist fx fy tx ty + se else 0
abbrev Tight (fx fy tx ty pe pl de dl lo se : Int) : Prop := chk fx fy tx ty pe pl de dl lo se = 0 ∧ max de (pe + (se + dist fx fy tx ty)) ≤ dl ∧ pe ≤ min pl (dl - (se + dist fx fy tx ty))
def tg (p : Prop) [Decidable p] (x : Int) : Int := if p then x else 0
def tight (fx fy tx ty pe pl de dl lo se : Int) : SV :=
  .agg [B (tg (Tight fx fy tx ty pe pl de dl lo se) fx) 0 1023, B (tg (Tight fx fy tx ty pe pl de dl lo se) fy) 0 1023, B (tg (Tight fx fy tx ty pe pl de dl lo se) tx) 0 1023, B (tg (Tight fx fy tx ty pe pl de dl lo se) ty) 0 1023,
    T20 (tg (Tight fx fy tx ty pe pl de dl lo se) pe), T20 (tg (Tight fx fy tx ty pe pl de dl lo se) (min pl (dl - (se + dist fx fy tx ty)))), T20 (tg (Tight fx fy tx ty pe pl de dl lo se) (max de (pe + (se + dist fx fy tx ty)))), T20 (tg (Tight fx fy tx ty pe pl de dl lo se) dl),
    B (tg (Tight fx fy tx ty pe pl de dl lo se) lo) 0 1000, B (tg (Tight fx fy tx ty pe pl de dl lo se) se) 0 1000]
def btw (n l g : Int) : Int := l + (n % 18446744073709551616) % (g - l + 1)
def iff (p : Bool) (a b : Int) : Int := cond p a b
def pI : Par Int := .int .i64 (-9223372036854775808) 9223372036854775807
def pPl : Par (Int × Int × Unit) := .agg (.cons pI (.cons pI .nil))
def pReq : Par (Int × Int × Int × Int × Int × Int × Int × Int × Int × Int × Unit) := .agg (.cons pI (.cons pI (.cons pI (.cons pI (.cons pI (.cons pI (.cons pI (.cons pI (.cons pI (.cons pI .nil))))))))))
def pVeh : Par (Int × Int × Int × Int × Int × Unit) := .agg (.cons pI (.cons pI (.cons pI (.cons pI (.cons pI .nil)))))
def req (fx fy tx ty pe pl de dl lo se : Int) : SV := .agg [I fx, I fy, I tx, I ty, I pe, I pl, I de, I dl, I lo, I se]
def vehS (hx hy cap st en : Int) : SV := .agg [I hx, I hy, I cap, I st, I en]
def kOn36 := kOf (.cons pI .nil) fun (a, _) => ([], .b (decide (0 ≤ a ∧ a ≤ 1023)))
def G1 : PC := addPC G0 36 kOn36
def kPM26 := kOf (.cons pPl .nil) fun ((a, b, _), _) => ([], .b (decide (PM a b)))
def G2 : PC := addPC G1 26 kPM26
def kPM29 := kOf (.cons pPl .nil) fun ((a, b, _), _) => ([], .b (decide (PM a b)))
def G3 : PC := addPC G2 29 kPM29
def kWM27 := kOf (.cons pPl .nil) fun ((a, b, _), _) => ([], .b (decide (WM a b)))
def G4 : PC := addPC G3 27 kWM27
def kWM30 := kOf (.cons pPl .nil) fun ((a, b, _), _) => ([], .b (decide (WM a b)))
def G5 : PC := addPC G4 30 kWM30
def kIn28 := kOf (.cons pI (.cons pI (.cons pI .nil))) fun (n, a, b, _) => ([], .b (decide (a ≤ n ∧ n ≤ b)))
def G6 : PC := addPC G5 28 kIn28
def nd3 (a b c : Bool) (x y z : Int) : Int := if a = false then x else if b = false then y else if c = false then z else 0
def nd2 (a b : Bool) (x y : Int) : Int := if a = false then x else if b = false then y else 0
def p23 : Par Int := .int .i64 0 23
def E23 (n : Int) : SV := .i .i64 n 0 23
def kFirst25a := kOf (.cons (.rs (.cons .bool (.cons p23 (.cons .bool (.cons p23 (.cons .bool (.cons p23 .nil)))))) 3) .nil) fun ((a, x, b, y, c, z, _), _) => ([], E23 (nd3 a b c x y z))
def kFirst25b := kOf (.cons (.rs (.cons .bool (.cons p23 (.cons .bool (.cons p23 .nil)))) 2) .nil) fun ((a, x, b, y, _), _) => ([], E23 (nd2 a b x y))
def G7 : PC := addPC G6 25 (kOr kFirst25a kFirst25b)
def kChk10 := kOf (.cons pReq .nil) fun ((fx, fy, tx, ty, pe, pl, de, dl, lo, se, _), _) => ([], B (chk fx fy tx ty pe pl de dl lo se) 0 6)
def G8 : PC := addPC G7 10 kChk10
def kChk11 := kOf (.cons pReq .nil) fun ((fx, fy, tx, ty, pe, pl, de, dl, lo, se, _), _) => ([], B (chk fx fy tx ty pe pl de dl lo se) 0 6)
def G9 : PC := addPC G8 11 kChk11
def kVeh12 := kOf (.cons pVeh .nil) fun ((hx, hy, cap, st, en, _), _) => ([], B (veh hx hy cap st en) 0 7)
def G10 : PC := addPC G9 12 kVeh12
def kVeh13 := kOf (.cons pVeh .nil) fun ((hx, hy, cap, st, en, _), _) => ([], B (veh hx hy cap st en) 0 7)
def G11 : PC := addPC G10 13 kVeh13
def kAp40 := kOf (.cons pI (.cons pI .nil)) fun (a, b, _) => ([], I (IntKind.i64.wrap (apart a b)))
def G12 : PC := addPC G11 40 kAp40
/-- The document's loop that counts: how far it has come. -/
def apSpec (a b : Int) : LoopSpec := ⟨Int, fun i => [(5, I (IntKind.i64.wrap (i - min a b))), (6, I i)], [], fun _ => [], fun i => min a b ≤ i ∧ i ≤ max a b, fun i => (max a b - i).toNat⟩
def apLoops (f : Nat) (a b : Int) : LoopSpecs := fun g i => cond (Nat.beq g f && Nat.beq i 3) (some (apSpec a b)) none
def kAp41 := kOf (.cons pI (.cons pI .nil)) fun (a, b, _) => ([], I (IntKind.i64.wrap (apart a b)))
def G13 : PC := addPC G12 41 kAp41
def kDist33 := kOf (.cons pPl (.cons pPl .nil)) fun ((a, b, _), (x, y, _), _) => ([], B (dist a b x y) 0 2046)
def G14 : PC := addPC G13 33 kDist33
def kDist34 := kOf (.cons pPl (.cons pPl .nil)) fun ((a, b, _), (x, y, _), _) => ([], B (dist a b x y) 0 2046)
def G15 : PC := addPC G14 34 kDist34
def kWait32 := kOf (.cons pPl (.cons pI .nil)) fun ((a, b, _), t, _) => ([], .tup [T20 (waitN a b t), .b (decide (Wait a b t))])
def G16 : PC := addPC G15 32 kWait32
def kBtw35 := kOf (.cons pReq .nil) fun ((fx, fy, tx, ty, pe, pl, de, dl, lo, se, _), _) => ([], I (IntKind.i64.wrap (se + dist fx fy tx ty)))
def G17 : PC := addPC G16 35 kBtw35
def kAlone15 := kOf (.cons pReq (.cons pVeh .nil)) fun ((fx, fy, tx, ty, pe, pl, de, dl, lo, se, _), (hx, hy, cap, st, en, _), _) => ([], .tup [T20 (alone fx fy tx ty pe pl de dl lo se hx hy cap st en), .b (decide (Alone fx fy tx ty pe pl de dl lo se hx hy cap st en))])
def G18 : PC := addPC G17 15 kAlone15
def kAlone16 := kOf (.cons pReq (.cons pVeh .nil)) fun ((fx, fy, tx, ty, pe, pl, de, dl, lo, se, _), (hx, hy, cap, st, en, _), _) => ([], .tup [T20 (alone fx fy tx ty pe pl de dl lo se hx hy cap st en), .b (decide (Alone fx fy tx ty pe pl de dl lo se hx hy cap st en))])
def G19 : PC := addPC G18 16 kAlone16
def kLeast19 := kOf (.cons pReq .nil) fun ((fx, fy, tx, ty, pe, pl, de, dl, lo, se, _), _) => ([], B (least fx fy tx ty pe pl de dl lo se) 0 4046)
def G20 : PC := addPC G19 19 kLeast19
def kLeast20 := kOf (.cons pReq .nil) fun ((fx, fy, tx, ty, pe, pl, de, dl, lo, se, _), _) => ([], B (least fx fy tx ty pe pl de dl lo se) 0 4046)
def G21 : PC := addPC G20 20 kLeast20
def kTight17 := kOf (.cons pReq .nil) fun ((fx, fy, tx, ty, pe, pl, de, dl, lo, se, _), _) => ([], .tup [tight fx fy tx ty pe pl de dl lo se, .b (decide (Tight fx fy tx ty pe pl de dl lo se))])
def G22 : PC := addPC G21 17 kTight17
def kTight18 := kOf (.cons pReq .nil) fun ((fx, fy, tx, ty, pe, pl, de, dl, lo, se, _), _) => ([], .tup [tight fx fy tx ty pe pl de dl lo se, .b (decide (Tight fx fy tx ty pe pl de dl lo se))])
def G23 : PC := addPC G22 18 kTight18
def kB23 := kOf (.cons pI (.cons (.int .i64 0 1) (.cons (.intR .i64 1 1048576) .nil))) fun (n, l, (g, glo, ghi), _) => ([], B (btw n l g) 0 ghi)
def G24 : PC := addPC G23 23 kB23
def kP22 := kOf (.cons pPl .nil) fun ((a, b, _), _) => ([], .agg [B (btw a 0 1023) 0 1023, B (btw b 0 1023) 0 1023])
def G25 : PC := addPC G24 22 kP22
def kW24 := kOf (.cons pPl (.cons (.intR .i64 1 1048576) .nil)) fun ((a, b, _), (g, glo, ghi), _) => ([], .agg [B (min (btw a 0 g) (btw b 0 g)) 0 ghi, B (max (btw a 0 g) (btw b 0 g)) 0 ghi])
def G26 : PC := addPC G25 24 kW24
def most (sm : Bool) : Int := iff sm 300 1048576
def sm30 (sm : Bool) (x : Int) : Int := iff sm (btw x 0 1023 % 30) (btw x 0 1023)
def wE (sm : Bool) (a b : Int) : Int := min (btw a 0 (most sm)) (btw b 0 (most sm))
def wL (sm : Bool) (a b : Int) : Int := max (btw a 0 (most sm)) (btw b 0 (most sm))
def rLo (sm : Bool) (x : Int) : Int := iff sm (1 + btw x 1 1000 % 20) (btw x 1 1000)
def rSe (sm : Bool) (x : Int) : Int := iff sm (btw x 0 1000 % 9) (btw x 0 1000)
def vCap (sm : Bool) (x : Int) : Int := iff sm (1 + btw x 1 100000 % 40) (btw x 1 100000)
def vSt (sm : Bool) (a b : Int) : Int := iff sm (min (btw a 0 1048576) (btw b 0 1048576) % 50) (min (btw a 0 1048576) (btw b 0 1048576))
def vEn (sm : Bool) (a b : Int) : Int := iff sm (100 + max (btw a 0 1048576) (btw b 0 1048576) % 400) (max (btw a 0 1048576) (btw b 0 1048576))
def right (fx fy tx ty pe pl de dl lo se : Int) (sm : Bool) : SV := .agg [B (sm30 sm fx) 0 1023, B (sm30 sm fy) 0 1023, B (sm30 sm tx) 0 1023, B (sm30 sm ty) 0 1023, T20 (wE sm pe pl), T20 (wL sm pe pl), T20 (wE sm de dl), T20 (wL sm de dl), B (rLo sm lo) 0 1000, B (rSe sm se) 0 1000]
def vright (hx hy cap st en : Int) (sm : Bool) : SV := .agg [B (sm30 sm hx) 0 1023, B (sm30 sm hy) 0 1023, B (vCap sm cap) 0 100000, T20 (vSt sm st en), T20 (vEn sm st en)]
def kRight8 := kOf (.cons pReq (.cons .bool .nil)) fun ((fx, fy, tx, ty, pe, pl, de, dl, lo, se, _), sm, _) => ([], right fx fy tx ty pe pl de dl lo se sm)
def G27 : PC := addPC G26 8 kRight8
def kVeh9 := kOf (.cons pVeh (.cons .bool .nil)) fun ((hx, hy, cap, st, en, _), sm, _) => ([], vright hx hy cap st en sm)
def G28 : PC := addPC G27 9 kVeh9
def kWorks := kOf (.nil) fun _ => ([], .v (.bool true))
def G29 : PC := addPC G28 14 kWorks
end Go.Proofs.Ytgjjjcihiahpoaa
