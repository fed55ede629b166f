/- The engine's normal forms of these functions. No condition. -/
import Derived.Test.YtafmknblnamegaaDoorU5VCtr
namespace Go.Proofs.YtafmknblnamegaaDoor
open Go.Eng
set_option maxRecDepth 1000000 in
theorem tTn (w t n : Int) (ts : Rw) (cs : Fm) (ls : Rw) (a b d : Int) (ds : Fm) : (fnS Tryd.prog G33 (noLoops) 200 8 [.agg [U8 w, U8 t, I n], .agg [.row 0, .row 2, .row 3, I a, I b, I d, .row 5]] [.row 66 RK ts, .fam CF cs none, .rr 53 1, .row 59 LK ls, .fam DF ds none, .rr 73 4] (fitM [.row 66 RK ts, .fam CF cs none, .rr 53 1, .row 59 LK ls, .fam DF ds none, .rr 73 4] ({ need := [tnN ts cs ls ds t], val := .agg [SN, .row 1000005, .row 1000001, I (tnA w n a), I (tnB w n b), I (tnD w n d), .row 1000006], heap := [(0, .row 66 RK ts), (1, .fam CF cs none), (2, .rr 53 1), (3, .row 59 LK ls), (4, .fam DF ds none), (5, .rr 73 4)], news := [.row 66 RK (tnTs w t n ts), .row 59 LK (tnLs w t n ls), .row 57 VK (tnFl w n (fle (cs.getD (tnC t cs) []))), .row 3 I64 (tnOw w n (own (cs.getD (tnC t cs) []))), .der cs.length 1 CF [(tnC t cs, 1, .row 1000003), (tnC t cs, 0, .row 1000002)], .rr 53 1000004, .opq (tnDs w ds)] }))) =
(bif decide (lenI ts ≤ (879609302220 : Int)) then
 bif decide (lenI ls ≤ (4398046511104 : Int)) then
 bif decide ((↑(List.length cs) : Int) ≤ (1466015503701 : Int)) then
 ∀ (z11 : Int),
 z11 = t →
 ∀ (z13 : Int),
 z13 = (↑(List.length cs) : Int) →
 bif !decide (z13 = (0 : Int)) then
 ∀ (z15 : Int),
 z15 = z11.tmod z13 →
 bif decide ((0 : Int) ≤ z15) && decide (z15 < (↑(List.length cs) : Int)) then
 bif
 decide
 (lenI
 (List.getD ((List.getD cs z15.toNat [])) ((0 : Nat)) []) ≤
 (1759218604441 : Int)) then
 bif decide ((0 : Int) ≤ z15) && decide (z15 < (↑(List.length cs) : Int)) then
 bif decide ((0 : Int) ≤ z15) && decide (z15 < (↑(List.length cs) : Int)) then
 bif
 decide
 (lenI
 (List.getD ((List.getD cs z15.toNat [])) ((1 : Nat)) []) ≤
 (8796093022208 : Int)) then
 bif decide ((0 : Int) ≤ z15) && decide (z15 < (↑(List.length cs) : Int)) then
 ∀ (z17 : Int),
 z17 = w % (12 : Int) →
 ∀ (b19 : Bool),
 b19 = decide (z17 = (0 : Int)) →
 bif b19 then
 (True ∧ True ∧ True ∧ (n = tnA w n a ∧ True) ∧ (b = tnB w n b ∧ True) ∧ (d = tnD w n d ∧ True) ∧ True ∧ True) ∧
 ts = ts ∧
 cs = cs ∧
 True ∧
 ls = ls ∧
 ds = ds ∧
 True ∧
 [] ++ ts = tnTs w t n ts ∧
 [] ++ ls = tnLs w t n ls ∧
 ([] ++
 List.getD ((List.getD cs z15.toNat [])) ((0 : Nat)) []) =
 tnFl w n
 (fle
 (List.getD (cs) (tnC t cs) [])) ∧
 ([] ++
 List.getD ((List.getD cs z15.toNat [])) ((1 : Nat)) []) =
 tnOw w n
 (own
 (List.getD (cs) (tnC t cs) [])) ∧
 (List.length cs = List.length cs ∧ z15.toNat = tnC t cs ∧ True ∧ z15.toNat = tnC t cs ∧ True ∧ True) ∧ True ∧ List.length ds = tnDs w ds ∧ True
 else
 ∀ (b21 : Bool),
 b21 = decide (z17 = (1 : Int)) →
 bif b21 then
 (True ∧ True ∧ True ∧ (a = tnA w n a ∧ True) ∧ (b = tnB w n b ∧ True) ∧ (n = tnD w n d ∧ True) ∧ True ∧ True) ∧
 ts = ts ∧
 cs = cs ∧
 True ∧
 ls = ls ∧
 ds = ds ∧
 True ∧
 [] ++ ts = tnTs w t n ts ∧
 [] ++ ls = tnLs w t n ls ∧
 ([] ++
 List.getD ((List.getD cs z15.toNat [])) ((0 : Nat)) []) =
 tnFl w n
 (fle
 (List.getD (cs) (tnC t cs) [])) ∧
 ([] ++
 List.getD ((List.getD cs z15.toNat [])) ((1 : Nat)) []) =
 tnOw w n
 (own
 (List.getD (cs) (tnC t cs) [])) ∧
 (List.length cs = List.length cs ∧ z15.toNat = tnC t cs ∧ True ∧ z15.toNat = tnC t cs ∧ True ∧ True) ∧ True ∧ List.length ds = tnDs w ds ∧ True
 else
 ∀ (b23 : Bool),
 b23 = decide (z17 = (2 : Int)) →
 bif b23 then
 bif decide ((0 : Int) ≤ z15) && decide (z15 < (↑(List.length cs) : Int)) then
 bif decide (z15.toNat = z15.toNat) then
 bif
 decide
 (lenI
 ([] ++
 List.getD ((List.getD cs z15.toNat [])) ((1 : Nat)) []) ≤
 (8796093022208 : Int)) then
 bif decide ((0 : Int) ≤ z15) && decide (z15 < (↑(List.length cs) : Int)) then
 bif decide (z15.toNat = z15.toNat) then
 (True ∧ True ∧ True ∧ (a = tnA w n a ∧ True) ∧ (b = tnB w n b ∧ True) ∧ (d = tnD w n d ∧ True) ∧ True ∧ True) ∧
 ts = ts ∧
 cs = cs ∧
 True ∧
 ls = ls ∧
 ds = ds ∧
 True ∧
 [] ++ ts = tnTs w t n ts ∧
 [] ++ ls = tnLs w t n ls ∧
 ([] ++
 List.getD ((List.getD cs z15.toNat [])) ((0 : Nat)) []) =
 tnFl w n
 (fle
 (List.getD (cs) (tnC t cs) [])) ∧
 ([] ++
 List.getD ((List.getD cs z15.toNat [])) ((1 : Nat)) []) ++
 [[Value.int IntKind.i64 n]] =
 tnOw w n
 (own
 (List.getD (cs) (tnC t cs) [])) ∧
 (List.length cs = List.length cs ∧ z15.toNat = tnC t cs ∧ True ∧ z15.toNat = tnC t cs ∧ True ∧ True) ∧ True ∧ List.length ds = tnDs w ds ∧ True
 else False
 else False
 else False
 else False
 else False
 else
 ∀ (b25 : Bool),
 b25 = decide (z17 = (3 : Int)) →
 bif b25 then
 bif decide ((0 : Int) ≤ z15) && decide (z15 < (↑(List.length cs) : Int)) then
 bif decide (z15.toNat = z15.toNat) then
 bif
 true &&
 decide
 ((0 : Int) <
 (↑([] ++
 List.getD ((List.getD cs z15.toNat [])) ((0 : Nat)) []).length :
 Int)) then
 (True ∧ True ∧ True ∧ (a = tnA w n a ∧ True) ∧ (b = tnB w n b ∧ True) ∧ (d = tnD w n d ∧ True) ∧ True ∧ True) ∧
 ts = ts ∧
 cs = cs ∧
 True ∧
 ls = ls ∧
 ds = ds ∧
 True ∧
 [] ++ ts = tnTs w t n ts ∧
 [] ++ ls = tnLs w t n ls ∧
 ([] ++
 List.getD ((List.getD cs z15.toNat [])) ((0 : Nat)) []).set
 (0 : Nat)
 [Value.int IntKind.i64
 (geti
 (([] ++
 List.getD ((List.getD cs z15.toNat [])) ((0 : Nat)) []).getD
 (Int.toNat (0 : Int)) [])
 (0 : Nat)),
 Value.int IntKind.i64
 (geti
 (([] ++
 List.getD ((List.getD cs z15.toNat [])) ((0 : Nat)) []).getD
 (Int.toNat (0 : Int)) [])
 (1 : Nat)),
 Value.int IntKind.i64 n,
 Value.int IntKind.i64
 (geti
 (([] ++
 List.getD ((List.getD cs z15.toNat [])) ((0 : Nat)) []).getD
 (Int.toNat (0 : Int)) [])
 (3 : Nat)),
 Value.int IntKind.i64
 (geti
 (([] ++
 List.getD ((List.getD cs z15.toNat [])) ((0 : Nat)) []).getD
 (Int.toNat (0 : Int)) [])
 (4 : Nat))] =
 tnFl w n
 (fle
 (List.getD (cs) (tnC t cs) [])) ∧
 ([] ++
 List.getD ((List.getD cs z15.toNat [])) ((1 : Nat)) []) =
 tnOw w n
 (own
 (List.getD (cs) (tnC t cs) [])) ∧
 (List.length cs = List.length cs ∧ z15.toNat = tnC t cs ∧ True ∧ z15.toNat = tnC t cs ∧ True ∧ True) ∧ True ∧ List.length ds = tnDs w ds ∧ True
 else False
 else False
 else False
 else
 ∀ (b27 : Bool),
 b27 = decide (z17 = (4 : Int)) →
 bif b27 then
 bif decide ((0 : Int) ≤ z15) && decide (z15 < (↑(List.length cs) : Int)) then
 bif decide (z15.toNat = z15.toNat) then
 bif decide ((0 : Int) ≤ z15) && decide (z15 < (↑(List.length cs) : Int)) then
 bif decide (z15.toNat = z15.toNat) then
 ∀ (z29 : Int),
 z29 =
 (↑([] ++
 List.getD ((List.getD cs z15.toNat [])) ((0 : Nat)) []).length :
 Int) →
 ∀ (z31 : Int),
 z31 = z29 - (1 : Int) →
 bif
 decide ((0 : Int) ≤ z31) &&
 decide
 (z31 <
 (↑([] ++
 List.getD ((List.getD cs z15.toNat [])) ((0 : Nat)) []).length :
 Int)) then
 (True ∧ True ∧ True ∧ (a = tnA w n a ∧ True) ∧ (b = tnB w n b ∧ True) ∧ (d = tnD w n d ∧ True) ∧ True ∧ True) ∧
 ts = ts ∧
 cs = cs ∧
 True ∧
 ls = ls ∧
 ds = ds ∧
 True ∧
 [] ++ ts = tnTs w t n ts ∧
 [] ++ ls = tnLs w t n ls ∧
 ([] ++
 List.getD ((List.getD cs z15.toNat [])) ((0 : Nat)) []).set
 z31.toNat
 [Value.int IntKind.i64
 (geti
 (([] ++
 List.getD ((List.getD cs z15.toNat [])) ((0 : Nat)) []).getD
 z31.toNat [])
 (0 : Nat)),
 Value.int IntKind.i64
 (geti
 (([] ++
 List.getD ((List.getD cs z15.toNat [])) ((0 : Nat)) []).getD
 z31.toNat [])
 (1 : Nat)),
 Value.int IntKind.i64
 (geti
 (([] ++
 List.getD ((List.getD cs z15.toNat [])) ((0 : Nat)) []).getD
 z31.toNat [])
 (2 : Nat)),
 Value.int IntKind.i64
 (geti
 (([] ++
 List.getD ((List.getD cs z15.toNat [])) ((0 : Nat)) []).getD
 z31.toNat [])
 (3 : Nat)),
 Value.int IntKind.i64 n] =
 tnFl w n
 (fle
 (List.getD (cs) (tnC t cs) [])) ∧
 ([] ++
 List.getD ((List.getD cs z15.toNat [])) ((1 : Nat)) []) =
 tnOw w n
 (own
 (List.getD (cs) (tnC t cs) [])) ∧
 (List.length cs = List.length cs ∧ z15.toNat = tnC t cs ∧ True ∧ z15.toNat = tnC t cs ∧ True ∧ True) ∧ True ∧ List.length ds = tnDs w ds ∧ True
 else False
 else False
 else False
 else False
 else False
 else
 ∀ (b29 : Bool),
 b29 = decide (z17 = (5 : Int)) →
 bif b29 then
 bif decide ((0 : Int) ≤ z15) && decide (z15 < (↑(List.length cs) : Int)) then
 bif decide (z15.toNat = z15.toNat) then
 (True ∧ True ∧ True ∧ (a = tnA w n a ∧ True) ∧ (b = tnB w n b ∧ True) ∧ (d = tnD w n d ∧ True) ∧ True ∧ True) ∧
 ts = ts ∧
 cs = cs ∧
 True ∧
 ls = ls ∧
 ds = ds ∧
 True ∧
 [] ++ ts = tnTs w t n ts ∧
 [] ++ ls = tnLs w t n ls ∧
 ([] ++
 List.getD ((List.getD cs z15.toNat [])) ((0 : Nat)) []) =
 tnFl w n
 (fle
 (List.getD (cs) (tnC t cs) [])) ∧
 [] =
 tnOw w n
 (own
 (List.getD (cs) (tnC t cs) [])) ∧
 (List.length cs = List.length cs ∧ z15.toNat = tnC t cs ∧ True ∧ z15.toNat = tnC t cs ∧ True ∧ True) ∧ True ∧ List.length ds = tnDs w ds ∧ True
 else False
 else False
 else
 ∀ (b31 : Bool),
 b31 = decide (z17 = (6 : Int)) →
 bif b31 then
 bif decide ((↑(List.length ds) : Int) ≤ (2932031007402 : Int)) then
 (True ∧ True ∧ True ∧ (a = tnA w n a ∧ True) ∧ (b = tnB w n b ∧ True) ∧ (d = tnD w n d ∧ True) ∧ True ∧ True) ∧
 ts = ts ∧
 cs = cs ∧
 True ∧
 ls = ls ∧
 ds = ds ∧
 True ∧
 [] ++ ts = tnTs w t n ts ∧
 [] ++ ls = tnLs w t n ls ∧
 ([] ++
 List.getD ((List.getD cs z15.toNat [])) ((0 : Nat)) []) =
 tnFl w n
 (fle
 (List.getD (cs) (tnC t cs) [])) ∧
 ([] ++
 List.getD ((List.getD cs z15.toNat [])) ((1 : Nat)) []) =
 tnOw w n
 (own
 (List.getD (cs) (tnC t cs) [])) ∧
 (List.length cs = List.length cs ∧ z15.toNat = tnC t cs ∧ True ∧ z15.toNat = tnC t cs ∧ True ∧ True) ∧ True ∧ (1 : Nat) + List.length ds = tnDs w ds ∧ True
 else False
 else
 ∀ (b33 : Bool),
 b33 = decide (z17 = (7 : Int)) →
 bif b33 then
 bif decide (lenI ([] ++ ls) ≤ (4398046511104 : Int)) then
 (True ∧ True ∧ True ∧ (a = tnA w n a ∧ True) ∧ (b = tnB w n b ∧ True) ∧ (d = tnD w n d ∧ True) ∧ True ∧ True) ∧
 ts = ts ∧
 cs = cs ∧
 True ∧
 ls = ls ∧
 ds = ds ∧
 True ∧
 [] ++ ts = tnTs w t n ts ∧
 [] ++ ls ++ [[Value.int IntKind.i64 n, Value.int IntKind.i64 (0 : Int)]] = tnLs w t n ls ∧
 ([] ++
 List.getD ((List.getD cs z15.toNat [])) ((0 : Nat)) []) =
 tnFl w n
 (fle
 (List.getD (cs) (tnC t cs) [])) ∧
 ([] ++
 List.getD ((List.getD cs z15.toNat [])) ((1 : Nat)) []) =
 tnOw w n
 (own
 (List.getD (cs) (tnC t cs) [])) ∧
 (List.length cs = List.length cs ∧ z15.toNat = tnC t cs ∧ True ∧ z15.toNat = tnC t cs ∧ True ∧ True) ∧ True ∧ List.length ds = tnDs w ds ∧ True
 else False
 else
 ∀ (b35 : Bool),
 b35 = decide (z17 = (8 : Int)) →
 bif b35 then
 bif decide ((0 : Int) ≤ z15) && decide (z15 < (↑(List.length cs) : Int)) then
 bif decide (z15.toNat = z15.toNat) then
 (True ∧ True ∧ True ∧ (a = tnA w n a ∧ True) ∧ (b = tnB w n b ∧ True) ∧ (d = tnD w n d ∧ True) ∧ True ∧ True) ∧
 ts = ts ∧
 cs = cs ∧
 True ∧
 ls = ls ∧
 ds = ds ∧
 True ∧
 [] ++ ts = tnTs w t n ts ∧
 [] ++ ls = tnLs w t n ls ∧
 [] =
 tnFl w n
 (fle
 (List.getD (cs) (tnC t cs) [])) ∧
 ([] ++
 List.getD ((List.getD cs z15.toNat [])) ((1 : Nat)) []) =
 tnOw w n
 (own
 (List.getD (cs) (tnC t cs) [])) ∧
 (List.length cs = List.length cs ∧ z15.toNat = tnC t cs ∧ True ∧ z15.toNat = tnC t cs ∧ True ∧ True) ∧ True ∧ List.length ds = tnDs w ds ∧ True
 else False
 else False
 else
 ∀ (b37 : Bool),
 b37 = decide (z17 = (9 : Int)) →
 bif b37 then
 (True ∧ True ∧ True ∧ (a = tnA w n a ∧ True) ∧ (n = tnB w n b ∧ True) ∧ (d = tnD w n d ∧ True) ∧ True ∧ True) ∧
 ts = ts ∧
 cs = cs ∧
 True ∧
 ls = ls ∧
 ds = ds ∧
 True ∧
 [] ++ ts = tnTs w t n ts ∧
 [] ++ ls = tnLs w t n ls ∧
 ([] ++
 List.getD ((List.getD cs z15.toNat [])) ((0 : Nat)) []) =
 tnFl w n
 (fle
 (List.getD (cs) (tnC t cs) [])) ∧
 ([] ++
 List.getD ((List.getD cs z15.toNat [])) ((1 : Nat)) []) =
 tnOw w n
 (own
 (List.getD (cs) (tnC t cs) [])) ∧
 (List.length cs = List.length cs ∧ z15.toNat = tnC t cs ∧ True ∧ z15.toNat = tnC t cs ∧ True ∧ True) ∧ True ∧ List.length ds = tnDs w ds ∧ True
 else
 ∀ (z39 : Int),
 z39 = (↑([] ++ ts).length : Int) →
 ∀ (b41 : Bool),
 b41 = decide ((0 : Int) < z39) →
 bif b41 then
 ∀ (z43 : Int),
 z43 = t →
 ∀ (z45 : Int),
 z45 = (↑([] ++ ts).length : Int) →
 bif !decide (z45 = (0 : Int)) then
 ∀ (z47 : Int),
 z47 = z43.tmod z45 →
 bif decide ((0 : Int) ≤ z47) && decide (z47 < (↑([] ++ ts).length : Int)) then
 ∀ (z49 : Int),
 z49 = IntKind.i64.wrap ((1000 : Int) + n) →
 bif decide ((0 : Int) ≤ z47) && decide (z47 < (↑(([] ++ ts).set z47.toNat [Value.int IntKind.i64 (geti (([] ++ ts).getD z47.toNat []) (0 : Nat)), Value.int IntKind.i64 (geti (([] ++ ts).getD z47.toNat []) (1 : Nat)), Value.int IntKind.i64 (geti (([] ++ ts).getD z47.toNat []) (2 : Nat)), Value.int IntKind.i64 (geti (([] ++ ts).getD z47.toNat []) (3 : Nat)), Value.int IntKind.i64 (geti (([] ++ ts).getD z47.toNat []) (4 : Nat)), Value.int IntKind.i64 (geti (([] ++ ts).getD z47.toNat []) (5 : Nat)), Value.int IntKind.i64 (geti (([] ++ ts).getD z47.toNat []) (6 : Nat)), Value.int IntKind.i64 (geti (([] ++ ts).getD z47.toNat []) (7 : Nat)), Value.int IntKind.i64 (geti (([] ++ ts).getD z47.toNat []) (8 : Nat)), Value.int IntKind.i64 n]).length : Int)) then
 ∀ (z51 : Int),
 z51 = (↑([] ++ ls).length : Int) →
 ∀ (b53 : Bool),
 b53 = decide ((0 : Int) < z51) →
 bif b53 || !b53 then
 bif b53 || !b53 then
 ∀ (z55 : Int),
 z55 = w % (12 : Int) →
 bif b53 || !b53 then
 ∀ (b57 : Bool),
 b57 = decide (z55 = (11 : Int)) →
 bif bif b53 then b53 else true then
 bif bif b53 then true else true then
 ∀ (b59 : Bool),
 (b59 = bif b53 then b57 else false) →
 bif b59 then
 ∀ (z61 : Int),
 z61 = t →
 ∀ (z63 : Int),
 z63 = (↑([] ++ ls).length : Int) →
 bif !decide (z63 = (0 : Int)) then
 ∀ (z65 : Int),
 z65 = z61.tmod z63 →
 bif decide ((0 : Int) ≤ z65) && decide (z65 < (↑([] ++ ls).length : Int)) then
 (True ∧ True ∧ True ∧ (a = tnA w n a ∧ True) ∧ (b = tnB w n b ∧ True) ∧ (d = tnD w n d ∧ True) ∧ True ∧ True) ∧
 ts = ts ∧
 cs = cs ∧
 True ∧
 ls = ls ∧
 ds = ds ∧
 True ∧
 (([] ++ ts).set z47.toNat [Value.int IntKind.i64 (geti (([] ++ ts).getD z47.toNat []) (0 : Nat)), Value.int IntKind.i64 (geti (([] ++ ts).getD z47.toNat []) (1 : Nat)), Value.int IntKind.i64 (geti (([] ++ ts).getD z47.toNat []) (2 : Nat)), Value.int IntKind.i64 (geti (([] ++ ts).getD z47.toNat []) (3 : Nat)), Value.int IntKind.i64 (geti (([] ++ ts).getD z47.toNat []) (4 : Nat)), Value.int IntKind.i64 (geti (([] ++ ts).getD z47.toNat []) (5 : Nat)), Value.int IntKind.i64 (geti (([] ++ ts).getD z47.toNat []) (6 : Nat)), Value.int IntKind.i64 (geti (([] ++ ts).getD z47.toNat []) (7 : Nat)), Value.int IntKind.i64 (geti (([] ++ ts).getD z47.toNat []) (8 : Nat)), Value.int IntKind.i64 n]).set z47.toNat [Value.int IntKind.i64 (geti ((([] ++ ts).set z47.toNat [Value.int IntKind.i64 (geti (([] ++ ts).getD z47.toNat []) (0 : Nat)), Value.int IntKind.i64 (geti (([] ++ ts).getD z47.toNat []) ((0 : Nat) + (1 : Nat))), Value.int IntKind.i64 (geti (([] ++ ts).getD z47.toNat []) ((0 : Nat) + (1 : Nat) + (1 : Nat))), Value.int IntKind.i64 (geti (([] ++ ts).getD z47.toNat []) ((0 : Nat) + (1 : Nat) + (1 : Nat) + (1 : Nat))), Value.int IntKind.i64 (geti (([] ++ ts).getD z47.toNat []) ((0 : Nat) + (1 : Nat) + (1 : Nat) + (1 : Nat) + (1 : Nat))), Value.int IntKind.i64 (geti (([] ++ ts).getD z47.toNat []) ((0 : Nat) + (1 : Nat) + (1 : Nat) + (1 : Nat) + (1 : Nat) + (1 : Nat))), Value.int IntKind.i64 (geti (([] ++ ts).getD z47.toNat []) ((0 : Nat) + (1 : Nat) + (1 : Nat) + (1 : Nat) + (1 : Nat) + (1 : Nat) + (1 : Nat))), Value.int IntKind.i64 (geti (([] ++ ts).getD z47.toNat []) ((0 : Nat) + (1 : Nat) + (1 : Nat) + (1 : Nat) + (1 : Nat) + (1 : Nat) + (1 : Nat) + (1 : Nat))), Value.int IntKind.i64 (geti (([] ++ ts).getD z47.toNat []) ((0 : Nat) + (1 : Nat) + (1 : Nat) + (1 : Nat) + (1 : Nat) + (1 : Nat) + (1 : Nat) + (1 : Nat) + (1 : Nat))), Value.int IntKind.i64 n]).getD z47.toNat []) (0 : Nat)), Value.int IntKind.i64 (geti ((([] ++ ts).set z47.toNat [Value.int IntKind.i64 (geti (([] ++ ts).getD z47.toNat []) (0 : Nat)), Value.int IntKind.i64 (geti (([] ++ ts).getD z47.toNat []) ((0 : Nat) + (1 : Nat))), Value.int IntKind.i64 (geti (([] ++ ts).getD z47.toNat []) ((0 : Nat) + (1 : Nat) + (1 : Nat))), Value.int IntKind.i64 (geti (([] ++ ts).getD z47.toNat []) ((0 : Nat) + (1 : Nat) + (1 : Nat) + (1 : Nat))), Value.int IntKind.i64 (geti (([] ++ ts).getD z47.toNat []) ((0 : Nat) + (1 : Nat) + (1 : Nat) + (1 : Nat) + (1 : Nat))), Value.int IntKind.i64 (geti (([] ++ ts).getD z47.toNat []) ((0 : Nat) + (1 : Nat) + (1 : Nat) + (1 : Nat) + (1 : Nat) + (1 : Nat))), Value.int IntKind.i64 (geti (([] ++ ts).getD z47.toNat []) ((0 : Nat) + (1 : Nat) + (1 : Nat) + (1 : Nat) + (1 : Nat) + (1 : Nat) + (1 : Nat))), Value.int IntKind.i64 (geti (([] ++ ts).getD z47.toNat []) ((0 : Nat) + (1 : Nat) + (1 : Nat) + (1 : Nat) + (1 : Nat) + (1 : Nat) + (1 : Nat) + (1 : Nat))), Value.int IntKind.i64 (geti (([] ++ ts).getD z47.toNat []) ((0 : Nat) + (1 : Nat) + (1 : Nat) + (1 : Nat) + (1 : Nat) + (1 : Nat) + (1 : Nat) + (1 : Nat) + (1 : Nat))), Value.int IntKind.i64 n]).getD z47.toNat []) (1 : Nat)), Value.int IntKind.i64 z49, Value.int IntKind.i64 (geti ((([] ++ ts).set z47.toNat [Value.int IntKind.i64 (geti (([] ++ ts).getD z47.toNat []) (0 : Nat)), Value.int IntKind.i64 (geti (([] ++ ts).getD z47.toNat []) ((0 : Nat) + (1 : Nat))), Value.int IntKind.i64 (geti (([] ++ ts).getD z47.toNat []) ((0 : Nat) + (1 : Nat) + (1 : Nat))), Value.int IntKind.i64 (geti (([] ++ ts).getD z47.toNat []) ((0 : Nat) + (1 : Nat) + (1 : Nat) + (1 : Nat))), Value.int IntKind.i64 (geti (([] ++ ts).getD z47.toNat []) ((0 : Nat) + (1 : Nat) + (1 : Nat) + (1 : Nat) + (1 : Nat))), Value.int IntKind.i64 (geti (([] ++ ts).getD z47.toNat []) ((0 : Nat) + (1 : Nat) + (1 : Nat) + (1 : Nat) + (1 : Nat) + (1 : Nat))), Value.int IntKind.i64 (geti (([] ++ ts).getD z47.toNat []) ((0 : Nat) + (1 : Nat) + (1 : Nat) + (1 : Nat) + (1 : Nat) + (1 : Nat) + (1 : Nat))), Value.int IntKind.i64 (geti (([] ++ ts).getD z47.toNat []) ((0 : Nat) + (1 : Nat) + (1 : Nat) + (1 : Nat) + (1 : Nat) + (1 : Nat) + (1 : Nat) + (1 : Nat))), Value.int IntKind.i64 (geti (([] ++ ts).getD z47.toNat []) ((0 : Nat) + (1 : Nat) + (1 : Nat) + (1 : Nat) + (1 : Nat) + (1 : Nat) + (1 : Nat) + (1 : Nat) + (1 : Nat))), Value.int IntKind.i64 n]).getD z47.toNat []) (3 : Nat)), Value.int IntKind.i64 (geti ((([] ++ ts).set z47.toNat [Value.int IntKind.i64 (geti (([] ++ ts).getD z47.toNat []) (0 : Nat)), Value.int IntKind.i64 (geti (([] ++ ts).getD z47.toNat []) ((0 : Nat) + (1 : Nat))), Value.int IntKind.i64 (geti (([] ++ ts).getD z47.toNat []) ((0 : Nat) + (1 : Nat) + (1 : Nat))), Value.int IntKind.i64 (geti (([] ++ ts).getD z47.toNat []) ((0 : Nat) + (1 : Nat) + (1 : Nat) + (1 : Nat))), Value.int IntKind.i64 (geti (([] ++ ts).getD z47.toNat []) ((0 : Nat) + (1 : Nat) + (1 : Nat) + (1 : Nat) + (1 : Nat))), Value.int IntKind.i64 (geti (([] ++ ts).getD z47.toNat []) ((0 : Nat) + (1 : Nat) + (1 : Nat) + (1 : Nat) + (1 : Nat) + (1 : Nat))), Value.int IntKind.i64 (geti (([] ++ ts).getD z47.toNat []) ((0 : Nat) + (1 : Nat) + (1 : Nat) + (1 : Nat) + (1 : Nat) + (1 : Nat) + (1 : Nat))), Value.int IntKind.i64 (geti (([] ++ ts).getD z47.toNat []) ((0 : Nat) + (1 : Nat) + (1 : Nat) + (1 : Nat) + (1 : Nat) + (1 : Nat) + (1 : Nat) + (1 : Nat))), Value.int IntKind.i64 (geti (([] ++ ts).getD z47.toNat []) ((0 : Nat) + (1 : Nat) + (1 : Nat) + (1 : Nat) + (1 : Nat) + (1 : Nat) + (1 : Nat) + (1 : Nat) + (1 : Nat))), Value.int IntKind.i64 n]).getD z47.toNat []) (4 : Nat)), Value.int IntKind.i64 (geti ((([] ++ ts).set z47.toNat [Value.int IntKind.i64 (geti (([] ++ ts).getD z47.toNat []) (0 : Nat)), Value.int IntKind.i64 (geti (([] ++ ts).getD z47.toNat []) ((0 : Nat) + (1 : Nat))), Value.int IntKind.i64 (geti (([] ++ ts).getD z47.toNat []) ((0 : Nat) + (1 : Nat) + (1 : Nat))), Value.int IntKind.i64 (geti (([] ++ ts).getD z47.toNat []) ((0 : Nat) + (1 : Nat) + (1 : Nat) + (1 : Nat))), Value.int IntKind.i64 (geti (([] ++ ts).getD z47.toNat []) ((0 : Nat) + (1 : Nat) + (1 : Nat) + (1 : Nat) + (1 : Nat))), Value.int IntKind.i64 (geti (([] ++ ts).getD z47.toNat []) ((0 : Nat) + (1 : Nat) + (1 : Nat) + (1 : Nat) + (1 : Nat) + (1 : Nat))), Value.int IntKind.i64 (geti (([] ++ ts).getD z47.toNat []) ((0 : Nat) + (1 : Nat) + (1 : Nat) + (1 : Nat) + (1 : Nat) + (1 : Nat) + (1 : Nat))), Value.int IntKind.i64 (geti (([] ++ ts).getD z47.toNat []) ((0 : Nat) + (1 : Nat) + (1 : Nat) + (1 : Nat) + (1 : Nat) + (1 : Nat) + (1 : Nat) + (1 : Nat))), Value.int IntKind.i64 (geti (([] ++ ts).getD z47.toNat []) ((0 : Nat) + (1 : Nat) + (1 : Nat) + (1 : Nat) + (1 : Nat) + (1 : Nat) + (1 : Nat) + (1 : Nat) + (1 : Nat))), Value.int IntKind.i64 n]).getD z47.toNat []) (5 : Nat)), Value.int IntKind.i64 (geti ((([] ++ ts).set z47.toNat [Value.int IntKind.i64 (geti (([] ++ ts).getD z47.toNat []) (0 : Nat)), Value.int IntKind.i64 (geti (([] ++ ts).getD z47.toNat []) ((0 : Nat) + (1 : Nat))), Value.int IntKind.i64 (geti (([] ++ ts).getD z47.toNat []) ((0 : Nat) + (1 : Nat) + (1 : Nat))), Value.int IntKind.i64 (geti (([] ++ ts).getD z47.toNat []) ((0 : Nat) + (1 : Nat) + (1 : Nat) + (1 : Nat))), Value.int IntKind.i64 (geti (([] ++ ts).getD z47.toNat []) ((0 : Nat) + (1 : Nat) + (1 : Nat) + (1 : Nat) + (1 : Nat))), Value.int IntKind.i64 (geti (([] ++ ts).getD z47.toNat []) ((0 : Nat) + (1 : Nat) + (1 : Nat) + (1 : Nat) + (1 : Nat) + (1 : Nat))), Value.int IntKind.i64 (geti (([] ++ ts).getD z47.toNat []) ((0 : Nat) + (1 : Nat) + (1 : Nat) + (1 : Nat) + (1 : Nat) + (1 : Nat) + (1 : Nat))), Value.int IntKind.i64 (geti (([] ++ ts).getD z47.toNat []) ((0 : Nat) + (1 : Nat) + (1 : Nat) + (1 : Nat) + (1 : Nat) + (1 : Nat) + (1 : Nat) + (1 : Nat))), Value.int IntKind.i64 (geti (([] ++ ts).getD z47.toNat []) ((0 : Nat) + (1 : Nat) + (1 : Nat) + (1 : Nat) + (1 : Nat) + (1 : Nat) + (1 : Nat) + (1 : Nat) + (1 : Nat))), Value.int IntKind.i64 n]).getD z47.toNat []) (6 : Nat)), Value.int IntKind.i64 (geti ((([] ++ ts).set z47.toNat [Value.int IntKind.i64 (geti (([] ++ ts).getD z47.toNat []) (0 : Nat)), Value.int IntKind.i64 (geti (([] ++ ts).getD z47.toNat []) ((0 : Nat) + (1 : Nat))), Value.int IntKind.i64 (geti (([] ++ ts).getD z47.toNat []) ((0 : Nat) + (1 : Nat) + (1 : Nat))), Value.int IntKind.i64 (geti (([] ++ ts).getD z47.toNat []) ((0 : Nat) + (1 : Nat) + (1 : Nat) + (1 : Nat))), Value.int IntKind.i64 (geti (([] ++ ts).getD z47.toNat []) ((0 : Nat) + (1 : Nat) + (1 : Nat) + (1 : Nat) + (1 : Nat))), Value.int IntKind.i64 (geti (([] ++ ts).getD z47.toNat []) ((0 : Nat) + (1 : Nat) + (1 : Nat) + (1 : Nat) + (1 : Nat) + (1 : Nat))), Value.int IntKind.i64 (geti (([] ++ ts).getD z47.toNat []) ((0 : Nat) + (1 : Nat) + (1 : Nat) + (1 : Nat) + (1 : Nat) + (1 : Nat) + (1 : Nat))), Value.int IntKind.i64 (geti (([] ++ ts).getD z47.toNat []) ((0 : Nat) + (1 : Nat) + (1 : Nat) + (1 : Nat) + (1 : Nat) + (1 : Nat) + (1 : Nat) + (1 : Nat))), Value.int IntKind.i64 (geti (([] ++ ts).getD z47.toNat []) ((0 : Nat) + (1 : Nat) + (1 : Nat) + (1 : Nat) + (1 : Nat) + (1 : Nat) + (1 : Nat) + (1 : Nat) + (1 : Nat))), Value.int IntKind.i64 n]).getD z47.toNat []) (7 : Nat)), Value.int IntKind.i64 (geti ((([] ++ ts).set z47.toNat [Value.int IntKind.i64 (geti (([] ++ ts).getD z47.toNat []) (0 : Nat)), Value.int IntKind.i64 (geti (([] ++ ts).getD z47.toNat []) ((0 : Nat) + (1 : Nat))), Value.int IntKind.i64 (geti (([] ++ ts).getD z47.toNat []) ((0 : Nat) + (1 : Nat) + (1 : Nat))), Value.int IntKind.i64 (geti (([] ++ ts).getD z47.toNat []) ((0 : Nat) + (1 : Nat) + (1 : Nat) + (1 : Nat))), Value.int IntKind.i64 (geti (([] ++ ts).getD z47.toNat []) ((0 : Nat) + (1 : Nat) + (1 : Nat) + (1 : Nat) + (1 : Nat))), Value.int IntKind.i64 (geti (([] ++ ts).getD z47.toNat []) ((0 : Nat) + (1 : Nat) + (1 : Nat) + (1 : Nat) + (1 : Nat) + (1 : Nat))), Value.int IntKind.i64 (geti (([] ++ ts).getD z47.toNat []) ((0 : Nat) + (1 : Nat) + (1 : Nat) + (1 : Nat) + (1 : Nat) + (1 : Nat) + (1 : Nat))), Value.int IntKind.i64 (geti (([] ++ ts).getD z47.toNat []) ((0 : Nat) + (1 : Nat) + (1 : Nat) + (1 : Nat) + (1 : Nat) + (1 : Nat) + (1 : Nat) + (1 : Nat))), Value.int IntKind.i64 (geti (([] ++ ts).getD z47.toNat []) ((0 : Nat) + (1 : Nat) + (1 : Nat) + (1 : Nat) + (1 : Nat) + (1 : Nat) + (1 : Nat) + (1 : Nat) + (1 : Nat))), Value.int IntKind.i64 n]).getD z47.toNat []) (8 : Nat)), Value.int IntKind.i64 (geti ((([] ++ ts).set z47.toNat [Value.int IntKind.i64 (geti (([] ++ ts).getD z47.toNat []) (0 : Nat)), Value.int IntKind.i64 (geti (([] ++ ts).getD z47.toNat []) ((0 : Nat) + (1 : Nat))), Value.int IntKind.i64 (geti (([] ++ ts).getD z47.toNat []) ((0 : Nat) + (1 : Nat) + (1 : Nat))), Value.int IntKind.i64 (geti (([] ++ ts).getD z47.toNat []) ((0 : Nat) + (1 : Nat) + (1 : Nat) + (1 : Nat))), Value.int IntKind.i64 (geti (([] ++ ts).getD z47.toNat []) ((0 : Nat) + (1 : Nat) + (1 : Nat) + (1 : Nat) + (1 : Nat))), Value.int IntKind.i64 (geti (([] ++ ts).getD z47.toNat []) ((0 : Nat) + (1 : Nat) + (1 : Nat) + (1 : Nat) + (1 : Nat) + (1 : Nat))), Value.int IntKind.i64 (geti (([] ++ ts).getD z47.toNat []) ((0 : Nat) + (1 : Nat) + (1 : Nat) + (1 : Nat) + (1 : Nat) + (1 : Nat) + (1 : Nat))), Value.int IntKind.i64 (geti (([] ++ ts).getD z47.toNat []) ((0 : Nat) + (1 : Nat) + (1 : Nat) + (1 : Nat) + (1 : Nat) + (1 : Nat) + (1 : Nat) + (1 : Nat))), Value.int IntKind.i64 (geti (([] ++ ts).getD z47.toNat []) ((0 : Nat) + (1 : Nat) + (1 : Nat) + (1 : Nat) + (1 : Nat) + (1 : Nat) + (1 : Nat) + (1 : Nat) + (1 : Nat))), Value.int IntKind.i64 n]).getD z47.toNat []) (9 : Nat))] = tnTs w t n ts ∧
 ([] ++ ls).set z65.toNat [Value.int IntKind.i64 (geti (([] ++ ls).getD z65.toNat []) (0 : Nat)), Value.int IntKind.i64 n] = tnLs w t n ls ∧
 ([] ++
 List.getD ((List.getD cs z15.toNat [])) ((0 : Nat)) []) =
 tnFl w n
 (fle
 (List.getD (cs) (tnC t cs) [])) ∧
 ([] ++
 List.getD ((List.getD cs z15.toNat [])) ((1 : Nat)) []) =
 tnOw w n
 (own
 (List.getD (cs) (tnC t cs) [])) ∧
 (List.length cs = List.length cs ∧ z15.toNat = tnC t cs ∧ True ∧ z15.toNat = tnC t cs ∧ True ∧ True) ∧ True ∧ List.length ds = tnDs w ds ∧ True
 else False
 else False
 else
 (True ∧ True ∧ True ∧ (a = tnA w n a ∧ True) ∧ (b = tnB w n b ∧ True) ∧ (d = tnD w n d ∧ True) ∧ True ∧ True) ∧
 ts = ts ∧
 cs = cs ∧
 True ∧
 ls = ls ∧
 ds = ds ∧
 True ∧
 (([] ++ ts).set z47.toNat [Value.int IntKind.i64 (geti (([] ++ ts).getD z47.toNat []) (0 : Nat)), Value.int IntKind.i64 (geti (([] ++ ts).getD z47.toNat []) (1 : Nat)), Value.int IntKind.i64 (geti (([] ++ ts).getD z47.toNat []) (2 : Nat)), Value.int IntKind.i64 (geti (([] ++ ts).getD z47.toNat []) (3 : Nat)), Value.int IntKind.i64 (geti (([] ++ ts).getD z47.toNat []) (4 : Nat)), Value.int IntKind.i64 (geti (([] ++ ts).getD z47.toNat []) (5 : Nat)), Value.int IntKind.i64 (geti (([] ++ ts).getD z47.toNat []) (6 : Nat)), Value.int IntKind.i64 (geti (([] ++ ts).getD z47.toNat []) (7 : Nat)), Value.int IntKind.i64 (geti (([] ++ ts).getD z47.toNat []) (8 : Nat)), Value.int IntKind.i64 n]).set z47.toNat [Value.int IntKind.i64 (geti ((([] ++ ts).set z47.toNat [Value.int IntKind.i64 (geti (([] ++ ts).getD z47.toNat []) (0 : Nat)), Value.int IntKind.i64 (geti (([] ++ ts).getD z47.toNat []) ((0 : Nat) + (1 : Nat))), Value.int IntKind.i64 (geti (([] ++ ts).getD z47.toNat []) ((0 : Nat) + (1 : Nat) + (1 : Nat))), Value.int IntKind.i64 (geti (([] ++ ts).getD z47.toNat []) ((0 : Nat) + (1 : Nat) + (1 : Nat) + (1 : Nat))), Value.int IntKind.i64 (geti (([] ++ ts).getD z47.toNat []) ((0 : Nat) + (1 : Nat) + (1 : Nat) + (1 : Nat) + (1 : Nat))), Value.int IntKind.i64 (geti (([] ++ ts).getD z47.toNat []) ((0 : Nat) + (1 : Nat) + (1 : Nat) + (1 : Nat) + (1 : Nat) + (1 : Nat))), Value.int IntKind.i64 (geti (([] ++ ts).getD z47.toNat []) ((0 : Nat) + (1 : Nat) + (1 : Nat) + (1 : Nat) + (1 : Nat) + (1 : Nat) + (1 : Nat))), Value.int IntKind.i64 (geti (([] ++ ts).getD z47.toNat []) ((0 : Nat) + (1 : Nat) + (1 : Nat) + (1 : Nat) + (1 : Nat) + (1 : Nat) + (1 : Nat) + (1 : Nat))), Value.int IntKind.i64 (geti (([] ++ ts).getD z47.toNat []) ((0 : Nat) + (1 : Nat) + (1 : Nat) + (1 : Nat) + (1 : Nat) + (1 : Nat) + (1 : Nat) + (1 : Nat) + (1 : Nat))), Value.int IntKind.i64 n]).getD z47.toNat []) (0 : Nat)), Value.int IntKind.i64 (geti ((([] ++ ts).set z47.toNat [Value.int IntKind.i64 (geti (([] ++ ts).getD z47.toNat []) (0 : Nat)), Value.int IntKind.i64 (geti (([] ++ ts).getD z47.toNat []) ((0 : Nat) + (1 : Nat))), Value.int IntKind.i64 (geti (([] ++ ts).getD z47.toNat []) ((0 : Nat) + (1 : Nat) + (1 : Nat))), Value.int IntKind.i64 (geti (([] ++ ts).getD z47.toNat []) ((0 : Nat) + (1 : Nat) + (1 : Nat) + (1 : Nat))), Value.int IntKind.i64 (geti (([] ++ ts).getD z47.toNat []) ((0 : Nat) + (1 : Nat) + (1 : Nat) + (1 : Nat) + (1 : Nat))), Value.int IntKind.i64 (geti (([] ++ ts).getD z47.toNat []) ((0 : Nat) + (1 : Nat) + (1 : Nat) + (1 : Nat) + (1 : Nat) + (1 : Nat))), Value.int IntKind.i64 (geti (([] ++ ts).getD z47.toNat []) ((0 : Nat) + (1 : Nat) + (1 : Nat) + (1 : Nat) + (1 : Nat) + (1 : Nat) + (1 : Nat))), Value.int IntKind.i64 (geti (([] ++ ts).getD z47.toNat []) ((0 : Nat) + (1 : Nat) + (1 : Nat) + (1 : Nat) + (1 : Nat) + (1 : Nat) + (1 : Nat) + (1 : Nat))), Value.int IntKind.i64 (geti (([] ++ ts).getD z47.toNat []) ((0 : Nat) + (1 : Nat) + (1 : Nat) + (1 : Nat) + (1 : Nat) + (1 : Nat) + (1 : Nat) + (1 : Nat) + (1 : Nat))), Value.int IntKind.i64 n]).getD z47.toNat []) (1 : Nat)), Value.int IntKind.i64 z49, Value.int IntKind.i64 (geti ((([] ++ ts).set z47.toNat [Value.int IntKind.i64 (geti (([] ++ ts).getD z47.toNat []) (0 : Nat)), Value.int IntKind.i64 (geti (([] ++ ts).getD z47.toNat []) ((0 : Nat) + (1 : Nat))), Value.int IntKind.i64 (geti (([] ++ ts).getD z47.toNat []) ((0 : Nat) + (1 : Nat) + (1 : Nat))), Value.int IntKind.i64 (geti (([] ++ ts).getD z47.toNat []) ((0 : Nat) + (1 : Nat) + (1 : Nat) + (1 : Nat))), Value.int IntKind.i64 (geti (([] ++ ts).getD z47.toNat []) ((0 : Nat) + (1 : Nat) + (1 : Nat) + (1 : Nat) + (1 : Nat))), Value.int IntKind.i64 (geti (([] ++ ts).getD z47.toNat []) ((0 : Nat) + (1 : Nat) + (1 : Nat) + (1 : Nat) + (1 : Nat) + (1 : Nat))), Value.int IntKind.i64 (geti (([] ++ ts).getD z47.toNat []) ((0 : Nat) + (1 : Nat) + (1 : Nat) + (1 : Nat) + (1 : Nat) + (1 : Nat) + (1 : Nat))), Value.int IntKind.i64 (geti (([] ++ ts).getD z47.toNat []) ((0 : Nat) + (1 : Nat) + (1 : Nat) + (1 : Nat) + (1 : Nat) + (1 : Nat) + (1 : Nat) + (1 : Nat))), Value.int IntKind.i64 (geti (([] ++ ts).getD z47.toNat []) ((0 : Nat) + (1 : Nat) + (1 : Nat) + (1 : Nat) + (1 : Nat) + (1 : Nat) + (1 : Nat) + (1 : Nat) + (1 : Nat))), Value.int IntKind.i64 n]).getD z47.toNat []) (3 : Nat)), Value.int IntKind.i64 (geti ((([] ++ ts).set z47.toNat [Value.int IntKind.i64 (geti (([] ++ ts).getD z47.toNat []) (0 : Nat)), Value.int IntKind.i64 (geti (([] ++ ts).getD z47.toNat []) ((0 : Nat) + (1 : Nat))), Value.int IntKind.i64 (geti (([] ++ ts).getD z47.toNat []) ((0 : Nat) + (1 : Nat) + (1 : Nat))), Value.int IntKind.i64 (geti (([] ++ ts).getD z47.toNat []) ((0 : Nat) + (1 : Nat) + (1 : Nat) + (1 : Nat))), Value.int IntKind.i64 (geti (([] ++ ts).getD z47.toNat []) ((0 : Nat) + (1 : Nat) + (1 : Nat) + (1 : Nat) + (1 : Nat))), Value.int IntKind.i64 (geti (([] ++ ts).getD z47.toNat []) ((0 : Nat) + (1 : Nat) + (1 : Nat) + (1 : Nat) + (1 : Nat) + (1 : Nat))), Value.int IntKind.i64 (geti (([] ++ ts).getD z47.toNat []) ((0 : Nat) + (1 : Nat) + (1 : Nat) + (1 : Nat) + (1 : Nat) + (1 : Nat) + (1 : Nat))), Value.int IntKind.i64 (geti (([] ++ ts).getD z47.toNat []) ((0 : Nat) + (1 : Nat) + (1 : Nat) + (1 : Nat) + (1 : Nat) + (1 : Nat) + (1 : Nat) + (1 : Nat))), Value.int IntKind.i64 (geti (([] ++ ts).getD z47.toNat []) ((0 : Nat) + (1 : Nat) + (1 : Nat) + (1 : Nat) + (1 : Nat) + (1 : Nat) + (1 : Nat) + (1 : Nat) + (1 : Nat))), Value.int IntKind.i64 n]).getD z47.toNat []) (4 : Nat)), Value.int IntKind.i64 (geti ((([] ++ ts).set z47.toNat [Value.int IntKind.i64 (geti (([] ++ ts).getD z47.toNat []) (0 : Nat)), Value.int IntKind.i64 (geti (([] ++ ts).getD z47.toNat []) ((0 : Nat) + (1 : Nat))), Value.int IntKind.i64 (geti (([] ++ ts).getD z47.toNat []) ((0 : Nat) + (1 : Nat) + (1 : Nat))), Value.int IntKind.i64 (geti (([] ++ ts).getD z47.toNat []) ((0 : Nat) + (1 : Nat) + (1 : Nat) + (1 : Nat))), Value.int IntKind.i64 (geti (([] ++ ts).getD z47.toNat []) ((0 : Nat) + (1 : Nat) + (1 : Nat) + (1 : Nat) + (1 : Nat))), Value.int IntKind.i64 (geti (([] ++ ts).getD z47.toNat []) ((0 : Nat) + (1 : Nat) + (1 : Nat) + (1 : Nat) + (1 : Nat) + (1 : Nat))), Value.int IntKind.i64 (geti (([] ++ ts).getD z47.toNat []) ((0 : Nat) + (1 : Nat) + (1 : Nat) + (1 : Nat) + (1 : Nat) + (1 : Nat) + (1 : Nat))), Value.int IntKind.i64 (geti (([] ++ ts).getD z47.toNat []) ((0 : Nat) + (1 : Nat) + (1 : Nat) + (1 : Nat) + (1 : Nat) + (1 : Nat) + (1 : Nat) + (1 : Nat))), Value.int IntKind.i64 (geti (([] ++ ts).getD z47.toNat []) ((0 : Nat) + (1 : Nat) + (1 : Nat) + (1 : Nat) + (1 : Nat) + (1 : Nat) + (1 : Nat) + (1 : Nat) + (1 : Nat))), Value.int IntKind.i64 n]).getD z47.toNat []) (5 : Nat)), Value.int IntKind.i64 (geti ((([] ++ ts).set z47.toNat [Value.int IntKind.i64 (geti (([] ++ ts).getD z47.toNat []) (0 : Nat)), Value.int IntKind.i64 (geti (([] ++ ts).getD z47.toNat []) ((0 : Nat) + (1 : Nat))), Value.int IntKind.i64 (geti (([] ++ ts).getD z47.toNat []) ((0 : Nat) + (1 : Nat) + (1 : Nat))), Value.int IntKind.i64 (geti (([] ++ ts).getD z47.toNat []) ((0 : Nat) + (1 : Nat) + (1 : Nat) + (1 : Nat))), Value.int IntKind.i64 (geti (([] ++ ts).getD z47.toNat []) ((0 : Nat) + (1 : Nat) + (1 : Nat) + (1 : Nat) + (1 : Nat))), Value.int IntKind.i64 (geti (([] ++ ts).getD z47.toNat []) ((0 : Nat) + (1 : Nat) + (1 : Nat) + (1 : Nat) + (1 : Nat) + (1 : Nat))), Value.int IntKind.i64 (geti (([] ++ ts).getD z47.toNat []) ((0 : Nat) + (1 : Nat) + (1 : Nat) + (1 : Nat) + (1 : Nat) + (1 : Nat) + (1 : Nat))), Value.int IntKind.i64 (geti (([] ++ ts).getD z47.toNat []) ((0 : Nat) + (1 : Nat) + (1 : Nat) + (1 : Nat) + (1 : Nat) + (1 : Nat) + (1 : Nat) + (1 : Nat))), Value.int IntKind.i64 (geti (([] ++ ts).getD z47.toNat []) ((0 : Nat) + (1 : Nat) + (1 : Nat) + (1 : Nat) + (1 : Nat) + (1 : Nat) + (1 : Nat) + (1 : Nat) + (1 : Nat))), Value.int IntKind.i64 n]).getD z47.toNat []) (6 : Nat)), Value.int IntKind.i64 (geti ((([] ++ ts).set z47.toNat [Value.int IntKind.i64 (geti (([] ++ ts).getD z47.toNat []) (0 : Nat)), Value.int IntKind.i64 (geti (([] ++ ts).getD z47.toNat []) ((0 : Nat) + (1 : Nat))), Value.int IntKind.i64 (geti (([] ++ ts).getD z47.toNat []) ((0 : Nat) + (1 : Nat) + (1 : Nat))), Value.int IntKind.i64 (geti (([] ++ ts).getD z47.toNat []) ((0 : Nat) + (1 : Nat) + (1 : Nat) + (1 : Nat))), Value.int IntKind.i64 (geti (([] ++ ts).getD z47.toNat []) ((0 : Nat) + (1 : Nat) + (1 : Nat) + (1 : Nat) + (1 : Nat))), Value.int IntKind.i64 (geti (([] ++ ts).getD z47.toNat []) ((0 : Nat) + (1 : Nat) + (1 : Nat) + (1 : Nat) + (1 : Nat) + (1 : Nat))), Value.int IntKind.i64 (geti (([] ++ ts).getD z47.toNat []) ((0 : Nat) + (1 : Nat) + (1 : Nat) + (1 : Nat) + (1 : Nat) + (1 : Nat) + (1 : Nat))), Value.int IntKind.i64 (geti (([] ++ ts).getD z47.toNat []) ((0 : Nat) + (1 : Nat) + (1 : Nat) + (1 : Nat) + (1 : Nat) + (1 : Nat) + (1 : Nat) + (1 : Nat))), Value.int IntKind.i64 (geti (([] ++ ts).getD z47.toNat []) ((0 : Nat) + (1 : Nat) + (1 : Nat) + (1 : Nat) + (1 : Nat) + (1 : Nat) + (1 : Nat) + (1 : Nat) + (1 : Nat))), Value.int IntKind.i64 n]).getD z47.toNat []) (7 : Nat)), Value.int IntKind.i64 (geti ((([] ++ ts).set z47.toNat [Value.int IntKind.i64 (geti (([] ++ ts).getD z47.toNat []) (0 : Nat)), Value.int IntKind.i64 (geti (([] ++ ts).getD z47.toNat []) ((0 : Nat) + (1 : Nat))), Value.int IntKind.i64 (geti (([] ++ ts).getD z47.toNat []) ((0 : Nat) + (1 : Nat) + (1 : Nat))), Value.int IntKind.i64 (geti (([] ++ ts).getD z47.toNat []) ((0 : Nat) + (1 : Nat) + (1 : Nat) + (1 : Nat))), Value.int IntKind.i64 (geti (([] ++ ts).getD z47.toNat []) ((0 : Nat) + (1 : Nat) + (1 : Nat) + (1 : Nat) + (1 : Nat))), Value.int IntKind.i64 (geti (([] ++ ts).getD z47.toNat []) ((0 : Nat) + (1 : Nat) + (1 : Nat) + (1 : Nat) + (1 : Nat) + (1 : Nat))), Value.int IntKind.i64 (geti (([] ++ ts).getD z47.toNat []) ((0 : Nat) + (1 : Nat) + (1 : Nat) + (1 : Nat) + (1 : Nat) + (1 : Nat) + (1 : Nat))), Value.int IntKind.i64 (geti (([] ++ ts).getD z47.toNat []) ((0 : Nat) + (1 : Nat) + (1 : Nat) + (1 : Nat) + (1 : Nat) + (1 : Nat) + (1 : Nat) + (1 : Nat))), Value.int IntKind.i64 (geti (([] ++ ts).getD z47.toNat []) ((0 : Nat) + (1 : Nat) + (1 : Nat) + (1 : Nat) + (1 : Nat) + (1 : Nat) + (1 : Nat) + (1 : Nat) + (1 : Nat))), Value.int IntKind.i64 n]).getD z47.toNat []) (8 : Nat)), Value.int IntKind.i64 (geti ((([] ++ ts).set z47.toNat [Value.int IntKind.i64 (geti (([] ++ ts).getD z47.toNat []) (0 : Nat)), Value.int IntKind.i64 (geti (([] ++ ts).getD z47.toNat []) ((0 : Nat) + (1 : Nat))), Value.int IntKind.i64 (geti (([] ++ ts).getD z47.toNat []) ((0 : Nat) + (1 : Nat) + (1 : Nat))), Value.int IntKind.i64 (geti (([] ++ ts).getD z47.toNat []) ((0 : Nat) + (1 : Nat) + (1 : Nat) + (1 : Nat))), Value.int IntKind.i64 (geti (([] ++ ts).getD z47.toNat []) ((0 : Nat) + (1 : Nat) + (1 : Nat) + (1 : Nat) + (1 : Nat))), Value.int IntKind.i64 (geti (([] ++ ts).getD z47.toNat []) ((0 : Nat) + (1 : Nat) + (1 : Nat) + (1 : Nat) + (1 : Nat) + (1 : Nat))), Value.int IntKind.i64 (geti (([] ++ ts).getD z47.toNat []) ((0 : Nat) + (1 : Nat) + (1 : Nat) + (1 : Nat) + (1 : Nat) + (1 : Nat) + (1 : Nat))), Value.int IntKind.i64 (geti (([] ++ ts).getD z47.toNat []) ((0 : Nat) + (1 : Nat) + (1 : Nat) + (1 : Nat) + (1 : Nat) + (1 : Nat) + (1 : Nat) + (1 : Nat))), Value.int IntKind.i64 (geti (([] ++ ts).getD z47.toNat []) ((0 : Nat) + (1 : Nat) + (1 : Nat) + (1 : Nat) + (1 : Nat) + (1 : Nat) + (1 : Nat) + (1 : Nat) + (1 : Nat))), Value.int IntKind.i64 n]).getD z47.toNat []) (9 : Nat))] = tnTs w t n ts ∧
 [] ++ ls = tnLs w t n ls ∧
 ([] ++
 List.getD ((List.getD cs z15.toNat [])) ((0 : Nat)) []) =
 tnFl w n
 (fle
 (List.getD (cs) (tnC t cs) [])) ∧
 ([] ++
 List.getD ((List.getD cs z15.toNat [])) ((1 : Nat)) []) =
 tnOw w n
 (own
 (List.getD (cs) (tnC t cs) [])) ∧
 (List.length cs = List.length cs ∧ z15.toNat = tnC t cs ∧ True ∧ z15.toNat = tnC t cs ∧ True ∧ True) ∧ True ∧ List.length ds = tnDs w ds ∧ True
 else False
 else False
 else False
 else False
 else False
 else False
 else False
 else False
 else
 ∀ (z43 : Int),
 z43 = (↑([] ++ ls).length : Int) →
 ∀ (b45 : Bool),
 b45 = decide ((0 : Int) < z43) →
 bif b45 || !b45 then
 bif b45 || !b45 then
 ∀ (z47 : Int),
 z47 = w % (12 : Int) →
 bif b45 || !b45 then
 ∀ (b49 : Bool),
 b49 = decide (z47 = (11 : Int)) →
 bif bif b45 then b45 else true then
 bif bif b45 then true else true then
 ∀ (b51 : Bool),
 (b51 = bif b45 then b49 else false) →
 bif b51 then
 ∀ (z53 : Int),
 z53 = t →
 ∀ (z55 : Int),
 z55 = (↑([] ++ ls).length : Int) →
 bif !decide (z55 = (0 : Int)) then
 ∀ (z57 : Int),
 z57 = z53.tmod z55 →
 bif decide ((0 : Int) ≤ z57) && decide (z57 < (↑([] ++ ls).length : Int)) then
 (True ∧ True ∧ True ∧ (a = tnA w n a ∧ True) ∧ (b = tnB w n b ∧ True) ∧ (d = tnD w n d ∧ True) ∧ True ∧ True) ∧
 ts = ts ∧
 cs = cs ∧
 True ∧
 ls = ls ∧
 ds = ds ∧
 True ∧
 [] ++ ts = tnTs w t n ts ∧
 ([] ++ ls).set z57.toNat [Value.int IntKind.i64 (geti (([] ++ ls).getD z57.toNat []) (0 : Nat)), Value.int IntKind.i64 n] = tnLs w t n ls ∧
 ([] ++
 List.getD ((List.getD cs z15.toNat [])) ((0 : Nat)) []) =
 tnFl w n
 (fle
 (List.getD (cs) (tnC t cs) [])) ∧
 ([] ++
 List.getD ((List.getD cs z15.toNat [])) ((1 : Nat)) []) =
 tnOw w n
 (own
 (List.getD (cs) (tnC t cs) [])) ∧
 (List.length cs = List.length cs ∧ z15.toNat = tnC t cs ∧ True ∧ z15.toNat = tnC t cs ∧ True ∧ True) ∧ True ∧ List.length ds = tnDs w ds ∧ True
 else False
 else False
 else
 (True ∧ True ∧ True ∧ (a = tnA w n a ∧ True) ∧ (b = tnB w n b ∧ True) ∧ (d = tnD w n d ∧ True) ∧ True ∧ True) ∧
 ts = ts ∧
 cs = cs ∧
 True ∧
 ls = ls ∧
 ds = ds ∧
 True ∧
 [] ++ ts = tnTs w t n ts ∧
 [] ++ ls = tnLs w t n ls ∧
 ([] ++
 List.getD ((List.getD cs z15.toNat [])) ((0 : Nat)) []) =
 tnFl w n
 (fle
 (List.getD (cs) (tnC t cs) [])) ∧
 ([] ++
 List.getD ((List.getD cs z15.toNat [])) ((1 : Nat)) []) =
 tnOw w n
 (own
 (List.getD (cs) (tnC t cs) [])) ∧
 (List.length cs = List.length cs ∧ z15.toNat = tnC t cs ∧ True ∧ z15.toNat = tnC t cs ∧ True ∧ True) ∧ True ∧ List.length ds = tnDs w ds ∧ True
 else False
 else False
 else False
 else False
 else False
 else False
 else False
 else False
 else False
 else False
 else False
 else False
 else False
 else False
else False) := by kernel_rfl
end Go.Proofs.YtafmknblnamegaaDoor
