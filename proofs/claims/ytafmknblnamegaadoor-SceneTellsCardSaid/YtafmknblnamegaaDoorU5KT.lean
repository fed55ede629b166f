/- The engine's normal forms of these functions. No condition. -/
import Derived.Test.YtafmknblnamegaaDoorU5KCtr
namespace Go.Proofs.YtafmknblnamegaaDoor
open Go.Eng
set_option maxRecDepth 1000000 in
theorem tRcn (ts : Rw) (cs : Fm) (ls : Rw) (a b d : Int) (ds : Nat) : (fnS Tryd.prog G22 (rkL ts cs ls) 100 28 [scA a b d] [.ror RK ts false, .rfm CF cs, .rof 1, .ror LK ls false, .opq ds] (fitOut ({ need := [], val := .agg [FI (cnt0 ts cs ls a b d ds).c, FI (flP (cnt0 ts cs ls a b d ds).p (cnt0 ts cs ls a b d ds)), FI (flP (cnt0 ts cs ls a b d ds).i (cnt0 ts cs ls a b d ds))] }))) =
(∀ (z8 : Int),
 z8 = (↑(List.length ts) : Int) →
 ∀ (b10 : Bool),
 b10 = decide ((64 : Int) < z8) →
 bif !b10 || !!b10 then
 bif !b10 || !!b10 then
 ∀ (z12 : Int),
 z12 = (↑(List.length cs) : Int) →
 bif !b10 || !!b10 then
 ∀ (b14 : Bool),
 b14 = decide (z12 < (1 : Int)) →
 bif bif b10 then true else true then
 bif bif b10 then true else !b10 then
 ∀ (b16 : Bool),
 (b16 = bif b10 then true else b14) →
 bif !b16 || !!b16 then
 bif !b16 || !!b16 then
 ∀ (z18 : Int),
 z18 = (↑(List.length cs) : Int) →
 bif !b16 || !!b16 then
 ∀ (b20 : Bool),
 b20 = decide ((8 : Int) < z18) →
 bif bif b16 then true else true then
 bif bif b16 then true else !b16 then
 ∀ (b22 : Bool),
 (b22 = bif b16 then true else b20) →
 bif !b22 || !!b22 then
 bif !b22 || !!b22 then
 ∀ (z24 : Int),
 z24 = (↑(List.length ls) : Int) →
 bif !b22 || !!b22 then
 ∀ (b26 : Bool),
 b26 = decide ((16 : Int) < z24) →
 bif bif b22 then true else true then
 bif bif b22 then true else !b22 then
 ∀ (b28 : Bool),
 (b28 = bif b22 then true else b26) →
 bif !b28 || !!b28 then
 bif !b28 || !!b28 then
 ∀ (z30 : Int),
 z30 = (↑ds : Int) →
 bif !b28 || !!b28 then
 bif !b28 || !!b28 then
 ∀ (z32 : Int),
 z32 = (↑(List.length cs) : Int) →
 bif !b28 || !!b28 then
 bif !b28 || !!b28 then
 ∀ (b34 : Bool),
 b34 = !decide (z30 = z32) →
 bif bif b28 then true else true then
 bif bif b28 then true else !b28 then
 ∀ (b36 : Bool),
 (b36 = bif b28 then true else b34) →
 bif b36 then (((11 : Int) = (cnt0 ts cs ls a b d ds).c ∧ (-9223372036854775808 : Int) ≤ (cnt0 ts cs ls a b d ds).c ∧ (cnt0 ts cs ls a b d ds).c ≤ (9223372036854775807 : Int)) ∧ ((0 : Int) = flP (cnt0 ts cs ls a b d ds).p (cnt0 ts cs ls a b d ds) ∧ (-9223372036854775808 : Int) ≤ flP (cnt0 ts cs ls a b d ds).p (cnt0 ts cs ls a b d ds) ∧ flP (cnt0 ts cs ls a b d ds).p (cnt0 ts cs ls a b d ds) ≤ (9223372036854775807 : Int)) ∧ ((0 : Int) = flP (cnt0 ts cs ls a b d ds).i (cnt0 ts cs ls a b d ds) ∧ (-9223372036854775808 : Int) ≤ flP (cnt0 ts cs ls a b d ds).i (cnt0 ts cs ls a b d ds) ∧ flP (cnt0 ts cs ls a b d ds).i (cnt0 ts cs ls a b d ds) ≤ (9223372036854775807 : Int)) ∧ True) ∧ True
 else
 ∃ (s39 : Int),
 CtI cs s39 ∧
 (((0 : Int) = s39 ∧ (0 : Int) ≤ s39 ∧ s39 ≤ (9223372036854775807 : Int)) ∧ (True ∧ True ∧ True ∧ (a = a ∧ True) ∧ (b = b ∧ True) ∧ (d = d ∧ True) ∧ True ∧ True) ∧ ((0 : Int) = (0 : Int) ∧ (0 : Int) = (0 : Int) ∧ (0 : Int) = (0 : Int) ∧ True) ∧ ts = ts ∧ True ∧ ls = ls ∧ ds = ds ∧ cs = cs ∧ True) ∧
 ∀ (z39 : Int),
 CtI cs z39 →
 ∀ (z41 : Int),
 z41 = (↑(List.length cs) : Int) →
 ∀ (b43 : Bool),
 b43 = decide (z39 < z41) →
 bif b43 then
 bif decide ((0 : Int) ≤ z39) && decide (z39 < (↑(List.length cs) : Int)) then
 ∀ (z45 : Int),
 z45 =
 (↑(List.getD ((List.getD cs z39.toNat [])) ((0 : Nat)) []).length :
 Int) →
 ∀ (b47 : Bool),
 b47 = decide (z45 < (1 : Int)) →
 bif !b47 || !!b47 then
 bif !b47 || !!b47 then
 bif !b47 || !!b47 then
 bif decide ((0 : Int) ≤ z39) && decide (z39 < (↑(List.length cs) : Int)) || !!b47 then
 bif !b47 || !!b47 then
 bif b47 then (((11 : Int) = (cnt0 ts cs ls a b d ds).c ∧ (-9223372036854775808 : Int) ≤ (cnt0 ts cs ls a b d ds).c ∧ (cnt0 ts cs ls a b d ds).c ≤ (9223372036854775807 : Int)) ∧ ((0 : Int) = flP (cnt0 ts cs ls a b d ds).p (cnt0 ts cs ls a b d ds) ∧ (-9223372036854775808 : Int) ≤ flP (cnt0 ts cs ls a b d ds).p (cnt0 ts cs ls a b d ds) ∧ flP (cnt0 ts cs ls a b d ds).p (cnt0 ts cs ls a b d ds) ≤ (9223372036854775807 : Int)) ∧ (z39 = flP (cnt0 ts cs ls a b d ds).i (cnt0 ts cs ls a b d ds) ∧ True) ∧ True) ∧ True
 else
 bif !b47 then
 ∀ (z49 : Int),
 z49 =
 (↑(List.getD ((List.getD cs z39.toNat [])) ((0 : Nat)) []).length :
 Int) →
 ∀ (b51 : Bool), b51 = decide ((4 : Int) < z49) → ∀ (b53 : Bool), b53 = b51 → bif b53 then (((11 : Int) = (cnt0 ts cs ls a b d ds).c ∧ (-9223372036854775808 : Int) ≤ (cnt0 ts cs ls a b d ds).c ∧ (cnt0 ts cs ls a b d ds).c ≤ (9223372036854775807 : Int)) ∧ ((0 : Int) = flP (cnt0 ts cs ls a b d ds).p (cnt0 ts cs ls a b d ds) ∧ (-9223372036854775808 : Int) ≤ flP (cnt0 ts cs ls a b d ds).p (cnt0 ts cs ls a b d ds) ∧ flP (cnt0 ts cs ls a b d ds).p (cnt0 ts cs ls a b d ds) ≤ (9223372036854775807 : Int)) ∧ (z39 = flP (cnt0 ts cs ls a b d ds).i (cnt0 ts cs ls a b d ds) ∧ True) ∧ True) ∧ True else ∀ (z55 : Int), z55 = IntKind.i64.wrap (z39 + (1 : Int)) → ∃ (s58 : Int), CtI cs s58 ∧ ctMu cs s58 < ctMu cs z39 ∧ (z55 = s58 ∧ (0 : Int) ≤ s58 ∧ s58 ≤ (9223372036854775807 : Int)) ∧ (True ∧ True ∧ True ∧ (a = a ∧ True) ∧ (b = b ∧ True) ∧ (d = d ∧ True) ∧ True ∧ True) ∧ ((0 : Int) = (0 : Int) ∧ (0 : Int) = (0 : Int) ∧ (0 : Int) = (0 : Int) ∧ True) ∧ ts = ts ∧ True ∧ ls = ls ∧ ds = ds ∧ cs = cs ∧ True
 else False
 else False
 else False
 else False
 else False
 else False
 else False
 else ∀ (b45 : Bool), b45 = decide (a < (1 : Int)) → bif !b45 || !!b45 then bif !b45 || !!b45 then ∀ (b47 : Bool), b47 = decide ((64 : Int) < a) → bif bif b45 then true else true then bif bif b45 then true else !b45 then ∀ (b49 : Bool), (b49 = bif b45 then true else b47) → bif !b49 || !!b49 then bif !b49 || !!b49 then ∀ (b51 : Bool), b51 = decide (b < (1 : Int)) → bif bif b49 then true else true then bif bif b49 then true else !b49 then ∀ (b53 : Bool), (b53 = bif b49 then true else b51) → bif !b53 || !!b53 then bif !b53 || !!b53 then ∀ (b55 : Bool), b55 = decide ((64 : Int) < b) → bif bif b53 then true else true then bif bif b53 then true else !b53 then ∀ (b57 : Bool), (b57 = bif b53 then true else b55) → bif !b57 || !!b57 then bif !b57 || !!b57 then ∀ (b59 : Bool), b59 = !decide (d = (0 : Int)) → bif !b57 || !!b57 then bif !b57 && b59 || !(!b57 && b59) then bif !b57 && b59 || !(!b57 && b59) then ∀ (b61 : Bool), b61 = !decide (d = (1 : Int)) → bif !b57 || !!b57 then bif (bif b59 then !b57 && b59 else true) || !!b57 then bif (bif b59 then true else true) || !!b57 then ∀ (b63 : Bool), (b63 = bif b59 then b61 else false) → bif bif b57 then true else true then bif bif b57 then true else !b57 then ∀ (b65 : Bool), (b65 = bif b57 then true else b63) → bif b65 then (((2 : Int) = (cnt0 ts cs ls a b d ds).c ∧ (-9223372036854775808 : Int) ≤ (cnt0 ts cs ls a b d ds).c ∧ (cnt0 ts cs ls a b d ds).c ≤ (9223372036854775807 : Int)) ∧ ((0 : Int) = flP (cnt0 ts cs ls a b d ds).p (cnt0 ts cs ls a b d ds) ∧ (-9223372036854775808 : Int) ≤ flP (cnt0 ts cs ls a b d ds).p (cnt0 ts cs ls a b d ds) ∧ flP (cnt0 ts cs ls a b d ds).p (cnt0 ts cs ls a b d ds) ≤ (9223372036854775807 : Int)) ∧ ((0 : Int) = flP (cnt0 ts cs ls a b d ds).i (cnt0 ts cs ls a b d ds) ∧ (-9223372036854775808 : Int) ≤ flP (cnt0 ts cs ls a b d ds).i (cnt0 ts cs ls a b d ds) ∧ flP (cnt0 ts cs ls a b d ds).i (cnt0 ts cs ls a b d ds) ≤ (9223372036854775807 : Int)) ∧ True) ∧ True else (((0 : Int) = (cnt0 ts cs ls a b d ds).c ∧ (-9223372036854775808 : Int) ≤ (cnt0 ts cs ls a b d ds).c ∧ (cnt0 ts cs ls a b d ds).c ≤ (9223372036854775807 : Int)) ∧ ((0 : Int) = flP (cnt0 ts cs ls a b d ds).p (cnt0 ts cs ls a b d ds) ∧ (-9223372036854775808 : Int) ≤ flP (cnt0 ts cs ls a b d ds).p (cnt0 ts cs ls a b d ds) ∧ flP (cnt0 ts cs ls a b d ds).p (cnt0 ts cs ls a b d ds) ≤ (9223372036854775807 : Int)) ∧ ((0 : Int) = flP (cnt0 ts cs ls a b d ds).i (cnt0 ts cs ls a b d ds) ∧ (-9223372036854775808 : Int) ≤ flP (cnt0 ts cs ls a b d ds).i (cnt0 ts cs ls a b d ds) ∧ flP (cnt0 ts cs ls a b d ds).i (cnt0 ts cs ls a b d ds) ≤ (9223372036854775807 : Int)) ∧ True) ∧ True else False else False else False else False else False else False else False else False else False else False else False else False else False else False else False else False else False else False else False else False else False else False
 else False
 else False
 else False
 else False
 else False
 else False
 else False
 else False
 else False
 else False
 else False
 else False
 else False
 else False
 else False
 else False
 else False
 else False
 else False
 else False
 else False
 else False
 else False) := by kernel_rfl
set_option maxRecDepth 1000000 in
theorem tRca (ts : Rw) (cs : Fm) (ls : Rw) (a b d : Int) (ds : Nat) : (fnS Tryd.prog G23 (rkL ts cs ls) 100 31 [scA a b d] [.ror RK ts false, .rfm CF cs, .rof 1, .ror LK ls false, .opq ds] (fitOut ({ need := [], val := .agg [FI (car0 ts cs).c, FI (flP (car0 ts cs).p (car0 ts cs)), FI (flP (car0 ts cs).i (car0 ts cs))] }))) =
(∃ (s9 : Int),
 KaI ts cs s9 ∧
 (((0 : Int) = s9 ∧ (0 : Int) ≤ s9 ∧ s9 ≤ (9223372036854775807 : Int)) ∧ (True ∧ True ∧ True ∧ (a = a ∧ True) ∧ (b = b ∧ True) ∧ (d = d ∧ True) ∧ True ∧ True) ∧ ((0 : Int) = (0 : Int) ∧ (0 : Int) = (0 : Int) ∧ (0 : Int) = (0 : Int) ∧ True) ∧ ts = ts ∧ True ∧ ls = ls ∧ ds = ds ∧ cs = cs ∧ True) ∧
 ∀ (z9 : Int),
 KaI ts cs z9 →
 ∀ (z11 : Int),
 z11 = (↑(List.length cs) : Int) →
 ∀ (b13 : Bool),
 b13 = decide (z9 < z11) →
 bif b13 then
 bif decide ((0 : Int) ≤ z9) && decide (z9 < (↑(List.length cs) : Int)) then
 ∃ (s16 : Int),
 VeI cs z9 s16 ∧
 (((0 : Int) = s16 ∧ (0 : Int) ≤ s16 ∧ s16 ≤ (9223372036854775807 : Int)) ∧
 (True ∧ True ∧ True ∧ (a = a ∧ True) ∧ (b = b ∧ True) ∧ (d = d ∧ True) ∧ True ∧ True) ∧
 ((0 : Int) = (0 : Int) ∧ (0 : Int) = (0 : Int) ∧ (0 : Int) = (0 : Int) ∧ True) ∧
 (True ∧ True ∧ True) ∧
 ts = ts ∧
 True ∧
 ls = ls ∧
 ds = ds ∧
 ((List.getD ((List.getD cs z9.toNat [])) ((0 : Nat)) []) =
 List.getD ((List.getD cs z9.toNat [])) ((0 : Nat)) []) ∧
 ((List.getD ((List.getD cs z9.toNat [])) ((0 : Nat) + (1 : Nat)) []) =
 List.getD ((List.getD cs z9.toNat [])) ((0 : Nat) + (1 : Nat)) []) ∧
 cs = cs ∧ True) ∧
 ∀ (z16 : Int),
 VeI cs z9 z16 →
 ∀ (z18 : Int),
 z18 =
 (↑(List.getD ((List.getD cs z9.toNat [])) ((0 : Nat)) []).length :
 Int) →
 ∀ (b20 : Bool),
 b20 = decide (z16 < z18) →
 bif b20 then
 bif
 decide ((0 : Int) ≤ z16) &&
 decide
 (z16 <
 (↑(List.getD ((List.getD cs z9.toNat [])) ((0 : Nat)) []).length :
 Int)) then
 ∀ (z22 : Int),
 z22 =
 geti
 ((List.getD ((List.getD cs z9.toNat [])) ((0 : Nat)) []).getD
 z16.toNat [])
 (0 : Nat) →
 ∀ (z24 : Int),
 z24 =
 geti
 ((List.getD ((List.getD cs z9.toNat [])) ((0 : Nat)) []).getD
 z16.toNat [])
 (1 : Nat) →
 ∀ (z26 : Int),
 z26 =
 geti
 ((List.getD ((List.getD cs z9.toNat [])) ((0 : Nat)) []).getD
 z16.toNat [])
 (2 : Nat) →
 ∀ (z28 : Int),
 z28 =
 geti
 ((List.getD ((List.getD cs z9.toNat [])) ((0 : Nat)) []).getD
 z16.toNat [])
 (3 : Nat) →
 ∀ (z30 : Int),
 z30 =
 geti
 ((List.getD ((List.getD cs z9.toNat [])) ((0 : Nat)) []).getD
 z16.toNat [])
 (4 : Nat) →
 ∀ (z32 : Int),
 z32 = veh z22 z24 z26 z28 z30 →
 ∀ (b34 : Bool),
 b34 = !decide (z32 = (0 : Int)) →
 bif b34 then ((z32 = (car0 ts cs).c ∧ True) ∧ ((2 : Int) = flP (car0 ts cs).p (car0 ts cs) ∧ (-9223372036854775808 : Int) ≤ flP (car0 ts cs).p (car0 ts cs) ∧ flP (car0 ts cs).p (car0 ts cs) ≤ (9223372036854775807 : Int)) ∧ (z9 = flP (car0 ts cs).i (car0 ts cs) ∧ True) ∧ True) ∧ True
 else
 ∀ (z36 : Int),
 z36 = IntKind.i64.wrap (z16 + (1 : Int)) →
 ∃ (s39 : Int),
 VeI cs z9 s39 ∧
 veMu cs z9 s39 < veMu cs z9 z16 ∧
 (z36 = s39 ∧ (0 : Int) ≤ s39 ∧ s39 ≤ (9223372036854775807 : Int)) ∧
 (True ∧ True ∧ True ∧ (a = a ∧ True) ∧ (b = b ∧ True) ∧ (d = d ∧ True) ∧ True ∧ True) ∧
 ((0 : Int) = (0 : Int) ∧ (0 : Int) = (0 : Int) ∧ (0 : Int) = (0 : Int) ∧ True) ∧
 (True ∧ True ∧ True) ∧
 ts = ts ∧
 True ∧
 ls = ls ∧
 ds = ds ∧
 ((List.getD ((List.getD cs z9.toNat [])) ((0 : Nat)) []) =
 List.getD ((List.getD cs z9.toNat [])) ((0 : Nat)) []) ∧
 ((List.getD ((List.getD cs z9.toNat [])) ((0 : Nat) + (1 : Nat)) []) =
 List.getD ((List.getD cs z9.toNat [])) ((0 : Nat) + (1 : Nat)) []) ∧
 cs = cs ∧ True
 else False
 else
 ∃ (s23 : Int),
 KoI ts cs z9 s23 ∧
 (((0 : Int) = s23 ∧ (0 : Int) ≤ s23 ∧ s23 ≤ (9223372036854775807 : Int)) ∧
 (True ∧ True ∧ True ∧ (a = a ∧ True) ∧ (b = b ∧ True) ∧ (d = d ∧ True) ∧ True ∧ True) ∧
 ((0 : Int) = (0 : Int) ∧ (0 : Int) = (0 : Int) ∧ (0 : Int) = (0 : Int) ∧ True) ∧
 (True ∧ True ∧ True) ∧
 ts = ts ∧
 True ∧
 ls = ls ∧
 ds = ds ∧
 ((List.getD ((List.getD cs z9.toNat [])) ((0 : Nat)) []) =
 List.getD ((List.getD cs z9.toNat [])) ((0 : Nat)) []) ∧
 ((List.getD ((List.getD cs z9.toNat [])) ((0 : Nat) + (1 : Nat)) []) =
 List.getD ((List.getD cs z9.toNat [])) ((0 : Nat) + (1 : Nat)) []) ∧
 cs = cs ∧ True) ∧
 ∀ (z23 : Int),
 KoI ts cs z9 z23 →
 ∀ (z25 : Int),
 z25 =
 (↑(List.getD ((List.getD cs z9.toNat [])) ((0 : Nat) + (1 : Nat)) []).length :
 Int) →
 ∀ (b27 : Bool),
 b27 = decide (z23 < z25) →
 bif b27 then
 bif
 decide ((0 : Int) ≤ z23) &&
 decide
 (z23 <
 (↑(List.getD ((List.getD cs z9.toNat [])) ((0 : Nat) + (1 : Nat)) []).length :
 Int)) then
 ∀ (z29 : Int),
 z29 =
 geti
 ((List.getD ((List.getD cs z9.toNat [])) ((0 : Nat) + (1 : Nat)) []).getD
 z23.toNat [])
 (0 : Nat) →
 ∀ (b31 : Bool),
 b31 = decide (z29 < (0 : Int)) →
 bif !b31 || !!b31 then
 bif !b31 || !!b31 then
 bif !b31 || !!b31 then
 bif
 decide ((0 : Int) ≤ z23) &&
 decide
 (z23 <
 (↑(List.getD ((List.getD cs z9.toNat [])) ((0 : Nat) + (1 : Nat)) []).length :
 Int)) ||
 !!b31 then
 bif !b31 || !!b31 then
 bif !b31 || !!b31 then
 bif !b31 || !!b31 then
 ∀ (z33 : Int),
 z33 = (↑(List.length ts) : Int) →
 bif !b31 || !!b31 then
 bif !b31 || !!b31 then
 ∀ (b35 : Bool),
 b35 =
 decide
 (z33 ≤
 geti
 ((List.getD ((List.getD cs z9.toNat [])) ((0 : Nat) + (1 : Nat)) []).getD
 z23.toNat [])
 (0 : Nat)) →
 bif bif b31 then true else true then
 bif bif b31 then true else !b31 then
 ∀ (b37 : Bool),
 (b37 = bif b31 then true else b35) →
 bif b37 then (((12 : Int) = (car0 ts cs).c ∧ (-9223372036854775808 : Int) ≤ (car0 ts cs).c ∧ (car0 ts cs).c ≤ (9223372036854775807 : Int)) ∧ ((2 : Int) = flP (car0 ts cs).p (car0 ts cs) ∧ (-9223372036854775808 : Int) ≤ flP (car0 ts cs).p (car0 ts cs) ∧ flP (car0 ts cs).p (car0 ts cs) ≤ (9223372036854775807 : Int)) ∧ (z9 = flP (car0 ts cs).i (car0 ts cs) ∧ True) ∧ True) ∧ True
 else
 bif
 decide ((0 : Int) ≤ z23) &&
 decide
 (z23 <
 (↑(List.getD ((List.getD cs z9.toNat [])) ((0 : Nat) + (1 : Nat)) []).length :
 Int)) then
 ∀ (z39 : Int),
 z39 =
 geti
 ((List.getD ((List.getD cs z9.toNat [])) ((0 : Nat) + (1 : Nat)) []).getD
 z23.toNat [])
 (0 : Nat) →
 ∀ (z41 : Int),
 z41 = fow z39 (0 : Nat) (List.take z9.toNat cs) →
 ∀ (b43 : Bool),
 b43 = decide ((0 : Int) ≤ z41) →
 ∃ (s46 : AgS),
 AgI cs z9 z23 s46 ∧
 (((0 : Int) = s46.j ∧ (0 : Int) ≤ s46.j ∧ s46.j ≤ (9223372036854775807 : Int)) ∧
 b43 = s46.b ∧
 (True ∧ True ∧ True ∧ (a = a ∧ True) ∧ (b = b ∧ True) ∧ (d = d ∧ True) ∧ True ∧ True) ∧
 ((0 : Int) = (0 : Int) ∧ (0 : Int) = (0 : Int) ∧ (0 : Int) = (0 : Int) ∧ True) ∧
 (True ∧ True ∧ True) ∧
 ts = ts ∧
 True ∧
 ls = ls ∧
 ds = ds ∧
 ((List.getD ((List.getD cs z9.toNat [])) ((0 : Nat)) []) =
 List.getD ((List.getD cs z9.toNat [])) ((0 : Nat)) []) ∧
 ((List.getD ((List.getD cs z9.toNat [])) ((0 : Nat) + (1 : Nat)) []) =
 List.getD ((List.getD cs z9.toNat [])) ((0 : Nat) + (1 : Nat)) []) ∧
 cs = cs ∧ True) ∧
 ∀ (z46 : AgS),
 AgI cs z9 z23 z46 →
 ∀ (b48 : Bool),
 b48 = decide (z46.j < z23) →
 bif b48 then
 bif !z46.b || !!z46.b then
 bif !z46.b || !!z46.b then
 bif !z46.b || !!z46.b then
 bif
 decide ((0 : Int) ≤ z46.j) &&
 decide
 (z46.j <
 (↑(List.getD ((List.getD cs z9.toNat [])) ((0 : Nat) + (1 : Nat)) []).length :
 Int)) ||
 !!z46.b then
 bif !z46.b || !!z46.b then
 bif !z46.b || !!z46.b then
 bif !z46.b || !!z46.b then
 bif !z46.b || !!z46.b then
 bif
 decide ((0 : Int) ≤ z23) &&
 decide
 (z23 <
 (↑(List.getD ((List.getD cs z9.toNat [])) ((0 : Nat) + (1 : Nat)) []).length :
 Int)) ||
 !!z46.b then
 bif !z46.b || !!z46.b then
 bif !z46.b || !!z46.b then
 bif !z46.b || !!z46.b then
 ∀ (b50 : Bool),
 b50 =
 decide
 (geti
 ((List.getD ((List.getD cs z9.toNat [])) ((0 : Nat) + (1 : Nat)) []).getD
 z46.j.toNat [])
 (0 : Nat) =
 geti
 ((List.getD ((List.getD cs z9.toNat [])) ((0 : Nat) + (1 : Nat)) []).getD
 z23.toNat [])
 (0 : Nat)) →
 bif bif z46.b then true else true then
 bif bif z46.b then true else !z46.b then
 ∀ (b52 : Bool),
 (b52 = bif z46.b then true else b50) →
 ∀ (z54 : Int),
 z54 = IntKind.i64.wrap (z46.j + (1 : Int)) →
 ∃ (s57 : AgS),
 AgI cs z9 z23 s57 ∧
 agMu z23 s57 < agMu z23 z46 ∧
 (z54 = s57.j ∧ (0 : Int) ≤ s57.j ∧ s57.j ≤ (9223372036854775807 : Int)) ∧
 b52 = s57.b ∧
 (True ∧ True ∧ True ∧ (a = a ∧ True) ∧ (b = b ∧ True) ∧ (d = d ∧ True) ∧ True ∧ True) ∧
 ((0 : Int) = (0 : Int) ∧ (0 : Int) = (0 : Int) ∧ (0 : Int) = (0 : Int) ∧ True) ∧
 (True ∧ True ∧ True) ∧
 ts = ts ∧
 True ∧
 ls = ls ∧
 ds = ds ∧
 ((List.getD ((List.getD cs z9.toNat [])) ((0 : Nat)) []) =
 List.getD ((List.getD cs z9.toNat [])) ((0 : Nat)) []) ∧
 ((List.getD ((List.getD cs z9.toNat [])) ((0 : Nat) + (1 : Nat)) []) =
 List.getD ((List.getD cs z9.toNat [])) ((0 : Nat) + (1 : Nat)) []) ∧
 cs = cs ∧ True
 else False
 else False
 else False
 else False
 else False
 else False
 else False
 else False
 else False
 else False
 else False
 else False
 else False
 else False
 else
 bif z46.b then (((13 : Int) = (car0 ts cs).c ∧ (-9223372036854775808 : Int) ≤ (car0 ts cs).c ∧ (car0 ts cs).c ≤ (9223372036854775807 : Int)) ∧ ((2 : Int) = flP (car0 ts cs).p (car0 ts cs) ∧ (-9223372036854775808 : Int) ≤ flP (car0 ts cs).p (car0 ts cs) ∧ flP (car0 ts cs).p (car0 ts cs) ≤ (9223372036854775807 : Int)) ∧ (z9 = flP (car0 ts cs).i (car0 ts cs) ∧ True) ∧ True) ∧ True
 else
 ∀ (z50 : Int),
 z50 = IntKind.i64.wrap (z23 + (1 : Int)) →
 ∃ (s53 : Int),
 KoI ts cs z9 s53 ∧
 oqMu cs z9 s53 < oqMu cs z9 z23 ∧
 (z50 = s53 ∧ (0 : Int) ≤ s53 ∧ s53 ≤ (9223372036854775807 : Int)) ∧
 (True ∧ True ∧ True ∧ (a = a ∧ True) ∧ (b = b ∧ True) ∧ (d = d ∧ True) ∧ True ∧ True) ∧
 ((0 : Int) = (0 : Int) ∧ (0 : Int) = (0 : Int) ∧ (0 : Int) = (0 : Int) ∧ True) ∧
 (True ∧ True ∧ True) ∧
 ts = ts ∧
 True ∧
 ls = ls ∧
 ds = ds ∧
 ((List.getD ((List.getD cs z9.toNat [])) ((0 : Nat)) []) =
 List.getD ((List.getD cs z9.toNat [])) ((0 : Nat)) []) ∧
 ((List.getD ((List.getD cs z9.toNat [])) ((0 : Nat) + (1 : Nat)) []) =
 List.getD ((List.getD cs z9.toNat [])) ((0 : Nat) + (1 : Nat)) []) ∧
 cs = cs ∧ True
 else False
 else False
 else False
 else False
 else False
 else False
 else False
 else False
 else False
 else False
 else False
 else False
 else False
 else ∀ (z29 : Int), z29 = IntKind.i64.wrap (z9 + (1 : Int)) → ∃ (s32 : Int), KaI ts cs s32 ∧ ctMu cs s32 < ctMu cs z9 ∧ (z29 = s32 ∧ (0 : Int) ≤ s32 ∧ s32 ≤ (9223372036854775807 : Int)) ∧ (True ∧ True ∧ True ∧ (a = a ∧ True) ∧ (b = b ∧ True) ∧ (d = d ∧ True) ∧ True ∧ True) ∧ ((0 : Int) = (0 : Int) ∧ (0 : Int) = (0 : Int) ∧ (0 : Int) = (0 : Int) ∧ True) ∧ ts = ts ∧ True ∧ ls = ls ∧ ds = ds ∧ cs = cs ∧ True
 else False
 else ∃ (s16 : Int), UnI ts cs s16 ∧ (((0 : Int) = s16 ∧ (0 : Int) ≤ s16 ∧ s16 ≤ (9223372036854775807 : Int)) ∧ (True ∧ True ∧ True ∧ (a = a ∧ True) ∧ (b = b ∧ True) ∧ (d = d ∧ True) ∧ True ∧ True) ∧ ((0 : Int) = (0 : Int) ∧ (0 : Int) = (0 : Int) ∧ (0 : Int) = (0 : Int) ∧ True) ∧ ts = ts ∧ True ∧ ls = ls ∧ ds = ds ∧ cs = cs ∧ True) ∧ ∀ (z16 : Int), UnI ts cs z16 → ∀ (z18 : Int), z18 = (↑(List.length ts) : Int) → ∀ (b20 : Bool), b20 = decide (z16 < z18) → bif b20 then ∀ (z22 : Int), z22 = (↑(List.length cs) : Int) → ∀ (z24 : Int), z24 = fow z16 (0 : Nat) (List.take z22.toNat cs) → ∀ (b26 : Bool), b26 = decide (z24 < (0 : Int)) → bif b26 then (((11 : Int) = (car0 ts cs).c ∧ (-9223372036854775808 : Int) ≤ (car0 ts cs).c ∧ (car0 ts cs).c ≤ (9223372036854775807 : Int)) ∧ ((2 : Int) = flP (car0 ts cs).p (car0 ts cs) ∧ (-9223372036854775808 : Int) ≤ flP (car0 ts cs).p (car0 ts cs) ∧ flP (car0 ts cs).p (car0 ts cs) ≤ (9223372036854775807 : Int)) ∧ (z16 = flP (car0 ts cs).i (car0 ts cs) ∧ True) ∧ True) ∧ True else ∀ (z28 : Int), z28 = IntKind.i64.wrap (z16 + (1 : Int)) → ∃ (s31 : Int), UnI ts cs s31 ∧ rwMu ts s31 < rwMu ts z16 ∧ (z28 = s31 ∧ (0 : Int) ≤ s31 ∧ s31 ≤ (9223372036854775807 : Int)) ∧ (True ∧ True ∧ True ∧ (a = a ∧ True) ∧ (b = b ∧ True) ∧ (d = d ∧ True) ∧ True ∧ True) ∧ ((0 : Int) = (0 : Int) ∧ (0 : Int) = (0 : Int) ∧ (0 : Int) = (0 : Int) ∧ True) ∧ ts = ts ∧ True ∧ ls = ls ∧ ds = ds ∧ cs = cs ∧ True else (((0 : Int) = (car0 ts cs).c ∧ (-9223372036854775808 : Int) ≤ (car0 ts cs).c ∧ (car0 ts cs).c ≤ (9223372036854775807 : Int)) ∧ ((0 : Int) = flP (car0 ts cs).p (car0 ts cs) ∧ (-9223372036854775808 : Int) ≤ flP (car0 ts cs).p (car0 ts cs) ∧ flP (car0 ts cs).p (car0 ts cs) ≤ (9223372036854775807 : Int)) ∧ ((0 : Int) = flP (car0 ts cs).i (car0 ts cs) ∧ (-9223372036854775808 : Int) ≤ flP (car0 ts cs).i (car0 ts cs) ∧ flP (car0 ts cs).i (car0 ts cs) ≤ (9223372036854775807 : Int)) ∧ True) ∧ True) := by kernel_rfl
set_option maxRecDepth 1000000 in
theorem tRk5 (ts : Rw) (cs : Fm) (ls : Rw) (a b d : Int) (ds : Nat) : (fnS Tryd.prog G24 (rkL ts cs ls) 100 12 [scA a b d] [.ror RK ts false, .rfm CF cs, .rof 1, .ror LK ls false, .opq ds] (fitOut ({ need := [], val := .agg [FI (ckF ts cs ls a b d ds).c, FI (flP (ckF ts cs ls a b d ds).p (ckF ts cs ls a b d ds)), FI (flP (ckF ts cs ls a b d ds).i (ckF ts cs ls a b d ds))] }))) =
(∀ (z8 : Int), z8 = (cnt0 ts cs ls a b d ds).c → ∀ (z10 : Int), z10 = flP (cnt0 ts cs ls a b d ds).p (cnt0 ts cs ls a b d ds) → ∀ (z12 : Int), z12 = flP (cnt0 ts cs ls a b d ds).i (cnt0 ts cs ls a b d ds) → ∀ (b14 : Bool), b14 = !decide (z8 = (0 : Int)) → bif b14 then ((z8 = (ckF ts cs ls a b d ds).c ∧ True) ∧ (z10 = flP (ckF ts cs ls a b d ds).p (ckF ts cs ls a b d ds) ∧ True) ∧ (z12 = flP (ckF ts cs ls a b d ds).i (ckF ts cs ls a b d ds) ∧ True) ∧ True) ∧ True else ∃ (s17 : Int), RqI ts s17 ∧ (((0 : Int) = s17 ∧ (0 : Int) ≤ s17 ∧ s17 ≤ (9223372036854775807 : Int)) ∧ (True ∧ True ∧ True ∧ (a = a ∧ True) ∧ (b = b ∧ True) ∧ (d = d ∧ True) ∧ True ∧ True) ∧ ((0 : Int) = (0 : Int) ∧ (0 : Int) = (0 : Int) ∧ (0 : Int) = (0 : Int) ∧ True) ∧ ((z8 = z8 ∧ True) ∧ (z10 = z10 ∧ True) ∧ (z12 = z12 ∧ True) ∧ True) ∧ ts = ts ∧ True ∧ ls = ls ∧ ds = ds ∧ cs = cs ∧ True) ∧ ∀ (z17 : Int), RqI ts z17 → ∀ (z19 : Int), z19 = (↑(List.length ts) : Int) → ∀ (b21 : Bool), b21 = decide (z17 < z19) → bif b21 then bif decide ((0 : Int) ≤ z17) && decide (z17 < (↑(List.length ts) : Int)) then ∀ (z23 : Int), z23 = geti (List.getD ts z17.toNat []) (0 : Nat) → ∀ (z25 : Int), z25 = geti (List.getD ts z17.toNat []) (1 : Nat) → ∀ (z27 : Int), z27 = geti (List.getD ts z17.toNat []) (2 : Nat) → ∀ (z29 : Int), z29 = geti (List.getD ts z17.toNat []) (3 : Nat) → ∀ (z31 : Int), z31 = geti (List.getD ts z17.toNat []) (4 : Nat) → ∀ (z33 : Int), z33 = geti (List.getD ts z17.toNat []) (5 : Nat) → ∀ (z35 : Int), z35 = geti (List.getD ts z17.toNat []) (6 : Nat) → ∀ (z37 : Int), z37 = geti (List.getD ts z17.toNat []) (7 : Nat) → ∀ (z39 : Int), z39 = geti (List.getD ts z17.toNat []) (8 : Nat) → ∀ (z41 : Int), z41 = geti (List.getD ts z17.toNat []) (9 : Nat) → ∀ (z43 : Int), z43 = chk z23 z25 z27 z29 z31 z33 z35 z37 z39 z41 → ∀ (b45 : Bool), b45 = !decide (z43 = (0 : Int)) → bif b45 then ((z43 = (ckF ts cs ls a b d ds).c ∧ True) ∧ ((1 : Int) = flP (ckF ts cs ls a b d ds).p (ckF ts cs ls a b d ds) ∧ (-9223372036854775808 : Int) ≤ flP (ckF ts cs ls a b d ds).p (ckF ts cs ls a b d ds) ∧ flP (ckF ts cs ls a b d ds).p (ckF ts cs ls a b d ds) ≤ (9223372036854775807 : Int)) ∧ (z17 = flP (ckF ts cs ls a b d ds).i (ckF ts cs ls a b d ds) ∧ True) ∧ True) ∧ True else ∀ (z47 : Int), z47 = IntKind.i64.wrap (z17 + (1 : Int)) → ∃ (s50 : Int), RqI ts s50 ∧ rwMu ts s50 < rwMu ts z17 ∧ (z47 = s50 ∧ (0 : Int) ≤ s50 ∧ s50 ≤ (9223372036854775807 : Int)) ∧ (True ∧ True ∧ True ∧ (a = a ∧ True) ∧ (b = b ∧ True) ∧ (d = d ∧ True) ∧ True ∧ True) ∧ ((0 : Int) = (0 : Int) ∧ (0 : Int) = (0 : Int) ∧ (0 : Int) = (0 : Int) ∧ True) ∧ ((z8 = z8 ∧ True) ∧ (z10 = z10 ∧ True) ∧ (z12 = z12 ∧ True) ∧ True) ∧ ts = ts ∧ True ∧ ls = ls ∧ ds = ds ∧ cs = cs ∧ True else False else ∀ (z23 : Int), z23 = (car0 ts cs).c → ∀ (z25 : Int), z25 = flP (car0 ts cs).p (car0 ts cs) → ∀ (z27 : Int), z27 = flP (car0 ts cs).i (car0 ts cs) → ∀ (b29 : Bool), b29 = !decide (z23 = (0 : Int)) → bif b29 then ((z23 = (ckF ts cs ls a b d ds).c ∧ True) ∧ (z25 = flP (ckF ts cs ls a b d ds).p (ckF ts cs ls a b d ds) ∧ True) ∧ (z27 = flP (ckF ts cs ls a b d ds).i (ckF ts cs ls a b d ds) ∧ True) ∧ True) ∧ True else ∃ (s32 : Int), LqI ts ls s32 ∧ (((0 : Int) = s32 ∧ (0 : Int) ≤ s32 ∧ s32 ≤ (9223372036854775807 : Int)) ∧ (True ∧ True ∧ True ∧ (a = a ∧ True) ∧ (b = b ∧ True) ∧ (d = d ∧ True) ∧ True ∧ True) ∧ ((0 : Int) = (0 : Int) ∧ (0 : Int) = (0 : Int) ∧ (0 : Int) = (0 : Int) ∧ True) ∧ ts = ts ∧ True ∧ ls = ls ∧ ds = ds ∧ cs = cs ∧ True) ∧ ∀ (z32 : Int), LqI ts ls z32 → ∀ (z34 : Int), z34 = (↑(List.length ls) : Int) → ∀ (b36 : Bool), b36 = decide (z32 < z34) → bif b36 then bif decide ((0 : Int) ≤ z32) && decide (z32 < (↑(List.length ls) : Int)) then ∀ (z38 : Int), z38 = geti (List.getD ls z32.toNat []) (0 : Nat) → ∀ (z40 : Int), z40 = geti (List.getD ls z32.toNat []) (1 : Nat) → ∀ (b42 : Bool), b42 = decide (z38 < (0 : Int)) → bif !b42 || !!b42 then bif !b42 || !!b42 then bif !b42 || !!b42 then ∀ (z44 : Int), z44 = (↑(List.length ts) : Int) → bif !b42 || !!b42 then bif !b42 || !!b42 then ∀ (b46 : Bool), b46 = decide (z44 ≤ z38) → bif bif b42 then true else true then bif bif b42 then true else !b42 then ∀ (b48 : Bool), (b48 = bif b42 then true else b46) → bif b48 then (((12 : Int) = (ckF ts cs ls a b d ds).c ∧ (-9223372036854775808 : Int) ≤ (ckF ts cs ls a b d ds).c ∧ (ckF ts cs ls a b d ds).c ≤ (9223372036854775807 : Int)) ∧ ((3 : Int) = flP (ckF ts cs ls a b d ds).p (ckF ts cs ls a b d ds) ∧ (-9223372036854775808 : Int) ≤ flP (ckF ts cs ls a b d ds).p (ckF ts cs ls a b d ds) ∧ flP (ckF ts cs ls a b d ds).p (ckF ts cs ls a b d ds) ≤ (9223372036854775807 : Int)) ∧ (z32 = flP (ckF ts cs ls a b d ds).i (ckF ts cs ls a b d ds) ∧ True) ∧ True) ∧ True else ∃ (s51 : Int), LiI ls z32 s51 ∧ (((0 : Int) = s51 ∧ (0 : Int) ≤ s51 ∧ s51 ≤ (9223372036854775807 : Int)) ∧ (True ∧ True ∧ True ∧ (a = a ∧ True) ∧ (b = b ∧ True) ∧ (d = d ∧ True) ∧ True ∧ True) ∧ ((0 : Int) = (0 : Int) ∧ (0 : Int) = (0 : Int) ∧ (0 : Int) = (0 : Int) ∧ True) ∧ ((z38 = z38 ∧ True) ∧ (z40 = z40 ∧ True) ∧ True) ∧ ts = ts ∧ True ∧ ls = ls ∧ ds = ds ∧ cs = cs ∧ True) ∧ ∀ (z51 : Int), LiI ls z32 z51 → ∀ (b53 : Bool), b53 = decide (z51 < z32) → bif b53 then bif decide ((0 : Int) ≤ z51) && decide (z51 < (↑(List.length ls) : Int)) then ∀ (z55 : Int), z55 = geti (List.getD ls z51.toNat []) (0 : Nat) → ∀ (b57 : Bool), b57 = decide (z55 = z38) → bif b57 then (((13 : Int) = (ckF ts cs ls a b d ds).c ∧ (-9223372036854775808 : Int) ≤ (ckF ts cs ls a b d ds).c ∧ (ckF ts cs ls a b d ds).c ≤ (9223372036854775807 : Int)) ∧ ((3 : Int) = flP (ckF ts cs ls a b d ds).p (ckF ts cs ls a b d ds) ∧ (-9223372036854775808 : Int) ≤ flP (ckF ts cs ls a b d ds).p (ckF ts cs ls a b d ds) ∧ flP (ckF ts cs ls a b d ds).p (ckF ts cs ls a b d ds) ≤ (9223372036854775807 : Int)) ∧ (z32 = flP (ckF ts cs ls a b d ds).i (ckF ts cs ls a b d ds) ∧ True) ∧ True) ∧ True else ∀ (z59 : Int), z59 = IntKind.i64.wrap (z51 + (1 : Int)) → ∃ (s62 : Int), LiI ls z32 s62 ∧ liMu z32 s62 < liMu z32 z51 ∧ (z59 = s62 ∧ (0 : Int) ≤ s62 ∧ s62 ≤ (9223372036854775807 : Int)) ∧ (True ∧ True ∧ True ∧ (a = a ∧ True) ∧ (b = b ∧ True) ∧ (d = d ∧ True) ∧ True ∧ True) ∧ ((0 : Int) = (0 : Int) ∧ (0 : Int) = (0 : Int) ∧ (0 : Int) = (0 : Int) ∧ True) ∧ ((z38 = z38 ∧ True) ∧ (z40 = z40 ∧ True) ∧ True) ∧ ts = ts ∧ True ∧ ls = ls ∧ ds = ds ∧ cs = cs ∧ True else False else ∀ (b55 : Bool), b55 = decide (z40 < (0 : Int)) → bif !b55 || !!b55 then bif !b55 || !!b55 then ∀ (b57 : Bool), b57 = decide ((16777216 : Int) < z40) → bif bif b55 then true else true then bif bif b55 then true else !b55 then ∀ (b59 : Bool), (b59 = bif b55 then true else b57) → bif b59 then (((3 : Int) = (ckF ts cs ls a b d ds).c ∧ (-9223372036854775808 : Int) ≤ (ckF ts cs ls a b d ds).c ∧ (ckF ts cs ls a b d ds).c ≤ (9223372036854775807 : Int)) ∧ ((3 : Int) = flP (ckF ts cs ls a b d ds).p (ckF ts cs ls a b d ds) ∧ (-9223372036854775808 : Int) ≤ flP (ckF ts cs ls a b d ds).p (ckF ts cs ls a b d ds) ∧ flP (ckF ts cs ls a b d ds).p (ckF ts cs ls a b d ds) ≤ (9223372036854775807 : Int)) ∧ (z32 = flP (ckF ts cs ls a b d ds).i (ckF ts cs ls a b d ds) ∧ True) ∧ True) ∧ True else ∀ (z61 : Int), z61 = IntKind.i64.wrap (z32 + (1 : Int)) → ∃ (s64 : Int), LqI ts ls s64 ∧ rwMu ls s64 < rwMu ls z32 ∧ (z61 = s64 ∧ (0 : Int) ≤ s64 ∧ s64 ≤ (9223372036854775807 : Int)) ∧ (True ∧ True ∧ True ∧ (a = a ∧ True) ∧ (b = b ∧ True) ∧ (d = d ∧ True) ∧ True ∧ True) ∧ ((0 : Int) = (0 : Int) ∧ (0 : Int) = (0 : Int) ∧ (0 : Int) = (0 : Int) ∧ True) ∧ ts = ts ∧ True ∧ ls = ls ∧ ds = ds ∧ cs = cs ∧ True else False else False else False else False else False else False else False else False else False else False else False else False else (((0 : Int) = (ckF ts cs ls a b d ds).c ∧ (-9223372036854775808 : Int) ≤ (ckF ts cs ls a b d ds).c ∧ (ckF ts cs ls a b d ds).c ≤ (9223372036854775807 : Int)) ∧ ((0 : Int) = flP (ckF ts cs ls a b d ds).p (ckF ts cs ls a b d ds) ∧ (-9223372036854775808 : Int) ≤ flP (ckF ts cs ls a b d ds).p (ckF ts cs ls a b d ds) ∧ flP (ckF ts cs ls a b d ds).p (ckF ts cs ls a b d ds) ≤ (9223372036854775807 : Int)) ∧ ((0 : Int) = flP (ckF ts cs ls a b d ds).i (ckF ts cs ls a b d ds) ∧ (-9223372036854775808 : Int) ≤ flP (ckF ts cs ls a b d ds).i (ckF ts cs ls a b d ds) ∧ flP (ckF ts cs ls a b d ds).i (ckF ts cs ls a b d ds) ≤ (9223372036854775807 : Int)) ∧ True) ∧ True) := by kernel_rfl
end Go.Proofs.YtafmknblnamegaaDoor
