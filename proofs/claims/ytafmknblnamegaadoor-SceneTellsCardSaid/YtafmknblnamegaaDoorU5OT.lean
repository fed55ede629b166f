/- The engine's normal forms of these functions. No condition. -/
import Derived.Test.YtafmknblnamegaaDoorU5OCtr
namespace Go.Proofs.YtafmknblnamegaaDoor
open Go.Eng
set_option maxRecDepth 1000000 in
theorem tOw (ts : Rw) (cs : Fm) (ls : Rw) (a b d : Int) (ds : Nat) : (fnS Tryd.prog G19 (onL ts cs) 100 14 [scA a b d] [.ror RK ts false, .rfm CF cs, .rof 1, .ror LK ls false, .opq ds] (fitOut ({ need := [decide (lenI ts ≤ 1000)], val := .row 1000000, news := [.row 3 I64 (oR ts cs ts.length)] }))) =
(∀ (z8 : Int),
 z8 = (↑(List.length cs) : Int) →
 ∀ (z10 : Int),
 z10 = z8 - (1 : Int) →
 ∃ (s13 : CaS),
 OwI cs s13 ∧
 ((z10 = s13.k ∧ True) ∧ [] = s13.2 ∧ (True ∧ True ∧ True ∧ (a = a ∧ True) ∧ (b = b ∧ True) ∧ (d = d ∧ True) ∧ True ∧ True) ∧ ts = ts ∧ True ∧ ls = ls ∧ ds = ds ∧ cs = cs ∧ True) ∧
 ∀ (z13 : CaS),
 OwI cs z13 →
 ∀ (b15 : Bool),
 b15 = decide ((0 : Int) ≤ z13.k) →
 bif b15 then
 bif decide ((0 : Int) ≤ z13.k) && decide (z13.k < (↑(List.length cs) : Int)) then
 ∀ (z17 : Int),
 z17 =
 (↑(List.getD ((List.getD cs z13.k.toNat [])) ((1 : Nat)) []).length :
 Int) →
 ∃ (s20 : CaS),
 OiI cs z13.1 s20 ∧
 (((0 : Int) = s20.k ∧ (0 : Int) ≤ s20.k ∧ s20.k ≤ (9223372036854775807 : Int)) ∧
 z13.2 = s20.2 ∧
 (True ∧ True ∧ True ∧ (a = a ∧ True) ∧ (b = b ∧ True) ∧ (d = d ∧ True) ∧ True ∧ True) ∧
 ((List.getD ((List.getD cs z13.k.toNat [])) ((1 : Nat)) []) =
 List.getD ((List.getD cs z13.k.toNat [])) ((1 : Nat)) []) ∧
 ts = ts ∧ True ∧ ls = ls ∧ ds = ds ∧ cs = cs ∧ True) ∧
 ∀ (z20 : CaS),
 OiI cs z13.1 z20 →
 ∀ (b22 : Bool),
 b22 = decide (z20.k < z17) →
 bif b22 then
 bif
 decide ((0 : Int) ≤ z20.k) &&
 decide
 (z20.k <
 (↑(List.getD ((List.getD cs z13.k.toNat [])) ((1 : Nat)) []).length :
 Int)) then
 ∀ (z24 : Int),
 z24 =
 geti
 ((List.getD ((List.getD cs z13.k.toNat [])) ((1 : Nat)) []).getD
 z20.k.toNat [])
 (0 : Nat) →
 ∀ (z26 : Int),
 z26 = IntKind.i64.wrap (z20.k + (1 : Int)) →
 ∃ (s29 : CaS),
 OiI cs z13.1 s29 ∧
 oiMu cs z13.1 s29 < oiMu cs z13.1 z20 ∧
 (z26 = s29.k ∧ (0 : Int) ≤ s29.k ∧ s29.k ≤ (9223372036854775807 : Int)) ∧
 mset z20.2 z24 [Value.int IntKind.i64 z13.k] = s29.2 ∧
 (True ∧ True ∧ True ∧ (a = a ∧ True) ∧ (b = b ∧ True) ∧ (d = d ∧ True) ∧ True ∧ True) ∧
 ((List.getD ((List.getD cs z13.k.toNat [])) ((1 : Nat)) []) =
 List.getD ((List.getD cs z13.k.toNat [])) ((1 : Nat)) []) ∧
 ts = ts ∧ True ∧ ls = ls ∧ ds = ds ∧ cs = cs ∧ True
 else False
 else ∀ (z24 : Int), z24 = z13.k - (1 : Int) → ∃ (s27 : CaS), OwI cs s27 ∧ owMu s27 < owMu z13 ∧ (z24 = s27.k ∧ (-1 : Int) ≤ s27.k ∧ s27.k ≤ (9223372036854775807 : Int)) ∧ z20.2 = s27.2 ∧ (True ∧ True ∧ True ∧ (a = a ∧ True) ∧ (b = b ∧ True) ∧ (d = d ∧ True) ∧ True ∧ True) ∧ ts = ts ∧ True ∧ ls = ls ∧ ds = ds ∧ cs = cs ∧ True
 else False
 else ∀ (z17 : Int), z17 = (↑(List.length ts) : Int) → bif decide ((0 : Int) ≤ z17) && (decide (z17 = z17) && decide (z17 * (8 : Int) ≤ (140737488355328 : Int))) then ∀ (z19 : Int), z19 = (↑(List.replicate z17.toNat [Value.int IntKind.i64 (0 : Int)]).length : Int) → ∃ (s22 : Int), OjI ts s22 ∧ (((0 : Int) = s22 ∧ (0 : Int) ≤ s22 ∧ s22 ≤ (9223372036854775807 : Int)) ∧ List.replicate z17.toNat [Value.int IntKind.i64 (0 : Int)] = oR ts cs s22 ∧ (True ∧ True ∧ True ∧ (a = a ∧ True) ∧ (b = b ∧ True) ∧ (d = d ∧ True) ∧ True ∧ True) ∧ z13.2 = z13.2 ∧ ts = ts ∧ True ∧ ls = ls ∧ ds = ds ∧ cs = cs ∧ True) ∧ ∀ (z22 : Int), OjI ts z22 → ∀ (b24 : Bool), b24 = decide (z22 < z19) → bif b24 then bif decide ((0 : Int) ≤ z22) && decide (z22 < (↑(List.length (oR ts cs z22)) : Int)) then ∀ (b26 : Bool), b26 = !mhas z13.2 z22 → bif b26 then bif decide ((0 : Int) ≤ z22) && decide (z22 < (↑(List.set (oR ts cs z22) z22.toNat [Value.int IntKind.i64 (geti (mget z13.2 z22 [Value.int IntKind.i64 (0 : Int)]) (0 : Nat))]).length : Int)) then ∀ (z28 : Int), z28 = IntKind.i64.wrap (z22 + (1 : Int)) → ∃ (s31 : Int), OjI ts s31 ∧ rwMu ts s31 < rwMu ts z22 ∧ (z28 = s31 ∧ (0 : Int) ≤ s31 ∧ s31 ≤ (9223372036854775807 : Int)) ∧ (List.set (oR ts cs z22) z22.toNat [Value.int IntKind.i64 (geti (mget z13.2 z22 [Value.int IntKind.i64 (0 : Int)]) (0 : Nat))]).set z22.toNat [Value.int IntKind.i64 (-1 : Int)] = oR ts cs s31 ∧ (True ∧ True ∧ True ∧ (a = a ∧ True) ∧ (b = b ∧ True) ∧ (d = d ∧ True) ∧ True ∧ True) ∧ z13.2 = z13.2 ∧ ts = ts ∧ True ∧ ls = ls ∧ ds = ds ∧ cs = cs ∧ True else False else ∀ (z28 : Int), z28 = IntKind.i64.wrap (z22 + (1 : Int)) → ∃ (s31 : Int), OjI ts s31 ∧ rwMu ts s31 < rwMu ts z22 ∧ (z28 = s31 ∧ (0 : Int) ≤ s31 ∧ s31 ≤ (9223372036854775807 : Int)) ∧ List.set (oR ts cs z22) z22.toNat [Value.int IntKind.i64 (geti (mget z13.2 z22 [Value.int IntKind.i64 (0 : Int)]) (0 : Nat))] = oR ts cs s31 ∧ (True ∧ True ∧ True ∧ (a = a ∧ True) ∧ (b = b ∧ True) ∧ (d = d ∧ True) ∧ True ∧ True) ∧ z13.2 = z13.2 ∧ ts = ts ∧ True ∧ ls = ls ∧ ds = ds ∧ cs = cs ∧ True else False else True ∧ oR ts cs z22 = oR ts cs (↑(List.length ts) : Int) ∧ True else False) := by kernel_rfl
end Go.Proofs.YtafmknblnamegaaDoor
