/- The engine's normal forms of these functions. No condition. -/
import Derived.Test.YtafmknblnamegaaDoorU5RCtr
namespace Go.Proofs.YtafmknblnamegaaDoor
open Go.Eng
set_option maxRecDepth 1000000 in
theorem tOr (ts : Rw) (cs : Fm) (ls : Rw) (a b d : Int) (ds : Nat) (r h : Int) : (fnS Tryd.prog G20 (orL cs r h) 100 32 [scA a b d, I r, I h] [.ror RK ts false, .rfm CF cs, .rof 1, .ror LK ls false, .opq ds] (fitOut ({ need := [], val := .i .i64 (fow r 0 (cs.take h.toNat)) (-1) 9223372036854775807 }))) =
(∃ (s11 : Int),
 OrI cs r h s11 ∧
 (((0 : Int) = s11 ∧ (0 : Int) ≤ s11 ∧ s11 ≤ (9223372036854775807 : Int)) ∧ (True ∧ True ∧ True ∧ (a = a ∧ True) ∧ (b = b ∧ True) ∧ (d = d ∧ True) ∧ True ∧ True) ∧ ts = ts ∧ True ∧ ls = ls ∧ ds = ds ∧ cs = cs ∧ True) ∧
 ∀ (z11 : Int),
 OrI cs r h z11 →
 ∀ (b13 : Bool),
 b13 = decide (z11 < h) →
 bif b13 || !b13 then
 bif b13 || !b13 then
 ∀ (z15 : Int),
 z15 = (↑(List.length cs) : Int) →
 bif b13 || !b13 then
 bif b13 || !b13 then
 ∀ (b17 : Bool),
 b17 = decide (z11 < z15) →
 bif bif b13 then b13 else true then
 bif bif b13 then true else true then
 ∀ (b19 : Bool),
 (b19 = bif b13 then b17 else false) →
 bif b19 then
 ∃ (s22 : Int),
 OqI cs r z11 s22 ∧
 (((0 : Int) = s22 ∧ (0 : Int) ≤ s22 ∧ s22 ≤ (9223372036854775807 : Int)) ∧ (True ∧ True ∧ True ∧ (a = a ∧ True) ∧ (b = b ∧ True) ∧ (d = d ∧ True) ∧ True ∧ True) ∧ ts = ts ∧ True ∧ ls = ls ∧ ds = ds ∧ cs = cs ∧ True) ∧
 ∀ (z22 : Int),
 OqI cs r z11 z22 →
 bif decide ((0 : Int) ≤ z11) && decide (z11 < (↑(List.length cs) : Int)) then
 ∀ (z24 : Int),
 z24 =
 (↑(List.getD ((List.getD cs z11.toNat [])) ((1 : Nat)) []).length :
 Int) →
 ∀ (b26 : Bool),
 b26 = decide (z22 < z24) →
 bif b26 then
 bif decide ((0 : Int) ≤ z11) && decide (z11 < (↑(List.length cs) : Int)) then
 bif
 decide ((0 : Int) ≤ z22) &&
 decide
 (z22 <
 (↑(List.getD ((List.getD cs z11.toNat [])) ((1 : Nat)) []).length :
 Int)) then
 ∀ (z28 : Int), z28 = geti (((List.getD cs z11.toNat []).getD ((1 : Nat)) []).getD z22.toNat []) (0 : Nat) → ∀ (b30 : Bool), b30 = decide (z28 = r) → bif b30 then (z11 = fow r (0 : Nat) (List.take h.toNat cs) ∧ True) ∧ True else ∀ (z32 : Int), z32 = IntKind.i64.wrap (z22 + (1 : Int)) → ∃ (s35 : Int), OqI cs r z11 s35 ∧ oqMu cs z11 s35 < oqMu cs z11 z22 ∧ (z32 = s35 ∧ (0 : Int) ≤ s35 ∧ s35 ≤ (9223372036854775807 : Int)) ∧ (True ∧ True ∧ True ∧ (a = a ∧ True) ∧ (b = b ∧ True) ∧ (d = d ∧ True) ∧ True ∧ True) ∧ ts = ts ∧ True ∧ ls = ls ∧ ds = ds ∧ cs = cs ∧ True
 else False
 else False
 else ∀ (z28 : Int), z28 = IntKind.i64.wrap (z11 + (1 : Int)) → ∃ (s31 : Int), OrI cs r h s31 ∧ orMu cs s31 < orMu cs z11 ∧ (z28 = s31 ∧ (0 : Int) ≤ s31 ∧ s31 ≤ (9223372036854775807 : Int)) ∧ (True ∧ True ∧ True ∧ (a = a ∧ True) ∧ (b = b ∧ True) ∧ (d = d ∧ True) ∧ True ∧ True) ∧ ts = ts ∧ True ∧ ls = ls ∧ ds = ds ∧ cs = cs ∧ True
 else False
 else ((-1 : Int) = fow r (0 : Nat) (List.take h.toNat cs) ∧ (-1 : Int) ≤ fow r (0 : Nat) (List.take h.toNat cs) ∧ fow r (0 : Nat) (List.take h.toNat cs) ≤ (9223372036854775807 : Int)) ∧ True
 else False
 else False
 else False
 else False
 else False
 else False) := by kernel_rfl
set_option maxRecDepth 1000000 in
theorem tRo (ts : Rw) (cs : Fm) (ls : Rw) (a b d : Int) (ds : Nat) : (fnS Tryd.prog G21 (otL ts cs) 100 15 [scA a b d] [.ror RK ts false, .rfm CF cs, .rof 1, .ror LK ls false, .opq ds] (fitOut ({ need := [decide (lenI ts ≤ 1000)], val := .row 1000000, news := [.row 3 I64 (oR ts cs ts.length)] }))) =
(∃ (s9 : Int), OtI ts s9 ∧ (((0 : Int) = s9 ∧ (0 : Int) ≤ s9 ∧ s9 ≤ (100000 : Int)) ∧ True ∧ (True ∧ True ∧ True ∧ (a = a ∧ True) ∧ (b = b ∧ True) ∧ (d = d ∧ True) ∧ True ∧ True) ∧ ts = ts ∧ True ∧ ls = ls ∧ ds = ds ∧ cs = cs ∧ [] = oT cs s9 ∧ True) ∧ ∀ (z9 : Int), OtI ts z9 → ∀ (z11 : Int), z11 = (↑(List.length ts) : Int) → ∀ (b13 : Bool), b13 = decide (z9 < z11) → bif b13 then ∀ (z15 : Int), z15 = (↑(List.length cs) : Int) → ∀ (z17 : Int), z17 = fow z9 (0 : Nat) (List.take z15.toNat cs) → bif decide (lenI (oT cs z9) ≤ (8796093022208 : Int)) then ∀ (z19 : Int), z19 = z9 + (1 : Int) → ∃ (s22 : Int), OtI ts s22 ∧ rwMu ts s22 < rwMu ts z9 ∧ (z19 = s22 ∧ (0 : Int) ≤ s22 ∧ s22 ≤ (100000 : Int)) ∧ True ∧ (True ∧ True ∧ True ∧ (a = a ∧ True) ∧ (b = b ∧ True) ∧ (d = d ∧ True) ∧ True ∧ True) ∧ ts = ts ∧ True ∧ ls = ls ∧ ds = ds ∧ cs = cs ∧ oT cs z9 ++ [[Value.int IntKind.i64 z17]] = oT cs s22 ∧ True else False else True ∧ oT cs z9 = oR ts cs (↑(List.length ts) : Int) ∧ True) := by kernel_rfl
end Go.Proofs.YtafmknblnamegaaDoor
