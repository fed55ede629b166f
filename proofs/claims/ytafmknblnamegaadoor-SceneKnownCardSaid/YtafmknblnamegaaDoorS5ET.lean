/- The engine's normal forms of these functions. No condition. -/
import Derived.Test.YtafmknblnamegaaDoorS5ECtr
namespace Go.Proofs.YtafmknblnamegaaDoor
open Go.Eng
set_option maxRecDepth 1000000 in
theorem tTl2 (p : Bool) (xs : Rw) : (fnS Tryd.prog G27 (noLoops) 100 17 [.er p 87 true 0] [.ror FK xs false] (fitOut ({ need := [!p], val := .agg [I (tlA p xs 0), I (tlA p xs 1), I (tlA p xs 2)] }))) =
(bif !p then ∀ (z3 : Int), z3 = geti (List.getD xs (0 : Nat) []) (0 : Nat) → ∀ (z5 : Int), z5 = geti (List.getD xs (0 : Nat) []) (1 : Nat) → ∀ (z7 : Int), z7 = geti (List.getD xs (0 : Nat) []) (2 : Nat) → ((z3 = tlA p xs (0 : Nat) ∧ True) ∧ (z5 = tlA p xs (1 : Nat) ∧ True) ∧ (z7 = tlA p xs (2 : Nat) ∧ True) ∧ True) ∧ True else False) := by kernel_rfl
set_option maxRecDepth 1000000 in
theorem tTd2 (p : Bool) (xs : Rw) (a b d : Int) : (fnS Tryd.prog G28 (noLoops) 100 10 [.er p 87 true 0, .agg [I a, I b, I d]] [.ror FK xs false] (fitOut ({ need := [!p], val := .b (tdB p xs a b d) }))) =
(∀ (b6 : Bool), b6 = !p → ∀ (b8 : Bool), b8 = !decide (a = (0 : Int)) → ∀ (b10 : Bool), b10 = (b6 == b8) → bif b10 || !b10 then bif !p || !b10 then ∀ (z12 : Int), z12 = tlA p xs (0 : Nat) → ∀ (z14 : Int), z14 = tlA p xs (1 : Nat) → ∀ (z16 : Int), z16 = tlA p xs (2 : Nat) → bif b10 || !b10 then bif b10 || !b10 then ∀ (b18 : Bool), b18 = (z12 == a && (z14 == b && z16 == d)) → bif bif b10 then b10 else true then bif bif b10 then true else true then ∀ (b20 : Bool), (b20 = bif b10 then b18 else false) → b20 = tdB p xs a b d ∧ True else False else False else False else False else False else False) := by kernel_rfl
end Go.Proofs.YtafmknblnamegaaDoor
