/- The engine's normal forms of these functions. No condition. -/
import Derived.Test.YtafmknblnamegaaDoorU5ECtr
namespace Go.Proofs.YtafmknblnamegaaDoor
open Go.Eng
set_option maxRecDepth 1000000 in
theorem tTl2a (xs : Rw) : (fnS Tryd.prog G29 (noLoops) 100 17 [.er false 87 true 0] [.ror FK xs false] (fitOut ({ need := [], val := .agg [I (tlA false xs 0), I (tlA false xs 1), I (tlA false xs 2)] }))) =
(∀ (z2 : Int), z2 = geti (List.getD xs (0 : Nat) []) (0 : Nat) → ∀ (z4 : Int), z4 = geti (List.getD xs (0 : Nat) []) (1 : Nat) → ∀ (z6 : Int), z6 = geti (List.getD xs (0 : Nat) []) (2 : Nat) → ((z2 = tlA false xs (0 : Nat) ∧ True) ∧ (z4 = tlA false xs (1 : Nat) ∧ True) ∧ (z6 = tlA false xs (2 : Nat) ∧ True) ∧ True) ∧ True) := by kernel_rfl
set_option maxRecDepth 1000000 in
theorem tTl2b (xs : Rw) : (fnS Tryd.prog G29 (noLoops) 100 17 [.er true 87 true 0] [.ror FK xs false] (fitOut ({ need := [], val := .agg [I (tlA true xs 0), I (tlA true xs 1), I (tlA true xs 2)] }))) =
((((0 : Int) = tlA true xs (0 : Nat) ∧ (-9223372036854775808 : Int) ≤ tlA true xs (0 : Nat) ∧ tlA true xs (0 : Nat) ≤ (9223372036854775807 : Int)) ∧ ((0 : Int) = tlA true xs (1 : Nat) ∧ (-9223372036854775808 : Int) ≤ tlA true xs (1 : Nat) ∧ tlA true xs (1 : Nat) ≤ (9223372036854775807 : Int)) ∧ ((0 : Int) = tlA true xs (2 : Nat) ∧ (-9223372036854775808 : Int) ≤ tlA true xs (2 : Nat) ∧ tlA true xs (2 : Nat) ≤ (9223372036854775807 : Int)) ∧ True) ∧ True) := by kernel_rfl
set_option maxRecDepth 1000000 in
theorem tTd2 (p : Bool) (xs : Rw) (a b d : Int) : (fnS Tryd.prog G30 (noLoops) 100 10 [.er p 87 true 0, .agg [I a, I b, I d]] [.ror FK xs false] (fitOut ({ need := [], val := .b (tdB p xs a b d) }))) =
(∀ (b6 : Bool), b6 = !p → ∀ (b8 : Bool), b8 = !decide (a = (0 : Int)) → ∀ (b10 : Bool), b10 = (b6 == b8) → bif b10 || !b10 then ∀ (z12 : Int), z12 = tlA p xs (0 : Nat) → ∀ (z14 : Int), z14 = tlA p xs (1 : Nat) → ∀ (z16 : Int), z16 = tlA p xs (2 : Nat) → bif b10 || !b10 then bif b10 || !b10 then ∀ (b18 : Bool), b18 = (z12 == a && (z14 == b && z16 == d)) → bif bif b10 then b10 else true then bif bif b10 then true else true then ∀ (b20 : Bool), (b20 = bif b10 then b18 else false) → b20 = tdB p xs a b d ∧ True else False else False else False else False else False) := by kernel_rfl
set_option maxRecDepth 1000000 in
theorem tIt (xs ys : Rw) : (fnS Tryd.prog G31 (itL xs ys) 100 13 [.row 0, .row 1] [.row 3 I64 xs, .row 3 I64 ys] (fitM [.row 3 I64 xs, .row 3 I64 ys] ({ need := [], val := .b (intsB xs ys), heap := [(0, .row 3 I64 xs), (1, .row 3 I64 ys)] }))) =
(∀ (z3 : Int), z3 = (↑(List.length xs) : Int) → ∀ (z5 : Int), z5 = (↑(List.length ys) : Int) → ∀ (b7 : Bool), b7 = !decide (z3 = z5) → bif b7 then false = intsB xs ys ∧ xs = xs ∧ ys = ys ∧ True else ∃ (s10 : Int), ItI xs ys s10 ∧ (((0 : Int) = s10 ∧ (0 : Int) ≤ s10 ∧ s10 ≤ (9223372036854775807 : Int)) ∧ xs = xs ∧ ys = ys ∧ True) ∧ ∀ (z10 : Int), ItI xs ys z10 → ∀ (z12 : Int), z12 = (↑(List.length xs) : Int) → ∀ (b14 : Bool), b14 = decide (z10 < z12) → bif b14 then bif decide ((0 : Int) ≤ z10) && decide (z10 < (↑(List.length xs) : Int)) then ∀ (z16 : Int), z16 = geti (List.getD xs z10.toNat []) (0 : Nat) → bif decide ((0 : Int) ≤ z10) && decide (z10 < (↑(List.length ys) : Int)) then ∀ (z18 : Int), z18 = geti (List.getD ys z10.toNat []) (0 : Nat) → ∀ (b20 : Bool), b20 = !decide (z16 = z18) → bif b20 then false = intsB xs ys ∧ xs = xs ∧ ys = ys ∧ True else ∀ (z22 : Int), z22 = IntKind.i64.wrap (z10 + (1 : Int)) → ∃ (s25 : Int), ItI xs ys s25 ∧ rwMu xs s25 < rwMu xs z10 ∧ (z22 = s25 ∧ (0 : Int) ≤ s25 ∧ s25 ≤ (9223372036854775807 : Int)) ∧ xs = xs ∧ ys = ys ∧ True else False else False else true = intsB xs ys ∧ xs = xs ∧ ys = ys ∧ True) := by kernel_rfl
set_option maxRecDepth 1000000 in
theorem tWk5  : (fnS Tryd.prog GK (noLoops) 400 16 [] [] (fitOut ({ need := [], val := .v (.bool true) }))) =
(true = true ∧ True) := by kernel_rfl
end Go.Proofs.YtafmknblnamegaaDoor
