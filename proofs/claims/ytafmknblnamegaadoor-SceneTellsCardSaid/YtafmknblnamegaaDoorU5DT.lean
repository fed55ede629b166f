/- The engine's normal forms of these functions. No condition. -/
import Derived.Test.YtafmknblnamegaaDoorU5DCtr
namespace Go.Proofs.YtafmknblnamegaaDoor
open Go.Eng
set_option maxRecDepth 1000000 in
theorem tDnx (bs : Rw) (x y z a n : Int) : (fnS Tryd.prog G25 (noLoops) 100 23 [.ptr 1 0, I n] [.ror BK bs false, dC x y z a] (fitM [.ror BK bs false, dC x y z a] ({ need := [decide (0 ≤ a ∧ a ≤ 1000 ∧ 1 ≤ n ∧ n ≤ 300)], val := nxV (nx bs (a + 1) n), heap := [(1, dC x y z (a + 1))] }))) =
(∀ (z7 : Int), z7 = a + (1 : Int) → ∀ (z9 : Int), z9 = (↑(List.length bs) : Int) → ∀ (b11 : Bool), b11 = decide (z9 = (0 : Int)) → bif b11 then bif !decide (n = (0 : Int)) then ∀ (z13 : Int), z13 = z7.tmod n → (z13 = nx bs (a + (1 : Int)) n ∧ (0 : Int) ≤ nx bs (a + (1 : Int)) n ∧ nx bs (a + (1 : Int)) n ≤ (1000 : Int)) ∧ (True ∧ (x = x ∧ True) ∧ (y = y ∧ True) ∧ (z = z ∧ True) ∧ (z7 = a + (1 : Int) ∧ (0 : Int) ≤ a + (1 : Int) ∧ a + (1 : Int) ≤ (2000 : Int)) ∧ True) ∧ True else False else ∀ (z13 : Int), z13 = (↑(List.length bs) : Int) → bif !decide (z13 = (0 : Int)) then ∀ (z15 : Int), z15 = z7.tmod z13 → bif decide ((0 : Int) ≤ z15) && decide (z15 < (↑(List.length bs) : Int)) then ∀ (z17 : Int), z17 = geti (List.getD bs z15.toNat []) (0 : Nat) → ∀ (z19 : Int), z19 = z17 → ∀ (z21 : Int), z21 = (↑(List.length bs) : Int) → bif !decide (z21 = (0 : Int)) then ∀ (z23 : Int), z23 = z7 / z21 → ∀ (z25 : Int), z25 = z19 + z23 → bif !decide (n = (0 : Int)) then ∀ (z27 : Int), z27 = z25.tmod n → (z27 = nx bs (a + (1 : Int)) n ∧ (0 : Int) ≤ nx bs (a + (1 : Int)) n ∧ nx bs (a + (1 : Int)) n ≤ (1000 : Int)) ∧ (True ∧ (x = x ∧ True) ∧ (y = y ∧ True) ∧ (z = z ∧ True) ∧ (z7 = a + (1 : Int) ∧ (0 : Int) ≤ a + (1 : Int) ∧ a + (1 : Int) ≤ (2000 : Int)) ∧ True) ∧ True else False else False else False else False) := by kernel_rfl
set_option maxRecDepth 1000000 in
theorem tDpl (bs : Rw) (x y z a : Int) : (fnS Tryd.prog G26 (noLoops) 100 21 [.ptr 1 0] [.ror BK bs false, dC x y z a] (fitM [.ror BK bs false, dC x y z a] ({ need := [decide (0 ≤ a ∧ a ≤ 900)], val := .agg [D10 (500 + nx bs (a + 1) 30), D10 (500 + nx bs (a + 2) 30)], heap := [(1, dC x y z (a + 2))] }))) =
(bif decide ((0 : Int) ≤ a ∧ a ≤ (1000 : Int) ∧ (1 : Int) ≤ (30 : Int) ∧ (30 : Int) ≤ (300 : Int)) then ∀ (z6 : Int), z6 = nx bs (a + (1 : Int)) (30 : Int) → ∀ (z8 : Int), z8 = (500 : Int) + z6 → bif decide ((0 : Int) ≤ a + (1 : Int) ∧ a + (1 : Int) ≤ (1000 : Int) ∧ (1 : Int) ≤ (30 : Int) ∧ (30 : Int) ≤ (300 : Int)) then ∀ (z10 : Int), z10 = nx bs (a + (1 : Int) + (1 : Int)) (30 : Int) → ∀ (z12 : Int), z12 = (500 : Int) + z10 → ((z8 = (500 : Int) + nx bs (a + (1 : Int)) (30 : Int) ∧ True) ∧ (z12 = (500 : Int) + nx bs (a + (2 : Int)) (30 : Int) ∧ True) ∧ True) ∧ (True ∧ (x = x ∧ True) ∧ (y = y ∧ True) ∧ (z = z ∧ True) ∧ (a + (1 : Int) + (1 : Int) = a + (2 : Int) ∧ True) ∧ True) ∧ True else False else False) := by kernel_rfl
set_option maxRecDepth 1000000 in
theorem tDwn (bs : Rw) (x y z a f n : Int) : (fnS Tryd.prog G27 (noLoops) 100 22 [.ptr 1 0, I f, I n] [.ror BK bs false, dC x y z a] (fitM [.ror BK bs false, dC x y z a] ({ need := [decide (0 ≤ a ∧ a ≤ 900 ∧ 0 ≤ f ∧ f ≤ 100 ∧ 1 ≤ n ∧ n ≤ 100)], val := .agg [D10 (f + 4 * nx bs (a + 1) n), D10 (f + 4 * nx bs (a + 1) n + 10 + 3 * nx bs (a + 2) 120)], heap := [(1, dC x y z (a + 2))] }))) =
(bif decide ((0 : Int) ≤ a ∧ a ≤ (1000 : Int) ∧ (1 : Int) ≤ n ∧ n ≤ (300 : Int)) then ∀ (z8 : Int), z8 = nx bs (a + (1 : Int)) n → ∀ (z10 : Int), z10 = (4 : Int) * z8 → ∀ (z12 : Int), z12 = IntKind.i64.wrap (f + z10) → ∀ (z14 : Int), z14 = IntKind.i64.wrap (z12 + (10 : Int)) → bif decide ((0 : Int) ≤ a + (1 : Int) ∧ a + (1 : Int) ≤ (1000 : Int) ∧ (1 : Int) ≤ (120 : Int) ∧ (120 : Int) ≤ (300 : Int)) then ∀ (z16 : Int), z16 = nx bs (a + (1 : Int) + (1 : Int)) (120 : Int) → ∀ (z18 : Int), z18 = (3 : Int) * z16 → ∀ (z20 : Int), z20 = IntKind.i64.wrap (z14 + z18) → ((z12 = f + (4 : Int) * nx bs (a + (1 : Int)) n ∧ (0 : Int) ≤ f + (4 : Int) * nx bs (a + (1 : Int)) n ∧ f + (4 : Int) * nx bs (a + (1 : Int)) n ≤ (10000 : Int)) ∧ (z20 = f + (4 : Int) * nx bs (a + (1 : Int)) n + (10 : Int) + (3 : Int) * nx bs (a + (2 : Int)) (120 : Int) ∧ (0 : Int) ≤ f + (4 : Int) * nx bs (a + (1 : Int)) n + (10 : Int) + (3 : Int) * nx bs (a + (2 : Int)) (120 : Int) ∧ f + (4 : Int) * nx bs (a + (1 : Int)) n + (10 : Int) + (3 : Int) * nx bs (a + (2 : Int)) (120 : Int) ≤ (10000 : Int)) ∧ True) ∧ (True ∧ (x = x ∧ True) ∧ (y = y ∧ True) ∧ (z = z ∧ True) ∧ (a + (1 : Int) + (1 : Int) = a + (2 : Int) ∧ True) ∧ True) ∧ True else False else False) := by kernel_rfl
set_option maxRecDepth 1000000 in
theorem tDs (bs : Rw) (x y z a : Int) : (fnS Tryd.prog G28 (dsL bs x y z) 100 7 [.ptr 1 0] [.ror BK bs false, dC2 x y z a] (fitM [.ror BK bs false, dC2 x y z a] ({ need := [], val := .agg [SN, .row 1000002, .row 1000005, S1 (aN z), S1 (bN z), S1 (sN z), .row 1000004], heap := [(1, dC x y z (l5T bs (rN y) (cN x) (rN y)))], news := [.row 66 RK (dTs bs (rN y).toNat), .fam CF (dCs bs (rN y) (cN x) (rN y).toNat) none, .rr 53 1000001, .fam DF (dDs bs (rN y) (cN x).toNat) none, .rr 73 1000003, .row 59 LK (dLs bs (cT bs (rN y) (cN x).toNat) (rN y).toNat)] }))) =
(∀ (z6 : Int),
 z6 = z % (5 : Int) →
 ∀ (z8 : Int),
 z8 = z6 →
 ∀ (z10 : Int),
 z10 = (1 : Int) + z8 →
 ∀ (z12 : Int),
 z12 = z / (5 : Int) →
 ∀ (z14 : Int),
 z14 = z12 % (5 : Int) →
 ∀ (z16 : Int),
 z16 = z14 →
 ∀ (z18 : Int),
 z18 = (1 : Int) + z16 →
 ∀ (z20 : Int),
 z20 = z / (25 : Int) →
 ∀ (z22 : Int),
 z22 = z20 % (2 : Int) →
 ∀ (z24 : Int),
 z24 = z22 →
 ∀ (z26 : Int),
 z26 = x % (6 : Int) →
 ∀ (z28 : Int),
 z28 = z26 →
 ∀ (z30 : Int),
 z30 = (1 : Int) + z28 →
 ∀ (z32 : Int),
 z32 = y % (13 : Int) →
 ∀ (z34 : Int),
 z34 = z32 →
 ∃ (s37 : Int),
 Tw (rN y) s37 ∧
 (((0 : Int) = s37 ∧ (0 : Int) ≤ s37 ∧ s37 ≤ (100 : Int)) ∧ (True ∧ (x = x ∧ True) ∧ (y = y ∧ True) ∧ (z = z ∧ True) ∧ ((0 : Int) = (10 : Int) * s37 ∧ (0 : Int) ≤ (10 : Int) * s37 ∧ (10 : Int) * s37 ≤ (2000 : Int)) ∧ True) ∧ (True ∧ Value.slice none (0 : Nat) (0 : Nat) = Value.slice none (0 : Nat) (0 : Nat) ∧ Value.slice none (0 : Nat) (0 : Nat) = Value.slice none (0 : Nat) (0 : Nat) ∧ (z10 = aN z ∧ True) ∧ (z18 = bN z ∧ True) ∧ (z24 = sN z ∧ True) ∧ Value.slice none (0 : Nat) (0 : Nat) = Value.slice none (0 : Nat) (0 : Nat) ∧ True) ∧ (Value.slice none (0 : Nat) (0 : Nat) = Value.slice none (0 : Nat) (0 : Nat) ∧ Value.slice none (0 : Nat) (0 : Nat) = Value.slice none (0 : Nat) (0 : Nat) ∧ Value.slice none (0 : Nat) (0 : Nat) = Value.slice none (0 : Nat) (0 : Nat) ∧ (0 : Int) = (0 : Int) ∧ (0 : Int) = (0 : Int) ∧ (0 : Int) = (0 : Int) ∧ Value.slice none (0 : Nat) (0 : Nat) = Value.slice none (0 : Nat) (0 : Nat) ∧ True) ∧ bs = bs ∧ [] = dTs bs s37.toNat ∧ True) ∧
 ∀ (z37 : Int),
 Tw (rN y) z37 →
 ∀ (b39 : Bool),
 b39 = decide (z37 < z34) →
 bif b39 then bif decide ((0 : Int) ≤ (10 : Int) * z37 ∧ (10 : Int) * z37 ≤ (900 : Int)) then ∀ (z41 : Int), z41 = (500 : Int) + nx bs ((10 : Int) * z37 + (1 : Int)) (30 : Int) → ∀ (z43 : Int), z43 = (500 : Int) + nx bs ((10 : Int) * z37 + (2 : Int)) (30 : Int) → bif decide ((0 : Int) ≤ (10 : Int) * z37 + (2 : Int) ∧ (10 : Int) * z37 + (2 : Int) ≤ (900 : Int)) then ∀ (z45 : Int), z45 = (500 : Int) + nx bs ((10 : Int) * z37 + (2 : Int) + (1 : Int)) (30 : Int) → ∀ (z47 : Int), z47 = (500 : Int) + nx bs ((10 : Int) * z37 + (2 : Int) + (2 : Int)) (30 : Int) → bif decide ((0 : Int) ≤ (10 : Int) * z37 + (2 : Int) + (2 : Int) ∧ (10 : Int) * z37 + (2 : Int) + (2 : Int) ≤ (900 : Int) ∧ (0 : Int) ≤ (0 : Int) ∧ (0 : Int) ≤ (100 : Int) ∧ (1 : Int) ≤ (60 : Int) ∧ (60 : Int) ≤ (100 : Int)) then ∀ (z49 : Int), z49 = (0 : Int) + (4 : Int) * nx bs ((10 : Int) * z37 + (2 : Int) + (2 : Int) + (1 : Int)) (60 : Int) → ∀ (z51 : Int), z51 = (0 : Int) + (4 : Int) * nx bs ((10 : Int) * z37 + (2 : Int) + (2 : Int) + (1 : Int)) (60 : Int) + (10 : Int) + (3 : Int) * nx bs ((10 : Int) * z37 + (2 : Int) + (2 : Int) + (2 : Int)) (120 : Int) → bif decide ((0 : Int) ≤ (10 : Int) * z37 + (2 : Int) + (2 : Int) + (2 : Int) ∧ (10 : Int) * z37 + (2 : Int) + (2 : Int) + (2 : Int) ≤ (900 : Int) ∧ (0 : Int) ≤ (40 : Int) ∧ (40 : Int) ≤ (100 : Int) ∧ (1 : Int) ≤ (80 : Int) ∧ (80 : Int) ≤ (100 : Int)) then ∀ (z53 : Int), z53 = (40 : Int) + (4 : Int) * nx bs ((10 : Int) * z37 + (2 : Int) + (2 : Int) + (2 : Int) + (1 : Int)) (80 : Int) → ∀ (z55 : Int), z55 = (40 : Int) + (4 : Int) * nx bs ((10 : Int) * z37 + (2 : Int) + (2 : Int) + (2 : Int) + (1 : Int)) (80 : Int) + (10 : Int) + (3 : Int) * nx bs ((10 : Int) * z37 + (2 : Int) + (2 : Int) + (2 : Int) + (2 : Int)) (120 : Int) → bif decide ((0 : Int) ≤ (10 : Int) * z37 + (2 : Int) + (2 : Int) + (2 : Int) + (2 : Int) ∧ (10 : Int) * z37 + (2 : Int) + (2 : Int) + (2 : Int) + (2 : Int) ≤ (1000 : Int) ∧ (1 : Int) ≤ (9 : Int) ∧ (9 : Int) ≤ (300 : Int)) then ∀ (z57 : Int), z57 = nx bs ((10 : Int) * z37 + (2 : Int) + (2 : Int) + (2 : Int) + (2 : Int) + (1 : Int)) (9 : Int) → ∀ (z59 : Int), z59 = (1 : Int) + z57 → bif decide ((0 : Int) ≤ (10 : Int) * z37 + (2 : Int) + (2 : Int) + (2 : Int) + (2 : Int) + (1 : Int) ∧ (10 : Int) * z37 + (2 : Int) + (2 : Int) + (2 : Int) + (2 : Int) + (1 : Int) ≤ (1000 : Int) ∧ (1 : Int) ≤ (5 : Int) ∧ (5 : Int) ≤ (300 : Int)) then ∀ (z61 : Int), z61 = nx bs ((10 : Int) * z37 + (2 : Int) + (2 : Int) + (2 : Int) + (2 : Int) + (1 : Int) + (1 : Int)) (5 : Int) → bif decide (lenI (dTs bs z37.toNat) ≤ (879609302220 : Int)) then ∀ (z63 : Int), z63 = z37 + (1 : Int) → ∃ (s66 : Int), Tw (rN y) s66 ∧ twMu (rN y) s66 < twMu (rN y) z37 ∧ (z63 = s66 ∧ (0 : Int) ≤ s66 ∧ s66 ≤ (100 : Int)) ∧ (True ∧ (x = x ∧ True) ∧ (y = y ∧ True) ∧ (z = z ∧ True) ∧ ((10 : Int) * z37 + (2 : Int) + (2 : Int) + (2 : Int) + (2 : Int) + (1 : Int) + (1 : Int) = (10 : Int) * s66 ∧ True) ∧ True) ∧ (True ∧ Value.slice none (0 : Nat) (0 : Nat) = Value.slice none (0 : Nat) (0 : Nat) ∧ Value.slice none (0 : Nat) (0 : Nat) = Value.slice none (0 : Nat) (0 : Nat) ∧ (aN z = aN z ∧ True) ∧ (bN z = bN z ∧ True) ∧ (sN z = sN z ∧ True) ∧ Value.slice none (0 : Nat) (0 : Nat) = Value.slice none (0 : Nat) (0 : Nat) ∧ True) ∧ (Value.slice none (0 : Nat) (0 : Nat) = Value.slice none (0 : Nat) (0 : Nat) ∧ Value.slice none (0 : Nat) (0 : Nat) = Value.slice none (0 : Nat) (0 : Nat) ∧ Value.slice none (0 : Nat) (0 : Nat) = Value.slice none (0 : Nat) (0 : Nat) ∧ (0 : Int) = (0 : Int) ∧ (0 : Int) = (0 : Int) ∧ (0 : Int) = (0 : Int) ∧ Value.slice none (0 : Nat) (0 : Nat) = Value.slice none (0 : Nat) (0 : Nat) ∧ True) ∧ bs = bs ∧ dTs bs z37.toNat ++ [[Value.int IntKind.i64 z41, Value.int IntKind.i64 z43, Value.int IntKind.i64 z45, Value.int IntKind.i64 z47, Value.int IntKind.i64 z49, Value.int IntKind.i64 z51, Value.int IntKind.i64 z53, Value.int IntKind.i64 z55, Value.int IntKind.i64 z59, Value.int IntKind.i64 z61]] = dTs bs s66.toNat ∧ True else False else False else False else False else False else False else False
 else
 ∃ (s42 : Int),
 Tw (cN x) s42 ∧
 (((0 : Int) = s42 ∧ (0 : Int) ≤ s42 ∧ s42 ≤ (100 : Int)) ∧ (True ∧ (x = x ∧ True) ∧ (y = y ∧ True) ∧ (z = z ∧ True) ∧ ((10 : Int) * z37 = t0N bs (rN y) s42 ∧ True) ∧ True) ∧ (True ∧ True ∧ Value.slice none (0 : Nat) (0 : Nat) = Value.slice none (0 : Nat) (0 : Nat) ∧ (aN z = aN z ∧ True) ∧ (bN z = bN z ∧ True) ∧ (sN z = sN z ∧ True) ∧ True ∧ True) ∧ (Value.slice none (0 : Nat) (0 : Nat) = Value.slice none (0 : Nat) (0 : Nat) ∧ Value.slice none (0 : Nat) (0 : Nat) = Value.slice none (0 : Nat) (0 : Nat) ∧ Value.slice none (0 : Nat) (0 : Nat) = Value.slice none (0 : Nat) (0 : Nat) ∧ (0 : Int) = (0 : Int) ∧ (0 : Int) = (0 : Int) ∧ (0 : Int) = (0 : Int) ∧ Value.slice none (0 : Nat) (0 : Nat) = Value.slice none (0 : Nat) (0 : Nat) ∧ True) ∧ bs = bs ∧ dTs bs z37.toNat = dTs bs (rN y).toNat ∧ [] = dC0 bs (rN y) s42.toNat ∧ True ∧ [] = dDs bs (rN y) s42.toNat ∧ True ∧ True) ∧
 ∀ (z42 : Int),
 Tw (cN x) z42 →
 ∀ (b44 : Bool),
 b44 = decide (z42 < z30) →
 bif b44 then bif decide ((0 : Int) ≤ t0N bs (rN y) z42 ∧ t0N bs (rN y) z42 ≤ (1000 : Int) ∧ (1 : Int) ≤ (2 : Int) ∧ (2 : Int) ≤ (300 : Int)) then ∀ (z46 : Int), z46 = nx bs (t0N bs (rN y) z42 + (1 : Int)) (2 : Int) → ∀ (z48 : Int), z48 = (1 : Int) + z46 → ∃ (s51 : Int), Tw (vK bs (rN y) z42) s51 ∧ ((z48 = s51 ∧ (0 : Int) ≤ s51 ∧ s51 ≤ (100 : Int)) ∧ (True ∧ (x = x ∧ True) ∧ (y = y ∧ True) ∧ (z = z ∧ True) ∧ (t0N bs (rN y) z42 + (1 : Int) = t0N bs (rN y) z42 + (1 : Int) + (5 : Int) * (vK bs (rN y) z42 - s51) ∧ True) ∧ True) ∧ (True ∧ Value.slice none (0 : Nat) (0 : Nat) = Value.slice none (0 : Nat) (0 : Nat) ∧ True) ∧ (Value.slice none (0 : Nat) (0 : Nat) = Value.slice none (0 : Nat) (0 : Nat) ∧ Value.slice none (0 : Nat) (0 : Nat) = Value.slice none (0 : Nat) (0 : Nat) ∧ Value.slice none (0 : Nat) (0 : Nat) = Value.slice none (0 : Nat) (0 : Nat) ∧ (0 : Int) = (0 : Int) ∧ (0 : Int) = (0 : Int) ∧ (0 : Int) = (0 : Int) ∧ Value.slice none (0 : Nat) (0 : Nat) = Value.slice none (0 : Nat) (0 : Nat) ∧ True) ∧ (True ∧ True ∧ Value.slice none (0 : Nat) (0 : Nat) = Value.slice none (0 : Nat) (0 : Nat) ∧ (aN z = aN z ∧ True) ∧ (bN z = bN z ∧ True) ∧ (sN z = sN z ∧ True) ∧ True ∧ True) ∧ bs = bs ∧ dTs bs (rN y).toNat = dTs bs (rN y).toNat ∧ True ∧ True ∧ dC0 bs (rN y) z42.toNat = dC0 bs (rN y) z42.toNat ∧ dDs bs (rN y) z42.toNat = dDs bs (rN y) z42.toNat ∧ [] = dFl bs (t0N bs (rN y) z42 + (1 : Int)) (vK bs (rN y) z42 - s51).toNat ∧ True) ∧ ∀ (z51 : Int), Tw (vK bs (rN y) z42) z51 → ∀ (b53 : Bool), b53 = decide ((0 : Int) < z51) → bif b53 then bif decide ((0 : Int) ≤ t0N bs (rN y) z42 + (1 : Int) + (5 : Int) * (vK bs (rN y) z42 - z51) ∧ t0N bs (rN y) z42 + (1 : Int) + (5 : Int) * (vK bs (rN y) z42 - z51) ≤ (900 : Int)) then ∀ (z55 : Int), z55 = (500 : Int) + nx bs (t0N bs (rN y) z42 + (1 : Int) + (5 : Int) * (vK bs (rN y) z42 - z51) + (1 : Int)) (30 : Int) → ∀ (z57 : Int), z57 = (500 : Int) + nx bs (t0N bs (rN y) z42 + (1 : Int) + (5 : Int) * (vK bs (rN y) z42 - z51) + (2 : Int)) (30 : Int) → bif decide ((0 : Int) ≤ t0N bs (rN y) z42 + (1 : Int) + (5 : Int) * (vK bs (rN y) z42 - z51) + (2 : Int) ∧ t0N bs (rN y) z42 + (1 : Int) + (5 : Int) * (vK bs (rN y) z42 - z51) + (2 : Int) ≤ (1000 : Int) ∧ (1 : Int) ≤ (20 : Int) ∧ (20 : Int) ≤ (300 : Int)) then ∀ (z59 : Int), z59 = nx bs (t0N bs (rN y) z42 + (1 : Int) + (5 : Int) * (vK bs (rN y) z42 - z51) + (2 : Int) + (1 : Int)) (20 : Int) → ∀ (z61 : Int), z61 = (5 : Int) + z59 → bif decide ((0 : Int) ≤ t0N bs (rN y) z42 + (1 : Int) + (5 : Int) * (vK bs (rN y) z42 - z51) + (2 : Int) + (1 : Int) ∧ t0N bs (rN y) z42 + (1 : Int) + (5 : Int) * (vK bs (rN y) z42 - z51) + (2 : Int) + (1 : Int) ≤ (1000 : Int) ∧ (1 : Int) ≤ (20 : Int) ∧ (20 : Int) ≤ (300 : Int)) then ∀ (z63 : Int), z63 = nx bs (t0N bs (rN y) z42 + (1 : Int) + (5 : Int) * (vK bs (rN y) z42 - z51) + (2 : Int) + (1 : Int) + (1 : Int)) (20 : Int) → bif decide ((0 : Int) ≤ t0N bs (rN y) z42 + (1 : Int) + (5 : Int) * (vK bs (rN y) z42 - z51) + (2 : Int) + (1 : Int) + (1 : Int) ∧ t0N bs (rN y) z42 + (1 : Int) + (5 : Int) * (vK bs (rN y) z42 - z51) + (2 : Int) + (1 : Int) + (1 : Int) ≤ (1000 : Int) ∧ (1 : Int) ≤ (120 : Int) ∧ (120 : Int) ≤ (300 : Int)) then ∀ (z65 : Int), z65 = nx bs (t0N bs (rN y) z42 + (1 : Int) + (5 : Int) * (vK bs (rN y) z42 - z51) + (2 : Int) + (1 : Int) + (1 : Int) + (1 : Int)) (120 : Int) → ∀ (z67 : Int), z67 = (5 : Int) * z65 → ∀ (z69 : Int), z69 = (400 : Int) + z67 → bif decide (lenI (dFl bs (t0N bs (rN y) z42 + (1 : Int)) (vK bs (rN y) z42 - z51).toNat) ≤ (1759218604441 : Int)) then ∀ (z71 : Int), z71 = z51 - (1 : Int) → ∃ (s74 : Int), Tw (vK bs (rN y) z42) s74 ∧ s74.toNat < z51.toNat ∧ (z71 = s74 ∧ (0 : Int) ≤ s74 ∧ s74 ≤ (100 : Int)) ∧ (True ∧ (x = x ∧ True) ∧ (y = y ∧ True) ∧ (z = z ∧ True) ∧ (t0N bs (rN y) z42 + (1 : Int) + (5 : Int) * (vK bs (rN y) z42 - z51) + (2 : Int) + (1 : Int) + (1 : Int) + (1 : Int) = t0N bs (rN y) z42 + (1 : Int) + (5 : Int) * (vK bs (rN y) z42 - s74) ∧ True) ∧ True) ∧ (True ∧ Value.slice none (0 : Nat) (0 : Nat) = Value.slice none (0 : Nat) (0 : Nat) ∧ True) ∧ (Value.slice none (0 : Nat) (0 : Nat) = Value.slice none (0 : Nat) (0 : Nat) ∧ Value.slice none (0 : Nat) (0 : Nat) = Value.slice none (0 : Nat) (0 : Nat) ∧ Value.slice none (0 : Nat) (0 : Nat) = Value.slice none (0 : Nat) (0 : Nat) ∧ (0 : Int) = (0 : Int) ∧ (0 : Int) = (0 : Int) ∧ (0 : Int) = (0 : Int) ∧ Value.slice none (0 : Nat) (0 : Nat) = Value.slice none (0 : Nat) (0 : Nat) ∧ True) ∧ (True ∧ True ∧ Value.slice none (0 : Nat) (0 : Nat) = Value.slice none (0 : Nat) (0 : Nat) ∧ (aN z = aN z ∧ True) ∧ (bN z = bN z ∧ True) ∧ (sN z = sN z ∧ True) ∧ True ∧ True) ∧ bs = bs ∧ dTs bs (rN y).toNat = dTs bs (rN y).toNat ∧ True ∧ True ∧ dC0 bs (rN y) z42.toNat = dC0 bs (rN y) z42.toNat ∧ dDs bs (rN y) z42.toNat = dDs bs (rN y) z42.toNat ∧ dFl bs (t0N bs (rN y) z42 + (1 : Int)) (vK bs (rN y) z42 - z51).toNat ++ [[Value.int IntKind.i64 z55, Value.int IntKind.i64 z57, Value.int IntKind.i64 z61, Value.int IntKind.i64 z63, Value.int IntKind.i64 z69]] = dFl bs (t0N bs (rN y) z42 + (1 : Int)) (vK bs (rN y) z42 - s74).toNat ∧ True else False else False else False else False else False else bif decide ((0 : Int) ≤ t0N bs (rN y) z42 + (1 : Int) + (5 : Int) * (vK bs (rN y) z42 - z51) ∧ t0N bs (rN y) z42 + (1 : Int) + (5 : Int) * (vK bs (rN y) z42 - z51) ≤ (1000 : Int) ∧ (1 : Int) ≤ (4 : Int) ∧ (4 : Int) ≤ (300 : Int)) then ∀ (z55 : Int), z55 = nx bs (t0N bs (rN y) z42 + (1 : Int) + (5 : Int) * (vK bs (rN y) z42 - z51) + (1 : Int)) (4 : Int) → ∃ (s58 : Int), Tw (qK bs (rN y) z42) s58 ∧ ((z55 = s58 ∧ (0 : Int) ≤ s58 ∧ s58 ≤ (100 : Int)) ∧ True ∧ (True ∧ (x = x ∧ True) ∧ (y = y ∧ True) ∧ (z = z ∧ True) ∧ (t0N bs (rN y) z42 + (1 : Int) + (5 : Int) * (vK bs (rN y) z42 - z51) + (1 : Int) = t0N bs (rN y) z42 + (2 : Int) + (5 : Int) * vK bs (rN y) z42 + (qK bs (rN y) z42 - s58) ∧ True) ∧ True) ∧ (Value.slice none (0 : Nat) (0 : Nat) = Value.slice none (0 : Nat) (0 : Nat) ∧ Value.slice none (0 : Nat) (0 : Nat) = Value.slice none (0 : Nat) (0 : Nat) ∧ Value.slice none (0 : Nat) (0 : Nat) = Value.slice none (0 : Nat) (0 : Nat) ∧ (0 : Int) = (0 : Int) ∧ (0 : Int) = (0 : Int) ∧ (0 : Int) = (0 : Int) ∧ Value.slice none (0 : Nat) (0 : Nat) = Value.slice none (0 : Nat) (0 : Nat) ∧ True) ∧ (True ∧ True ∧ Value.slice none (0 : Nat) (0 : Nat) = Value.slice none (0 : Nat) (0 : Nat) ∧ (aN z = aN z ∧ True) ∧ (bN z = bN z ∧ True) ∧ (sN z = sN z ∧ True) ∧ True ∧ True) ∧ (True ∧ Value.slice none (0 : Nat) (0 : Nat) = Value.slice none (0 : Nat) (0 : Nat) ∧ True) ∧ bs = bs ∧ dTs bs (rN y).toNat = dTs bs (rN y).toNat ∧ True ∧ True ∧ dFl bs (t0N bs (rN y) z42 + (1 : Int)) (vK bs (rN y) z42 - z51).toNat = dFl bs (t0N bs (rN y) z42 + (1 : Int)) (vK bs (rN y) z42 - z51).toNat ∧ dC0 bs (rN y) z42.toNat = dC0 bs (rN y) z42.toNat ∧ dDs bs (rN y) z42.toNat = dDs bs (rN y) z42.toNat ∧ [] = dDr bs (t0N bs (rN y) z42 + (2 : Int) + (5 : Int) * vK bs (rN y) z42) (qK bs (rN y) z42 - s58).toNat ∧ True) ∧ ∀ (z58 : Int), Tw (qK bs (rN y) z42) z58 → ∀ (b60 : Bool), b60 = decide ((0 : Int) < z58) → bif b60 then bif decide ((0 : Int) ≤ t0N bs (rN y) z42 + (2 : Int) + (5 : Int) * vK bs (rN y) z42 + (qK bs (rN y) z42 - z58) ∧ t0N bs (rN y) z42 + (2 : Int) + (5 : Int) * vK bs (rN y) z42 + (qK bs (rN y) z42 - z58) ≤ (1000 : Int) ∧ (1 : Int) ≤ (250 : Int) ∧ (250 : Int) ≤ (300 : Int)) then ∀ (z62 : Int), z62 = nx bs (t0N bs (rN y) z42 + (2 : Int) + (5 : Int) * vK bs (rN y) z42 + (qK bs (rN y) z42 - z58) + (1 : Int)) (250 : Int) → ∀ (z64 : Int), z64 = z62 → bif decide (lenI (dDr bs (t0N bs (rN y) z42 + (2 : Int) + (5 : Int) * vK bs (rN y) z42) (qK bs (rN y) z42 - z58).toNat) ≤ (8796093022208 : Int)) then ∀ (z66 : Int), z66 = z58 - (1 : Int) → ∃ (s69 : Int), Tw (qK bs (rN y) z42) s69 ∧ s69.toNat < z58.toNat ∧ (z66 = s69 ∧ (0 : Int) ≤ s69 ∧ s69 ≤ (100 : Int)) ∧ True ∧ (True ∧ (x = x ∧ True) ∧ (y = y ∧ True) ∧ (z = z ∧ True) ∧ (t0N bs (rN y) z42 + (2 : Int) + (5 : Int) * vK bs (rN y) z42 + (qK bs (rN y) z42 - z58) + (1 : Int) = t0N bs (rN y) z42 + (2 : Int) + (5 : Int) * vK bs (rN y) z42 + (qK bs (rN y) z42 - s69) ∧ True) ∧ True) ∧ (Value.slice none (0 : Nat) (0 : Nat) = Value.slice none (0 : Nat) (0 : Nat) ∧ Value.slice none (0 : Nat) (0 : Nat) = Value.slice none (0 : Nat) (0 : Nat) ∧ Value.slice none (0 : Nat) (0 : Nat) = Value.slice none (0 : Nat) (0 : Nat) ∧ (0 : Int) = (0 : Int) ∧ (0 : Int) = (0 : Int) ∧ (0 : Int) = (0 : Int) ∧ Value.slice none (0 : Nat) (0 : Nat) = Value.slice none (0 : Nat) (0 : Nat) ∧ True) ∧ (True ∧ True ∧ Value.slice none (0 : Nat) (0 : Nat) = Value.slice none (0 : Nat) (0 : Nat) ∧ (aN z = aN z ∧ True) ∧ (bN z = bN z ∧ True) ∧ (sN z = sN z ∧ True) ∧ True ∧ True) ∧ (True ∧ Value.slice none (0 : Nat) (0 : Nat) = Value.slice none (0 : Nat) (0 : Nat) ∧ True) ∧ bs = bs ∧ dTs bs (rN y).toNat = dTs bs (rN y).toNat ∧ True ∧ True ∧ dFl bs (t0N bs (rN y) z42 + (1 : Int)) (vK bs (rN y) z42 - z51).toNat = dFl bs (t0N bs (rN y) z42 + (1 : Int)) (vK bs (rN y) z42 - z51).toNat ∧ dC0 bs (rN y) z42.toNat = dC0 bs (rN y) z42.toNat ∧ dDs bs (rN y) z42.toNat = dDs bs (rN y) z42.toNat ∧ dDr bs (t0N bs (rN y) z42 + (2 : Int) + (5 : Int) * vK bs (rN y) z42) (qK bs (rN y) z42 - z58).toNat ++ [[Value.int IntKind.u64 z64]] = dDr bs (t0N bs (rN y) z42 + (2 : Int) + (5 : Int) * vK bs (rN y) z42) (qK bs (rN y) z42 - s69).toNat ∧ True else False else False else bif decide ((↑(List.length (dC0 bs (rN y) z42.toNat)) : Int) ≤ (1466015503701 : Int)) then bif decide ((↑(List.length (dDs bs (rN y) z42.toNat)) : Int) ≤ (2932031007402 : Int)) then ∀ (z62 : Int), z62 = z42 + (1 : Int) → ∃ (s65 : Int), Tw (cN x) s65 ∧ twMu (cN x) s65 < twMu (cN x) z42 ∧ (z62 = s65 ∧ (0 : Int) ≤ s65 ∧ s65 ≤ (100 : Int)) ∧ (True ∧ (x = x ∧ True) ∧ (y = y ∧ True) ∧ (z = z ∧ True) ∧ (t0N bs (rN y) z42 + (2 : Int) + (5 : Int) * vK bs (rN y) z42 + (qK bs (rN y) z42 - z58) = t0N bs (rN y) s65 ∧ True) ∧ True) ∧ (True ∧ True ∧ Value.slice none (0 : Nat) (0 : Nat) = Value.slice none (0 : Nat) (0 : Nat) ∧ (aN z = aN z ∧ True) ∧ (bN z = bN z ∧ True) ∧ (sN z = sN z ∧ True) ∧ True ∧ True) ∧ (Value.slice none (0 : Nat) (0 : Nat) = Value.slice none (0 : Nat) (0 : Nat) ∧ Value.slice none (0 : Nat) (0 : Nat) = Value.slice none (0 : Nat) (0 : Nat) ∧ Value.slice none (0 : Nat) (0 : Nat) = Value.slice none (0 : Nat) (0 : Nat) ∧ (0 : Int) = (0 : Int) ∧ (0 : Int) = (0 : Int) ∧ (0 : Int) = (0 : Int) ∧ Value.slice none (0 : Nat) (0 : Nat) = Value.slice none (0 : Nat) (0 : Nat) ∧ True) ∧ bs = bs ∧ dTs bs (rN y).toNat = dTs bs (rN y).toNat ∧ dC0 bs (rN y) z42.toNat ++ [[dFl bs (t0N bs (rN y) z42 + (1 : Int)) (vK bs (rN y) z42 - z51).toNat, []]] = dC0 bs (rN y) s65.toNat ∧ True ∧ dDs bs (rN y) z42.toNat ++ [[dDr bs (t0N bs (rN y) z42 + (2 : Int) + (5 : Int) * vK bs (rN y) z42) (qK bs (rN y) z42 - z58).toNat]] = dDs bs (rN y) s65.toNat ∧ True ∧ True else False else False else False else False
 else
 ∃ (s47 : Int),
 Tw (rN y) s47 ∧
 (((0 : Int) = s47 ∧ (0 : Int) ≤ s47 ∧ s47 ≤ (100 : Int)) ∧ (True ∧ (x = x ∧ True) ∧ (y = y ∧ True) ∧ (z = z ∧ True) ∧ (t0N bs (rN y) z42 = l5T bs (rN y) (cN x) s47 ∧ True) ∧ True) ∧ (True ∧ True ∧ True ∧ (aN z = aN z ∧ True) ∧ (bN z = bN z ∧ True) ∧ (sN z = sN z ∧ True) ∧ True ∧ True) ∧ (Value.slice none (0 : Nat) (0 : Nat) = Value.slice none (0 : Nat) (0 : Nat) ∧ Value.slice none (0 : Nat) (0 : Nat) = Value.slice none (0 : Nat) (0 : Nat) ∧ Value.slice none (0 : Nat) (0 : Nat) = Value.slice none (0 : Nat) (0 : Nat) ∧ (0 : Int) = (0 : Int) ∧ (0 : Int) = (0 : Int) ∧ (0 : Int) = (0 : Int) ∧ Value.slice none (0 : Nat) (0 : Nat) = Value.slice none (0 : Nat) (0 : Nat) ∧ True) ∧ bs = bs ∧ dTs bs (rN y).toNat = dTs bs (rN y).toNat ∧ dC0 bs (rN y) z42.toNat = dCs bs (rN y) (cN x) s47.toNat ∧ True ∧ dDs bs (rN y) z42.toNat = dDs bs (rN y) (cN x).toNat ∧ True ∧ [] = dLs bs (cT bs (rN y) (cN x).toNat) s47.toNat ∧ True) ∧
 ∀ (z47 : Int),
 Tw (rN y) z47 →
 ∀ (b49 : Bool),
 b49 = decide (z47 < z34) →
 bif b49 then
 bif decide ((0 : Int) ≤ l5T bs (rN y) (cN x) z47 ∧ l5T bs (rN y) (cN x) z47 ≤ (1000 : Int) ∧ (1 : Int) ≤ z30 ∧ z30 ≤ (300 : Int)) then
 ∀ (z51 : Int),
 z51 = nx bs (l5T bs (rN y) (cN x) z47 + (1 : Int)) z30 →
 bif decide ((0 : Int) ≤ z51) && decide (z51 < (↑(List.length (dCs bs (rN y) (cN x) z47.toNat)) : Int)) then
 bif
 decide
 (lenI
 (List.getD ((List.getD (dCs bs (rN y) (cN x) z47.toNat) z51.toNat [])) ((1 : Nat)) []) ≤
 (8796093022208 : Int)) then
 bif decide ((0 : Int) ≤ z51) && decide (z51 < (↑(List.length (dCs bs (rN y) (cN x) z47.toNat)) : Int)) then
 bif decide (z51.toNat * (2 : Nat) + (1 : Nat) = z51.toNat * (2 : Nat) + (1 : Nat)) then
 ∀ (z53 : Int),
 z53 = (↑(List.length (dLs bs (cT bs (rN y) (cN x).toNat) z47.toNat)) : Int) →
 ∀ (b55 : Bool),
 b55 = decide (z53 < (16 : Int)) →
 bif b55 then
 bif b55 then
 bif decide ((0 : Int) ≤ l5T bs (rN y) (cN x) z47 + (1 : Int) ∧ l5T bs (rN y) (cN x) z47 + (1 : Int) ≤ (1000 : Int) ∧ (1 : Int) ≤ (3 : Int) ∧ (3 : Int) ≤ (300 : Int)) then
 ∀ (z57 : Int),
 z57 = nx bs (l5T bs (rN y) (cN x) z47 + (1 : Int) + (1 : Int)) (3 : Int) →
 ∀ (b59 : Bool),
 b59 = decide ((0 : Int) < z57) →
 ∀ (b61 : Bool),
 b61 = b59 →
 bif b61 then
 bif decide ((0 : Int) ≤ l5T bs (rN y) (cN x) z47 + (1 : Int) + (1 : Int) ∧ l5T bs (rN y) (cN x) z47 + (1 : Int) + (1 : Int) ≤ (1000 : Int) ∧ (1 : Int) ≤ (250 : Int) ∧ (250 : Int) ≤ (300 : Int)) then
 ∀ (z63 : Int),
 z63 = nx bs (l5T bs (rN y) (cN x) z47 + (1 : Int) + (1 : Int) + (1 : Int)) (250 : Int) →
 bif decide (lenI (dLs bs (cT bs (rN y) (cN x).toNat) z47.toNat) ≤ (4398046511104 : Int)) then
 ∀ (z65 : Int),
 z65 = z47 + (1 : Int) →
 ∃ (s68 : Int),
 Tw (rN y) s68 ∧
 twMu (rN y) s68 < twMu (rN y) z47 ∧
 (z65 = s68 ∧ (0 : Int) ≤ s68 ∧ s68 ≤ (100 : Int)) ∧
 (True ∧ (x = x ∧ True) ∧ (y = y ∧ True) ∧ (z = z ∧ True) ∧ (l5T bs (rN y) (cN x) z47 + (1 : Int) + (1 : Int) + (1 : Int) = l5T bs (rN y) (cN x) s68 ∧ True) ∧ True) ∧
 (True ∧ True ∧ True ∧ (aN z = aN z ∧ True) ∧ (bN z = bN z ∧ True) ∧ (sN z = sN z ∧ True) ∧ True ∧ True) ∧
 (Value.slice none (0 : Nat) (0 : Nat) = Value.slice none (0 : Nat) (0 : Nat) ∧ Value.slice none (0 : Nat) (0 : Nat) = Value.slice none (0 : Nat) (0 : Nat) ∧ Value.slice none (0 : Nat) (0 : Nat) = Value.slice none (0 : Nat) (0 : Nat) ∧ (0 : Int) = (0 : Int) ∧ (0 : Int) = (0 : Int) ∧ (0 : Int) = (0 : Int) ∧ Value.slice none (0 : Nat) (0 : Nat) = Value.slice none (0 : Nat) (0 : Nat) ∧ True) ∧
 bs = bs ∧
 dTs bs (rN y).toNat = dTs bs (rN y).toNat ∧
 List.set (dCs bs (rN y) (cN x) z47.toNat) z51.toNat
 (List.take (1 : Nat)
 (List.getD ((dCs bs (rN y) (cN x) z47.toNat)) (z51.toNat) []) ++
 [(List.getD ((List.getD (dCs bs (rN y) (cN x) z47.toNat) z51.toNat [])) ((1 : Nat)) []) ++
 [[Value.int IntKind.i64 z47]]] ++
 List.drop
 ((1 : Nat) +
 [(List.getD ((List.getD (dCs bs (rN y) (cN x) z47.toNat) z51.toNat [])) ((1 : Nat)) []) ++
 [[Value.int IntKind.i64 z47]]].length)
 (List.getD ((dCs bs (rN y) (cN x) z47.toNat)) (z51.toNat) [])) =
 dCs bs (rN y) (cN x) s68.toNat ∧
 True ∧ dDs bs (rN y) (cN x).toNat = dDs bs (rN y) (cN x).toNat ∧ True ∧ dLs bs (cT bs (rN y) (cN x).toNat) z47.toNat ++ [[Value.int IntKind.i64 z47, Value.int IntKind.i64 z63]] = dLs bs (cT bs (rN y) (cN x).toNat) s68.toNat ∧ True
 else False
 else False
 else
 ∀ (z63 : Int),
 z63 = z47 + (1 : Int) →
 ∃ (s66 : Int),
 Tw (rN y) s66 ∧
 twMu (rN y) s66 < twMu (rN y) z47 ∧
 (z63 = s66 ∧ (0 : Int) ≤ s66 ∧ s66 ≤ (100 : Int)) ∧
 (True ∧ (x = x ∧ True) ∧ (y = y ∧ True) ∧ (z = z ∧ True) ∧ (l5T bs (rN y) (cN x) z47 + (1 : Int) + (1 : Int) = l5T bs (rN y) (cN x) s66 ∧ True) ∧ True) ∧
 (True ∧ True ∧ True ∧ (aN z = aN z ∧ True) ∧ (bN z = bN z ∧ True) ∧ (sN z = sN z ∧ True) ∧ True ∧ True) ∧
 (Value.slice none (0 : Nat) (0 : Nat) = Value.slice none (0 : Nat) (0 : Nat) ∧ Value.slice none (0 : Nat) (0 : Nat) = Value.slice none (0 : Nat) (0 : Nat) ∧ Value.slice none (0 : Nat) (0 : Nat) = Value.slice none (0 : Nat) (0 : Nat) ∧ (0 : Int) = (0 : Int) ∧ (0 : Int) = (0 : Int) ∧ (0 : Int) = (0 : Int) ∧ Value.slice none (0 : Nat) (0 : Nat) = Value.slice none (0 : Nat) (0 : Nat) ∧ True) ∧
 bs = bs ∧
 dTs bs (rN y).toNat = dTs bs (rN y).toNat ∧
 List.set (dCs bs (rN y) (cN x) z47.toNat) z51.toNat
 (List.take (1 : Nat)
 (List.getD ((dCs bs (rN y) (cN x) z47.toNat)) (z51.toNat) []) ++
 [(List.getD ((List.getD (dCs bs (rN y) (cN x) z47.toNat) z51.toNat [])) ((1 : Nat)) []) ++
 [[Value.int IntKind.i64 z47]]] ++
 List.drop
 ((1 : Nat) +
 [(List.getD ((List.getD (dCs bs (rN y) (cN x) z47.toNat) z51.toNat [])) ((1 : Nat)) []) ++
 [[Value.int IntKind.i64 z47]]].length)
 (List.getD ((dCs bs (rN y) (cN x) z47.toNat)) (z51.toNat) [])) =
 dCs bs (rN y) (cN x) s66.toNat ∧
 True ∧ dDs bs (rN y) (cN x).toNat = dDs bs (rN y) (cN x).toNat ∧ True ∧ dLs bs (cT bs (rN y) (cN x).toNat) z47.toNat = dLs bs (cT bs (rN y) (cN x).toNat) s66.toNat ∧ True
 else False
 else False
 else
 ∀ (z57 : Int),
 z57 = z47 + (1 : Int) →
 ∃ (s60 : Int),
 Tw (rN y) s60 ∧
 twMu (rN y) s60 < twMu (rN y) z47 ∧
 (z57 = s60 ∧ (0 : Int) ≤ s60 ∧ s60 ≤ (100 : Int)) ∧
 (True ∧ (x = x ∧ True) ∧ (y = y ∧ True) ∧ (z = z ∧ True) ∧ (l5T bs (rN y) (cN x) z47 + (1 : Int) = l5T bs (rN y) (cN x) s60 ∧ True) ∧ True) ∧
 (True ∧ True ∧ True ∧ (aN z = aN z ∧ True) ∧ (bN z = bN z ∧ True) ∧ (sN z = sN z ∧ True) ∧ True ∧ True) ∧
 (Value.slice none (0 : Nat) (0 : Nat) = Value.slice none (0 : Nat) (0 : Nat) ∧ Value.slice none (0 : Nat) (0 : Nat) = Value.slice none (0 : Nat) (0 : Nat) ∧ Value.slice none (0 : Nat) (0 : Nat) = Value.slice none (0 : Nat) (0 : Nat) ∧ (0 : Int) = (0 : Int) ∧ (0 : Int) = (0 : Int) ∧ (0 : Int) = (0 : Int) ∧ Value.slice none (0 : Nat) (0 : Nat) = Value.slice none (0 : Nat) (0 : Nat) ∧ True) ∧
 bs = bs ∧
 dTs bs (rN y).toNat = dTs bs (rN y).toNat ∧
 List.set (dCs bs (rN y) (cN x) z47.toNat) z51.toNat
 (List.take (1 : Nat)
 (List.getD ((dCs bs (rN y) (cN x) z47.toNat)) (z51.toNat) []) ++
 [(List.getD ((List.getD (dCs bs (rN y) (cN x) z47.toNat) z51.toNat [])) ((1 : Nat)) []) ++
 [[Value.int IntKind.i64 z47]]] ++
 List.drop
 ((1 : Nat) +
 [(List.getD ((List.getD (dCs bs (rN y) (cN x) z47.toNat) z51.toNat [])) ((1 : Nat)) []) ++
 [[Value.int IntKind.i64 z47]]].length)
 (List.getD ((dCs bs (rN y) (cN x) z47.toNat)) (z51.toNat) [])) =
 dCs bs (rN y) (cN x) s60.toNat ∧
 True ∧ dDs bs (rN y) (cN x).toNat = dDs bs (rN y) (cN x).toNat ∧ True ∧ dLs bs (cT bs (rN y) (cN x).toNat) z47.toNat = dLs bs (cT bs (rN y) (cN x).toNat) s60.toNat ∧ True
 else False
 else False
 else False
 else False
 else False
 else (True ∧ True ∧ True ∧ (aN z = aN z ∧ True) ∧ (bN z = bN z ∧ True) ∧ (sN z = sN z ∧ True) ∧ True ∧ True) ∧ (True ∧ (x = x ∧ True) ∧ (y = y ∧ True) ∧ (z = z ∧ True) ∧ (l5T bs (rN y) (cN x) z47 = l5T bs (rN y) (cN x) (rN y) ∧ True) ∧ True) ∧ dTs bs (rN y).toNat = dTs bs (rN y).toNat ∧ dCs bs (rN y) (cN x) z47.toNat = dCs bs (rN y) (cN x) (rN y).toNat ∧ True ∧ dDs bs (rN y) (cN x).toNat = dDs bs (rN y) (cN x).toNat ∧ True ∧ dLs bs (cT bs (rN y) (cN x).toNat) z47.toNat = dLs bs (cT bs (rN y) (cN x).toNat) (rN y).toNat ∧ True) := by kernel_rfl
end Go.Proofs.YtafmknblnamegaaDoor
