/- The engine's normal forms of these functions. No condition. -/
import Derived.Test.YtafmknblnamegaaDoorU5CCtr
namespace Go.Proofs.YtafmknblnamegaaDoor
open Go.Eng
set_option maxRecDepth 1000000 in
theorem tCk (ts : Rw) (cs : Fm) (ls : Rw) (a b d : Int) (ds : Nat) : (fnS Tryd.prog G18 (ckL ts cs ls) 100 11 [scA a b d] [.ror RK ts false, .rfm CF cs, .rof 1, .ror LK ls false, .opq ds] (fitOut ({ need := [], val := .er (decide ((ckF ts cs ls a b d ds).c = 0)) 87 true 1000000, news := [.row 43 FK (flR (ckF ts cs ls a b d ds))] }))) =
(∀ (z8 : Int),
 z8 = (↑(List.length ts) : Int) →
 ∀ (b10 : Bool),
 b10 = decide (z8 ≤ (64 : Int)) →
 bif b10 || !b10 then
 bif b10 || !b10 then
 bif b10 || !b10 then
 bif b10 || !b10 then
 bif b10 || !b10 then
 ∀ (z12 : Int),
 z12 = (↑(List.length cs) : Int) →
 bif b10 || !b10 then
 ∀ (b14 : Bool),
 b14 = decide ((1 : Int) ≤ z12 ∧ z12 ≤ (8 : Int)) →
 bif bif b10 then b10 else true then
 bif bif b10 then true else true then
 ∀ (b16 : Bool),
 (b16 = bif b10 then b14 else false) →
 bif b16 || !b16 then
 bif b16 || !b16 then
 bif b16 || !b16 then
 bif b16 || !b16 then
 bif b16 || !b16 then
 ∀ (z18 : Int),
 z18 = (↑(List.length ls) : Int) →
 bif b16 || !b16 then
 ∀ (b20 : Bool),
 b20 = decide (z18 ≤ (16 : Int)) →
 bif bif b16 then b16 else true then
 bif bif b16 then true else true then
 ∀ (b22 : Bool),
 (b22 = bif b16 then b20 else false) →
 bif b22 || !b22 then
 bif b22 || !b22 then
 bif b22 || !b22 then
 bif b22 || !b22 then
 bif b22 || !b22 then
 ∀ (z24 : Int),
 z24 = (↑ds : Int) →
 bif b22 || !b22 then
 bif b22 || !b22 then
 bif b22 || !b22 then
 bif b22 || !b22 then
 bif b22 || !b22 then
 ∀ (z26 : Int),
 z26 = (↑(List.length cs) : Int) →
 bif b22 || !b22 then
 bif b22 || !b22 then
 ∀ (b28 : Bool),
 b28 = decide (z24 = z26) →
 bif bif b22 then b22 else true then
 bif bif b22 then true else true then
 ∀ (b30 : Bool),
 (b30 = bif b22 then b28 else false) →
 ∀ (b32 : Bool),
 b32 = !b30 →
 ∀ (z34 : Int),
 (z34 = bif b32 then (11 : Int) else (0 : Int)) →
 ∀ (b36 : Bool),
 b36 = !decide (z34 = (0 : Int)) →
 bif b36 then false = decide ((ckF ts cs ls a b d ds).c = (0 : Int)) ∧ [[Value.int IntKind.i64 z34, Value.int IntKind.i64 (0 : Int), Value.int IntKind.i64 (0 : Int)]] = flR (ckF ts cs ls a b d ds) ∧ True
 else
 ∀ (z38 : Int),
 z38 = (↑(List.length cs) : Int) →
 ∃ (s41 : Int),
 CtI cs s41 ∧
 (((0 : Int) = s41 ∧ (0 : Int) ≤ s41 ∧ s41 ≤ (9223372036854775807 : Int)) ∧ True ∧ (True ∧ True) ∧ True ∧ ts = ts ∧ True ∧ ls = ls ∧ ds = ds ∧ (True ∧ True ∧ True ∧ (a = a ∧ True) ∧ (b = b ∧ True) ∧ (d = d ∧ True) ∧ True ∧ True) ∧ (Value.nilIface = Value.nilIface ∧ True) ∧ (True ∧ True ∧ True ∧ (a = a ∧ True) ∧ (b = b ∧ True) ∧ (d = d ∧ True) ∧ True ∧ True ∧ True ∧ True) ∧ ((0 : Int) = (0 : Int) ∧ True) ∧ ([] : List (Int × List Value)) = [] ∧ ([] : List (Int × List Value)) = [] ∧ (SV.fn (Fn.func (24 : Nat)) [SV.ptr (9 : Nat) (0 : Nat)] [] = SV.fn (Fn.func (24 : Nat)) [SV.ptr (9 : Nat) (0 : Nat)] [] ∧ SV.fn (Fn.func (25 : Nat)) [SV.ptr (9 : Nat) (0 : Nat)] [] = SV.fn (Fn.func (25 : Nat)) [SV.ptr (9 : Nat) (0 : Nat)] [] ∧ SV.fn (Fn.func (26 : Nat)) [SV.ptr (9 : Nat) (0 : Nat)] [] = SV.fn (Fn.func (26 : Nat)) [SV.ptr (9 : Nat) (0 : Nat)] [] ∧ SV.fn (Fn.func (27 : Nat)) [SV.ptr (9 : Nat) (0 : Nat)] [] = SV.fn (Fn.func (27 : Nat)) [SV.ptr (9 : Nat) (0 : Nat)] [] ∧ True) ∧ cs = cs ∧ True) ∧
 ∀ (z41 : Int),
 CtI cs z41 →
 ∀ (b43 : Bool),
 b43 = decide (z41 < z38) →
 bif b43 then
 bif decide ((0 : Int) ≤ z41) && decide (z41 < (↑(List.length cs) : Int)) then
 ∀ (z45 : Int),
 z45 =
 (↑(List.getD ((List.getD cs z41.toNat [])) ((0 : Nat)) []).length :
 Int) →
 ∀ (b47 : Bool), b47 = decide ((1 : Int) ≤ z45 ∧ z45 ≤ (4 : Int)) → ∀ (b49 : Bool), b49 = !b47 → ∀ (z51 : Int), (z51 = bif b49 then (11 : Int) else (0 : Int)) → ∀ (b53 : Bool), b53 = !decide (z51 = (0 : Int)) → bif b53 then false = decide ((ckF ts cs ls a b d ds).c = (0 : Int)) ∧ [[Value.int IntKind.i64 z51, Value.int IntKind.i64 (0 : Int), Value.int IntKind.i64 z41]] = flR (ckF ts cs ls a b d ds) ∧ True else ∀ (z55 : Int), z55 = IntKind.i64.wrap (z41 + (1 : Int)) → ∃ (s58 : Int), CtI cs s58 ∧ ctMu cs s58 < ctMu cs z41 ∧ (z55 = s58 ∧ (0 : Int) ≤ s58 ∧ s58 ≤ (9223372036854775807 : Int)) ∧ True ∧ (True ∧ True) ∧ True ∧ ts = ts ∧ True ∧ ls = ls ∧ ds = ds ∧ (True ∧ True ∧ True ∧ (a = a ∧ True) ∧ (b = b ∧ True) ∧ (d = d ∧ True) ∧ True ∧ True) ∧ (Value.nilIface = Value.nilIface ∧ True) ∧ (True ∧ True ∧ True ∧ (a = a ∧ True) ∧ (b = b ∧ True) ∧ (d = d ∧ True) ∧ True ∧ True ∧ True ∧ True) ∧ ((0 : Int) = (0 : Int) ∧ True) ∧ ([] : List (Int × List Value)) = [] ∧ ([] : List (Int × List Value)) = [] ∧ (SV.fn (Fn.func (24 : Nat)) [SV.ptr (9 : Nat) (0 : Nat)] [] = SV.fn (Fn.func (24 : Nat)) [SV.ptr (9 : Nat) (0 : Nat)] [] ∧ SV.fn (Fn.func (25 : Nat)) [SV.ptr (9 : Nat) (0 : Nat)] [] = SV.fn (Fn.func (25 : Nat)) [SV.ptr (9 : Nat) (0 : Nat)] [] ∧ SV.fn (Fn.func (26 : Nat)) [SV.ptr (9 : Nat) (0 : Nat)] [] = SV.fn (Fn.func (26 : Nat)) [SV.ptr (9 : Nat) (0 : Nat)] [] ∧ SV.fn (Fn.func (27 : Nat)) [SV.ptr (9 : Nat) (0 : Nat)] [] = SV.fn (Fn.func (27 : Nat)) [SV.ptr (9 : Nat) (0 : Nat)] [] ∧ True) ∧ cs = cs ∧ True
 else False
 else
 ∀ (b45 : Bool),
 b45 = decide ((1 : Int) ≤ a ∧ a ≤ (64 : Int)) →
 bif b45 || !b45 then
 bif b45 || !b45 then
 bif b45 || !b45 then
 bif b45 || !b45 then
 bif b45 || !b45 then
 ∀ (b47 : Bool),
 b47 = decide ((1 : Int) ≤ b ∧ b ≤ (64 : Int)) →
 bif bif b45 then b45 else true then
 bif bif b45 then true else true then
 ∀ (b49 : Bool),
 (b49 = bif b45 then b47 else false) →
 bif b49 || !b49 then
 bif b49 || !b49 then
 bif b49 || !b49 then
 bif b49 || !b49 then
 bif b49 || !b49 then
 ∀ (b51 : Bool),
 b51 = decide ((0 : Int) ≤ d ∧ d ≤ (1 : Int)) →
 bif bif b49 then b49 else true then
 bif bif b49 then true else true then
 ∀ (b53 : Bool),
 (b53 = bif b49 then b51 else false) →
 ∀ (b55 : Bool),
 b55 = !b53 →
 ∀ (z57 : Int),
 (z57 = bif b55 then (2 : Int) else (0 : Int)) →
 ∀ (b59 : Bool),
 b59 = !decide (z57 = (0 : Int)) →
 bif b59 then false = decide ((ckF ts cs ls a b d ds).c = (0 : Int)) ∧ [[Value.int IntKind.i64 z57, Value.int IntKind.i64 (0 : Int), Value.int IntKind.i64 (0 : Int)]] = flR (ckF ts cs ls a b d ds) ∧ True
 else
 ∀ (z61 : Int),
 z61 = (↑(List.length ts) : Int) →
 ∃ (s64 : Int),
 RqI ts s64 ∧
 (((0 : Int) = s64 ∧ (0 : Int) ≤ s64 ∧ s64 ≤ (9223372036854775807 : Int)) ∧ True ∧ (True ∧ True) ∧ True ∧ ts = ts ∧ True ∧ ls = ls ∧ ds = ds ∧ (True ∧ True ∧ True ∧ (a = a ∧ True) ∧ (b = b ∧ True) ∧ (d = d ∧ True) ∧ True ∧ True) ∧ (Value.nilIface = Value.nilIface ∧ True) ∧ (True ∧ True ∧ True ∧ (a = a ∧ True) ∧ (b = b ∧ True) ∧ (d = d ∧ True) ∧ True ∧ True ∧ True ∧ True) ∧ ((1 : Int) = (1 : Int) ∧ True) ∧ ([] : List (Int × List Value)) = [] ∧ ([] : List (Int × List Value)) = [] ∧ (SV.fn (Fn.func (24 : Nat)) [SV.ptr (9 : Nat) (0 : Nat)] [] = SV.fn (Fn.func (24 : Nat)) [SV.ptr (9 : Nat) (0 : Nat)] [] ∧ SV.fn (Fn.func (25 : Nat)) [SV.ptr (9 : Nat) (0 : Nat)] [] = SV.fn (Fn.func (25 : Nat)) [SV.ptr (9 : Nat) (0 : Nat)] [] ∧ SV.fn (Fn.func (26 : Nat)) [SV.ptr (9 : Nat) (0 : Nat)] [] = SV.fn (Fn.func (26 : Nat)) [SV.ptr (9 : Nat) (0 : Nat)] [] ∧ SV.fn (Fn.func (27 : Nat)) [SV.ptr (9 : Nat) (0 : Nat)] [] = SV.fn (Fn.func (27 : Nat)) [SV.ptr (9 : Nat) (0 : Nat)] [] ∧ True) ∧ cs = cs ∧ True ∧ True) ∧
 ∀ (z64 : Int),
 RqI ts z64 →
 ∀ (b66 : Bool),
 b66 = decide (z64 < z61) →
 bif b66 then bif decide ((0 : Int) ≤ z64) && decide (z64 < (↑(List.length ts) : Int)) then ∀ (z68 : Int), z68 = geti (List.getD ts z64.toNat []) (0 : Nat) → ∀ (z70 : Int), z70 = geti (List.getD ts z64.toNat []) (1 : Nat) → ∀ (z72 : Int), z72 = geti (List.getD ts z64.toNat []) (2 : Nat) → ∀ (z74 : Int), z74 = geti (List.getD ts z64.toNat []) (3 : Nat) → ∀ (z76 : Int), z76 = geti (List.getD ts z64.toNat []) (4 : Nat) → ∀ (z78 : Int), z78 = geti (List.getD ts z64.toNat []) (5 : Nat) → ∀ (z80 : Int), z80 = geti (List.getD ts z64.toNat []) (6 : Nat) → ∀ (z82 : Int), z82 = geti (List.getD ts z64.toNat []) (7 : Nat) → ∀ (z84 : Int), z84 = geti (List.getD ts z64.toNat []) (8 : Nat) → ∀ (z86 : Int), z86 = geti (List.getD ts z64.toNat []) (9 : Nat) → ∀ (z88 : Int), z88 = chk z68 z70 z72 z74 z76 z78 z80 z82 z84 z86 → ∀ (b90 : Bool), b90 = !decide (z88 = (0 : Int)) → bif b90 then false = decide ((ckF ts cs ls a b d ds).c = (0 : Int)) ∧ [[Value.int IntKind.i64 z88, Value.int IntKind.i64 (1 : Int), Value.int IntKind.i64 z64]] = flR (ckF ts cs ls a b d ds) ∧ True else ∀ (z92 : Int), z92 = IntKind.i64.wrap (z64 + (1 : Int)) → ∃ (s95 : Int), RqI ts s95 ∧ rwMu ts s95 < rwMu ts z64 ∧ (z92 = s95 ∧ (0 : Int) ≤ s95 ∧ s95 ≤ (9223372036854775807 : Int)) ∧ True ∧ (True ∧ True) ∧ True ∧ ts = ts ∧ True ∧ ls = ls ∧ ds = ds ∧ (True ∧ True ∧ True ∧ (a = a ∧ True) ∧ (b = b ∧ True) ∧ (d = d ∧ True) ∧ True ∧ True) ∧ (Value.nilIface = Value.nilIface ∧ True) ∧ (True ∧ True ∧ True ∧ (a = a ∧ True) ∧ (b = b ∧ True) ∧ (d = d ∧ True) ∧ True ∧ True ∧ True ∧ True) ∧ ((1 : Int) = (1 : Int) ∧ True) ∧ ([] : List (Int × List Value)) = [] ∧ ([] : List (Int × List Value)) = [] ∧ (SV.fn (Fn.func (24 : Nat)) [SV.ptr (9 : Nat) (0 : Nat)] [] = SV.fn (Fn.func (24 : Nat)) [SV.ptr (9 : Nat) (0 : Nat)] [] ∧ SV.fn (Fn.func (25 : Nat)) [SV.ptr (9 : Nat) (0 : Nat)] [] = SV.fn (Fn.func (25 : Nat)) [SV.ptr (9 : Nat) (0 : Nat)] [] ∧ SV.fn (Fn.func (26 : Nat)) [SV.ptr (9 : Nat) (0 : Nat)] [] = SV.fn (Fn.func (26 : Nat)) [SV.ptr (9 : Nat) (0 : Nat)] [] ∧ SV.fn (Fn.func (27 : Nat)) [SV.ptr (9 : Nat) (0 : Nat)] [] = SV.fn (Fn.func (27 : Nat)) [SV.ptr (9 : Nat) (0 : Nat)] [] ∧ True) ∧ cs = cs ∧ True ∧ True else False
 else
 ∀ (z68 : Int),
 z68 = (↑(List.length cs) : Int) →
 ∃ (s71 : CaS),
 CaI ts cs s71 ∧
 (((0 : Int) = s71.k ∧ (0 : Int) ≤ s71.k ∧ s71.k ≤ (9223372036854775807 : Int)) ∧ [] = s71.2 ∧ True ∧ (True ∧ True) ∧ True ∧ ts = ts ∧ True ∧ ls = ls ∧ ds = ds ∧ (True ∧ True ∧ True ∧ (a = a ∧ True) ∧ (b = b ∧ True) ∧ (d = d ∧ True) ∧ True ∧ True) ∧ (Value.nilIface = Value.nilIface ∧ True) ∧ (True ∧ True ∧ True ∧ (a = a ∧ True) ∧ (b = b ∧ True) ∧ (d = d ∧ True) ∧ True ∧ True ∧ True ∧ True) ∧ ((2 : Int) = (2 : Int) ∧ True) ∧ ([] : List (Int × List Value)) = [] ∧ (SV.fn (Fn.func (24 : Nat)) [SV.ptr (9 : Nat) (0 : Nat)] [] = SV.fn (Fn.func (24 : Nat)) [SV.ptr (9 : Nat) (0 : Nat)] [] ∧ SV.fn (Fn.func (25 : Nat)) [SV.ptr (9 : Nat) (0 : Nat)] [] = SV.fn (Fn.func (25 : Nat)) [SV.ptr (9 : Nat) (0 : Nat)] [] ∧ SV.fn (Fn.func (26 : Nat)) [SV.ptr (9 : Nat) (0 : Nat)] [] = SV.fn (Fn.func (26 : Nat)) [SV.ptr (9 : Nat) (0 : Nat)] [] ∧ SV.fn (Fn.func (27 : Nat)) [SV.ptr (9 : Nat) (0 : Nat)] [] = SV.fn (Fn.func (27 : Nat)) [SV.ptr (9 : Nat) (0 : Nat)] [] ∧ True) ∧ cs = cs ∧ True ∧ True ∧ True) ∧
 ∀ (z71 : CaS),
 CaI ts cs z71 →
 ∀ (b73 : Bool),
 b73 = decide (z71.k < z68) →
 bif b73 then
 bif decide ((0 : Int) ≤ z71.k) && decide (z71.k < (↑(List.length cs) : Int)) then
 ∀ (z75 : Int),
 z75 =
 (↑(List.getD ((List.getD cs z71.k.toNat [])) ((0 : Nat)) []).length :
 Int) →
 ∃ (s78 : Int),
 VeI cs z71.1 s78 ∧
 (((0 : Int) = s78 ∧ (0 : Int) ≤ s78 ∧ s78 ≤ (9223372036854775807 : Int)) ∧
 True ∧
 (True ∧ True) ∧
 (True ∧ True ∧ True) ∧
 ((List.getD ((List.getD cs z71.k.toNat [])) ((0 : Nat)) []) =
 List.getD ((List.getD cs z71.k.toNat [])) ((0 : Nat)) []) ∧
 True ∧
 ts = ts ∧
 True ∧
 ls = ls ∧
 ds = ds ∧
 (True ∧ True ∧ True ∧ (a = a ∧ True) ∧ (b = b ∧ True) ∧ (d = d ∧ True) ∧ True ∧ True) ∧
 (Value.nilIface = Value.nilIface ∧ True) ∧
 (True ∧ True ∧ True ∧ (a = a ∧ True) ∧ (b = b ∧ True) ∧ (d = d ∧ True) ∧ True ∧ True ∧ True ∧ True) ∧
 ((2 : Int) = (2 : Int) ∧ True) ∧
 z71.2 = z71.2 ∧
 ([] : List (Int × List Value)) = [] ∧
 (SV.fn (Fn.func (24 : Nat)) [SV.ptr (9 : Nat) (0 : Nat)] [] = SV.fn (Fn.func (24 : Nat)) [SV.ptr (9 : Nat) (0 : Nat)] [] ∧ SV.fn (Fn.func (25 : Nat)) [SV.ptr (9 : Nat) (0 : Nat)] [] = SV.fn (Fn.func (25 : Nat)) [SV.ptr (9 : Nat) (0 : Nat)] [] ∧ SV.fn (Fn.func (26 : Nat)) [SV.ptr (9 : Nat) (0 : Nat)] [] = SV.fn (Fn.func (26 : Nat)) [SV.ptr (9 : Nat) (0 : Nat)] [] ∧ SV.fn (Fn.func (27 : Nat)) [SV.ptr (9 : Nat) (0 : Nat)] [] = SV.fn (Fn.func (27 : Nat)) [SV.ptr (9 : Nat) (0 : Nat)] [] ∧ True) ∧
 ((List.getD ((List.getD cs z71.k.toNat [])) ((0 : Nat) + (1 : Nat)) []) =
 List.getD ((List.getD cs z71.k.toNat [])) ((0 : Nat) + (1 : Nat)) []) ∧
 cs = cs ∧ True ∧ True ∧ True) ∧
 ∀ (z78 : Int),
 VeI cs z71.1 z78 →
 ∀ (b80 : Bool),
 b80 = decide (z78 < z75) →
 bif b80 then
 bif
 decide ((0 : Int) ≤ z78) &&
 decide
 (z78 <
 (↑(List.getD ((List.getD cs z71.k.toNat [])) ((0 : Nat)) []).length :
 Int)) then
 ∀ (z82 : Int),
 z82 =
 geti
 ((List.getD ((List.getD cs z71.k.toNat [])) ((0 : Nat)) []).getD
 z78.toNat [])
 (0 : Nat) →
 ∀ (z84 : Int),
 z84 =
 geti
 ((List.getD ((List.getD cs z71.k.toNat [])) ((0 : Nat)) []).getD
 z78.toNat [])
 (1 : Nat) →
 ∀ (z86 : Int),
 z86 =
 geti
 ((List.getD ((List.getD cs z71.k.toNat [])) ((0 : Nat)) []).getD
 z78.toNat [])
 (2 : Nat) →
 ∀ (z88 : Int),
 z88 =
 geti
 ((List.getD ((List.getD cs z71.k.toNat [])) ((0 : Nat)) []).getD
 z78.toNat [])
 (3 : Nat) →
 ∀ (z90 : Int),
 z90 =
 geti
 ((List.getD ((List.getD cs z71.k.toNat [])) ((0 : Nat)) []).getD
 z78.toNat [])
 (4 : Nat) →
 ∀ (z92 : Int),
 z92 = veh z82 z84 z86 z88 z90 →
 ∀ (b94 : Bool),
 b94 = !decide (z92 = (0 : Int)) →
 bif b94 then false = decide ((ckF ts cs ls a b d ds).c = (0 : Int)) ∧ [[Value.int IntKind.i64 z92, Value.int IntKind.i64 (2 : Int), Value.int IntKind.i64 z71.k]] = flR (ckF ts cs ls a b d ds) ∧ True
 else
 ∀ (z96 : Int),
 z96 = IntKind.i64.wrap (z78 + (1 : Int)) →
 ∃ (s99 : Int),
 VeI cs z71.1 s99 ∧
 veMu cs z71.1 s99 < veMu cs z71.1 z78 ∧
 (z96 = s99 ∧ (0 : Int) ≤ s99 ∧ s99 ≤ (9223372036854775807 : Int)) ∧
 True ∧
 (True ∧ True) ∧
 (True ∧ True ∧ True) ∧
 ((List.getD ((List.getD cs z71.k.toNat [])) ((0 : Nat)) []) =
 List.getD ((List.getD cs z71.k.toNat [])) ((0 : Nat)) []) ∧
 True ∧
 ts = ts ∧
 True ∧
 ls = ls ∧
 ds = ds ∧
 (True ∧ True ∧ True ∧ (a = a ∧ True) ∧ (b = b ∧ True) ∧ (d = d ∧ True) ∧ True ∧ True) ∧
 (Value.nilIface = Value.nilIface ∧ True) ∧
 (True ∧ True ∧ True ∧ (a = a ∧ True) ∧ (b = b ∧ True) ∧ (d = d ∧ True) ∧ True ∧ True ∧ True ∧ True) ∧
 ((2 : Int) = (2 : Int) ∧ True) ∧
 z71.2 = z71.2 ∧
 ([] : List (Int × List Value)) = [] ∧
 (SV.fn (Fn.func (24 : Nat)) [SV.ptr (9 : Nat) (0 : Nat)] [] = SV.fn (Fn.func (24 : Nat)) [SV.ptr (9 : Nat) (0 : Nat)] [] ∧ SV.fn (Fn.func (25 : Nat)) [SV.ptr (9 : Nat) (0 : Nat)] [] = SV.fn (Fn.func (25 : Nat)) [SV.ptr (9 : Nat) (0 : Nat)] [] ∧ SV.fn (Fn.func (26 : Nat)) [SV.ptr (9 : Nat) (0 : Nat)] [] = SV.fn (Fn.func (26 : Nat)) [SV.ptr (9 : Nat) (0 : Nat)] [] ∧ SV.fn (Fn.func (27 : Nat)) [SV.ptr (9 : Nat) (0 : Nat)] [] = SV.fn (Fn.func (27 : Nat)) [SV.ptr (9 : Nat) (0 : Nat)] [] ∧ True) ∧
 ((List.getD ((List.getD cs z71.k.toNat [])) ((0 : Nat) + (1 : Nat)) []) =
 List.getD ((List.getD cs z71.k.toNat [])) ((0 : Nat) + (1 : Nat)) []) ∧
 cs = cs ∧ True ∧ True ∧ True
 else False
 else
 ∀ (z82 : Int),
 z82 =
 (↑(List.getD ((List.getD cs z71.k.toNat [])) ((0 : Nat) + (1 : Nat)) []).length :
 Int) →
 ∃ (s85 : CaS),
 OnI ts cs z71.1 s85 ∧
 (((0 : Int) = s85.k ∧ (0 : Int) ≤ s85.k ∧ s85.k ≤ (9223372036854775807 : Int)) ∧
 z71.2 = s85.2 ∧
 True ∧
 (True ∧ True) ∧
 ((List.getD ((List.getD cs z71.k.toNat [])) ((0 : Nat) + (1 : Nat)) []) =
 List.getD ((List.getD cs z71.k.toNat [])) ((0 : Nat) + (1 : Nat)) []) ∧
 True ∧ ts = ts ∧ True ∧ ls = ls ∧ ds = ds ∧ (True ∧ True ∧ True ∧ (a = a ∧ True) ∧ (b = b ∧ True) ∧ (d = d ∧ True) ∧ True ∧ True) ∧ (Value.nilIface = Value.nilIface ∧ True) ∧ (True ∧ True ∧ True ∧ (a = a ∧ True) ∧ (b = b ∧ True) ∧ (d = d ∧ True) ∧ True ∧ True ∧ True ∧ True) ∧ ((2 : Int) = (2 : Int) ∧ True) ∧ ([] : List (Int × List Value)) = [] ∧ (SV.fn (Fn.func (24 : Nat)) [SV.ptr (9 : Nat) (0 : Nat)] [] = SV.fn (Fn.func (24 : Nat)) [SV.ptr (9 : Nat) (0 : Nat)] [] ∧ SV.fn (Fn.func (25 : Nat)) [SV.ptr (9 : Nat) (0 : Nat)] [] = SV.fn (Fn.func (25 : Nat)) [SV.ptr (9 : Nat) (0 : Nat)] [] ∧ SV.fn (Fn.func (26 : Nat)) [SV.ptr (9 : Nat) (0 : Nat)] [] = SV.fn (Fn.func (26 : Nat)) [SV.ptr (9 : Nat) (0 : Nat)] [] ∧ SV.fn (Fn.func (27 : Nat)) [SV.ptr (9 : Nat) (0 : Nat)] [] = SV.fn (Fn.func (27 : Nat)) [SV.ptr (9 : Nat) (0 : Nat)] [] ∧ True) ∧ cs = cs ∧ True ∧ True ∧ True) ∧
 ∀ (z85 : CaS),
 OnI ts cs z71.1 z85 →
 ∀ (b87 : Bool),
 b87 = decide (z85.k < z82) →
 bif b87 then
 bif
 decide ((0 : Int) ≤ z85.k) &&
 decide
 (z85.k <
 (↑(List.getD ((List.getD cs z71.k.toNat [])) ((0 : Nat) + (1 : Nat)) []).length :
 Int)) then
 ∀ (z89 : Int),
 z89 =
 geti
 ((List.getD ((List.getD cs z71.k.toNat [])) ((0 : Nat) + (1 : Nat)) []).getD
 z85.k.toNat [])
 (0 : Nat) →
 ∀ (z91 : Int),
 z91 = (↑(List.length ts) : Int) →
 ∀ (z93 : Int),
 z93 = z91 - (1 : Int) →
 ∀ (b95 : Bool),
 b95 = decide ((0 : Int) ≤ z89 ∧ z89 ≤ z93) →
 ∀ (b97 : Bool),
 b97 = !b95 →
 bif b97 then false = decide ((ckF ts cs ls a b d ds).c = (0 : Int)) ∧ [[Value.int IntKind.i64 (12 : Int), Value.int IntKind.i64 (2 : Int), Value.int IntKind.i64 z71.k]] = flR (ckF ts cs ls a b d ds) ∧ True
 else
 bif mhas z85.2 z89 then false = decide ((ckF ts cs ls a b d ds).c = (0 : Int)) ∧ [[Value.int IntKind.i64 (13 : Int), Value.int IntKind.i64 (2 : Int), Value.int IntKind.i64 z71.k]] = flR (ckF ts cs ls a b d ds) ∧ True
 else
 ∀ (z99 : Int),
 z99 = IntKind.i64.wrap (z85.k + (1 : Int)) →
 ∃ (s102 : CaS),
 OnI ts cs z71.1 s102 ∧
 onMu cs z71.1 s102 < onMu cs z71.1 z85 ∧
 (z99 = s102.k ∧ (0 : Int) ≤ s102.k ∧ s102.k ≤ (9223372036854775807 : Int)) ∧
 mset z85.2 z89 [Value.int IntKind.i64 z71.k] = s102.2 ∧
 True ∧
 (True ∧ True) ∧
 ((List.getD ((List.getD cs z71.k.toNat [])) ((0 : Nat) + (1 : Nat)) []) =
 List.getD ((List.getD cs z71.k.toNat [])) ((0 : Nat) + (1 : Nat)) []) ∧
 True ∧ ts = ts ∧ True ∧ ls = ls ∧ ds = ds ∧ (True ∧ True ∧ True ∧ (a = a ∧ True) ∧ (b = b ∧ True) ∧ (d = d ∧ True) ∧ True ∧ True) ∧ (Value.nilIface = Value.nilIface ∧ True) ∧ (True ∧ True ∧ True ∧ (a = a ∧ True) ∧ (b = b ∧ True) ∧ (d = d ∧ True) ∧ True ∧ True ∧ True ∧ True) ∧ ((2 : Int) = (2 : Int) ∧ True) ∧ ([] : List (Int × List Value)) = [] ∧ (SV.fn (Fn.func (24 : Nat)) [SV.ptr (9 : Nat) (0 : Nat)] [] = SV.fn (Fn.func (24 : Nat)) [SV.ptr (9 : Nat) (0 : Nat)] [] ∧ SV.fn (Fn.func (25 : Nat)) [SV.ptr (9 : Nat) (0 : Nat)] [] = SV.fn (Fn.func (25 : Nat)) [SV.ptr (9 : Nat) (0 : Nat)] [] ∧ SV.fn (Fn.func (26 : Nat)) [SV.ptr (9 : Nat) (0 : Nat)] [] = SV.fn (Fn.func (26 : Nat)) [SV.ptr (9 : Nat) (0 : Nat)] [] ∧ SV.fn (Fn.func (27 : Nat)) [SV.ptr (9 : Nat) (0 : Nat)] [] = SV.fn (Fn.func (27 : Nat)) [SV.ptr (9 : Nat) (0 : Nat)] [] ∧ True) ∧ cs = cs ∧ True ∧ True ∧ True
 else False
 else ∀ (z89 : Int), z89 = IntKind.i64.wrap (z71.k + (1 : Int)) → ∃ (s92 : CaS), CaI ts cs s92 ∧ caMu cs s92 < caMu cs z71 ∧ (z89 = s92.k ∧ (0 : Int) ≤ s92.k ∧ s92.k ≤ (9223372036854775807 : Int)) ∧ z85.2 = s92.2 ∧ True ∧ (True ∧ True) ∧ True ∧ ts = ts ∧ True ∧ ls = ls ∧ ds = ds ∧ (True ∧ True ∧ True ∧ (a = a ∧ True) ∧ (b = b ∧ True) ∧ (d = d ∧ True) ∧ True ∧ True) ∧ (Value.nilIface = Value.nilIface ∧ True) ∧ (True ∧ True ∧ True ∧ (a = a ∧ True) ∧ (b = b ∧ True) ∧ (d = d ∧ True) ∧ True ∧ True ∧ True ∧ True) ∧ ((2 : Int) = (2 : Int) ∧ True) ∧ ([] : List (Int × List Value)) = [] ∧ (SV.fn (Fn.func (24 : Nat)) [SV.ptr (9 : Nat) (0 : Nat)] [] = SV.fn (Fn.func (24 : Nat)) [SV.ptr (9 : Nat) (0 : Nat)] [] ∧ SV.fn (Fn.func (25 : Nat)) [SV.ptr (9 : Nat) (0 : Nat)] [] = SV.fn (Fn.func (25 : Nat)) [SV.ptr (9 : Nat) (0 : Nat)] [] ∧ SV.fn (Fn.func (26 : Nat)) [SV.ptr (9 : Nat) (0 : Nat)] [] = SV.fn (Fn.func (26 : Nat)) [SV.ptr (9 : Nat) (0 : Nat)] [] ∧ SV.fn (Fn.func (27 : Nat)) [SV.ptr (9 : Nat) (0 : Nat)] [] = SV.fn (Fn.func (27 : Nat)) [SV.ptr (9 : Nat) (0 : Nat)] [] ∧ True) ∧ cs = cs ∧ True ∧ True ∧ True
 else False
 else ∀ (z75 : Int), z75 = (↑(List.length ts) : Int) → ∃ (s78 : Int), UnI ts cs s78 ∧ (((0 : Int) = s78 ∧ (0 : Int) ≤ s78 ∧ s78 ≤ (9223372036854775807 : Int)) ∧ True ∧ (True ∧ True) ∧ True ∧ ts = ts ∧ True ∧ ls = ls ∧ ds = ds ∧ (True ∧ True ∧ True ∧ (a = a ∧ True) ∧ (b = b ∧ True) ∧ (d = d ∧ True) ∧ True ∧ True) ∧ (Value.nilIface = Value.nilIface ∧ True) ∧ (True ∧ True ∧ True ∧ (a = a ∧ True) ∧ (b = b ∧ True) ∧ (d = d ∧ True) ∧ True ∧ True ∧ True ∧ True) ∧ ((2 : Int) = (2 : Int) ∧ True) ∧ z71.2 = z71.2 ∧ ([] : List (Int × List Value)) = [] ∧ (SV.fn (Fn.func (24 : Nat)) [SV.ptr (9 : Nat) (0 : Nat)] [] = SV.fn (Fn.func (24 : Nat)) [SV.ptr (9 : Nat) (0 : Nat)] [] ∧ SV.fn (Fn.func (25 : Nat)) [SV.ptr (9 : Nat) (0 : Nat)] [] = SV.fn (Fn.func (25 : Nat)) [SV.ptr (9 : Nat) (0 : Nat)] [] ∧ SV.fn (Fn.func (26 : Nat)) [SV.ptr (9 : Nat) (0 : Nat)] [] = SV.fn (Fn.func (26 : Nat)) [SV.ptr (9 : Nat) (0 : Nat)] [] ∧ SV.fn (Fn.func (27 : Nat)) [SV.ptr (9 : Nat) (0 : Nat)] [] = SV.fn (Fn.func (27 : Nat)) [SV.ptr (9 : Nat) (0 : Nat)] [] ∧ True) ∧ cs = cs ∧ True ∧ True ∧ True) ∧ ∀ (z78 : Int), UnI ts cs z78 → ∀ (b80 : Bool), b80 = decide (z78 < z75) → bif b80 then ∀ (b82 : Bool), b82 = !mhas z71.2 z78 → ∀ (z84 : Int), (z84 = bif b82 then (11 : Int) else (0 : Int)) → ∀ (b86 : Bool), b86 = !decide (z84 = (0 : Int)) → bif b86 then false = decide ((ckF ts cs ls a b d ds).c = (0 : Int)) ∧ [[Value.int IntKind.i64 z84, Value.int IntKind.i64 (2 : Int), Value.int IntKind.i64 z78]] = flR (ckF ts cs ls a b d ds) ∧ True else ∀ (z88 : Int), z88 = IntKind.i64.wrap (z78 + (1 : Int)) → ∃ (s91 : Int), UnI ts cs s91 ∧ rwMu ts s91 < rwMu ts z78 ∧ (z88 = s91 ∧ (0 : Int) ≤ s91 ∧ s91 ≤ (9223372036854775807 : Int)) ∧ True ∧ (True ∧ True) ∧ True ∧ ts = ts ∧ True ∧ ls = ls ∧ ds = ds ∧ (True ∧ True ∧ True ∧ (a = a ∧ True) ∧ (b = b ∧ True) ∧ (d = d ∧ True) ∧ True ∧ True) ∧ (Value.nilIface = Value.nilIface ∧ True) ∧ (True ∧ True ∧ True ∧ (a = a ∧ True) ∧ (b = b ∧ True) ∧ (d = d ∧ True) ∧ True ∧ True ∧ True ∧ True) ∧ ((2 : Int) = (2 : Int) ∧ True) ∧ z71.2 = z71.2 ∧ ([] : List (Int × List Value)) = [] ∧ (SV.fn (Fn.func (24 : Nat)) [SV.ptr (9 : Nat) (0 : Nat)] [] = SV.fn (Fn.func (24 : Nat)) [SV.ptr (9 : Nat) (0 : Nat)] [] ∧ SV.fn (Fn.func (25 : Nat)) [SV.ptr (9 : Nat) (0 : Nat)] [] = SV.fn (Fn.func (25 : Nat)) [SV.ptr (9 : Nat) (0 : Nat)] [] ∧ SV.fn (Fn.func (26 : Nat)) [SV.ptr (9 : Nat) (0 : Nat)] [] = SV.fn (Fn.func (26 : Nat)) [SV.ptr (9 : Nat) (0 : Nat)] [] ∧ SV.fn (Fn.func (27 : Nat)) [SV.ptr (9 : Nat) (0 : Nat)] [] = SV.fn (Fn.func (27 : Nat)) [SV.ptr (9 : Nat) (0 : Nat)] [] ∧ True) ∧ cs = cs ∧ True ∧ True ∧ True else ∀ (z82 : Int), z82 = (↑(List.length ls) : Int) → ∃ (s85 : CaS), PlI ts ls s85 ∧ (((0 : Int) = s85.k ∧ (0 : Int) ≤ s85.k ∧ s85.k ≤ (9223372036854775807 : Int)) ∧ [] = s85.2 ∧ True ∧ (True ∧ True) ∧ True ∧ ts = ts ∧ True ∧ ls = ls ∧ ds = ds ∧ (True ∧ True ∧ True ∧ (a = a ∧ True) ∧ (b = b ∧ True) ∧ (d = d ∧ True) ∧ True ∧ True) ∧ (Value.nilIface = Value.nilIface ∧ True) ∧ (True ∧ True ∧ True ∧ (a = a ∧ True) ∧ (b = b ∧ True) ∧ (d = d ∧ True) ∧ True ∧ True ∧ True ∧ True) ∧ ((3 : Int) = (3 : Int) ∧ True) ∧ z71.2 = z71.2 ∧ (SV.fn (Fn.func (24 : Nat)) [SV.ptr (9 : Nat) (0 : Nat)] [] = SV.fn (Fn.func (24 : Nat)) [SV.ptr (9 : Nat) (0 : Nat)] [] ∧ SV.fn (Fn.func (25 : Nat)) [SV.ptr (9 : Nat) (0 : Nat)] [] = SV.fn (Fn.func (25 : Nat)) [SV.ptr (9 : Nat) (0 : Nat)] [] ∧ SV.fn (Fn.func (26 : Nat)) [SV.ptr (9 : Nat) (0 : Nat)] [] = SV.fn (Fn.func (26 : Nat)) [SV.ptr (9 : Nat) (0 : Nat)] [] ∧ SV.fn (Fn.func (27 : Nat)) [SV.ptr (9 : Nat) (0 : Nat)] [] = SV.fn (Fn.func (27 : Nat)) [SV.ptr (9 : Nat) (0 : Nat)] [] ∧ True) ∧ cs = cs ∧ True ∧ True ∧ True ∧ True) ∧ ∀ (z85 : CaS), PlI ts ls z85 → ∀ (b87 : Bool), b87 = decide (z85.k < z82) → bif b87 then bif decide ((0 : Int) ≤ z85.k) && decide (z85.k < (↑(List.length ls) : Int)) then ∀ (z89 : Int), z89 = geti (List.getD ls z85.k.toNat []) (0 : Nat) → ∀ (z91 : Int), z91 = geti (List.getD ls z85.k.toNat []) (1 : Nat) → ∀ (z93 : Int), z93 = (↑(List.length ts) : Int) → ∀ (z95 : Int), z95 = z93 - (1 : Int) → ∀ (b97 : Bool), b97 = decide ((0 : Int) ≤ z89 ∧ z89 ≤ z95) → ∀ (b99 : Bool), b99 = !b97 → bif b99 then false = decide ((ckF ts cs ls a b d ds).c = (0 : Int)) ∧ [[Value.int IntKind.i64 (12 : Int), Value.int IntKind.i64 (3 : Int), Value.int IntKind.i64 z85.k]] = flR (ckF ts cs ls a b d ds) ∧ True else ∀ (z101 : Int), z101 = IntKind.i64.wrap (geti (mget z85.2 z89 [Value.int IntKind.i64 (0 : Int)]) (0 : Nat) + (1 : Int)) → ∀ (b103 : Bool), b103 = decide ((1 : Int) < geti (mget (mset z85.2 z89 [Value.int IntKind.i64 z101]) z89 [Value.int IntKind.i64 (0 : Int)]) (0 : Nat)) → bif b103 then false = decide ((ckF ts cs ls a b d ds).c = (0 : Int)) ∧ [[Value.int IntKind.i64 (13 : Int), Value.int IntKind.i64 (3 : Int), Value.int IntKind.i64 z85.k]] = flR (ckF ts cs ls a b d ds) ∧ True else ∀ (b105 : Bool), b105 = decide ((0 : Int) ≤ z91 ∧ z91 ≤ (16777216 : Int)) → ∀ (b107 : Bool), b107 = !b105 → ∀ (z109 : Int), (z109 = bif b107 then (3 : Int) else (0 : Int)) → ∀ (b111 : Bool), b111 = !decide (z109 = (0 : Int)) → bif b111 then false = decide ((ckF ts cs ls a b d ds).c = (0 : Int)) ∧ [[Value.int IntKind.i64 z109, Value.int IntKind.i64 (3 : Int), Value.int IntKind.i64 z85.k]] = flR (ckF ts cs ls a b d ds) ∧ True else ∀ (z113 : Int), z113 = IntKind.i64.wrap (z85.k + (1 : Int)) → ∃ (s116 : CaS), PlI ts ls s116 ∧ plMu ls s116 < plMu ls z85 ∧ (z113 = s116.k ∧ (0 : Int) ≤ s116.k ∧ s116.k ≤ (9223372036854775807 : Int)) ∧ mset z85.2 z89 [Value.int IntKind.i64 z101] = s116.2 ∧ True ∧ (True ∧ True) ∧ True ∧ ts = ts ∧ True ∧ ls = ls ∧ ds = ds ∧ (True ∧ True ∧ True ∧ (a = a ∧ True) ∧ (b = b ∧ True) ∧ (d = d ∧ True) ∧ True ∧ True) ∧ (Value.nilIface = Value.nilIface ∧ True) ∧ (True ∧ True ∧ True ∧ (a = a ∧ True) ∧ (b = b ∧ True) ∧ (d = d ∧ True) ∧ True ∧ True ∧ True ∧ True) ∧ ((3 : Int) = (3 : Int) ∧ True) ∧ z71.2 = z71.2 ∧ (SV.fn (Fn.func (24 : Nat)) [SV.ptr (9 : Nat) (0 : Nat)] [] = SV.fn (Fn.func (24 : Nat)) [SV.ptr (9 : Nat) (0 : Nat)] [] ∧ SV.fn (Fn.func (25 : Nat)) [SV.ptr (9 : Nat) (0 : Nat)] [] = SV.fn (Fn.func (25 : Nat)) [SV.ptr (9 : Nat) (0 : Nat)] [] ∧ SV.fn (Fn.func (26 : Nat)) [SV.ptr (9 : Nat) (0 : Nat)] [] = SV.fn (Fn.func (26 : Nat)) [SV.ptr (9 : Nat) (0 : Nat)] [] ∧ SV.fn (Fn.func (27 : Nat)) [SV.ptr (9 : Nat) (0 : Nat)] [] = SV.fn (Fn.func (27 : Nat)) [SV.ptr (9 : Nat) (0 : Nat)] [] ∧ True) ∧ cs = cs ∧ True ∧ True ∧ True ∧ True else False else true = decide ((ckF ts cs ls a b d ds).c = (0 : Int)) ∧ [] = flR (ckF ts cs ls a b d ds) ∧ True
 else False
 else False
 else False
 else False
 else False
 else False
 else False
 else False
 else False
 else False
 else False
 else False
 else False
 else False
 else False
 else False
 else False
 else False
 else False
 else False
 else False
 else False
 else False
 else False
 else False
 else False
 else False
 else False
 else False
 else False
 else False
 else False
 else False
 else False
 else False
 else False
 else False
 else False
 else False
 else False
 else False
 else False
 else False
 else False) := by kernel_rfl
end Go.Proofs.YtafmknblnamegaaDoor
