/- The law SceneTells: its loops, and its normal forms. No condition. -/
import Derived.Test.YtafmknblnamegaaDoorU5VP
import Derived.Test.YtafmknblnamegaaDoorV8M
namespace Go.Proofs.YtafmknblnamegaaDoor
open Go.Eng
set_option linter.unusedSimpArgs false
def cutC (cs : Fm) (k : Int) : Fm := (List.range k.toNat).map fun (c : Nat) => [(fle (cs.getD c [])).take 5, (own (cs.getD c [])).take 20]
structure CuI (cs : Fm) (k : Int) : Prop where
  a : 0 ≤ k
  b : k ≤ cs.length
  c : k ≤ 9
def cuMu (cs : Fm) (k : Int) : Nat := ((cs.length : Int) - k).toNat
def cuS (cs : Fm) : LoopSpec where
  S := Int
  regs := fun k => [(4, S1 k), (3, .row 1000001)]
  keep := [3000000000]
  heap := fun _ => []
  news := fun k => [.rfm CF (cutC cs k), .rr 53 1000000]
  inv := CuI cs
  mu := cuMu cs
def teL (cs : Fm) : LoopSpecs := fun g i => cond (Nat.beq g 9 && Nat.beq i 5) (some fun _ => cuS cs) none

theorem td_fl (F : Fl) : tdB (decide (F.c = 0)) (flR F) F.c (flP F.p F) (flP F.i F) = true := by
  obtain ⟨c, p, i⟩ := F
  by_cases h : c = 0
  · subst h; rfl
  · have e1 : flR ⟨c, p, i⟩ = [[.int .i64 c, .int .i64 p, .int .i64 i]] := by unfold flR; rw [decide_eq_false h]; rfl
    have e2 : flP p ⟨c, p, i⟩ = p := if_neg h
    have e3 : flP i ⟨c, p, i⟩ = i := if_neg h
    rw [decide_eq_false h, e1, e2, e3]
    unfold tdB
    have e4 : tlA false [[.int .i64 c, .int .i64 p, .int .i64 i]] 0 = c := rfl
    have e5 : tlA false [[.int .i64 c, .int .i64 p, .int .i64 i]] 1 = p := rfl
    have e6 : tlA false [[.int .i64 c, .int .i64 p, .int .i64 i]] 2 = i := rfl
    rw [e4, e5, e6]
    simp [h]
theorem tnTs_len (w t n : Int) (ts : Rw) : (tnTs w t n ts).length = ts.length := by
  unfold tnTs rwSet
  split
  · rw [List.length_set, List.length_set]
  · rfl
theorem te_need (bs : Rw) (N C t : Int) (hN : 0 ≤ N ∧ N < 13) (hC : 1 ≤ C ∧ C ≤ 6) (ht : 0 ≤ t) : tnN (dTs bs N.toNat) (dCs bs N C N.toNat) (dLs bs (cT bs N C.toNat) N.toNat) (dDs bs N C.toNat) t = true := by
  have hc : tnC t (dCs bs N C N.toNat) < C.toNat := by
    unfold tnC
    rw [dCs_len]
    have h1 := Int.tmod_lt_of_pos t (show (0 : Int) < (C.toNat : Int) by omega)
    have h2 := Int.tmod_nonneg (C.toNat : Int) ht
    omega
  have hl := dLs_len bs (cT bs N C.toNat) N.toNat
  have ho := dOw_len bs (cT bs N C.toNat) C N.toNat (tnC t (dCs bs N C N.toNat))
  have hv := vN_in bs (cT bs N (tnC t (dCs bs N C N.toNat)))
  unfold tnN
  apply decide_eq_true
  rw [dCs_get bs N C N.toNat hc]
  have e1 : fle [cFl bs N (tnC t (dCs bs N C N.toNat)), dOw bs (cT bs N C.toNat) C N.toNat (tnC t (dCs bs N C N.toNat))] = cFl bs N (tnC t (dCs bs N C N.toNat)) := rfl
  have e2 : own [cFl bs N (tnC t (dCs bs N C N.toNat)), dOw bs (cT bs N C.toNat) C N.toNat (tnC t (dCs bs N C N.toNat))] = dOw bs (cT bs N C.toNat) C N.toNat (tnC t (dCs bs N C N.toNat)) := rfl
  rw [e1, e2]
  simp only [lenI_eq, dTs_len, dCs_len, dDs_len, cFl, dFl_len]
  omega
theorem cutC_len (cs : Fm) (k : Int) : (cutC cs k).length = k.toNat := by simp [cutC]
theorem cutC_succ (cs : Fm) {k : Int} (h : 0 ≤ k) : cutC cs (k + 1) = cutC cs k ++ [[(fle (cs.getD k.toNat [])).take 5, (own (cs.getD k.toNat [])).take 20]] := by
  unfold cutC
  rw [show (k + 1).toNat = k.toNat + 1 by omega, List.range_succ, List.map_append]; rfl
theorem tk_min {α : Type} (xs : List α) (n : Nat) : List.take (min (xs.length : Int) (n : Int) - 0).toNat (List.drop 0 xs) = xs.take n := by
  rw [List.drop_zero]
  by_cases h : xs.length ≤ n
  · rw [List.take_of_length_le h, List.take_of_length_le (by omega)]
  · rw [show (min (xs.length : Int) (n : Int) - 0).toNat = n by omega]
set_option maxRecDepth 1000000 in
theorem tTE (x0 : Rw) (x1 x2 x3 x4 x5 x6 x7 : Int) (x8 : Rw) (x9 : Fm) (x10 : Rw) (x11 x12 x13 : Int) (x14 : Fm) : (fnS Tryd.prog G34 (teL x9) 400 3 [.agg [.row 0, .i .u8 x1 (0) 255, .i .u8 x2 (0) 255, .i .u8 x3 (0) 255, .i .i64 x4 (-9223372036854775808) 9223372036854775807], .agg [.i .u8 x5 (0) 255, .i .u8 x6 (0) 255, .i .i64 x7 (-9223372036854775808) 9223372036854775807], .agg [.row 1, .row 3, .row 4, .i .i64 x11 (-9223372036854775808) 9223372036854775807, .i .i64 x12 (-9223372036854775808) 9223372036854775807, .i .i64 x13 (-9223372036854775808) 9223372036854775807, .row 6]] [.ror [.int .u8] x0 false, .ror RK x8 false, .rfm CF x9, .rof 2, .ror LK x10 false, .rfm DF x14, .rof 5] fun u _ => isYes u) =
(∀ (z16 : Int),
 z16 = aN x3 →
 ∀ (z18 : Int),
 z18 = bN x3 →
 ∀ (z20 : Int),
 z20 = sN x3 →
 bif tnN (dTs x0 (rN x2).toNat) (dCs x0 (rN x2) (cN x1) (rN x2).toNat) (dLs x0 (cT x0 (rN x2) (cN x1).toNat) (rN x2).toNat) (dDs x0 (rN x2) (cN x1).toNat) x6 then
 ∀ (z22 : Int),
 z22 = tnA x5 x7 z16 →
 ∀ (z24 : Int),
 z24 = tnB x5 x7 z18 →
 ∀ (z26 : Int),
 z26 = tnD x5 x7 z20 →
 SV.agg [SV.row (10 : Nat), SV.row (12 : Nat), SV.row (15 : Nat), SV.i IntKind.i64 z16 (0 : Int) (100 : Int), SV.i IntKind.i64 z18 (0 : Int) (100 : Int), SV.i IntKind.i64 z20 (0 : Int) (100 : Int), SV.row (14 : Nat)] = SV.agg [SV.row (10 : Nat), SV.row (12 : Nat), SV.row (15 : Nat), SV.i IntKind.i64 z16 (0 : Int) (100 : Int), SV.i IntKind.i64 z18 (0 : Int) (100 : Int), SV.i IntKind.i64 z20 (0 : Int) (100 : Int), SV.row (14 : Nat)] ∧
 SV.agg [SV.row (1 : Nat), SV.row (3 : Nat), SV.row (4 : Nat), SV.i IntKind.i64 x11 (-9223372036854775808 : Int) (9223372036854775807 : Int), SV.i IntKind.i64 x12 (-9223372036854775808 : Int) (9223372036854775807 : Int), SV.i IntKind.i64 x13 (-9223372036854775808 : Int) (9223372036854775807 : Int), SV.row (6 : Nat)] = SV.agg [SV.row (1 : Nat), SV.row (3 : Nat), SV.row (4 : Nat), SV.i IntKind.i64 x11 (-9223372036854775808 : Int) (9223372036854775807 : Int), SV.i IntKind.i64 x12 (-9223372036854775808 : Int) (9223372036854775807 : Int), SV.i IntKind.i64 x13 (-9223372036854775808 : Int) (9223372036854775807 : Int), SV.row (6 : Nat)] ∧
 SV.v (Value.int IntKind.i64 (0 : Int)) = SV.v (Value.int IntKind.i64 (0 : Int)) ∧
 ∀ (z28 : Int),
 z28 = (↑(List.length x8) : Int) →
 ∀ (z30 : Int),
 z30 = min z28 (70 : Int) →
 bif true && (decide ((0 : Int) ≤ z30) && decide (z30 ≤ (↑(List.length x8) : Int))) then
 ∀ (z32 : Int),
 z32 = (↑(List.length x10) : Int) →
 ∀ (z34 : Int),
 z34 = min z32 (17 : Int) →
 bif true && (decide ((0 : Int) ≤ z34) && decide (z34 ≤ (↑(List.length x10) : Int))) then
 ∃ (s37 : Int),
 CuI x9 s37 ∧
 (((0 : Int) = s37 ∧ (0 : Int) ≤ s37 ∧ s37 ≤ (100 : Int)) ∧
 True ∧
 x0 = x0 ∧
 x8 = x8 ∧
 x9 = x9 ∧
 True ∧
 x10 = x10 ∧
 x14 = x14 ∧
 True ∧
 (True ∧ (x1 = x1 ∧ True) ∧ (x2 = x2 ∧ True) ∧ (x3 = x3 ∧ True) ∧ (l5T x0 (rN x2) (cN x1) (rN x2) = l5T x0 (rN x2) (cN x1) (rN x2) ∧ True) ∧ True) ∧
 ((x5 = x5 ∧ True) ∧ (x6 = x6 ∧ True) ∧ (x7 = x7 ∧ True) ∧ True) ∧
 (True ∧ True ∧ True ∧ (x11 = x11 ∧ True) ∧ (x12 = x12 ∧ True) ∧ (x13 = x13 ∧ True) ∧ True ∧ True) ∧
 dTs x0 (rN x2).toNat = dTs x0 (rN x2).toNat ∧
 dCs x0 (rN x2) (cN x1) (rN x2).toNat = dCs x0 (rN x2) (cN x1) (rN x2).toNat ∧
 True ∧
 dDs x0 (rN x2) (cN x1).toNat = dDs x0 (rN x2) (cN x1).toNat ∧
 True ∧
 dLs x0 (cT x0 (rN x2) (cN x1).toNat) (rN x2).toNat = dLs x0 (cT x0 (rN x2) (cN x1).toNat) (rN x2).toNat ∧
 (True ∧ True ∧ True ∧ (z16 = z16 ∧ True) ∧ (z18 = z18 ∧ True) ∧ (z20 = z20 ∧ True) ∧ True ∧ True) ∧
 tnTs x5 x6 x7 (dTs x0 (rN x2).toNat) = tnTs x5 x6 x7 (dTs x0 (rN x2).toNat) ∧
 tnLs x5 x6 x7 (dLs x0 (cT x0 (rN x2) (cN x1).toNat) (rN x2).toNat) = tnLs x5 x6 x7 (dLs x0 (cT x0 (rN x2) (cN x1).toNat) (rN x2).toNat) ∧
 tnFl x5 x7
 (fle
 (List.getD ((dCs x0 (rN x2) (cN x1) (rN x2).toNat)) (tnC x6 (dCs x0 (rN x2) (cN x1) (rN x2).toNat)) [])) =
 tnFl x5 x7
 (fle
 (List.getD ((dCs x0 (rN x2) (cN x1) (rN x2).toNat)) (tnC x6 (dCs x0 (rN x2) (cN x1) (rN x2).toNat)) [])) ∧
 tnOw x5 x7
 (own
 (List.getD ((dCs x0 (rN x2) (cN x1) (rN x2).toNat)) (tnC x6 (dCs x0 (rN x2) (cN x1) (rN x2).toNat)) [])) =
 tnOw x5 x7
 (own
 (List.getD ((dCs x0 (rN x2) (cN x1) (rN x2).toNat)) (tnC x6 (dCs x0 (rN x2) (cN x1) (rN x2).toNat)) [])) ∧
 (List.length (dCs x0 (rN x2) (cN x1) (rN x2).toNat) = List.length (dCs x0 (rN x2) (cN x1) (rN x2).toNat) ∧ tnC x6 (dCs x0 (rN x2) (cN x1) (rN x2).toNat) = tnC x6 (dCs x0 (rN x2) (cN x1) (rN x2).toNat) ∧ True ∧ tnC x6 (dCs x0 (rN x2) (cN x1) (rN x2).toNat) = tnC x6 (dCs x0 (rN x2) (cN x1) (rN x2).toNat) ∧ True ∧ True) ∧ True ∧ tnDs x5 (dDs x0 (rN x2) (cN x1).toNat) = tnDs x5 (dDs x0 (rN x2) (cN x1).toNat) ∧ (((0 : Nat) = (0 : Nat) ∧ (z30 - (0 : Int)).toNat = (z30 - (0 : Int)).toNat) ∧ True ∧ ((0 : Nat) = (0 : Nat) ∧ (z34 - (0 : Int)).toNat = (z34 - (0 : Int)).toNat) ∧ (x11 = x11 ∧ True) ∧ (x12 = x12 ∧ True) ∧ (x13 = x13 ∧ True) ∧ True ∧ True) ∧ (Value.slice none (0 : Nat) (0 : Nat) = Value.slice none (0 : Nat) (0 : Nat) ∧ Value.slice none (0 : Nat) (0 : Nat) = Value.slice none (0 : Nat) (0 : Nat) ∧ Value.slice none (0 : Nat) (0 : Nat) = Value.slice none (0 : Nat) (0 : Nat) ∧ (0 : Int) = (0 : Int) ∧ (0 : Int) = (0 : Int) ∧ (0 : Int) = (0 : Int) ∧ Value.slice none (0 : Nat) (0 : Nat) = Value.slice none (0 : Nat) (0 : Nat) ∧ True) ∧ [] = cutC x9 s37 ∧ True ∧ True) ∧
 ∀ (z37 : Int),
 CuI x9 z37 →
 ∀ (z39 : Int),
 z39 = (↑(List.length x9) : Int) →
 ∀ (b41 : Bool),
 b41 = decide (z37 < z39) →
 bif b41 || !b41 then
 ∀ (b43 : Bool),
 b43 = decide (z37 < (9 : Int)) →
 bif bif b41 then b41 else true then
 bif bif b41 then true else true then
 ∀ (b45 : Bool),
 (b45 = bif b41 then b43 else false) →
 bif b45 then
 bif decide ((0 : Int) ≤ z37) && decide (z37 < (↑(List.length x9) : Int)) then
 ∀ (z47 : Int),
 z47 =
 (↑(List.getD ((List.getD x9 z37.toNat [])) ((0 : Nat)) []).length :
 Int) →
 ∀ (z49 : Int),
 z49 = min z47 (5 : Int) →
 bif
 true &&
 (decide ((0 : Int) ≤ z49) &&
 decide
 (z49 ≤
 (↑(List.getD ((List.getD x9 z37.toNat [])) ((0 : Nat)) []).length :
 Int))) then
 ∀ (z51 : Int),
 z51 =
 (↑(List.getD ((List.getD x9 z37.toNat [])) ((0 : Nat) + (1 : Nat)) []).length :
 Int) →
 ∀ (z53 : Int),
 z53 = min z51 (20 : Int) →
 bif
 true &&
 (decide ((0 : Int) ≤ z53) &&
 decide
 (z53 ≤
 (↑(List.getD ((List.getD x9 z37.toNat [])) ((0 : Nat) + (1 : Nat)) []).length :
 Int))) then
 bif decide ((↑(List.length (cutC x9 z37)) : Int) ≤ (1466015503701 : Int)) then
 ∀ (z55 : Int),
 z55 = z37 + (1 : Int) →
 ∃ (s58 : Int),
 CuI x9 s58 ∧
 cuMu x9 s58 < cuMu x9 z37 ∧
 (z55 = s58 ∧ (0 : Int) ≤ s58 ∧ s58 ≤ (100 : Int)) ∧
 True ∧
 x0 = x0 ∧
 x8 = x8 ∧
 x9 = x9 ∧
 True ∧
 x10 = x10 ∧
 x14 = x14 ∧
 True ∧
 (True ∧ (x1 = x1 ∧ True) ∧ (x2 = x2 ∧ True) ∧ (x3 = x3 ∧ True) ∧ (l5T x0 (rN x2) (cN x1) (rN x2) = l5T x0 (rN x2) (cN x1) (rN x2) ∧ True) ∧ True) ∧
 ((x5 = x5 ∧ True) ∧ (x6 = x6 ∧ True) ∧ (x7 = x7 ∧ True) ∧ True) ∧
 (True ∧ True ∧ True ∧ (x11 = x11 ∧ True) ∧ (x12 = x12 ∧ True) ∧ (x13 = x13 ∧ True) ∧ True ∧ True) ∧
 dTs x0 (rN x2).toNat = dTs x0 (rN x2).toNat ∧
 dCs x0 (rN x2) (cN x1) (rN x2).toNat = dCs x0 (rN x2) (cN x1) (rN x2).toNat ∧
 True ∧
 dDs x0 (rN x2) (cN x1).toNat = dDs x0 (rN x2) (cN x1).toNat ∧
 True ∧
 dLs x0 (cT x0 (rN x2) (cN x1).toNat) (rN x2).toNat = dLs x0 (cT x0 (rN x2) (cN x1).toNat) (rN x2).toNat ∧
 (True ∧ True ∧ True ∧ (z16 = z16 ∧ True) ∧ (z18 = z18 ∧ True) ∧ (z20 = z20 ∧ True) ∧ True ∧ True) ∧
 tnTs x5 x6 x7 (dTs x0 (rN x2).toNat) = tnTs x5 x6 x7 (dTs x0 (rN x2).toNat) ∧
 tnLs x5 x6 x7 (dLs x0 (cT x0 (rN x2) (cN x1).toNat) (rN x2).toNat) = tnLs x5 x6 x7 (dLs x0 (cT x0 (rN x2) (cN x1).toNat) (rN x2).toNat) ∧
 tnFl x5 x7
 (fle
 (List.getD ((dCs x0 (rN x2) (cN x1) (rN x2).toNat)) (tnC x6 (dCs x0 (rN x2) (cN x1) (rN x2).toNat)) [])) =
 tnFl x5 x7
 (fle
 (List.getD ((dCs x0 (rN x2) (cN x1) (rN x2).toNat)) (tnC x6 (dCs x0 (rN x2) (cN x1) (rN x2).toNat)) [])) ∧
 tnOw x5 x7
 (own
 (List.getD ((dCs x0 (rN x2) (cN x1) (rN x2).toNat)) (tnC x6 (dCs x0 (rN x2) (cN x1) (rN x2).toNat)) [])) =
 tnOw x5 x7
 (own
 (List.getD ((dCs x0 (rN x2) (cN x1) (rN x2).toNat)) (tnC x6 (dCs x0 (rN x2) (cN x1) (rN x2).toNat)) [])) ∧
 (List.length (dCs x0 (rN x2) (cN x1) (rN x2).toNat) = List.length (dCs x0 (rN x2) (cN x1) (rN x2).toNat) ∧ tnC x6 (dCs x0 (rN x2) (cN x1) (rN x2).toNat) = tnC x6 (dCs x0 (rN x2) (cN x1) (rN x2).toNat) ∧ True ∧ tnC x6 (dCs x0 (rN x2) (cN x1) (rN x2).toNat) = tnC x6 (dCs x0 (rN x2) (cN x1) (rN x2).toNat) ∧ True ∧ True) ∧
 True ∧
 tnDs x5 (dDs x0 (rN x2) (cN x1).toNat) = tnDs x5 (dDs x0 (rN x2) (cN x1).toNat) ∧
 (((0 : Nat) = (0 : Nat) ∧ (z30 - (0 : Int)).toNat = (z30 - (0 : Int)).toNat) ∧ True ∧ ((0 : Nat) = (0 : Nat) ∧ (z34 - (0 : Int)).toNat = (z34 - (0 : Int)).toNat) ∧ (x11 = x11 ∧ True) ∧ (x12 = x12 ∧ True) ∧ (x13 = x13 ∧ True) ∧ True ∧ True) ∧
 (Value.slice none (0 : Nat) (0 : Nat) = Value.slice none (0 : Nat) (0 : Nat) ∧ Value.slice none (0 : Nat) (0 : Nat) = Value.slice none (0 : Nat) (0 : Nat) ∧ Value.slice none (0 : Nat) (0 : Nat) = Value.slice none (0 : Nat) (0 : Nat) ∧ (0 : Int) = (0 : Int) ∧ (0 : Int) = (0 : Int) ∧ (0 : Int) = (0 : Int) ∧ Value.slice none (0 : Nat) (0 : Nat) = Value.slice none (0 : Nat) (0 : Nat) ∧ True) ∧
 cutC x9 z37 ++
 [[List.take (z49 - (0 : Int)).toNat
 (List.drop (0 : Nat)
 (List.getD ((List.getD x9 z37.toNat [])) ((0 : Nat)) [])),
 List.take (z53 - (0 : Int)).toNat
 (List.drop (0 : Nat)
 (List.getD ((List.getD x9 z37.toNat [])) ((0 : Nat) + (1 : Nat)) []))]] =
 cutC x9 s58 ∧
 True ∧ True
 else False
 else False
 else False
 else False
 else
 SV.agg [SV.row (10 : Nat), SV.row (12 : Nat), SV.row (15 : Nat), SV.i IntKind.i64 z16 (0 : Int) (100 : Int), SV.i IntKind.i64 z18 (0 : Int) (100 : Int), SV.i IntKind.i64 z20 (0 : Int) (100 : Int), SV.row (14 : Nat)] = SV.agg [SV.row (10 : Nat), SV.row (12 : Nat), SV.row (15 : Nat), SV.i IntKind.i64 z16 (0 : Int) (100 : Int), SV.i IntKind.i64 z18 (0 : Int) (100 : Int), SV.i IntKind.i64 z20 (0 : Int) (100 : Int), SV.row (14 : Nat)] ∧
 SV.v (Value.int IntKind.i64 (0 : Int)) = SV.v (Value.int IntKind.i64 (0 : Int)) ∧
 SV.v (Value.int IntKind.i64 (0 : Int)) = SV.v (Value.int IntKind.i64 (0 : Int)) ∧
 ∀ (z47 : Int),
 z47 = (ckF (dTs x0 (rN x2).toNat) (dCs x0 (rN x2) (cN x1) (rN x2).toNat) (dLs x0 (cT x0 (rN x2) (cN x1).toNat) (rN x2).toNat) z16 z18 z20 (List.length (dDs x0 (rN x2) (cN x1).toNat))).c →
 ∀ (z49 : Int),
 z49 = flP (ckF (dTs x0 (rN x2).toNat) (dCs x0 (rN x2) (cN x1) (rN x2).toNat) (dLs x0 (cT x0 (rN x2) (cN x1).toNat) (rN x2).toNat) z16 z18 z20 (List.length (dDs x0 (rN x2) (cN x1).toNat))).p (ckF (dTs x0 (rN x2).toNat) (dCs x0 (rN x2) (cN x1) (rN x2).toNat) (dLs x0 (cT x0 (rN x2) (cN x1).toNat) (rN x2).toNat) z16 z18 z20 (List.length (dDs x0 (rN x2) (cN x1).toNat))) →
 ∀ (z51 : Int),
 z51 = flP (ckF (dTs x0 (rN x2).toNat) (dCs x0 (rN x2) (cN x1) (rN x2).toNat) (dLs x0 (cT x0 (rN x2) (cN x1).toNat) (rN x2).toNat) z16 z18 z20 (List.length (dDs x0 (rN x2) (cN x1).toNat))).i (ckF (dTs x0 (rN x2).toNat) (dCs x0 (rN x2) (cN x1) (rN x2).toNat) (dLs x0 (cT x0 (rN x2) (cN x1).toNat) (rN x2).toNat) z16 z18 z20 (List.length (dDs x0 (rN x2) (cN x1).toNat))) →
 ∀ (b53 : Bool),
 b53 = tdB (decide ((ckF (dTs x0 (rN x2).toNat) (dCs x0 (rN x2) (cN x1) (rN x2).toNat) (dLs x0 (cT x0 (rN x2) (cN x1).toNat) (rN x2).toNat) z16 z18 z20 (List.length (dDs x0 (rN x2) (cN x1).toNat))).c = (0 : Int))) (flR (ckF (dTs x0 (rN x2).toNat) (dCs x0 (rN x2) (cN x1) (rN x2).toNat) (dLs x0 (cT x0 (rN x2) (cN x1).toNat) (rN x2).toNat) z16 z18 z20 (List.length (dDs x0 (rN x2) (cN x1).toNat)))) z47 z49 z51 →
 ∀ (b55 : Bool),
 b55 = !b53 →
 bif !b55 then
 bif !b55 then
 bif decide (lenI (dTs x0 (rN x2).toNat) ≤ (1000 : Int)) then
 bif !b55 then
 bif !b55 then
 bif decide (lenI (dTs x0 (rN x2).toNat) ≤ (1000 : Int)) then
 bif !b55 then
 ∀ (b57 : Bool),
 b57 = intsB (oR (dTs x0 (rN x2).toNat) (dCs x0 (rN x2) (cN x1) (rN x2).toNat) (↑(List.length (dTs x0 (rN x2).toNat)) : Int)) (oR (dTs x0 (rN x2).toNat) (dCs x0 (rN x2) (cN x1) (rN x2).toNat) (↑(List.length (dTs x0 (rN x2).toNat)) : Int)) →
 ∀ (b59 : Bool),
 b59 = !b57 →
 bif bif b55 then true else true then
 bif bif b55 then true else !b55 then
 ∀ (b61 : Bool),
 (b61 = bif b55 then true else b59) →
 bif b61 then false = true
 else
 ∀ (z63 : Int),
 z63 =
 (ckF (tnTs x5 x6 x7 (dTs x0 (rN x2).toNat))
 (derC (dCs x0 (rN x2) (cN x1) (rN x2).toNat)
 [(tnC x6 (dCs x0 (rN x2) (cN x1) (rN x2).toNat), (1 : Nat),
 tnOw x5 x7
 (own
 (List.getD ((dCs x0 (rN x2) (cN x1) (rN x2).toNat)) (tnC x6 (dCs x0 (rN x2) (cN x1) (rN x2).toNat)) []))),
 (tnC x6 (dCs x0 (rN x2) (cN x1) (rN x2).toNat), (0 : Nat),
 tnFl x5 x7
 (fle
 (List.getD ((dCs x0 (rN x2) (cN x1) (rN x2).toNat)) (tnC x6 (dCs x0 (rN x2) (cN x1) (rN x2).toNat)) [])))])
 (tnLs x5 x6 x7 (dLs x0 (cT x0 (rN x2) (cN x1).toNat) (rN x2).toNat)) z22 z24 z26 (tnDs x5 (dDs x0 (rN x2) (cN x1).toNat))).c →
 ∀ (z65 : Int),
 z65 =
 flP
 (ckF (tnTs x5 x6 x7 (dTs x0 (rN x2).toNat))
 (derC (dCs x0 (rN x2) (cN x1) (rN x2).toNat)
 [(tnC x6 (dCs x0 (rN x2) (cN x1) (rN x2).toNat), (1 : Nat),
 tnOw x5 x7
 (own
 (List.getD ((dCs x0 (rN x2) (cN x1) (rN x2).toNat)) (tnC x6 (dCs x0 (rN x2) (cN x1) (rN x2).toNat)) []))),
 (tnC x6 (dCs x0 (rN x2) (cN x1) (rN x2).toNat), (0 : Nat),
 tnFl x5 x7
 (fle
 (List.getD ((dCs x0 (rN x2) (cN x1) (rN x2).toNat)) (tnC x6 (dCs x0 (rN x2) (cN x1) (rN x2).toNat)) [])))])
 (tnLs x5 x6 x7 (dLs x0 (cT x0 (rN x2) (cN x1).toNat) (rN x2).toNat)) z22 z24 z26 (tnDs x5 (dDs x0 (rN x2) (cN x1).toNat))).p
 (ckF (tnTs x5 x6 x7 (dTs x0 (rN x2).toNat))
 (derC (dCs x0 (rN x2) (cN x1) (rN x2).toNat)
 [(tnC x6 (dCs x0 (rN x2) (cN x1) (rN x2).toNat), (1 : Nat),
 tnOw x5 x7
 (own
 (List.getD ((dCs x0 (rN x2) (cN x1) (rN x2).toNat)) (tnC x6 (dCs x0 (rN x2) (cN x1) (rN x2).toNat)) []))),
 (tnC x6 (dCs x0 (rN x2) (cN x1) (rN x2).toNat), (0 : Nat),
 tnFl x5 x7
 (fle
 (List.getD ((dCs x0 (rN x2) (cN x1) (rN x2).toNat)) (tnC x6 (dCs x0 (rN x2) (cN x1) (rN x2).toNat)) [])))])
 (tnLs x5 x6 x7 (dLs x0 (cT x0 (rN x2) (cN x1).toNat) (rN x2).toNat)) z22 z24 z26 (tnDs x5 (dDs x0 (rN x2) (cN x1).toNat))) →
 ∀ (z67 : Int),
 z67 =
 flP
 (ckF (tnTs x5 x6 x7 (dTs x0 (rN x2).toNat))
 (derC (dCs x0 (rN x2) (cN x1) (rN x2).toNat)
 [(tnC x6 (dCs x0 (rN x2) (cN x1) (rN x2).toNat), (1 : Nat),
 tnOw x5 x7
 (own
 (List.getD ((dCs x0 (rN x2) (cN x1) (rN x2).toNat)) (tnC x6 (dCs x0 (rN x2) (cN x1) (rN x2).toNat)) []))),
 (tnC x6 (dCs x0 (rN x2) (cN x1) (rN x2).toNat), (0 : Nat),
 tnFl x5 x7
 (fle
 (List.getD ((dCs x0 (rN x2) (cN x1) (rN x2).toNat)) (tnC x6 (dCs x0 (rN x2) (cN x1) (rN x2).toNat)) [])))])
 (tnLs x5 x6 x7 (dLs x0 (cT x0 (rN x2) (cN x1).toNat) (rN x2).toNat)) z22 z24 z26 (tnDs x5 (dDs x0 (rN x2) (cN x1).toNat))).i
 (ckF (tnTs x5 x6 x7 (dTs x0 (rN x2).toNat))
 (derC (dCs x0 (rN x2) (cN x1) (rN x2).toNat)
 [(tnC x6 (dCs x0 (rN x2) (cN x1) (rN x2).toNat), (1 : Nat),
 tnOw x5 x7
 (own
 (List.getD ((dCs x0 (rN x2) (cN x1) (rN x2).toNat)) (tnC x6 (dCs x0 (rN x2) (cN x1) (rN x2).toNat)) []))),
 (tnC x6 (dCs x0 (rN x2) (cN x1) (rN x2).toNat), (0 : Nat),
 tnFl x5 x7
 (fle
 (List.getD ((dCs x0 (rN x2) (cN x1) (rN x2).toNat)) (tnC x6 (dCs x0 (rN x2) (cN x1) (rN x2).toNat)) [])))])
 (tnLs x5 x6 x7 (dLs x0 (cT x0 (rN x2) (cN x1).toNat) (rN x2).toNat)) z22 z24 z26 (tnDs x5 (dDs x0 (rN x2) (cN x1).toNat))) →
 ∀ (b69 : Bool),
 b69 =
 tdB
 (decide
 ((ckF (tnTs x5 x6 x7 (dTs x0 (rN x2).toNat))
 (derC (dCs x0 (rN x2) (cN x1) (rN x2).toNat)
 [(tnC x6 (dCs x0 (rN x2) (cN x1) (rN x2).toNat), (1 : Nat),
 tnOw x5 x7
 (own
 (List.getD ((dCs x0 (rN x2) (cN x1) (rN x2).toNat)) (tnC x6 (dCs x0 (rN x2) (cN x1) (rN x2).toNat)) []))),
 (tnC x6 (dCs x0 (rN x2) (cN x1) (rN x2).toNat), (0 : Nat),
 tnFl x5 x7
 (fle
 (List.getD ((dCs x0 (rN x2) (cN x1) (rN x2).toNat)) (tnC x6 (dCs x0 (rN x2) (cN x1) (rN x2).toNat)) [])))])
 (tnLs x5 x6 x7 (dLs x0 (cT x0 (rN x2) (cN x1).toNat) (rN x2).toNat)) z22 z24 z26 (tnDs x5 (dDs x0 (rN x2) (cN x1).toNat))).c =
 (0 : Int)))
 (flR
 (ckF (tnTs x5 x6 x7 (dTs x0 (rN x2).toNat))
 (derC (dCs x0 (rN x2) (cN x1) (rN x2).toNat)
 [(tnC x6 (dCs x0 (rN x2) (cN x1) (rN x2).toNat), (1 : Nat),
 tnOw x5 x7
 (own
 (List.getD ((dCs x0 (rN x2) (cN x1) (rN x2).toNat)) (tnC x6 (dCs x0 (rN x2) (cN x1) (rN x2).toNat)) []))),
 (tnC x6 (dCs x0 (rN x2) (cN x1) (rN x2).toNat), (0 : Nat),
 tnFl x5 x7
 (fle
 (List.getD ((dCs x0 (rN x2) (cN x1) (rN x2).toNat)) (tnC x6 (dCs x0 (rN x2) (cN x1) (rN x2).toNat)) [])))])
 (tnLs x5 x6 x7 (dLs x0 (cT x0 (rN x2) (cN x1).toNat) (rN x2).toNat)) z22 z24 z26 (tnDs x5 (dDs x0 (rN x2) (cN x1).toNat))))
 z63 z65 z67 →
 ∀ (b71 : Bool),
 b71 = !b69 →
 bif !b71 then
 bif !b71 then
 bif decide (lenI (tnTs x5 x6 x7 (dTs x0 (rN x2).toNat)) ≤ (1000 : Int)) then
 bif !b71 then
 bif !b71 then
 bif decide (lenI (tnTs x5 x6 x7 (dTs x0 (rN x2).toNat)) ≤ (1000 : Int)) then
 bif !b71 then
 ∀ (b73 : Bool),
 b73 =
 intsB
 (oR (tnTs x5 x6 x7 (dTs x0 (rN x2).toNat))
 ((List.set (dCs x0 (rN x2) (cN x1) (rN x2).toNat) (tnC x6 (dCs x0 (rN x2) (cN x1) (rN x2).toNat))
 ((List.getD ((derC (dCs x0 (rN x2) (cN x1) (rN x2).toNat) [])) (tnC x6 (dCs x0 (rN x2) (cN x1) (rN x2).toNat)) []).set
 ((0 : Nat),
 tnFl x5 x7
 (fle
 (List.getD ((dCs x0 (rN x2) (cN x1) (rN x2).toNat)) (tnC x6 (dCs x0 (rN x2) (cN x1) (rN x2).toNat)) []))).fst
 (tnFl x5 x7
 (fle
 (List.getD ((dCs x0 (rN x2) (cN x1) (rN x2).toNat)) (tnC x6 (dCs x0 (rN x2) (cN x1) (rN x2).toNat)) []))))).set
 (tnC x6 (dCs x0 (rN x2) (cN x1) (rN x2).toNat))
 ((match
 (derC (dCs x0 (rN x2) (cN x1) (rN x2).toNat)
 [(tnC x6 (dCs x0 (rN x2) (cN x1) (rN x2).toNat), (0 : Nat),
 tnFl x5 x7
 (fle
 (List.getD ((dCs x0 (rN x2) (cN x1) (rN x2).toNat)) (tnC x6 (dCs x0 (rN x2) (cN x1) (rN x2).toNat)) [])))])[tnC x6 (dCs x0 (rN x2) (cN x1) (rN x2).toNat)]? with
 | some x => x
 | none => []).set
 ((1 : Nat),
 tnOw x5 x7
 (own
 (List.getD ((dCs x0 (rN x2) (cN x1) (rN x2).toNat)) (tnC x6 (dCs x0 (rN x2) (cN x1) (rN x2).toNat)) []))).fst
 (tnOw x5 x7
 (own
 (List.getD ((dCs x0 (rN x2) (cN x1) (rN x2).toNat)) (tnC x6 (dCs x0 (rN x2) (cN x1) (rN x2).toNat)) [])))))
 (↑(List.length (tnTs x5 x6 x7 (dTs x0 (rN x2).toNat))) : Int))
 (oR (tnTs x5 x6 x7 (dTs x0 (rN x2).toNat))
 ((List.set (dCs x0 (rN x2) (cN x1) (rN x2).toNat) (tnC x6 (dCs x0 (rN x2) (cN x1) (rN x2).toNat))
 ((List.getD ((derC (dCs x0 (rN x2) (cN x1) (rN x2).toNat) [])) (tnC x6 (dCs x0 (rN x2) (cN x1) (rN x2).toNat)) []).set
 ((0 : Nat),
 tnFl x5 x7
 (fle
 (List.getD ((dCs x0 (rN x2) (cN x1) (rN x2).toNat)) (tnC x6 (dCs x0 (rN x2) (cN x1) (rN x2).toNat)) []))).fst
 (tnFl x5 x7
 (fle
 (List.getD ((dCs x0 (rN x2) (cN x1) (rN x2).toNat)) (tnC x6 (dCs x0 (rN x2) (cN x1) (rN x2).toNat)) []))))).set
 (tnC x6 (dCs x0 (rN x2) (cN x1) (rN x2).toNat))
 ((match
 (derC (dCs x0 (rN x2) (cN x1) (rN x2).toNat)
 [(tnC x6 (dCs x0 (rN x2) (cN x1) (rN x2).toNat), (0 : Nat),
 tnFl x5 x7
 (fle
 (List.getD ((dCs x0 (rN x2) (cN x1) (rN x2).toNat)) (tnC x6 (dCs x0 (rN x2) (cN x1) (rN x2).toNat)) [])))])[tnC x6 (dCs x0 (rN x2) (cN x1) (rN x2).toNat)]? with
 | some x => x
 | none => []).set
 ((1 : Nat),
 tnOw x5 x7
 (own
 (List.getD ((dCs x0 (rN x2) (cN x1) (rN x2).toNat)) (tnC x6 (dCs x0 (rN x2) (cN x1) (rN x2).toNat)) []))).fst
 (tnOw x5 x7
 (own
 (List.getD ((dCs x0 (rN x2) (cN x1) (rN x2).toNat)) (tnC x6 (dCs x0 (rN x2) (cN x1) (rN x2).toNat)) [])))))
 (↑(List.length (tnTs x5 x6 x7 (dTs x0 (rN x2).toNat))) : Int)) →
 ∀ (b75 : Bool), b75 = !b73 → bif bif b71 then true else true then bif bif b71 then true else !b71 then ∀ (b77 : Bool), (b77 = bif b71 then true else b75) → bif b77 then false = true else ∀ (z79 : Int), z79 = (ckF (List.take (z30 - (0 : Int)).toNat (List.drop (0 : Nat) x8)) (cutC x9 z37) (List.take (z34 - (0 : Int)).toNat (List.drop (0 : Nat) x10)) x11 x12 x13 (List.length x14)).c → ∀ (z81 : Int), z81 = flP (ckF (List.take (z30 - (0 : Int)).toNat (List.drop (0 : Nat) x8)) (cutC x9 z37) (List.take (z34 - (0 : Int)).toNat (List.drop (0 : Nat) x10)) x11 x12 x13 (List.length x14)).p (ckF (List.take (z30 - (0 : Int)).toNat (List.drop (0 : Nat) x8)) (cutC x9 z37) (List.take (z34 - (0 : Int)).toNat (List.drop (0 : Nat) x10)) x11 x12 x13 (List.length x14)) → ∀ (z83 : Int), z83 = flP (ckF (List.take (z30 - (0 : Int)).toNat (List.drop (0 : Nat) x8)) (cutC x9 z37) (List.take (z34 - (0 : Int)).toNat (List.drop (0 : Nat) x10)) x11 x12 x13 (List.length x14)).i (ckF (List.take (z30 - (0 : Int)).toNat (List.drop (0 : Nat) x8)) (cutC x9 z37) (List.take (z34 - (0 : Int)).toNat (List.drop (0 : Nat) x10)) x11 x12 x13 (List.length x14)) → ∀ (b85 : Bool), b85 = tdB (decide ((ckF (List.take (z30 - (0 : Int)).toNat (List.drop (0 : Nat) x8)) (cutC x9 z37) (List.take (z34 - (0 : Int)).toNat (List.drop (0 : Nat) x10)) x11 x12 x13 (List.length x14)).c = (0 : Int))) (flR (ckF (List.take (z30 - (0 : Int)).toNat (List.drop (0 : Nat) x8)) (cutC x9 z37) (List.take (z34 - (0 : Int)).toNat (List.drop (0 : Nat) x10)) x11 x12 x13 (List.length x14))) z79 z81 z83 → ∀ (b87 : Bool), b87 = !b85 → bif !b87 then bif !b87 then bif decide (lenI (List.take (z30 - (0 : Int)).toNat (List.drop (0 : Nat) x8)) ≤ (1000 : Int)) then bif !b87 then bif !b87 then bif decide (lenI (List.take (z30 - (0 : Int)).toNat (List.drop (0 : Nat) x8)) ≤ (1000 : Int)) then bif !b87 then ∀ (b89 : Bool), b89 = intsB (oR (List.take (z30 - (0 : Int)).toNat (List.drop (0 : Nat) x8)) (cutC x9 z37) (↑(List.take (z30 - (0 : Int)).toNat (List.drop (0 : Nat) x8)).length : Int)) (oR (List.take (z30 - (0 : Int)).toNat (List.drop (0 : Nat) x8)) (cutC x9 z37) (↑(List.take (z30 - (0 : Int)).toNat (List.drop (0 : Nat) x8)).length : Int)) → ∀ (b91 : Bool), b91 = !b89 → bif bif b87 then true else true then bif bif b87 then true else !b87 then ∀ (b93 : Bool), (b93 = bif b87 then true else b91) → bif b93 then false = true else true = true else False else False else bif !b87 then Stuck "draw" "law.go:46" else Stuck "draw" "law.go:46" else False else False else bif !b87 then Stuck "draw" "law.go:46" else bif !b87 then Stuck "draw" "law.go:46" else Stuck "draw" "law.go:46" else False else False else bif !b87 then bif !b87 then bif decide (lenI (List.take (z30 - (0 : Int)).toNat (List.drop (0 : Nat) x8)) ≤ (1000 : Int)) then bif !b87 then Stuck "draw" "law.go:46" else bif !b87 then Stuck "draw" "law.go:46" else Stuck "draw" "law.go:46" else False else False else bif !b87 then Stuck "draw" "law.go:46" else bif !b87 then Stuck "draw" "law.go:46" else Stuck "draw" "law.go:46" else False else False
 else bif !b71 then Stuck "draw" "law.go:46" else Stuck "draw" "law.go:46"
 else False
 else False
 else bif !b71 then Stuck "draw" "law.go:46" else bif !b71 then Stuck "draw" "law.go:46" else Stuck "draw" "law.go:46"
 else False
 else False
 else bif !b71 then bif !b71 then bif decide (lenI (tnTs x5 x6 x7 (dTs x0 (rN x2).toNat)) ≤ (1000 : Int)) then bif !b71 then Stuck "draw" "law.go:46" else bif !b71 then Stuck "draw" "law.go:46" else Stuck "draw" "law.go:46" else False else False else bif !b71 then Stuck "draw" "law.go:46" else bif !b71 then Stuck "draw" "law.go:46" else Stuck "draw" "law.go:46"
 else False
 else False
 else bif !b55 then Stuck "draw" "law.go:46" else Stuck "draw" "law.go:46"
 else False
 else False
 else bif !b55 then Stuck "draw" "law.go:46" else bif !b55 then Stuck "draw" "law.go:46" else Stuck "draw" "law.go:46"
 else False
 else False
 else bif !b55 then bif !b55 then bif decide (lenI (dTs x0 (rN x2).toNat) ≤ (1000 : Int)) then bif !b55 then Stuck "draw" "law.go:46" else bif !b55 then Stuck "draw" "law.go:46" else Stuck "draw" "law.go:46" else False else False else bif !b55 then Stuck "draw" "law.go:46" else bif !b55 then Stuck "draw" "law.go:46" else Stuck "draw" "law.go:46"
 else False
 else False
 else False
 else False
 else False
 else False) := by kernel_rfl
end Go.Proofs.YtafmknblnamegaaDoor
