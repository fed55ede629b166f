/- The law SceneTurned, run by the engine, answers true: for all arguments. No condition. -/
import Derived.Test.YtafmknblnamegaaDoorS5L2T
namespace Go.Proofs.YtafmknblnamegaaDoor
open Go.Eng
set_option linter.unusedSimpArgs false
namespace sceneTurned
set_option maxRecDepth 100000 in
set_option maxHeartbeats 4000000 in
theorem fallI (x0 : List (List Value)) (x1 : Int) (x2 : Int) (x3 : Int) (x4 : Int) (x5 : Bool) (x6 : Bool) (x7 : Bool) (b0 : ∀ x ∈ x0, Fa [.int .u8] x) (c0 : x0.length ≤ maxLen) (b1 : (0 : Int) ≤ x1 ∧ x1 ≤ 255) (b2 : (0 : Int) ≤ x2 ∧ x2 ≤ 255) (b3 : (0 : Int) ≤ x3 ∧ x3 ≤ 255) (b4 : (-9223372036854775808 : Int) ≤ x4 ∧ x4 ≤ 9223372036854775807) : ∃ ss, leSVs [.agg [.row 0, .i .u8 x1 (0) 255, .i .u8 x2 (0) 255, .i .u8 x3 (0) 255, .i .i64 x4 (-9223372036854775808) 9223372036854775807], .agg [.b x5, .b x6, .b x7]] ss ∧ ∃ Λ n, fnS Tryd.prog G26 Λ n 4 ss [.ror [.int .u8] x0 false] fun u _ => isYes u := by
  refine ⟨_, leSVs_refl _, tuL x5 x6 x7 (dCsF x0 x1 x2) (dLsF x0 x1 x2), 400, Eq.mpr (tTU x0 x1 x2 x3 x4 x5 x6 x7) ?_⟩
  (simp only [eq_self_iff_true, true_and, and_true, false_and, and_false, Bool.or_not_self, Bool.not_or_self, Bool.cond_self, cond_true, cond_false, Bool.cond_true_right, Bool.cond_true_left, Bool.cond_false_right, Bool.cond_false_left, Bool.or_true, Bool.true_or, Bool.or_false, Bool.false_or, Bool.and_true, Bool.true_and, Bool.and_false, Bool.false_and, Bool.not_not, forall_eq, ← Bool.decide_and, ← Bool.decide_or, ← decide_not, cDecF, cDecT, cDecFl, Decidable.not_not, Bool.not_true, Bool.not_false, Bool.false_eq_true, imp_false, not_true_eq_false, not_false_eq_true, forall_const, true_implies, false_implies, implies_true, decide_true, decide_false]; try simp only [cDec, eq_self_iff_true, true_and, and_true, false_and, and_false, Bool.or_not_self, Bool.not_or_self, Bool.cond_self, cond_true, cond_false, Bool.cond_true_right, Bool.cond_true_left, Bool.cond_false_right, Bool.cond_false_left, Bool.or_true, Bool.true_or, Bool.or_false, Bool.false_or, Bool.and_true, Bool.true_and, Bool.and_false, Bool.false_and, Bool.not_not, forall_eq, ← Bool.decide_and, ← Bool.decide_or, ← decide_not, cDecF, cDecT, cDecFl, Decidable.not_not, Bool.not_true, Bool.not_false, Bool.false_eq_true, imp_false, not_true_eq_false, not_false_eq_true, forall_const, true_implies, false_implies, implies_true, decide_true, decide_false])
  have M := draft_may x0 x1 x2 x3
  have hC := cN_in x1
  have hN := rN_in x2
  have hts := dTs_len x0 (rN x2).toNat
  have hcl := dCs_len x0 (rN x2) (cN x1) (rN x2).toNat
  have hll := dLs_len x0 (cT x0 (rN x2) (cN x1).toNat) (rN x2).toNat
  have hlr : ∀ y, y ∈ dLs x0 (cT x0 (rN x2) (cN x1).toNat) (rN x2).toNat → [Value.int .i64 (geti y 0), Value.int .i64 (geti y 1)] = y := fun y hy => dLs_rec _ _ _ y hy
  have hrow : ∀ c, c < (dCs x0 (rN x2) (cN x1) (rN x2).toNat).length → (own ((dCs x0 (rN x2) (cN x1) (rN x2).toNat).getD c [])).length ≤ 12 ∧ (fle ((dCs x0 (rN x2) (cN x1) (rN x2).toNat).getD c [])).length ≤ 2 ∧ (∀ y, y ∈ fle ((dCs x0 (rN x2) (cN x1) (rN x2).toNat).getD c []) → [Value.int .i64 (geti y 0), Value.int .i64 (geti y 1), Value.int .i64 (geti y 2), Value.int .i64 (geti y 3), Value.int .i64 (geti y 4)] = y) ∧ ∀ y, y ∈ own ((dCs x0 (rN x2) (cN x1) (rN x2).toNat).getD c []) → [Value.int .i64 (geti y 0)] = y := fun c hc => by
    rw [hcl] at hc
    rw [dCs_get _ _ _ _ hc]
    have := dOw_len x0 (cT x0 (rN x2) (cN x1).toNat) (cN x1) (rN x2).toNat c
    exact ⟨by show (dOw _ _ _ _ _).length ≤ 12; omega, (cFl_len _ _ _).2, fun y hy => cFl_rec _ _ _ y hy, fun y hy => dOw_rec _ _ _ _ _ y hy⟩
  rw [show dCsF x0 x1 x2 = dCs x0 (rN x2) (cN x1) (rN x2).toNat from rfl, show dLsF x0 x1 x2 = dLs x0 (cT x0 (rN x2) (cN x1).toNat) (rN x2).toNat from rfl]
  generalize dCs x0 (rN x2) (cN x1) (rN x2).toNat = cs at *
  generalize dLs x0 (cT x0 (rN x2) (cN x1).toNat) (rN x2).toNat = ls at *
  generalize dDs x0 (rN x2) (cN x1).toNat = ds at *
  generalize dTs x0 (rN x2).toNat = ts at *
  have hn12 : ts.length ≤ 12 := by omega
  have hl12 : ls.length ≤ 12 := by omega
  have hc6 : 1 ≤ cs.length ∧ cs.length ≤ 6 := by omega
  clear hll hcl hts hC hN
  generalize hw : (fun r => (who x0 (cT x0 (rN x2) (cN x1).toNat) (cN x1) r).toNat) = w at *
  clear hw
  rw [lenI_eq]
  refine ⟨by omega, 0, ⟨by omega, by omega⟩, ⟨⟨rfl, by omega, by omega⟩, rfl⟩, ?_⟩
  rintro k ⟨ka, kb⟩
  refine ⟨fun hlt => ?_, fun hge => ?_⟩
  · have hk : k.toNat < cs.length := by omega
    obtain ⟨ho12, hf2, hfr, hor⟩ := hrow k.toNat hk
    rw [show (cs.getD k.toNat []).getD 0 [] = fle (cs.getD k.toNat []) from rfl, show (cs.getD k.toNat []).getD 1 [] = own (cs.getD k.toNat []) from rfl]
    have e1 : ∀ i, tuF x5 cs k i = tuT x5 (fle (cs.getD k.toNat [])) i := fun _ => rfl
    have e2 : ∀ i, tuO x6 cs k i = tuT x6 (own (cs.getD k.toNat [])) i := fun _ => rfl
    have e3 : flN cs k = ((fle (cs.getD k.toNat [])).length : Int) := rfl
    have e4 : owN cs k = ((own (cs.getD k.toNat [])).length : Int) := rfl
    have e5 := tuC_succ x5 x6 cs ka hlt
    have e6 := tuC_len x5 x6 cs ka kb
    have e7 : tuX x5 x6 (cs.getD k.toNat []) = [tuR x5 (fle (cs.getD k.toNat [])), tuR x6 (own (cs.getD k.toNat []))] := rfl
    simp only [e1, e2, e3, e4]
    rw [e7] at e5
    generalize fle (cs.getD k.toNat []) = fl at *
    generalize own (cs.getD k.toNat []) = os at *
    refine ⟨⟨ka, hlt⟩, 0, ⟨by omega, by omega⟩, ⟨⟨rfl, by omega, by omega⟩, (tuT_zero _ _).symm⟩, ?_⟩
    rintro i ⟨ia, ib⟩
    refine ⟨fun hi => ?_, fun hi => ?_⟩
    · have hs := tuT_succ x5 fl ia hi
      have hl := tuT_len x5 fl ia ib
      have hK : 0 ≤ tuK x5 fl.length i ∧ tuK x5 fl.length i < fl.length := by cases x5 <;> simp only [tuK, cond_true, cond_false] <;> omega
      rw [← hfr _ (getD_in (d := []) (show (tuK x5 fl.length i).toNat < fl.length by omega))] at hs
      have fin : (0 ≤ tuK x5 fl.length i ∧ tuK x5 fl.length i < fl.length) ∧ lenI (tuT x5 fl i) ≤ 1759218604441 ∧ ∃ s : Int, Tw (fl.length : Int) s ∧ twMu (fl.length : Int) s < twMu (fl.length : Int) i ∧ (i + 1 = s ∧ 0 ≤ s ∧ s ≤ 100) ∧ tuT x5 fl i ++ [[Value.int .i64 (geti (fl.getD (tuK x5 fl.length i).toNat []) 0), Value.int .i64 (geti (fl.getD (tuK x5 fl.length i).toNat []) 1), Value.int .i64 (geti (fl.getD (tuK x5 fl.length i).toNat []) 2), Value.int .i64 (geti (fl.getD (tuK x5 fl.length i).toNat []) 3), Value.int .i64 (geti (fl.getD (tuK x5 fl.length i).toNat []) 4)]] = tuT x5 fl s :=
        ⟨hK, by rw [lenI_eq]; omega, i + 1, ⟨by omega, by omega⟩, by unfold twMu; omega, ⟨rfl, by omega, by omega⟩, hs⟩
      cases x5 <;> exact fin
    · have hif : i = fl.length := by omega
      refine ⟨0, ⟨by omega, by omega⟩, ⟨⟨rfl, by omega, by omega⟩, by rw [hif], (tuT_zero _ _).symm⟩, ?_⟩
      rintro j ⟨ja, jb⟩
      refine ⟨fun hj => ?_, fun hj => ?_⟩
      · have hs := tuT_succ x6 os ja hj
        have hl := tuT_len x6 os ja jb
        have hK : 0 ≤ tuK x6 os.length j ∧ tuK x6 os.length j < os.length := by cases x6 <;> simp only [tuK, cond_true, cond_false] <;> omega
        rw [← hor _ (getD_in (d := []) (show (tuK x6 os.length j).toNat < os.length by omega))] at hs
        have fin : (0 ≤ tuK x6 os.length j ∧ tuK x6 os.length j < os.length) ∧ lenI (tuT x6 os j) ≤ 8796093022208 ∧ ∃ s : Int, Tw (os.length : Int) s ∧ twMu (os.length : Int) s < twMu (os.length : Int) j ∧ (j + 1 = s ∧ 0 ≤ s ∧ s ≤ 100) ∧ tuT x6 os j ++ [[Value.int .i64 (geti (os.getD (tuK x6 os.length j).toNat []) 0)]] = tuT x6 os s :=
          ⟨hK, by rw [lenI_eq]; omega, j + 1, ⟨by omega, by omega⟩, by unfold twMu; omega, ⟨rfl, by omega, by omega⟩, hs⟩
        cases x6 <;> exact fin
      · refine ⟨by omega, k + 1, ⟨by omega, by omega⟩, by unfold twMu; omega, ⟨rfl, by omega, by omega⟩, ?_⟩
        rw [tuT_full x5 fl rfl, tuT_full x6 os (by omega), e5]
  · refine ⟨0, ⟨by omega, by omega⟩, ⟨⟨rfl, by omega, by omega⟩, (tuT_zero _ _).symm⟩, ?_⟩
    rintro i ⟨ia, ib⟩
    refine ⟨fun hi => ?_, fun hi => ?_⟩
    · have hs := tuT_succ x7 ls ia hi
      have hl := tuT_len x7 ls ia ib
      have hK : 0 ≤ tuK x7 ls.length i ∧ tuK x7 ls.length i < ls.length := by cases x7 <;> simp only [tuK, cond_true, cond_false] <;> omega
      rw [← hlr _ (getD_in (d := []) (show (tuK x7 ls.length i).toNat < ls.length by omega))] at hs
      have fin : (0 ≤ tuK x7 ls.length i ∧ tuK x7 ls.length i < ls.length) ∧ lenI (tuT x7 ls i) ≤ 4398046511104 ∧ ∃ s : Int, Tw (ls.length : Int) s ∧ twMu (ls.length : Int) s < twMu (ls.length : Int) i ∧ (i + 1 = s ∧ 0 ≤ s ∧ s ≤ 100) ∧ tuT x7 ls i ++ [[Value.int .i64 (geti (ls.getD (tuK x7 ls.length i).toNat []) 0), Value.int .i64 (geti (ls.getD (tuK x7 ls.length i).toNat []) 1)]] = tuT x7 ls s :=
        ⟨hK, by rw [lenI_eq]; omega, i + 1, ⟨by omega, by omega⟩, by unfold twMu; omega, ⟨rfl, by omega, by omega⟩, hs⟩
      cases x7 <;> exact fin
    · have M2 := M.turn x5 x6 x7
      rw [tuC_full x5 x6 cs (show k = cs.length by omega), tuT_full x7 ls (show i = ls.length by omega)]
      refine ⟨M.ok, M.ok, M2.ok, M2.ok, by omega, ?_⟩
      rw [M2.pa.same M.pa]; exact intsB_refl _
def shapes : List (Bool × List Kd2) := [(true, [.sl [.int .u8], .k (.int .u8), .k (.int .u8), .k (.int .u8), .k (.int .i64)]), (true, [.k .bool, .k .bool, .k .bool])]
theorem fall (ss : List SV) (bs : List Blk) (h : ParsOk 0 shapes ss bs) : ∃ ss1, leSVs ss ss1 ∧ ∃ Λ n, fnS Tryd.prog G26 Λ n 4 ss1 bs fun u _ => isYes u := by
  obtain ⟨s0, r0, d0, e0, rfl, rfl, p0, h⟩ := ps_cons h
  obtain ⟨s1, r1, d1, e1, rfl, rfl, p1, h⟩ := ps_cons h
  obtain ⟨rfl, rfl⟩ := ps_nil h
  obtain ⟨l0, rfl, q0⟩ := par_agg p0
  obtain ⟨x0, _, t0, rfl, rfl, b0, c0, q0⟩ := fa_sl q0
  obtain ⟨x1, _, rfl, b1, q0⟩ := fa_int q0
  obtain ⟨x2, _, rfl, b2, q0⟩ := fa_int q0
  obtain ⟨x3, _, rfl, b3, q0⟩ := fa_int q0
  obtain ⟨x4, _, rfl, b4, q0⟩ := fa_int q0
  obtain ⟨rfl, rfl⟩ := fa_nil q0
  obtain ⟨l1, rfl, q1⟩ := par_agg p1
  obtain ⟨x5, w5, f5, g5⟩ := fa_bool q1
  clear q1
  subst f5
  have q1 := g5
  clear g5
  obtain ⟨x6, w6, f6, g6⟩ := fa_bool q1
  clear q1
  subst f6
  have q1 := g6
  clear g6
  obtain ⟨x7, w7, f7, g7⟩ := fa_bool q1
  clear q1
  subst f7
  have q1 := g7
  clear g7
  obtain ⟨rfl, rfl⟩ := fa_nil q1
  exact fallI x0 x1 x2 x3 x4 x5 x6 x7 b0 c0 b1 b2 b3 b4
end sceneTurned
end Go.Proofs.YtafmknblnamegaaDoor
