/- The law SceneOwns, run by the engine, answers true: for all arguments. No condition. -/
import Derived.Test.YtafmknblnamegaaDoorS5L1T
namespace Go.Proofs.YtafmknblnamegaaDoor
open Go.Eng
set_option linter.unusedSimpArgs false
namespace sceneOwns
set_option maxRecDepth 100000 in
set_option maxHeartbeats 4000000 in
theorem fallI (x0 : List (List Value)) (x1 : Int) (x2 : Int) (x3 : Int) (x4 : Int) (x5 : Int) (b0 : ∀ x ∈ x0, Fa [.int .u8] x) (c0 : x0.length ≤ maxLen) (b1 : (0 : Int) ≤ x1 ∧ x1 ≤ 255) (b2 : (0 : Int) ≤ x2 ∧ x2 ≤ 255) (b3 : (0 : Int) ≤ x3 ∧ x3 ≤ 255) (b4 : (-9223372036854775808 : Int) ≤ x4 ∧ x4 ≤ 9223372036854775807) (b5 : (0 : Int) ≤ x5 ∧ x5 ≤ 255) : ∃ ss, leSVs [.agg [.row 0, .i .u8 x1 (0) 255, .i .u8 x2 (0) 255, .i .u8 x3 (0) 255, .i .i64 x4 (-9223372036854775808) 9223372036854775807], .i .u8 x5 (0) 255] ss ∧ ∃ Λ n, fnS Tryd.prog G25 Λ n 5 ss [.ror [.int .u8] x0 false] fun u _ => isYes u := by
  refine ⟨_, leSVs_refl _, soL (dCsE x0 x1 x2) (dLsE x0 x1 x2) (rN x2).toNat, 400, Eq.mpr (tSO x0 x1 x2 x3 x4 x5) ?_⟩
  (simp only [eq_self_iff_true, true_and, and_true, false_and, and_false, Bool.or_not_self, Bool.not_or_self, Bool.cond_self, cond_true, cond_false, Bool.cond_true_right, Bool.cond_true_left, Bool.cond_false_right, Bool.cond_false_left, Bool.or_true, Bool.true_or, Bool.or_false, Bool.false_or, Bool.and_true, Bool.true_and, Bool.and_false, Bool.false_and, Bool.not_not, forall_eq, ← Bool.decide_and, ← Bool.decide_or, ← decide_not, cDecF, cDecT, cDecFl, Decidable.not_not, Bool.not_true, Bool.not_false, Bool.false_eq_true, imp_false, not_true_eq_false, not_false_eq_true, forall_const, true_implies, false_implies, implies_true, decide_true, decide_false]; try simp only [cDec, eq_self_iff_true, true_and, and_true, false_and, and_false, Bool.or_not_self, Bool.not_or_self, Bool.cond_self, cond_true, cond_false, Bool.cond_true_right, Bool.cond_true_left, Bool.cond_false_right, Bool.cond_false_left, Bool.or_true, Bool.true_or, Bool.or_false, Bool.false_or, Bool.and_true, Bool.true_and, Bool.and_false, Bool.false_and, Bool.not_not, forall_eq, ← Bool.decide_and, ← Bool.decide_or, ← decide_not, cDecF, cDecT, cDecFl, Decidable.not_not, Bool.not_true, Bool.not_false, Bool.false_eq_true, imp_false, not_true_eq_false, not_false_eq_true, forall_const, true_implies, false_implies, implies_true, decide_true, decide_false])
  have M := draft_may x0 x1 x2 x3
  have hC := cN_in x1
  have hN := rN_in x2
  have hts := dTs_len x0 (rN x2).toNat
  have hcl := dCs_len x0 (rN x2) (cN x1) (rN x2).toNat
  have hll := dLs_len x0 (cT x0 (rN x2) (cN x1).toNat) (rN x2).toNat
  have hrow : ∀ c, c < (dCs x0 (rN x2) (cN x1) (rN x2).toNat).length → (dCs x0 (rN x2) (cN x1) (rN x2).toNat).getD c [] = [fle ((dCs x0 (rN x2) (cN x1) (rN x2).toNat).getD c []), own ((dCs x0 (rN x2) (cN x1) (rN x2).toNat).getD c [])] ∧ (own ((dCs x0 (rN x2) (cN x1) (rN x2).toNat).getD c [])).length ≤ 12 := fun c hc => by
    rw [hcl] at hc
    rw [dCs_get _ _ _ _ hc]
    have := dOw_len x0 (cT x0 (rN x2) (cN x1).toNat) (cN x1) (rN x2).toNat c
    exact ⟨rfl, by show (dOw _ _ _ _ _).length ≤ 12; omega⟩
  rw [show dCsE x0 x1 x2 = dCs x0 (rN x2) (cN x1) (rN x2).toNat from rfl, show dLsE x0 x1 x2 = dLs x0 (cT x0 (rN x2) (cN x1).toNat) (rN x2).toNat from rfl]
  generalize dCs x0 (rN x2) (cN x1) (rN x2).toNat = cs at *
  generalize dLs x0 (cT x0 (rN x2) (cN x1).toNat) (rN x2).toNat = ls at *
  generalize dDs x0 (rN x2) (cN x1).toNat = ds at *
  generalize dTs x0 (rN x2).toNat = ts at *
  have hn12 : ts.length ≤ 12 := by omega
  have hl12 : ls.length ≤ 12 := by omega
  rw [← hts]
  have hc6 : 1 ≤ cs.length ∧ cs.length ≤ 6 := by omega
  clear hll hcl hts hC hN
  generalize hw : (fun r => (who x0 (cT x0 (rN x2) (cN x1).toNat) (cN x1) r).toNat) = w at *
  clear hw
  rw [lenI_eq]
  refine ⟨M.ok, by omega, by omega, by omega, 0, ⟨by omega, by omega⟩, ⟨⟨rfl, by omega, by omega⟩, oneR_nil _ _ (by omega)⟩, ?_⟩
  rintro k ⟨ka, kb⟩
  refine ⟨fun hlt => ?_, fun hge => ?_⟩
  · have hk : k.toNat < cs.length := by omega
    have ek : ((k.toNat : Nat) : Int) = k := by omega
    obtain ⟨_, ho12⟩ := hrow k.toNat hk
    have hs0 : soN cs k = ((own (cs.getD k.toNat [])).length : Int) := rfl
    refine ⟨0, ⟨by omega, by omega⟩, ⟨⟨rfl, by omega, by omega⟩, by rw [show (0 : Int).toNat = 0 from rfl, ownTo_zero]⟩, ?_⟩
    rintro i ⟨ia, ib⟩
    rw [show (cs.getD k.toNat []).getD 1 [] = own (cs.getD k.toNat []) from rfl]
    refine ⟨⟨ka, hlt⟩, fun hi => ?_, fun hi => ?_⟩
    · have hi' : i.toNat < (own (cs.getD k.toNat [])).length := by omega
      obtain ⟨j, j1, j2, j3⟩ := M.pa.range hk hi'
      have hnt := M.pa.notTo hk hi'
      have hfo := M.pa.fow hk (r := geti ((own (cs.getD k.toNat [])).getD i.toNat []) 0) (by rw [← isOf_get _ hi']; exact List.getElem_mem _) 0 (Nat.zero_le _)
      rw [List.drop_zero, ek] at hfo
      have hsu := ownTo_succ cs k.toNat hi'
      generalize geti ((own (cs.getD k.toNat [])).getD i.toNat []) 0 = x at *
      have hx : 0 ≤ x ∧ x < ts.length := by omega
      rw [oneR_len, oR_len, oR_get ts cs hx.1 hx.2, hfo, oneR_set ts.length _ hx.1 hx.2 hnt]
      refine ⟨⟨ka, hlt⟩, ⟨ia, hi⟩, hx, hx, .inl hx, fun h => h.elim (fun h => by omega) (fun h => h rfl), i + 1, ⟨by omega, by omega⟩, by unfold twMu; omega, ⟨rfl, by omega, by omega⟩, ?_⟩
      rw [show (i + 1).toNat = i.toNat + 1 by omega, hsu]
    · refine ⟨k + 1, ⟨by omega, by omega⟩, by unfold twMu; omega, ⟨rfl, by omega, by omega⟩, ?_⟩
      rw [show i.toNat = (own (cs.getD k.toNat [])).length by omega, ownTo_full cs hk, show (k + 1).toNat = k.toNat + 1 by omega]
  · have hk : k.toNat = cs.length := by omega
    rw [hk, List.take_length]
    refine ⟨0, ⟨by omega, by omega⟩, ⟨⟨rfl, by omega, by omega⟩, oneR_nil _ _ (by omega)⟩, ?_⟩
    rintro i ⟨ia, ib⟩
    refine ⟨fun hi => ?_, fun hi => ?_⟩
    · have hi' : i.toNat < ls.length := by omega
      obtain ⟨r1, r2, _⟩ := M.lo.rng i.toNat hi'
      have hnt := M.lo.notTo hi'
      have hsu := ltTo_succ ls hi'
      generalize geti (ls.getD i.toNat []) 0 = x at *
      have hx : 0 ≤ x ∧ x < ts.length := ⟨r1, r2⟩
      rw [oneR_len, oneR_set ts.length _ hx.1 hx.2 hnt]
      refine ⟨⟨ia, hi⟩, hx, hx, i + 1, ⟨by omega, by omega⟩, by unfold twMu; omega, ⟨rfl, by omega, by omega⟩, ?_⟩
      rw [show (i + 1).toNat = i.toNat + 1 by omega, hsu]
    · refine ⟨0, ⟨by omega, by omega⟩, ⟨rfl, by omega, by omega⟩, ?_⟩
      rintro r ⟨ra, rb⟩
      refine ⟨fun hr => ?_, fun hr => ⟨fun h0 => ?_, fun h0 => ?_⟩⟩
      · have hx : 0 ≤ r ∧ r < ts.length := ⟨ra, hr⟩
        have hm : r ∈ ownAll cs := (M.pa.all r).2 hx
        rw [oneR_len, oneR_len, oneR_get _ _ hx.1 hx.2, oneR_get _ _ hx.1 hx.2, if_pos hm]
        refine ⟨hx, .inl hx, fun h => h.elim (fun h => h rfl) (fun h => ?_), r + 1, ⟨by omega, by omega⟩, by unfold twMu; omega, rfl, by omega, by omega⟩
        by_cases hm2 : r ∈ ltTo ls i.toNat
        · rw [if_pos hm2] at h; omega
        · rw [if_neg hm2] at h; omega
      · rw [oR_len]; exact decide_eq_true h0
      · have hc0 : (0 : Int) < cs.length := by omega
        have hn0 : (0 : Int) < ts.length := by omega
        have e1 : x5.tmod cs.length = x5 % cs.length := Int.tmod_eq_emod_of_nonneg b5.1
        have e2 : (x5 / 8).tmod ts.length = x5 / 8 % ts.length := Int.tmod_eq_emod_of_nonneg (by omega)
        have h1 : 0 ≤ x5 % cs.length ∧ x5 % cs.length < cs.length := ⟨Int.emod_nonneg _ (by omega), Int.emod_lt_of_pos _ hc0⟩
        have h2 : 0 ≤ x5 / 8 % ts.length ∧ x5 / 8 % ts.length < ts.length := ⟨Int.emod_nonneg _ (by omega), Int.emod_lt_of_pos _ hn0⟩
        rw [e1, e2]
        generalize x5 % cs.length = c at *
        generalize x5 / 8 % ts.length = q at *
        have hc : c.toNat < cs.length := by omega
        obtain ⟨hro, ho12⟩ := hrow c.toNat hc
        have eo : (cs.getD c.toNat []).getD 1 [] = own (cs.getD c.toNat []) := rfl
        have hrw : (cs.getD c.toNat []).take 1 ++ [[] ++ own (cs.getD c.toNat []) ++ [[Value.int .i64 q]]] ++ (cs.getD c.toNat []).drop (1 + [[] ++ own (cs.getD c.toNat []) ++ [[Value.int .i64 q]]].length) = [fle (cs.getD c.toNat []), own (cs.getD c.toNat []) ++ [[Value.int .i64 q]]] := by
          generalize hX : own (cs.getD c.toNat []) ++ [[Value.int .i64 q]] = X
          rw [List.nil_append, hX, hro]; rfl
        obtain ⟨f, f1, f2, f3⟩ := more_fault M hc (r := q.toNat) (by omega)
        rw [show ((q.toNat : Nat) : Int) = q by omega] at f3
        rw [eo, hrw, f3, lenI_eq, lenI_eq, List.length_append, List.length_set]
        refine ⟨by omega, by omega, by omega, h1, by omega, by simp only [List.length_nil]; omega, h1, by show ¬ (13 : Int) = 0; decide, ?_⟩
        apply decide_eq_true
        refine ⟨⟨⟨rfl, rfl⟩, ?_⟩, ?_⟩
        · show c ≤ ((f : Nat) : Int); omega
        · show ((f : Nat) : Int) < _; omega
def shapes : List (Bool × List Kd2) := [(true, [.sl [.int .u8], .k (.int .u8), .k (.int .u8), .k (.int .u8), .k (.int .i64)]), (false, [.k (.int .u8)])]
theorem fall (ss : List SV) (bs : List Blk) (h : ParsOk 0 shapes ss bs) : ∃ ss1, leSVs ss ss1 ∧ ∃ Λ n, fnS Tryd.prog G25 Λ n 5 ss1 bs fun u _ => isYes u := by
  obtain ⟨s0, r0, d0, e0, rfl, rfl, p0, h⟩ := ps_cons h
  obtain ⟨s1, r1, d1, e1, rfl, rfl, p1, h⟩ := ps_cons h
  obtain ⟨rfl, rfl⟩ := ps_nil h
  obtain ⟨l0, rfl, q0⟩ := par_agg p0
  obtain ⟨x0, _, t0, rfl, rfl, b0, c0, q0⟩ := fa_sl q0
  obtain ⟨x1, _, rfl, b1, q0⟩ := fa_int q0
  obtain ⟨x2, _, rfl, b2, q0⟩ := fa_int q0
  obtain ⟨x3, _, rfl, b3, q0⟩ := fa_int q0
  obtain ⟨x4, _, rfl, b4, q0⟩ := fa_int q0
  obtain ⟨rfl, rfl⟩ := fa_nil q0
  have q1 := par_one p1
  obtain ⟨x5, _, he1, b5, q1⟩ := fa_int q1
  obtain ⟨rfl, rfl⟩ := fa_nil q1
  simp only [List.cons.injEq, and_true] at he1
  subst he1
  exact fallI x0 x1 x2 x3 x4 x5 b0 c0 b1 b2 b3 b4 b5
end sceneOwns
end Go.Proofs.YtafmknblnamegaaDoor
