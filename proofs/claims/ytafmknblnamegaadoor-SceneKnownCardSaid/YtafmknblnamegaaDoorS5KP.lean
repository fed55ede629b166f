/- These contracts hold. No condition. -/
import Derived.Test.YtafmknblnamegaaDoorS5KT
import Derived.Test.YtafmknblnamegaaDoorV7N
namespace Go.Proofs.YtafmknblnamegaaDoor
open Go.Eng
set_option linter.unusedSimpArgs false
section
variable {ts : Rw} {v : List Value} {os ls : Rw} {a b d : Int}
theorem k_f : fle ((csK v os).getD 0 []) = [v] := rfl
theorem k_o : own ((csK v os).getD 0 []) = os := rfl
theorem k_cn : cnF ts (csK v os) ls dsK = bif decide (¬((ts.length : Int) ≤ 64 ∧ (ls.length : Int) ≤ 16)) then 11 else 0 := by
  unfold cnF
  show (bif decide (¬((((ts.length : Int) ≤ 64 ∧ (1 : Int) ≤ 1 ∧ (1 : Int) ≤ 8) ∧ (ls.length : Int) ≤ 16) ∧ (1 : Int) = 1)) then (11 : Int) else 0) = _
  congr 1
  exact decide_eq_decide.2 (by omega)
theorem k_ct : ∀ j, j < (csK v os).length → cntE (csK v os) j = 0 := fun j hj => by
  have e : j = 0 := by have : (csK v os).length = 1 := rfl; omega
  subst e
  show (bif decide (¬((1 : Int) ≤ 1 ∧ (1 : Int) ≤ 4)) then (11 : Int) else 0) = 0
  decide
theorem k_ca0 (hv : veE v ≠ 0) : scanF 2 (carE ts (csK v os)) (csK v os).length = ⟨veE v, 2, 0⟩ := by
  have e : carE ts (csK v os) 0 = veE v := by
    have h1 : scanE (vesE (csK v os) 0) (fle ((csK v os).getD 0 [])).length = veE v := scanE_hit (f := vesE (csK v os) 0) (k := 0) (n := 1) (fun j hj => by omega) hv (by omega)
    unfold carE; rw [h1, if_neg hv]
  have := scanF_hit (p := 2) (f := carE ts (csK v os)) (k := 0) (fun j hj => by omega) (by rw [e]; exact hv) (n := (csK v os).length) (by show 0 < 1; omega)
  rw [this, e]; rfl
theorem k_ca1 (hv : veE v = 0) : carE ts (csK v os) 0 = scanE (owE ts (csK v os) 0) os.length := by
  have h1 : scanE (vesE (csK v os) 0) (fle ((csK v os).getD 0 [])).length = 0 := scanE_none fun j hj => by
    have e : j = 0 := by have : (fle ((csK v os).getD 0 [])).length = 1 := rfl; omega
    subst e; exact hv
  unfold carE; rw [if_pos h1]; rfl
theorem k_len : (csK v os).length = 1 := rfl
end
set_option maxHeartbeats 4000000 in
theorem okCk1 : CtrOk Tryd.prog 11 kCk1 := good_ofM okG25 mixed (fun ((ts, ((p, q, r, s, t, _), os, _), ls, a, b, d, _, _), _) => s1L ts (csK (vR p q r s t) os) ls true) 100 fun ((ts, ((p, q, r, s, t, _), os, _), ls, a, b, d, _, _), _) hf hn => by
  refine ⟨rfl, Eq.mpr (tCk1 ts p q r s t os ls a b d) ?_⟩
  (simp only [eq_self_iff_true, true_and, and_true, false_and, and_false, Bool.or_not_self, Bool.not_or_self, Bool.cond_self, cond_true, cond_false, Bool.cond_true_right, Bool.cond_true_left, Bool.cond_false_right, Bool.cond_false_left, Bool.or_true, Bool.true_or, Bool.or_false, Bool.false_or, Bool.and_true, Bool.true_and, Bool.and_false, Bool.false_and, Bool.not_not, forall_eq, ← Bool.decide_and, ← Bool.decide_or, ← decide_not, cDecF, cDecT, cDecFl, Decidable.not_not, Bool.not_true, Bool.not_false, Bool.false_eq_true, imp_false, not_true_eq_false, not_false_eq_true, forall_const, true_implies, false_implies, implies_true, decide_true, decide_false]; try simp only [cDec, eq_self_iff_true, true_and, and_true, false_and, and_false, Bool.or_not_self, Bool.not_or_self, Bool.cond_self, cond_true, cond_false, Bool.cond_true_right, Bool.cond_true_left, Bool.cond_false_right, Bool.cond_false_left, Bool.or_true, Bool.true_or, Bool.or_false, Bool.false_or, Bool.and_true, Bool.true_and, Bool.and_false, Bool.false_and, Bool.not_not, forall_eq, ← Bool.decide_and, ← Bool.decide_or, ← decide_not, cDecF, cDecT, cDecFl, Decidable.not_not, Bool.not_true, Bool.not_false, Bool.false_eq_true, imp_false, not_true_eq_false, not_false_eq_true, forall_const, true_implies, false_implies, implies_true, decide_true, decide_false])
  have hm : maxLen = 9223372036854775807 := by decide
  have hts : ts.length ≤ 9223372036854775807 := hm ▸ hf.1.1.2
  have hos : os.length ≤ 9223372036854775807 := hm ▸ hf.1.2.1.2.1.2
  have hls : ls.length ≤ 9223372036854775807 := hm ▸ hf.1.2.2.1.2
  rw [show veh p q r s t = veE (vR p q r s t) from rfl]
  generalize vR p q r s t = v at *
  rw [← k_cn (v := v) (os := os)]
  refine ⟨fun h => ex_hit (F := ckF ts (csK v os) ls a b d dsK) (e := cnF ts (csK v os) ls dsK) (by unfold ckF; exact orF_l h) h, fun h0 => ?_⟩
  rw [ck_0 h0, orF_r (scanF_none k_ct)]
  refine ⟨fun h => hit_1 h, fun ha => ?_⟩
  rw [orF_r (x := ⟨agF a b d, 0, 0⟩) ha]
  refine ⟨0, ⟨by omega, by omega, fun j hj => j0 hj⟩, ⟨rfl, by omega, by omega⟩, ?_⟩
  rintro k1 ⟨ka1, kb1, kok1⟩
  refine ⟨fun hlt => ⟨⟨ka1, hlt⟩, fun h => hit_sc ka1 hlt kok1 rfl h, fun h => ?_⟩, fun hge1 => ?_⟩
  · exact ⟨k1 + 1, ⟨by omega, by omega, ok_step ka1 kok1 h⟩, mu_lt ka1 hlt, w1 ka1 hlt (by omega), by omega, by omega⟩
  have ck1 : ∀ j, j < ts.length → rqsE ts j = 0 := fun j hj => kok1 j (by omega)
  rw [orF_r (scanF_none ck1)]
  clear kok1
  refine ⟨fun hv => ?_, fun hv => ?_⟩
  · rw [k_ca0 hv]; exact hit_1 hv
  have hcar := k_ca1 (ts := ts) (os := os) hv
  have h01 : (0 : Int) < ((csK v os).length : Int) := by rw [k_len]; decide
  refine ⟨⟨0, []⟩, ⟨Int.le_refl _, Int.natCast_nonneg _, fun j hj => j0 hj, fun r => by simp [mhas, ownTo, ownAll]⟩, ⟨⟨rfl, Int.le_refl _, (by decide : (0 : Int) ≤ 9223372036854775807)⟩, rfl⟩, ?_⟩
  rintro ⟨k2, m⟩ ⟨qa, qb, qok, qhas⟩
  dsimp only at qa qb qok qhas ⊢
  have qb' : k2 ≤ (os.length : Int) := qb
  have e0 : (0 : Int).toNat = 0 := rfl
  rw [e0] at qok qhas
  have eo : own ((csK v os).getD 0 []) = os := rfl
  refine ⟨fun hlt => ⟨⟨qa, hlt⟩, fun h => ?_, fun h => ?_⟩, fun hge => ?_⟩
  · have ho : owE ts (csK v os) 0 k2.toNat = 12 := by unfold owE; rw [eo, if_neg]; rintro ⟨h1, h2⟩; exact h ⟨h1, by omega⟩
    exact hit_sc (Int.le_refl 0) h01 (fun j hj => j0 hj) (by rw [e0, hcar, scanE_hit qok (by rw [ho]; decide) (by omega : k2.toNat < os.length), ho]) (by decide)
  · have hx := qhas (geti (os.getD k2.toNat []) 0)
    have hin : 0 ≤ geti (os.getD k2.toNat []) 0 ∧ geti (os.getD k2.toNat []) 0 < (ts.length : Int) := ⟨h.1, by omega⟩
    by_cases hmem : geti (os.getD k2.toNat []) 0 ∈ ownTo (csK v os) 0 k2.toNat
    · rw [hx, decide_eq_true hmem, cond_true]
      have ho : owE ts (csK v os) 0 k2.toNat = 13 := by unfold owE; rw [eo, if_pos hin, if_pos hmem]
      exact hit_sc (Int.le_refl 0) h01 (fun j hj => j0 hj) (by rw [e0, hcar, scanE_hit qok (by rw [ho]; decide) (by omega : k2.toNat < os.length), ho]) (by decide)
    · rw [hx, decide_eq_false hmem, cond_false]
      have ho : owE ts (csK v os) 0 k2.toNat = 0 := by unfold owE; rw [eo, if_pos hin, if_neg hmem]
      refine ⟨⟨k2 + 1, mset m (geti (os.getD k2.toNat []) 0) [Value.int .i64 0]⟩, ⟨by show 0 ≤ k2 + 1; omega, by show k2 + 1 ≤ (os.length : Int); omega, ok_step qa qok ho, fun r => ?_⟩, mu_lt qa hlt, ⟨w1 qa hlt (by omega), by show 0 ≤ k2 + 1; omega, by show k2 + 1 ≤ _; omega⟩, rfl⟩
      show mhas (mset m _ _) r = decide (r ∈ ownTo (csK v os) 0 (k2 + 1).toNat)
      rw [mhas_mset, qhas, show (k2 + 1).toNat = k2.toNat + 1 by omega, ownTo_succ _ _ (by rw [eo]; omega), eo]
      by_cases hr : geti (os.getD k2.toNat []) 0 = r
      · rw [decide_eq_true hr, Bool.true_or]; symm; apply decide_eq_true; rw [← hr]; simp
      · rw [decide_eq_false hr, Bool.false_or]; apply decide_eq_decide.2; rw [List.mem_append, List.mem_singleton]; exact ⟨.inl, fun hh => hh.elim id fun hh => absurd hh.symm hr⟩
  have e2 : k2.toNat = (own ((csK v os).getD 0 [])).length := by rw [eo]; omega
  have ca0 : ∀ j, j < (csK v os).length → carE ts (csK v os) j = 0 := fun j hj => by
    have e : j = 0 := by rw [k_len] at hj; omega
    subst e
    rw [hcar]; exact scanE_none fun i hi => qok i (by rw [eo] at e2; omega)
  have hall : ∀ r, mhas m r = decide (r ∈ ownAll (csK v os)) := fun r => by
    rw [qhas, e2, ownTo_full (csK v os) (show 0 < 1 by decide)]; rfl
  rw [orF_r (scanF_none ca0)]
  clear qok qhas
  refine ⟨0, ⟨by omega, by omega, fun j hj => j0 hj⟩, ⟨rfl, by omega, by omega⟩, ?_⟩
  rintro k3 ⟨ka3, kb3, kok3⟩
  have e3 : ((k3.toNat : Nat) : Int) = k3 := by omega
  have hu : (bif !mhas m k3 then (11 : Int) else 0) = unE (csK v os) k3.toNat := by unfold unE; rw [hall, e3]
  rw [hu]
  refine ⟨fun hlt => ⟨fun h => hit_sc ka3 hlt kok3 rfl h, fun h => ?_⟩, fun hge3 => ?_⟩
  · exact ⟨k3 + 1, ⟨by omega, by omega, ok_step ka3 kok3 h⟩, mu_lt ka3 hlt, w1 ka3 hlt (by omega), by omega, by omega⟩
  have ck3 : ∀ j, j < ts.length → unE (csK v os) j = 0 := fun j hj => kok3 j (by omega)
  rw [orF_r (scanF_none ck3)]
  clear kok3
  refine ⟨⟨0, []⟩, ⟨Int.le_refl _, Int.natCast_nonneg _, fun j hj => j0 hj, fun r => by simp [mget, ltTo]⟩, ⟨⟨rfl, Int.le_refl _, (by decide : (0 : Int) ≤ 9223372036854775807)⟩, rfl⟩, ?_⟩
  rintro ⟨k4, m4⟩ ⟨ka4, kb4, kok4, khas4⟩
  dsimp only at ka4 kb4 kok4 khas4 ⊢
  refine ⟨fun hlt => ⟨⟨ka4, hlt⟩, fun h => ?_, fun h => ?_⟩, fun hge => nil_fl (scanF_none fun j hj => kok4 j (by omega))⟩
  · have ho : ltE ts ls k4.toNat = 12 := by unfold ltE; rw [if_neg]; rintro ⟨h1, h2⟩; exact h ⟨h1, by omega⟩
    exact hit_sl ka4 hlt kok4 ho (by decide)
  · have hin : 0 ≤ geti (ls.getD k4.toNat []) 0 ∧ geti (ls.getD k4.toNat []) 0 < (ts.length : Int) := ⟨h.1, by omega⟩
    have hx := khas4 (geti (ls.getD k4.toNat []) 0)
    rw [hx, mget_mset, if_pos rfl]
    by_cases hmem : geti (ls.getD k4.toNat []) 0 ∈ ltTo ls k4.toNat
    · rw [if_pos hmem]
      refine ⟨fun _ => hit_sl ka4 hlt kok4 (by unfold ltE; rw [if_pos hin, if_pos hmem]) (by decide), fun hh => absurd (show (1 : Int) < geti [Value.int .i64 (IntKind.i64.wrap (geti [Value.int .i64 1] 0 + 1))] 0 by decide) hh⟩
    · rw [if_neg hmem]
      have hz : geti [Value.int .i64 (IntKind.i64.wrap (geti [Value.int .i64 0] 0 + 1))] 0 = 1 := by decide
      rw [hz]
      refine ⟨fun hh => absurd hh (by decide), fun _ => ⟨fun h1 => ?_, fun h1 => ?_⟩⟩
      · have hr : ¬ (0 ≤ geti (ls.getD k4.toNat []) 1 ∧ geti (ls.getD k4.toNat []) 1 ≤ 16777216) := fun hr => h1 (by rw [decide_eq_false (not_not_intro hr)]; rfl)
        have e5 : (bif decide (¬(0 ≤ geti (ls.getD k4.toNat []) 1 ∧ geti (ls.getD k4.toNat []) 1 ≤ 16777216)) then (3 : Int) else 0) = 3 := by rw [decide_eq_true hr]; rfl
        rw [e5]
        exact hit_sl ka4 hlt kok4 (by unfold ltE; rw [if_pos hin, if_neg hmem, if_neg hr]) (by decide)
      · have hr : 0 ≤ geti (ls.getD k4.toNat []) 1 ∧ geti (ls.getD k4.toNat []) 1 ≤ 16777216 := Classical.byContradiction fun hr => by
          rw [decide_eq_true hr] at h1; exact absurd h1 (by decide)
        have ho : ltE ts ls k4.toNat = 0 := by unfold ltE; rw [if_pos hin, if_neg hmem, if_pos hr]
        have hw : IntKind.i64.wrap (geti [Value.int .i64 0] 0 + 1) = 1 := by decide
        rw [hw]
        refine ⟨⟨k4 + 1, mset m4 (geti (ls.getD k4.toNat []) 0) [Value.int .i64 1]⟩, ⟨by show 0 ≤ k4 + 1; omega, by show k4 + 1 ≤ _; omega, ok_step ka4 kok4 ho, fun r => ?_⟩, mu_lt ka4 hlt, ⟨w1 ka4 hlt (by omega), by show 0 ≤ k4 + 1; omega, by show k4 + 1 ≤ _; omega⟩, rfl⟩
        show mget (mset m4 _ _) r [Value.int .i64 0] = [Value.int .i64 (if r ∈ ltTo ls (k4 + 1).toNat then 1 else 0)]
        rw [mget_mset, khas4, show (k4 + 1).toNat = k4.toNat + 1 by omega, ltTo_succ ls (by omega)]
        by_cases hr : geti (ls.getD k4.toNat []) 0 = r
        · rw [if_pos hr, if_pos (by rw [← hr]; simp)]
        · rw [if_neg hr]
          by_cases h2 : r ∈ ltTo ls k4.toNat
          · rw [if_pos h2, if_pos (List.mem_append_left _ h2)]
          · rw [if_neg h2, if_neg (by rw [List.mem_append, List.mem_singleton]; exact fun hh => hh.elim h2 fun hh => hr hh.symm)]
theorem okG26 : PCok Tryd.prog G26 := addPC_ok okG25 okCk1
set_option maxHeartbeats 4000000 in
theorem okCk3 : CtrOk Tryd.prog 11 kCk3 := good_ofM okG26 mixed (fun ((ts, ((p, q, r, s, t, _), os, _), (l0, l1, l2, l3, _), a, b, d, _, _), _) => s1L ts (csK (vR p q r s t) os) [] false) 100 fun ((ts, ((p, q, r, s, t, _), os, _), (l0, l1, l2, l3, _), a, b, d, _, _), _) hf hn => by
  refine ⟨rfl, Eq.mpr (tCk3 ts p q r s t os l0 l1 l2 l3 a b d) ?_⟩
  (simp only [eq_self_iff_true, true_and, and_true, false_and, and_false, Bool.or_not_self, Bool.not_or_self, Bool.cond_self, cond_true, cond_false, Bool.cond_true_right, Bool.cond_true_left, Bool.cond_false_right, Bool.cond_false_left, Bool.or_true, Bool.true_or, Bool.or_false, Bool.false_or, Bool.and_true, Bool.true_and, Bool.and_false, Bool.false_and, Bool.not_not, forall_eq, ← Bool.decide_and, ← Bool.decide_or, ← decide_not, cDecF, cDecT, cDecFl, Decidable.not_not, Bool.not_true, Bool.not_false, Bool.false_eq_true, imp_false, not_true_eq_false, not_false_eq_true, forall_const, true_implies, false_implies, implies_true, decide_true, decide_false]; try simp only [cDec, eq_self_iff_true, true_and, and_true, false_and, and_false, Bool.or_not_self, Bool.not_or_self, Bool.cond_self, cond_true, cond_false, Bool.cond_true_right, Bool.cond_true_left, Bool.cond_false_right, Bool.cond_false_left, Bool.or_true, Bool.true_or, Bool.or_false, Bool.false_or, Bool.and_true, Bool.true_and, Bool.and_false, Bool.false_and, Bool.not_not, forall_eq, ← Bool.decide_and, ← Bool.decide_or, ← decide_not, cDecF, cDecT, cDecFl, Decidable.not_not, Bool.not_true, Bool.not_false, Bool.false_eq_true, imp_false, not_true_eq_false, not_false_eq_true, forall_const, true_implies, false_implies, implies_true, decide_true, decide_false])
  have hm : maxLen = 9223372036854775807 := by decide
  have hts : ts.length ≤ 9223372036854775807 := hm ▸ hf.1.1.2
  have hos : os.length ≤ 9223372036854775807 := hm ▸ hf.1.2.1.2.1.2
  rw [show veh p q r s t = veE (vR p q r s t) from rfl]
  generalize vR p q r s t = v at *
  have kcn : (bif decide (¬((ts.length : Int) ≤ 64)) then (11 : Int) else 0) = cnF ts (csK v os) (lK l0 l1 l2 l3) dsK := by
    rw [k_cn]
    congr 1
    exact decide_eq_decide.2 (by show _ ↔ ¬((ts.length : Int) ≤ 64 ∧ (2 : Int) ≤ 16); omega)
  rw [kcn]
  refine ⟨fun h => ex_hit (F := ckF ts (csK v os) (lK l0 l1 l2 l3) a b d dsK) (e := cnF ts (csK v os) (lK l0 l1 l2 l3) dsK) (by unfold ckF; exact orF_l h) h, fun h0 => ?_⟩
  rw [ck_0 h0, orF_r (scanF_none k_ct)]
  refine ⟨fun h => hit_1 h, fun ha => ?_⟩
  rw [orF_r (x := ⟨agF a b d, 0, 0⟩) ha]
  refine ⟨0, ⟨by omega, by omega, fun j hj => j0 hj⟩, ⟨rfl, by omega, by omega⟩, ?_⟩
  rintro k1 ⟨ka1, kb1, kok1⟩
  refine ⟨fun hlt => ⟨⟨ka1, hlt⟩, fun h => hit_sc ka1 hlt kok1 rfl h, fun h => ?_⟩, fun hge1 => ?_⟩
  · exact ⟨k1 + 1, ⟨by omega, by omega, ok_step ka1 kok1 h⟩, mu_lt ka1 hlt, w1 ka1 hlt (by omega), by omega, by omega⟩
  have ck1 : ∀ j, j < ts.length → rqsE ts j = 0 := fun j hj => kok1 j (by omega)
  rw [orF_r (scanF_none ck1)]
  clear kok1
  refine ⟨fun hv => ?_, fun hv => ?_⟩
  · rw [k_ca0 hv]; exact hit_1 hv
  have hcar := k_ca1 (ts := ts) (os := os) hv
  have h01 : (0 : Int) < ((csK v os).length : Int) := by rw [k_len]; decide
  refine ⟨⟨0, []⟩, ⟨Int.le_refl _, Int.natCast_nonneg _, fun j hj => j0 hj, fun r => by simp [mhas, ownTo, ownAll]⟩, ⟨⟨rfl, Int.le_refl _, (by decide : (0 : Int) ≤ 9223372036854775807)⟩, rfl⟩, ?_⟩
  rintro ⟨k2, m⟩ ⟨qa, qb, qok, qhas⟩
  dsimp only at qa qb qok qhas ⊢
  have qb' : k2 ≤ (os.length : Int) := qb
  have e0 : (0 : Int).toNat = 0 := rfl
  rw [e0] at qok qhas
  have eo : own ((csK v os).getD 0 []) = os := rfl
  refine ⟨fun hlt => ⟨⟨qa, hlt⟩, fun h => ?_, fun h => ?_⟩, fun hge => ?_⟩
  · have ho : owE ts (csK v os) 0 k2.toNat = 12 := by unfold owE; rw [eo, if_neg]; rintro ⟨h1, h2⟩; exact h ⟨h1, by omega⟩
    exact hit_sc (Int.le_refl 0) h01 (fun j hj => j0 hj) (by rw [e0, hcar, scanE_hit qok (by rw [ho]; decide) (by omega : k2.toNat < os.length), ho]) (by decide)
  · have hx := qhas (geti (os.getD k2.toNat []) 0)
    have hin : 0 ≤ geti (os.getD k2.toNat []) 0 ∧ geti (os.getD k2.toNat []) 0 < (ts.length : Int) := ⟨h.1, by omega⟩
    by_cases hmem : geti (os.getD k2.toNat []) 0 ∈ ownTo (csK v os) 0 k2.toNat
    · rw [hx, decide_eq_true hmem, cond_true]
      have ho : owE ts (csK v os) 0 k2.toNat = 13 := by unfold owE; rw [eo, if_pos hin, if_pos hmem]
      exact hit_sc (Int.le_refl 0) h01 (fun j hj => j0 hj) (by rw [e0, hcar, scanE_hit qok (by rw [ho]; decide) (by omega : k2.toNat < os.length), ho]) (by decide)
    · rw [hx, decide_eq_false hmem, cond_false]
      have ho : owE ts (csK v os) 0 k2.toNat = 0 := by unfold owE; rw [eo, if_pos hin, if_neg hmem]
      refine ⟨⟨k2 + 1, mset m (geti (os.getD k2.toNat []) 0) [Value.int .i64 0]⟩, ⟨by show 0 ≤ k2 + 1; omega, by show k2 + 1 ≤ (os.length : Int); omega, ok_step qa qok ho, fun r => ?_⟩, mu_lt qa hlt, ⟨w1 qa hlt (by omega), by show 0 ≤ k2 + 1; omega, by show k2 + 1 ≤ _; omega⟩, rfl⟩
      show mhas (mset m _ _) r = decide (r ∈ ownTo (csK v os) 0 (k2 + 1).toNat)
      rw [mhas_mset, qhas, show (k2 + 1).toNat = k2.toNat + 1 by omega, ownTo_succ _ _ (by rw [eo]; omega), eo]
      by_cases hr : geti (os.getD k2.toNat []) 0 = r
      · rw [decide_eq_true hr, Bool.true_or]; symm; apply decide_eq_true; rw [← hr]; simp
      · rw [decide_eq_false hr, Bool.false_or]; apply decide_eq_decide.2; rw [List.mem_append, List.mem_singleton]; exact ⟨.inl, fun hh => hh.elim id fun hh => absurd hh.symm hr⟩
  have e2 : k2.toNat = (own ((csK v os).getD 0 [])).length := by rw [eo]; omega
  have ca0 : ∀ j, j < (csK v os).length → carE ts (csK v os) j = 0 := fun j hj => by
    have e : j = 0 := by rw [k_len] at hj; omega
    subst e
    rw [hcar]; exact scanE_none fun i hi => qok i (by rw [eo] at e2; omega)
  have hall : ∀ r, mhas m r = decide (r ∈ ownAll (csK v os)) := fun r => by
    rw [qhas, e2, ownTo_full (csK v os) (show 0 < 1 by decide)]; rfl
  rw [orF_r (scanF_none ca0)]
  clear qok qhas
  refine ⟨0, ⟨by omega, by omega, fun j hj => j0 hj⟩, ⟨rfl, by omega, by omega⟩, ?_⟩
  rintro k3 ⟨ka3, kb3, kok3⟩
  have e3 : ((k3.toNat : Nat) : Int) = k3 := by omega
  have hu : (bif !mhas m k3 then (11 : Int) else 0) = unE (csK v os) k3.toNat := by unfold unE; rw [hall, e3]
  rw [hu]
  refine ⟨fun hlt => ⟨fun h => hit_sc ka3 hlt kok3 rfl h, fun h => ?_⟩, fun hge3 => ?_⟩
  · exact ⟨k3 + 1, ⟨by omega, by omega, ok_step ka3 kok3 h⟩, mu_lt ka3 hlt, w1 ka3 hlt (by omega), by omega, by omega⟩
  have ck3 : ∀ j, j < ts.length → unE (csK v os) j = 0 := fun j hj => kok3 j (by omega)
  rw [orF_r (scanF_none ck3)]
  clear kok3
  have hz : IntKind.i64.wrap (geti (mget [] l0 [Value.int .i64 0]) 0 + 1) = 1 := by show IntKind.i64.wrap (0 + 1) = 1; decide
  rw [hz, mget_mset, if_pos rfl]
  have t0 : ltTo (lK l0 l1 l2 l3) 0 = [] := rfl
  have t1 : ltTo (lK l0 l1 l2 l3) 1 = [l0] := rfl
  have g0 : geti ((lK l0 l1 l2 l3).getD 0 []) 0 = l0 := rfl
  have g1 : geti ((lK l0 l1 l2 l3).getD 0 []) 1 = l1 := rfl
  have g2 : geti ((lK l0 l1 l2 l3).getD 1 []) 0 = l2 := rfl
  have g3 : geti ((lK l0 l1 l2 l3).getD 1 []) 1 = l3 := rfl
  have c0 : (0 : Int) < ((lK l0 l1 l2 l3).length : Int) := by show (0 : Int) < 2; decide
  have c1 : (1 : Int) < ((lK l0 l1 l2 l3).length : Int) := by show (1 : Int) < 2; decide
  have e1 : (1 : Int).toNat = 1 := rfl
  refine ⟨fun h => hit_sl (Int.le_refl 0) c0 (fun j hj => j0 hj) (by unfold ltE; rw [e0, g0, if_neg]; rintro ⟨h1, h2⟩; exact h ⟨h1, by omega⟩) (by decide), fun h => ?_⟩
  have i0 : 0 ≤ l0 ∧ l0 < (ts.length : Int) := ⟨h.1, by omega⟩
  refine ⟨fun hh => absurd hh (by show ¬ (1 : Int) < 1; decide), fun _ => ⟨fun h1 => ?_, fun h1 => ?_⟩⟩
  · have hr : ¬ (0 ≤ l1 ∧ l1 ≤ 16777216) := fun hr => h1 (by rw [decide_eq_false (not_not_intro hr)]; rfl)
    have e5 : (bif decide (¬(0 ≤ l1 ∧ l1 ≤ 16777216)) then (3 : Int) else 0) = 3 := by rw [decide_eq_true hr]; rfl
    rw [e5]
    exact hit_sl (Int.le_refl 0) c0 (fun j hj => j0 hj) (by unfold ltE; rw [e0, g0, g1, t0, if_pos i0, if_neg (by simp), if_neg hr]) (by decide)
  have r1 : 0 ≤ l1 ∧ l1 ≤ 16777216 := Classical.byContradiction fun hr => by
    rw [decide_eq_true hr] at h1; exact absurd h1 (by decide)
  have z0 : ltE ts (lK l0 l1 l2 l3) 0 = 0 := by unfold ltE; rw [g0, g1, t0, if_pos i0, if_neg (by simp), if_pos r1]
  have ok1 : ∀ j, j < (1 : Int).toNat → ltE ts (lK l0 l1 l2 l3) j = 0 := fun j hj => by
    have e : j = 0 := by rw [e1] at hj; omega
    subst e; exact z0
  refine ⟨fun h => hit_sl (by decide) c1 ok1 (by unfold ltE; rw [e1, g2, if_neg]; rintro ⟨h1, h2⟩; exact h ⟨h1, by omega⟩) (by decide), fun h2 => ?_⟩
  have i1 : 0 ≤ l2 ∧ l2 < (ts.length : Int) := ⟨h2.1, by omega⟩
  rw [mget_mset, if_pos rfl, mget_mset]
  by_cases hd : l0 = l2
  · rw [if_pos hd]
    exact ⟨fun _ => hit_sl (by decide) c1 ok1 (by unfold ltE; rw [e1, g2, t1, if_pos i1, if_pos (by rw [hd]; simp)]) (by decide), fun hh => absurd (show (1 : Int) < geti [Value.int .i64 (IntKind.i64.wrap (geti [Value.int .i64 1] 0 + 1))] 0 by decide) hh⟩
  · rw [if_neg hd]
    refine ⟨fun hh => absurd hh (by show ¬ (1 : Int) < geti [Value.int .i64 (IntKind.i64.wrap (geti [Value.int .i64 0] 0 + 1))] 0; decide), fun _ => ⟨fun h3 => ?_, fun h3 => ?_⟩⟩
    · have hr : ¬ (0 ≤ l3 ∧ l3 ≤ 16777216) := fun hr => h3 (by rw [decide_eq_false (not_not_intro hr)]; rfl)
      have e5 : (bif decide (¬(0 ≤ l3 ∧ l3 ≤ 16777216)) then (3 : Int) else 0) = 3 := by rw [decide_eq_true hr]; rfl
      rw [e5]
      exact hit_sl (by decide) c1 ok1 (by unfold ltE; rw [e1, g2, g3, t1, if_pos i1, if_neg (by rw [List.mem_singleton]; exact fun e => hd e.symm), if_neg hr]) (by decide)
    · have r3 : 0 ≤ l3 ∧ l3 ≤ 16777216 := Classical.byContradiction fun hr => by
        rw [decide_eq_true hr] at h3; exact absurd h3 (by decide)
      have z1 : ltE ts (lK l0 l1 l2 l3) 1 = 0 := by unfold ltE; rw [g2, g3, t1, if_pos i1, if_neg (by rw [List.mem_singleton]; exact fun e => hd e.symm), if_pos r3]
      exact nil_fl (scanF_none fun j hj => by
        have hj' : j < 2 := hj
        rcases Nat.lt_or_ge j 1 with g | g
        · have e : j = 0 := by omega
          subst e; exact z0
        · have e : j = 1 := by omega
          subst e; exact z1)
theorem okG27 : PCok Tryd.prog G27 := addPC_ok okG26 (good_or okCk3 okCk1)
end Go.Proofs.YtafmknblnamegaaDoor
