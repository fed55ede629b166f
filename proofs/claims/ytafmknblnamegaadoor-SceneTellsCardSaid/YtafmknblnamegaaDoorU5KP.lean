/- These contracts hold. No condition. -/
import Derived.Test.YtafmknblnamegaaDoorU5KT
import Derived.Test.YtafmknblnamegaaDoorV8N
namespace Go.Proofs.YtafmknblnamegaaDoor
open Go.Eng
set_option linter.unusedSimpArgs false
theorem fk {F : Fl} {e p i : Int} (h : F = ⟨e, p, i⟩) (he : e ≠ 0) : F.c = e ∧ flP F.p F = p ∧ flP F.i F = i := by subst h; exact ⟨rfl, if_neg he, if_neg he⟩
theorem fz {F : Fl} (h : F.c = 0) : F.c = 0 ∧ flP F.p F = 0 ∧ flP F.i F = 0 := ⟨h, if_pos h, if_pos h⟩
theorem sc_hit {p : Int} {f : Nat → Int} {n : Nat} {k e : Int} (h0 : 0 ≤ k) (hk : k < n) (ok : ∀ j, j < k.toNat → f j = 0) (hc : f k.toNat = e) (he : e ≠ 0) : scanF p f n = ⟨e, p, k⟩ := by
  have e1 : ((k.toNat : Nat) : Int) = k := by omega
  rw [scanF_hit ok (by rw [hc]; exact he) (by omega : k.toNat < n), hc, e1]
theorem orF_assoc (x y z : Fl) : orF (orF x y) z = orF x (orF y z) := by
  unfold orF
  by_cases h : x.c = 0
  · simp only [h, if_true]
  · simp only [h, if_false]
theorem fow_mem (r : Int) : ∀ (l : Fm) (c : Nat), r ∈ ownAll l → 0 ≤ fow r c l
  | [], _, h => by simp [ownAll] at h
  | x :: l, c, h => by
    rw [ownAll_cons, List.mem_append] at h
    unfold fow
    by_cases hx : r ∈ isOf x
    · rw [if_pos hx]; omega
    · rw [if_neg hx]; exact fow_mem r l (c + 1) (h.resolve_left hx)
theorem fow_has (r : Int) (l : Fm) : 0 ≤ fow r 0 l ↔ r ∈ ownAll l := by
  constructor
  · intro h
    by_cases hm : r ∈ ownAll l
    · exact hm
    · rw [fow_none r l 0 hm] at h; omega
  · exact fow_mem r l 0
set_option maxHeartbeats 4000000 in
theorem okRcn : CtrOk Tryd.prog 28 kRcn := good_of okG22 mixed (fun ((ts, cs, ls, a, b, d, ds, _), _) => rkL ts cs ls) 100 fun ((ts, cs, ls, a, b, d, ds, _), _) hf hn => by
  refine ⟨rfl, Eq.mpr (tRcn ts cs ls a b d ds) ?_⟩
  (simp only [eq_self_iff_true, true_and, and_true, false_and, and_false, Bool.or_not_self, Bool.not_or_self, Bool.cond_self, cond_true, cond_false, Bool.cond_true_right, Bool.cond_true_left, Bool.cond_false_right, Bool.cond_false_left, Bool.or_true, Bool.true_or, Bool.or_false, Bool.false_or, Bool.and_true, Bool.true_and, Bool.and_false, Bool.false_and, Bool.not_not, forall_eq, ← Bool.decide_and, ← Bool.decide_or, ← decide_not, cDecF, cDecT, cDecFl, Decidable.not_not, Bool.not_true, Bool.not_false, Bool.false_eq_true, imp_false, not_true_eq_false, not_false_eq_true, forall_const, true_implies, false_implies, implies_true, decide_true, decide_false]; try simp only [cDec, eq_self_iff_true, true_and, and_true, false_and, and_false, Bool.or_not_self, Bool.not_or_self, Bool.cond_self, cond_true, cond_false, Bool.cond_true_right, Bool.cond_true_left, Bool.cond_false_right, Bool.cond_false_left, Bool.or_true, Bool.true_or, Bool.or_false, Bool.false_or, Bool.and_true, Bool.true_and, Bool.and_false, Bool.false_and, Bool.not_not, forall_eq, ← Bool.decide_and, ← Bool.decide_or, ← decide_not, cDecF, cDecT, cDecFl, Decidable.not_not, Bool.not_true, Bool.not_false, Bool.false_eq_true, imp_false, not_true_eq_false, not_false_eq_true, forall_const, true_implies, false_implies, implies_true, decide_true, decide_false])
  have hm : maxLen = 9223372036854775807 := by decide
  have hcs : cs.length ≤ 9223372036854775807 := hm ▸ hf.1.2.1.2
  refine ⟨fun h => ?_, fun h0 => ?_⟩
  · have hr : ¬((((ts.length : Int) ≤ 64 ∧ 1 ≤ (cs.length : Int) ∧ (cs.length : Int) ≤ 8) ∧ (ls.length : Int) ≤ 16) ∧ (ds : Int) = cs.length) := by omega
    have hc : cnF ts cs ls ds = 11 := by unfold cnF; rw [decide_eq_true hr]; rfl
    obtain ⟨q1, q2, q3⟩ := fk (F := cnt0 ts cs ls a b d ds) (e := 11) (p := 0) (i := 0) (by unfold cnt0; rw [hc]; exact orF_l (by decide)) (by decide)
    rw [q1, q2, q3]
    decide
  have hr : (((ts.length : Int) ≤ 64 ∧ 1 ≤ (cs.length : Int) ∧ (cs.length : Int) ≤ 8) ∧ (ls.length : Int) ≤ 16) ∧ (ds : Int) = cs.length := by omega
  have hc : cnF ts cs ls ds = 0 := by unfold cnF; rw [decide_eq_false (not_not_intro hr)]; rfl
  have e0 : cnt0 ts cs ls a b d ds = orF (scanF 0 (cntE cs) cs.length) ⟨agF a b d, 0, 0⟩ := by unfold cnt0; exact orF_r hc
  rw [e0]
  refine ⟨0, ⟨by omega, by omega, fun j hj => j0 hj⟩, ⟨rfl, by omega, by omega⟩, ?_⟩
  rintro k ⟨ka, kb, kok⟩
  have hit : k < (cs.length : Int) → cntE cs k.toNat = 11 → (orF (scanF 0 (cntE cs) cs.length) ⟨agF a b d, 0, 0⟩).c = 11 ∧ flP (orF (scanF 0 (cntE cs) cs.length) ⟨agF a b d, 0, 0⟩).p (orF (scanF 0 (cntE cs) cs.length) ⟨agF a b d, 0, 0⟩) = 0 ∧ flP (orF (scanF 0 (cntE cs) cs.length) ⟨agF a b d, 0, 0⟩).i (orF (scanF 0 (cntE cs) cs.length) ⟨agF a b d, 0, 0⟩) = k := fun hlt h => fk (by rw [sc_hit ka hlt kok h (by decide)]; exact orF_l (show (11 : Int) ≠ 0 by decide)) (by decide)
  refine ⟨fun hlt => ⟨⟨ka, hlt⟩, .inl ⟨ka, hlt⟩, fun h => ?_, fun h => ⟨h, fun h2 => ?_, fun h2 => ?_⟩⟩, fun hge => ?_⟩
  · have h' : ((fle (cs.getD k.toNat [])).length : Int) < 1 := h
    have hr2 : ¬(1 ≤ ((fle (cs.getD k.toNat [])).length : Int) ∧ ((fle (cs.getD k.toNat [])).length : Int) ≤ 4) := by omega
    obtain ⟨q1, q2, q3⟩ := hit hlt (by unfold cntE; rw [decide_eq_true hr2]; rfl)
    rw [q1, q2, q3]
    exact ⟨by decide, by decide, rfl⟩
  · have h' : 4 < ((fle (cs.getD k.toNat [])).length : Int) := h2
    have hr2 : ¬(1 ≤ ((fle (cs.getD k.toNat [])).length : Int) ∧ ((fle (cs.getD k.toNat [])).length : Int) ≤ 4) := by omega
    obtain ⟨q1, q2, q3⟩ := hit hlt (by unfold cntE; rw [decide_eq_true hr2]; rfl)
    rw [q1, q2, q3]
    exact ⟨by decide, by decide, rfl⟩
  · have h' : ¬ ((fle (cs.getD k.toNat [])).length : Int) < 1 := h
    have h2' : ¬ 4 < ((fle (cs.getD k.toNat [])).length : Int) := h2
    have hr2 : 1 ≤ ((fle (cs.getD k.toNat [])).length : Int) ∧ ((fle (cs.getD k.toNat [])).length : Int) ≤ 4 := by omega
    have hz : cntE cs k.toNat = 0 := by unfold cntE; rw [decide_eq_false (not_not_intro hr2)]; rfl
    exact ⟨k + 1, ⟨by omega, by omega, ok_step ka kok hz⟩, mu_lt ka hlt, w1 ka hlt (by omega), by omega, by omega⟩
  · have ck : ∀ j, j < cs.length → cntE cs j = 0 := fun j hj => kok j (by omega)
    have e1 : orF (scanF 0 (cntE cs) cs.length) ⟨agF a b d, 0, 0⟩ = ⟨agF a b d, 0, 0⟩ := orF_r (scanF_none ck)
    rw [e1]
    refine ⟨by omega, fun h => ?_, fun h => ?_⟩
    · have hr2 : ¬(((1 ≤ a ∧ a ≤ 64) ∧ 1 ≤ b ∧ b ≤ 64) ∧ 0 ≤ d ∧ d ≤ 1) := by omega
      have ha : agF a b d = 2 := by unfold agF; rw [decide_eq_true hr2]; rfl
      rw [ha]; decide
    · have hr2 : ((1 ≤ a ∧ a ≤ 64) ∧ 1 ≤ b ∧ b ≤ 64) ∧ 0 ≤ d ∧ d ≤ 1 := by omega
      have ha : agF a b d = 0 := by unfold agF; rw [decide_eq_false (not_not_intro hr2)]; rfl
      rw [ha]; decide
theorem okG23 : PCok Tryd.prog G23 := addPC_ok okG22 okRcn
set_option maxHeartbeats 4000000 in
theorem okRca : CtrOk Tryd.prog 31 kRca := good_of okG23 mixed (fun ((ts, cs, ls, a, b, d, ds, _), _) => rkL ts cs ls) 100 fun ((ts, cs, ls, a, b, d, ds, _), _) hf hn => by
  refine ⟨rfl, Eq.mpr (tRca ts cs ls a b d ds) ?_⟩
  (simp only [eq_self_iff_true, true_and, and_true, false_and, and_false, Bool.or_not_self, Bool.not_or_self, Bool.cond_self, cond_true, cond_false, Bool.cond_true_right, Bool.cond_true_left, Bool.cond_false_right, Bool.cond_false_left, Bool.or_true, Bool.true_or, Bool.or_false, Bool.false_or, Bool.and_true, Bool.true_and, Bool.and_false, Bool.false_and, Bool.not_not, forall_eq, ← Bool.decide_and, ← Bool.decide_or, ← decide_not, cDecF, cDecT, cDecFl, Decidable.not_not, Bool.not_true, Bool.not_false, Bool.false_eq_true, imp_false, not_true_eq_false, not_false_eq_true, forall_const, true_implies, false_implies, implies_true, decide_true, decide_false]; try simp only [cDec, eq_self_iff_true, true_and, and_true, false_and, and_false, Bool.or_not_self, Bool.not_or_self, Bool.cond_self, cond_true, cond_false, Bool.cond_true_right, Bool.cond_true_left, Bool.cond_false_right, Bool.cond_false_left, Bool.or_true, Bool.true_or, Bool.or_false, Bool.false_or, Bool.and_true, Bool.true_and, Bool.and_false, Bool.false_and, Bool.not_not, forall_eq, ← Bool.decide_and, ← Bool.decide_or, ← decide_not, cDecF, cDecT, cDecFl, Decidable.not_not, Bool.not_true, Bool.not_false, Bool.false_eq_true, imp_false, not_true_eq_false, not_false_eq_true, forall_const, true_implies, false_implies, implies_true, decide_true, decide_false])
  have hm : maxLen = 9223372036854775807 := by decide
  have hts : ts.length ≤ 9223372036854775807 := hm ▸ hf.1.1.2
  have hcs : cs.length ≤ 9223372036854775807 := hm ▸ hf.1.2.1.2
  have hin := hf.1.2.1.1
  refine ⟨0, ⟨by omega, by omega, fun j hj => j0 hj⟩, ⟨rfl, by omega, by omega⟩, ?_⟩
  rintro k2 ⟨ka2, kb2, kok2⟩
  refine ⟨fun hlt2 => ⟨⟨ka2, hlt2⟩, 0, ⟨by omega, by omega, fun j hj => j0 hj⟩, ⟨rfl, by omega, by omega⟩, ?_⟩, fun hge2 => ?_⟩
  · have hk2 : k2.toNat < cs.length := by omega
    obtain ⟨_, hinl⟩ := hin _ (getD_in (d := []) hk2)
    have hfl : (fle (cs.getD k2.toNat [])).length ≤ 9223372036854775807 := hm ▸ (hinl 0 57 VK rfl).2
    have hol : (own (cs.getD k2.toNat [])).length ≤ 9223372036854775807 := hm ▸ (hinl 1 3 I64 rfl).2
    have hit : ∀ {e : Int}, carE ts cs k2.toNat = e → e ≠ 0 → (car0 ts cs).c = e ∧ flP (car0 ts cs).p (car0 ts cs) = 2 ∧ flP (car0 ts cs).i (car0 ts cs) = k2 := fun hc he => fk (by unfold car0; rw [sc_hit ka2 hlt2 kok2 hc he]; exact orF_l he) he
    rintro i ⟨ia, ib, iok⟩
    refine ⟨fun hlt => ⟨⟨ia, hlt⟩, fun h => ?_, fun h => ?_⟩, fun hge => ?_⟩
    · have h' : vesE cs k2.toNat i.toNat ≠ 0 := h
      have hl' : i < ((fle (cs.getD k2.toNat [])).length : Int) := hlt
      have hv : carE ts cs k2.toNat = vesE cs k2.toNat i.toNat := by
        unfold carE; rw [scanE_hit iok h' (by omega : i.toNat < (fle (cs.getD k2.toNat [])).length), if_neg h']
      obtain ⟨q1, q2, q3⟩ := hit hv h'
      rw [q1, q2, q3]
      exact ⟨rfl, by decide, rfl⟩
    · have hl' : i < ((fle (cs.getD k2.toNat [])).length : Int) := hlt
      exact ⟨i + 1, ⟨by omega, by omega, ok_step ia iok h⟩, mu_lt ia hlt, w1 ia hl' (by omega), by omega, by omega⟩
    have hg' : ¬ i < ((fle (cs.getD k2.toNat [])).length : Int) := hge
    have vk : scanE (vesE cs k2.toNat) (fle (cs.getD k2.toNat [])).length = 0 := scanE_none fun j hj => iok j (by omega)
    have hcar : carE ts cs k2.toNat = scanE (owE ts cs k2.toNat) (own (cs.getD k2.toNat [])).length := by unfold carE; rw [if_pos vk]
    have eo : (cs.getD k2.toNat []).getD (0 + 1) [] = own (cs.getD k2.toNat []) := rfl
    rw [eo]
    refine ⟨0, ⟨by omega, by omega, fun j hj => j0 hj⟩, ⟨rfl, by omega, by omega⟩, ?_⟩
    rintro q ⟨qa, qb, qok⟩
    have hito : ∀ {e : Int}, q < ((own (cs.getD k2.toNat [])).length : Int) → owE ts cs k2.toNat q.toNat = e → e ≠ 0 → (car0 ts cs).c = e ∧ flP (car0 ts cs).p (car0 ts cs) = 2 ∧ flP (car0 ts cs).i (car0 ts cs) = k2 := fun hlt ho he => hit (by rw [hcar, scanE_hit qok (by rw [ho]; exact he) (by omega : q.toNat < (own (cs.getD k2.toNat [])).length), ho]) he
    refine ⟨fun hlt => ⟨⟨qa, hlt⟩, .inl ⟨qa, hlt⟩, fun h => ?_, fun h => ⟨⟨qa, hlt⟩, ?_⟩⟩, fun hge => ?_⟩
    · have hr : ¬ (0 ≤ geti ((own (cs.getD k2.toNat [])).getD q.toNat []) 0 ∧ geti ((own (cs.getD k2.toNat [])).getD q.toNat []) 0 < (ts.length : Int)) := by omega
      obtain ⟨q1, q2, q3⟩ := hito hlt (e := 12) (by unfold owE; rw [if_neg hr]) (by decide)
      rw [q1, q2, q3]
      exact ⟨by decide, by decide, rfl⟩
    · have hr : 0 ≤ geti ((own (cs.getD k2.toNat [])).getD q.toNat []) 0 ∧ geti ((own (cs.getD k2.toNat [])).getD q.toNat []) 0 < (ts.length : Int) := by omega
      have ho : owE ts cs k2.toNat q.toNat = if geti ((own (cs.getD k2.toNat [])).getD q.toNat []) 0 ∈ ownTo cs k2.toNat q.toNat then 13 else 0 := by unfold owE; rw [if_pos hr]
      refine ⟨⟨0, decide (0 ≤ fow (geti ((own (cs.getD k2.toNat [])).getD q.toNat []) 0) 0 (cs.take k2.toNat))⟩, ⟨Int.le_refl _, qa, by simp [owX]⟩, ⟨⟨rfl, Int.le_refl _, (by decide : (0 : Int) ≤ 9223372036854775807)⟩, rfl⟩, ?_⟩
      rintro ⟨j, bb⟩ ⟨ja, jb, je⟩
      dsimp only at ja jb je ⊢
      refine ⟨fun hj => ?_, fun hj => ?_⟩
      · have d1 : decide (0 ≤ j ∧ j < ((own (cs.getD k2.toNat [])).length : Int)) = true := decide_eq_true ⟨ja, by omega⟩
        have d2 : decide (0 ≤ q ∧ q < ((own (cs.getD k2.toNat [])).length : Int)) = true := decide_eq_true ⟨qa, hlt⟩
        rw [d1, d2]
        simp only [Bool.true_or, cond_true]
        refine ⟨⟨j + 1, bb || decide (geti ((own (cs.getD k2.toNat [])).getD j.toNat []) 0 = geti ((own (cs.getD k2.toNat [])).getD q.toNat []) 0)⟩, ⟨by show 0 ≤ j + 1; omega, by show j + 1 ≤ q; omega, ?_⟩, by show (q - (j + 1)).toNat < (q - j).toNat; omega, ⟨w1 ja hj (by omega), by show 0 ≤ j + 1; omega, by show j + 1 ≤ _; omega⟩, rfl⟩
        show (bb || _) = (_ || decide (owX cs k2 q ∈ ((own (cs.getD k2.toNat [])).take (j + 1).toNat).map _))
        rw [show (j + 1).toNat = j.toNat + 1 by omega, tk_succ (own (cs.getD k2.toNat [])) (by omega : j.toNat < _), je, Bool.or_assoc]
        congr 1
        by_cases hx : geti ((own (cs.getD k2.toNat [])).getD j.toNat []) 0 = geti ((own (cs.getD k2.toNat [])).getD q.toNat []) 0
        · rw [decide_eq_true hx, Bool.or_true]; symm; apply decide_eq_true; rw [hx]; exact List.mem_append_right _ (List.mem_singleton.2 rfl)
        · rw [decide_eq_false hx, Bool.or_false]; apply decide_eq_decide.2; rw [List.mem_append, List.mem_singleton]; exact ⟨.inl, fun hh => hh.elim id fun hh => absurd hh.symm hx⟩
      · obtain rfl : j = q := by omega
        have hb : bb = decide (geti ((own (cs.getD k2.toNat [])).getD j.toNat []) 0 ∈ ownTo cs k2.toNat j.toNat) := by
          rw [je]; unfold owX ownTo
          by_cases hx : geti ((own (cs.getD k2.toNat [])).getD j.toNat []) 0 ∈ ownAll (cs.take k2.toNat)
          · rw [decide_eq_true ((fow_has _ _).2 hx), Bool.true_or]; symm; exact decide_eq_true (List.mem_append_left _ hx)
          · rw [decide_eq_false (fun hh => hx ((fow_has _ _).1 hh)), Bool.false_or]; apply decide_eq_decide.2; rw [List.mem_append]; exact ⟨.inr, fun hh => hh.elim (fun g => absurd g hx) id⟩
        by_cases hmem : geti ((own (cs.getD k2.toNat [])).getD j.toNat []) 0 ∈ ownTo cs k2.toNat j.toNat
        · rw [hb, decide_eq_true hmem, cond_true]
          obtain ⟨q1, q2, q3⟩ := hito hlt (e := 13) (by rw [ho, if_pos hmem]) (by decide)
          rw [q1, q2, q3]
          exact ⟨by decide, by decide, rfl⟩
        · rw [hb, decide_eq_false hmem, cond_false]
          exact ⟨j + 1, ⟨by omega, by omega, ok_step ja qok (by rw [ho, if_neg hmem])⟩, mu_lt ja hlt, w1 ja hlt (by omega), by omega, by omega⟩
    · exact ⟨k2 + 1, ⟨by omega, by omega, ok_step ka2 kok2 (by rw [hcar]; exact scanE_none fun j hj => qok j (by omega))⟩, mu_lt ka2 hlt2, w1 ka2 hlt2 (by omega), by omega, by omega⟩
  · have ck2 : ∀ j, j < cs.length → carE ts cs j = 0 := fun j hj => kok2 j (by omega)
    have e0 : car0 ts cs = scanF 2 (unE cs) ts.length := by unfold car0; exact orF_r (scanF_none ck2)
    rw [e0]
    refine ⟨0, ⟨by omega, by omega, fun j hj => j0 hj⟩, ⟨rfl, by omega, by omega⟩, ?_⟩
    rintro k3 ⟨ka3, kb3, kok3⟩
    have e3 : ((k3.toNat : Nat) : Int) = k3 := by omega
    rw [show ((cs.length : Int)).toNat = cs.length from rfl, List.take_length]
    refine ⟨fun hlt => ⟨fun h => ?_, fun h => ?_⟩, fun hge3 => ?_⟩
    · have hn : ¬ k3 ∈ ownAll cs := fun hh => by have := (fow_has k3 cs).2 hh; omega
      have hu : unE cs k3.toNat = 11 := by unfold unE; rw [e3, decide_eq_false hn]; rfl
      obtain ⟨q1, q2, q3⟩ := fk (sc_hit (p := 2) ka3 hlt kok3 hu (by decide)) (by decide)
      rw [q1, q2, q3]
      exact ⟨by decide, by decide, rfl⟩
    · have hy : k3 ∈ ownAll cs := (fow_has k3 cs).1 (by omega)
      have hu : unE cs k3.toNat = 0 := by unfold unE; rw [e3, decide_eq_true hy]; rfl
      exact ⟨k3 + 1, ⟨by omega, by omega, ok_step ka3 kok3 hu⟩, mu_lt ka3 hlt, w1 ka3 hlt (by omega), by omega, by omega⟩
    · obtain ⟨q1, q2, q3⟩ := fz (scanF_none (p := 2) fun j (hj : j < ts.length) => kok3 j (by omega))
      rw [q1, q2, q3]
      decide
theorem okG24 : PCok Tryd.prog G24 := addPC_ok okG23 okRca
set_option maxHeartbeats 4000000 in
theorem okRk5 : CtrOk Tryd.prog 12 kRk5 := good_of okG24 mixed (fun ((ts, cs, ls, a, b, d, ds, _), _) => rkL ts cs ls) 100 fun ((ts, cs, ls, a, b, d, ds, _), _) hf hn => by
  refine ⟨rfl, Eq.mpr (tRk5 ts cs ls a b d ds) ?_⟩
  (simp only [eq_self_iff_true, true_and, and_true, false_and, and_false, Bool.or_not_self, Bool.not_or_self, Bool.cond_self, cond_true, cond_false, Bool.cond_true_right, Bool.cond_true_left, Bool.cond_false_right, Bool.cond_false_left, Bool.or_true, Bool.true_or, Bool.or_false, Bool.false_or, Bool.and_true, Bool.true_and, Bool.and_false, Bool.false_and, Bool.not_not, forall_eq, ← Bool.decide_and, ← Bool.decide_or, ← decide_not, cDecF, cDecT, cDecFl, Decidable.not_not, Bool.not_true, Bool.not_false, Bool.false_eq_true, imp_false, not_true_eq_false, not_false_eq_true, forall_const, true_implies, false_implies, implies_true, decide_true, decide_false]; try simp only [cDec, eq_self_iff_true, true_and, and_true, false_and, and_false, Bool.or_not_self, Bool.not_or_self, Bool.cond_self, cond_true, cond_false, Bool.cond_true_right, Bool.cond_true_left, Bool.cond_false_right, Bool.cond_false_left, Bool.or_true, Bool.true_or, Bool.or_false, Bool.false_or, Bool.and_true, Bool.true_and, Bool.and_false, Bool.false_and, Bool.not_not, forall_eq, ← Bool.decide_and, ← Bool.decide_or, ← decide_not, cDecF, cDecT, cDecFl, Decidable.not_not, Bool.not_true, Bool.not_false, Bool.false_eq_true, imp_false, not_true_eq_false, not_false_eq_true, forall_const, true_implies, false_implies, implies_true, decide_true, decide_false])
  have hm : maxLen = 9223372036854775807 := by decide
  have hts : ts.length ≤ 9223372036854775807 := hm ▸ hf.1.1.2
  have hls : ls.length ≤ 9223372036854775807 := hm ▸ hf.1.2.2.1.2
  have eF : ckF ts cs ls a b d ds = orF (cnt0 ts cs ls a b d ds) (orF (scanF 1 (rqsE ts) ts.length) (orF (car0 ts cs) (scanF 3 (ltE ts ls) ls.length))) := by unfold ckF cnt0 car0; rw [orF_assoc, orF_assoc, orF_assoc]
  rw [eF]
  refine ⟨fun h => ?_, fun h0 => ?_⟩
  · rw [orF_l h]; exact ⟨rfl, rfl, rfl⟩
  rw [orF_r h0]
  refine ⟨0, ⟨by omega, by omega, fun j hj => j0 hj⟩, ⟨rfl, by omega, by omega⟩, ?_⟩
  rintro k1 ⟨ka1, kb1, kok1⟩
  refine ⟨fun hlt => ⟨⟨ka1, hlt⟩, fun h => ?_, fun h => ?_⟩, fun hge1 => ?_⟩
  · have h' : rqsE ts k1.toNat ≠ 0 := h
    rw [sc_hit ka1 hlt kok1 rfl h', orF_l (x := ⟨rqsE ts k1.toNat, 1, k1⟩) h']
    obtain ⟨q1, q2, q3⟩ := fk (F := ⟨rqsE ts k1.toNat, 1, k1⟩) rfl h'
    rw [q2, q3]
    exact ⟨rfl, by decide, rfl⟩
  · exact ⟨k1 + 1, ⟨by omega, by omega, ok_step ka1 kok1 h⟩, mu_lt ka1 hlt, w1 ka1 hlt (by omega), by omega, by omega⟩
  have ck1 : ∀ j, j < ts.length → rqsE ts j = 0 := fun j hj => kok1 j (by omega)
  rw [orF_r (scanF_none ck1)]
  clear kok1
  refine ⟨fun h => ?_, fun h1 => ?_⟩
  · rw [orF_l h]; exact ⟨rfl, rfl, rfl⟩
  rw [orF_r h1]
  refine ⟨0, ⟨by omega, by omega, fun j hj => j0 hj⟩, ⟨rfl, by omega, by omega⟩, ?_⟩
  rintro k ⟨ka, kb, kok⟩
  have hit : ∀ {e : Int}, k < (ls.length : Int) → ltE ts ls k.toNat = e → e ≠ 0 → (scanF 3 (ltE ts ls) ls.length).c = e ∧ flP (scanF 3 (ltE ts ls) ls.length).p (scanF 3 (ltE ts ls) ls.length) = 3 ∧ flP (scanF 3 (ltE ts ls) ls.length).i (scanF 3 (ltE ts ls) ls.length) = k := fun hlt hc he => fk (sc_hit ka hlt kok hc he) he
  refine ⟨fun hlt => ⟨⟨ka, hlt⟩, fun h => ?_, fun h => ?_⟩, fun hge => ?_⟩
  · have hr : ¬ (0 ≤ geti (ls.getD k.toNat []) 0 ∧ geti (ls.getD k.toNat []) 0 < (ts.length : Int)) := by omega
    obtain ⟨q1, q2, q3⟩ := hit hlt (e := 12) (by unfold ltE; rw [if_neg hr]) (by decide)
    rw [q1, q2, q3]
    exact ⟨by decide, by decide, rfl⟩
  · have hr : 0 ≤ geti (ls.getD k.toNat []) 0 ∧ geti (ls.getD k.toNat []) 0 < (ts.length : Int) := by omega
    refine ⟨0, ⟨Int.le_refl _, ka, fun j hj => j0 hj⟩, ⟨rfl, by omega, by omega⟩, ?_⟩
    rintro j ⟨ja, jb, jno⟩
    refine ⟨fun hj => ⟨⟨ja, by omega⟩, fun he => ?_, fun he => ?_⟩, fun hj => ?_⟩
    · have hmem : geti (ls.getD k.toNat []) 0 ∈ ltTo ls k.toNat := by
        rw [← he]; unfold ltTo
        refine List.mem_map.2 ⟨ls.getD j.toNat [], ?_, rfl⟩
        rw [getD_get (by omega : j.toNat < ls.length)]
        exact List.mem_iff_getElem.2 ⟨j.toNat, by rw [List.length_take]; omega, by rw [List.getElem_take]⟩
      obtain ⟨q1, q2, q3⟩ := hit hlt (e := 13) (by unfold ltE; rw [if_pos hr, if_pos hmem]) (by decide)
      rw [q1, q2, q3]
      exact ⟨by decide, by decide, rfl⟩
    · refine ⟨j + 1, ⟨by omega, by omega, fun q hq => ?_⟩, by unfold liMu; omega, w1 ja hj (by omega), by omega, by omega⟩
      rcases Nat.lt_or_ge q j.toNat with g | g
      · exact jno q g
      · rw [show q = j.toNat by omega]; exact he
    · have hno : ¬ geti (ls.getD k.toNat []) 0 ∈ ltTo ls k.toNat := fun hm' => by
        obtain ⟨y, hy, e⟩ := List.mem_map.1 hm'
        obtain ⟨q, hq, rfl⟩ := List.mem_iff_getElem.1 hy
        rw [List.length_take] at hq
        rw [List.getElem_take] at e
        refine jno q (by omega) ?_
        rw [getD_get (by omega : q < ls.length)]; exact e
      refine ⟨fun h1 => ?_, fun h1 => ?_⟩
      · have hr2 : ¬ (0 ≤ geti (ls.getD k.toNat []) 1 ∧ geti (ls.getD k.toNat []) 1 ≤ 16777216) := by omega
        obtain ⟨q1, q2, q3⟩ := hit hlt (e := 3) (by unfold ltE; rw [if_pos hr, if_neg hno, if_neg hr2]) (by decide)
        rw [q1, q2, q3]
        exact ⟨by decide, by decide, rfl⟩
      · have hr2 : 0 ≤ geti (ls.getD k.toNat []) 1 ∧ geti (ls.getD k.toNat []) 1 ≤ 16777216 := by omega
        exact ⟨k + 1, ⟨by omega, by omega, ok_step ka kok (by unfold ltE; rw [if_pos hr, if_neg hno, if_pos hr2])⟩, mu_lt ka hlt, w1 ka hlt (by omega), by omega, by omega⟩
  · obtain ⟨q1, q2, q3⟩ := fz (scanF_none (p := 3) fun j (hj : j < ls.length) => kok j (by omega))
    rw [q1, q2, q3]
    decide
theorem okG25 : PCok Tryd.prog G25 := addPC_ok okG24 okRk5
end Go.Proofs.YtafmknblnamegaaDoor
