/- These contracts hold. No condition. -/
import Derived.Test.YtcbmppkejphffaaT3T
import Derived.Test.YtcbmppkejphffaaV6N
namespace Go.Proofs.Ytcbmppkejphffaa
open Go.Eng
set_option linter.unusedSimpArgs false
theorem dB_intro {p : Prop} (h : p) : dB p = true := by unfold dB; exact @decide_eq_true p (Classical.propDecidable p) h
theorem dB_no {p : Prop} (h : ¬ p) : dB p = false := by unfold dB; exact @decide_eq_false p (Classical.propDecidable p) h
theorem dB_true {p : Prop} (h : dB p = true) : p := by unfold dB at h; exact @of_decide_eq_true p (Classical.propDecidable p) h
theorem ba_beq (a b : ByteArray) : ((a == b) = true) ↔ a = b := by
  constructor
  · intro h
    have : a.data = b.data := by
      have h2 : (a.data == b.data) = true := h
      exact eq_of_beq h2
    cases a; cases b; simp_all
  · rintro rfl
    show (a.data == a.data) = true
    simp
theorem sw_of {a : List Value} (h : Wk SW a) : a = sawV (geti a 0) (geti a 1) (gets a 2) (geti a 3) (geti a 4) := by
  have h0 := geti_eq (j := 0) (K := .i64) h rfl
  have h1 := geti_eq (j := 1) (K := .i64) h rfl
  have h2 := (gets_eq (j := 2) h rfl).1
  have h3 := geti_eq (j := 3) (K := .i64) h rfl
  have h4 := geti_eq (j := 4) (K := .u64) h rfl
  have hl : a.length = 5 := h.length
  apply List.ext_getElem?
  intro j
  match j with
  | 0 => exact h0
  | 1 => exact h1
  | 2 => exact h2
  | 3 => exact h3
  | 4 => exact h4
  | j + 5 => rw [List.getElem?_eq_none (by omega), List.getElem?_eq_none (by simp [sawV])]
theorem sw_eq {a b : List Value} (ha : Wk SW a) (hb : Wk SW b) : (geti a 0 == geti b 0 && (geti a 1 == geti b 1 && (gets a 2 == gets b 2 && (geti a 3 == geti b 3 && geti a 4 == geti b 4)))) = true ↔ a = b := by
  constructor
  · intro h
    simp only [Bool.and_eq_true, beq_iff_eq, ba_beq] at h
    obtain ⟨h0, h1, h2, h3, h4⟩ := h
    rw [sw_of ha, sw_of hb, h0, h1, h2, h3, h4]
  · rintro rfl; simp [ba_beq]
theorem emp_iff (b : ByteArray) : (b.toList == ByteArray.toList { data := #[] }) = decide (b.size = 0) := by
  rw [Bool.eq_iff_iff, Go.ByteArray.toList_eq, Go.ByteArray.toList_eq]
  simp only [beq_iff_eq, decide_eq_true_eq]
  constructor
  · intro h
    have := congrArg List.length h
    simpa using this
  · intro h
    have h2 : b.data.size = 0 := h
    have : b.data = #[] := Array.eq_empty_of_size_eq_zero h2
    rw [this]
theorem fgood_all {g : Nat → Bool} : ∀ {n : Nat}, (∀ j, j < n → g j = true) → fgood g n = n
  | 0, _ => rfl
  | n + 1, h => by
    have ih := fgood_all fun j hj => h j (Nat.lt_succ_of_lt hj)
    simp only [fgood]; rw [ih, decide_eq_false (Nat.lt_irrefl n), h n (Nat.lt_succ_self n)]; rfl
theorem fgood_at {g : Nat → Bool} {k : Nat} (hb : g k = false) (h : ∀ j, j < k → g j = true) : ∀ n, k < n → fgood g n = k
  | 0, hk => absurd hk (Nat.not_lt_zero _)
  | n + 1, hk => by
    simp only [fgood]
    by_cases e : k = n
    · subst e; rw [fgood_all h, decide_eq_false (Nat.lt_irrefl k), hb]; rfl
    · rw [fgood_at hb h n (by omega), decide_eq_true (by omega)]; rfl
theorem same_iff {a b : List (List Value)} {i : Nat} : sameAt a b i = true ↔ i < a.length ∧ i < b.length ∧ a.getD i [] = b.getD i [] := by
  simp only [sameAt, Bool.and_eq_true, decide_eq_true_eq]
  constructor
  · rintro ⟨h1, h2, h3⟩; exact ⟨h1, h2, dB_true h3⟩
  · rintro ⟨h1, h2, h3⟩; exact ⟨h1, h2, dB_intro h3⟩
theorem same_no {a b : List (List Value)} {i : Nat} (h : ¬ (i < a.length ∧ i < b.length ∧ a.getD i [] = b.getD i [])) : sameAt a b i = false := Bool.eq_false_iff.2 fun e => h (same_iff.1 e)
theorem dif_at {a b : List (List Value)} {k : Nat} (hk : k < max a.length b.length) (hb : sameAt a b k = false) (h : ∀ j, j < k → sameAt a b j = true) : (k : Int) = difN a b ∧ true = difB a b := by
  have hd : difB a b = true := dB_intro fun e => by
    subst e
    rw [same_iff.2 ⟨by omega, by omega, rfl⟩] at hb; cases hb
  refine ⟨?_, hd.symm⟩
  unfold difN difM; rw [hd, fgood_at hb h _ hk]; rfl
theorem dif_no {a b : List (List Value)} (h : ∀ j, j < max a.length b.length → sameAt a b j = true) : (0 = difN a b ∧ 0 ≤ difN a b ∧ difN a b ≤ 9223372036854775807) ∧ false = difB a b := by
  have hl : a.length = b.length := by
    rcases Nat.lt_trichotomy a.length b.length with g | g | g
    · have := (same_iff.1 (h a.length (by omega))).1; omega
    · exact g
    · have := (same_iff.1 (h b.length (by omega))).2.1; omega
  have e : a = b := by
    apply List.ext_getElem? 
    intro i
    by_cases hi : i < a.length
    · have := (same_iff.1 (h i (by omega))).2.2
      rw [List.getD_eq_getElem?_getD, List.getD_eq_getElem?_getD, List.getElem?_eq_getElem hi, List.getElem?_eq_getElem (by omega)] at this
      rw [List.getElem?_eq_getElem hi, List.getElem?_eq_getElem (by omega)]
      simpa using this
    · rw [List.getElem?_eq_none (by omega), List.getElem?_eq_none (by omega)]
  have hd : difB a b = false := dB_no fun h => h e
  have hn : difN a b = 0 := by unfold difN; rw [hd]; rfl
  rw [hd, hn]; exact ⟨⟨rfl, by omega, by omega⟩, rfl⟩
set_option maxHeartbeats 4000000 in
theorem okTmy : CtrOk Try.prog 20 kTmy := good_of okG1 mixed (fun ((k, t, b, r, n, _), _) => noLoops) 100 fun ((k, t, b, r, n, _), _) hf hn => by
  refine ⟨rfl, Eq.mpr (tTmy k t b r n) ?_⟩
  (simp only [eq_self_iff_true, true_and, and_true, false_and, and_false, Bool.or_not_self, Bool.not_or_self, Bool.cond_self, cond_true, cond_false, Bool.cond_true_right, Bool.cond_true_left, Bool.cond_false_right, Bool.cond_false_left, Bool.or_true, Bool.true_or, Bool.or_false, Bool.false_or, Bool.and_true, Bool.true_and, Bool.and_false, Bool.false_and, Bool.not_not, forall_eq, ← Bool.decide_and, ← Bool.decide_or, ← decide_not, cDecF, cDecT, cDecFl, Decidable.not_not, Bool.not_true, Bool.not_false, Bool.false_eq_true, imp_false, not_true_eq_false, not_false_eq_true, forall_const, true_implies, false_implies, implies_true, decide_true, decide_false]; try simp only [cDec, eq_self_iff_true, true_and, and_true, false_and, and_false, Bool.or_not_self, Bool.not_or_self, Bool.cond_self, cond_true, cond_false, Bool.cond_true_right, Bool.cond_true_left, Bool.cond_false_right, Bool.cond_false_left, Bool.or_true, Bool.true_or, Bool.or_false, Bool.false_or, Bool.and_true, Bool.true_and, Bool.and_false, Bool.false_and, Bool.not_not, forall_eq, ← Bool.decide_and, ← Bool.decide_or, ← decide_not, cDecF, cDecT, cDecFl, Decidable.not_not, Bool.not_true, Bool.not_false, Bool.false_eq_true, imp_false, not_true_eq_false, not_false_eq_true, forall_const, true_implies, false_implies, implies_true, decide_true, decide_false])
  simp only [emp_iff]
  unfold mayB
  refine ⟨fun h => ?_, fun h => ⟨fun h1 => ?_, fun h1 => ⟨fun h2 => ?_, fun h2 => ⟨fun h3 => ?_, fun h3 => ?_⟩⟩⟩⟩ <;> simp [*]
theorem okG2 : PCok Try.prog G2 := addPC_ok okG1 okTmy
set_option maxHeartbeats 4000000 in
theorem okTrm : CtrOk Try.prog 21 kTrm := good_of okG2 mixed (fun (l, (k, t, b, r, n, _), _) => noLoops) 100 fun (l, (k, t, b, r, n, _), _) hf hn => by
  refine ⟨rfl, Eq.mpr (tTrm l k t b r n) ?_⟩
  (simp only [eq_self_iff_true, true_and, and_true, false_and, and_false, Bool.or_not_self, Bool.not_or_self, Bool.cond_self, cond_true, cond_false, Bool.cond_true_right, Bool.cond_true_left, Bool.cond_false_right, Bool.cond_false_left, Bool.or_true, Bool.true_or, Bool.or_false, Bool.false_or, Bool.and_true, Bool.true_and, Bool.and_false, Bool.false_and, Bool.not_not, forall_eq, ← Bool.decide_and, ← Bool.decide_or, ← decide_not, cDecF, cDecT, cDecFl, Decidable.not_not, Bool.not_true, Bool.not_false, Bool.false_eq_true, imp_false, not_true_eq_false, not_false_eq_true, forall_const, true_implies, false_implies, implies_true, decide_true, decide_false]; try simp only [cDec, eq_self_iff_true, true_and, and_true, false_and, and_false, Bool.or_not_self, Bool.not_or_self, Bool.cond_self, cond_true, cond_false, Bool.cond_true_right, Bool.cond_true_left, Bool.cond_false_right, Bool.cond_false_left, Bool.or_true, Bool.true_or, Bool.or_false, Bool.false_or, Bool.and_true, Bool.true_and, Bool.and_false, Bool.false_and, Bool.not_not, forall_eq, ← Bool.decide_and, ← Bool.decide_or, ← decide_not, cDecF, cDecT, cDecFl, Decidable.not_not, Bool.not_true, Bool.not_false, Bool.false_eq_true, imp_false, not_true_eq_false, not_false_eq_true, forall_const, true_implies, false_implies, implies_true, decide_true, decide_false])
  simp only [emp_iff]
  have hl : (l.length : Int) - 1 = ((l.length - 1 : Nat) : Int) ∨ l.length = 0 := by omega
  have hT : lastT l = geti (l.getD ((l.length : Int) - 1).toNat []) 1 := by
    unfold lastT; rw [show ((l.length : Int) - 1).toNat = l.length - 1 by omega]
  rw [← hT]
  refine ⟨by omega, by omega, fun h => ?_, fun h => ?_⟩
  · have : tickB l t = false := by
      unfold tickB
      rcases h with h | ⟨h1, h2⟩
      · rw [decide_eq_false (by omega)]; rfl
      · rw [decide_eq_false (show ¬ l.length = 0 by omega), decide_eq_false (show ¬ lastT l ≤ t by omega)]; simp
    rw [this]; rfl
  · have : tickB l t = true := by
      unfold tickB
      rw [decide_eq_true (show 0 ≤ t by omega)]
      by_cases g : l.length = 0
      · rw [decide_eq_true g]; rfl
      · rw [decide_eq_true (show lastT l ≤ t by omega)]; simp
    rw [this, Bool.true_and]
    unfold mayB
    refine ⟨fun h => ?_, fun h => ?_⟩
    · rcases h with h | h <;> simp [h]
    · have h1 : ¬ k = 0 := fun e => h (.inl e)
      have h2 : ¬ k = 1 := fun e => h (.inr e)
      simp [h1, h2, Bool.and_assoc]
theorem okG3 : PCok Try.prog G3 := addPC_ok okG2 okTrm
set_option maxHeartbeats 4000000 in
theorem okTrd : CtrOk Try.prog 17 kTrd := good_of okG3 mixed (fun (a, b, _) => dfL a b) 100 fun (a, b, _) hf hn => by
  refine ⟨rfl, Eq.mpr (tTrd a b) ?_⟩
  have ha : (a.length : Int) ≤ 9223372036854775807 := len63 hf.1.2
  have hb : (b.length : Int) ≤ 9223372036854775807 := len63 hf.2.1.2
  (simp only [eq_self_iff_true, true_and, and_true, false_and, and_false, Bool.or_not_self, Bool.not_or_self, Bool.cond_self, cond_true, cond_false, Bool.cond_true_right, Bool.cond_true_left, Bool.cond_false_right, Bool.cond_false_left, Bool.or_true, Bool.true_or, Bool.or_false, Bool.false_or, Bool.and_true, Bool.true_and, Bool.and_false, Bool.false_and, Bool.not_not, forall_eq, ← Bool.decide_and, ← Bool.decide_or, ← decide_not, cDecF, cDecT, cDecFl, Decidable.not_not, Bool.not_true, Bool.not_false, Bool.false_eq_true, imp_false, not_true_eq_false, not_false_eq_true, forall_const, true_implies, false_implies, implies_true, decide_true, decide_false]; try simp only [cDec, eq_self_iff_true, true_and, and_true, false_and, and_false, Bool.or_not_self, Bool.not_or_self, Bool.cond_self, cond_true, cond_false, Bool.cond_true_right, Bool.cond_true_left, Bool.cond_false_right, Bool.cond_false_left, Bool.or_true, Bool.true_or, Bool.or_false, Bool.false_or, Bool.and_true, Bool.true_and, Bool.and_false, Bool.false_and, Bool.not_not, forall_eq, ← Bool.decide_and, ← Bool.decide_or, ← decide_not, cDecF, cDecT, cDecFl, Decidable.not_not, Bool.not_true, Bool.not_false, Bool.false_eq_true, imp_false, not_true_eq_false, not_false_eq_true, forall_const, true_implies, false_implies, implies_true, decide_true, decide_false])
  refine ⟨0, ⟨by omega, by omega, fun j hj => by omega⟩, ⟨rfl, by omega, by omega⟩, ?_⟩
  rintro k ⟨k0, k1, kh⟩
  have e : (k + 1).toNat = k.toNat + 1 := by omega
  have hkk : ((k.toNat : Nat) : Int) = k := by omega
  refine ⟨fun hlt => ⟨by omega, by omega, bif_intro (fun h => ?_) (fun h => ?_)⟩, fun hge => dif_no fun j hj => kh j (by omega)⟩
  · have := dif_at (a := a) (b := b) (k := k.toNat) (by omega) (same_no fun g => ?_) kh
    · rwa [hkk] at this
    · obtain ⟨g1, g2, g3⟩ := g
      have h3 := (sw_eq (hf.1.1 _ (getD_in (d := []) g1)) (hf.2.1.1 _ (getD_in (d := []) g2))).2 g3
      rw [h3, decide_eq_false (by omega)] at h; cases h
  · rw [Bool.or_eq_false_iff] at h
    have h1 := of_decide_eq_false h.1
    have h2 := by simpa only [Bool.not_eq_false'] using h.2
    have h3 := (sw_eq (hf.1.1 _ (getD_in (d := []) (show k.toNat < a.length by omega))) (hf.2.1.1 _ (getD_in (d := []) (show k.toNat < b.length by omega)))).1 h2
    refine ⟨k + 1, ⟨by omega, by omega, fun j hj => ?_⟩, by omega, wr64 _ (by omega), by omega, by omega⟩
    by_cases g : j = k.toNat
    · subst g; exact same_iff.2 ⟨by omega, by omega, h3⟩
    · exact kh j (by omega)
theorem okG4 : PCok Try.prog G4 := addPC_ok okG3 okTrd
set_option maxHeartbeats 4000000 in
theorem okTsa : CtrOk Try.prog 13 kTsa := good_of okG4 mixed (fun (a, b, _) => noLoops) 100 fun (a, b, _) hf hn => by
  refine ⟨rfl, Eq.mpr (tTsa a b) ?_⟩
  (simp only [eq_self_iff_true, true_and, and_true, false_and, and_false, Bool.or_not_self, Bool.not_or_self, Bool.cond_self, cond_true, cond_false, Bool.cond_true_right, Bool.cond_true_left, Bool.cond_false_right, Bool.cond_false_left, Bool.or_true, Bool.true_or, Bool.or_false, Bool.false_or, Bool.and_true, Bool.true_and, Bool.and_false, Bool.false_and, Bool.not_not, forall_eq, ← Bool.decide_and, ← Bool.decide_or, ← decide_not, cDecF, cDecT, cDecFl, Decidable.not_not, Bool.not_true, Bool.not_false, Bool.false_eq_true, imp_false, not_true_eq_false, not_false_eq_true, forall_const, true_implies, false_implies, implies_true, decide_true, decide_false]; try simp only [cDec, eq_self_iff_true, true_and, and_true, false_and, and_false, Bool.or_not_self, Bool.not_or_self, Bool.cond_self, cond_true, cond_false, Bool.cond_true_right, Bool.cond_true_left, Bool.cond_false_right, Bool.cond_false_left, Bool.or_true, Bool.true_or, Bool.or_false, Bool.false_or, Bool.and_true, Bool.true_and, Bool.and_false, Bool.false_and, Bool.not_not, forall_eq, ← Bool.decide_and, ← Bool.decide_or, ← decide_not, cDecF, cDecT, cDecFl, Decidable.not_not, Bool.not_true, Bool.not_false, Bool.false_eq_true, imp_false, not_true_eq_false, not_false_eq_true, forall_const, true_implies, false_implies, implies_true, decide_true, decide_false])
  unfold difB
  by_cases h : a = b
  · rw [dB_intro h, dB_no (fun g => g h)]; rfl
  · rw [dB_no h, dB_intro h]; rfl
theorem okG5 : PCok Try.prog G5 := addPC_ok okG4 okTsa
set_option maxHeartbeats 4000000 in
theorem okTdi : CtrOk Try.prog 16 kTdi := good_of okG5 mixed (fun (a, b, _) => sm1L a b) 100 fun (a, b, _) hf hn => by
  refine ⟨rfl, Eq.mpr (tTdi a b) ?_⟩
  have ha : (a.length : Int) ≤ 9223372036854775807 := len63 hf.1.2
  have hb : (b.length : Int) ≤ 9223372036854775807 := len63 hf.2.1.2
  (simp only [eq_self_iff_true, true_and, and_true, false_and, and_false, Bool.or_not_self, Bool.not_or_self, Bool.cond_self, cond_true, cond_false, Bool.cond_true_right, Bool.cond_true_left, Bool.cond_false_right, Bool.cond_false_left, Bool.or_true, Bool.true_or, Bool.or_false, Bool.false_or, Bool.and_true, Bool.true_and, Bool.and_false, Bool.false_and, Bool.not_not, forall_eq, ← Bool.decide_and, ← Bool.decide_or, ← decide_not, cDecF, cDecT, cDecFl, Decidable.not_not, Bool.not_true, Bool.not_false, Bool.false_eq_true, imp_false, not_true_eq_false, not_false_eq_true, forall_const, true_implies, false_implies, implies_true, decide_true, decide_false]; try simp only [cDec, eq_self_iff_true, true_and, and_true, false_and, and_false, Bool.or_not_self, Bool.not_or_self, Bool.cond_self, cond_true, cond_false, Bool.cond_true_right, Bool.cond_true_left, Bool.cond_false_right, Bool.cond_false_left, Bool.or_true, Bool.true_or, Bool.or_false, Bool.false_or, Bool.and_true, Bool.true_and, Bool.and_false, Bool.false_and, Bool.not_not, forall_eq, ← Bool.decide_and, ← Bool.decide_or, ← decide_not, cDecF, cDecT, cDecFl, Decidable.not_not, Bool.not_true, Bool.not_false, Bool.false_eq_true, imp_false, not_true_eq_false, not_false_eq_true, forall_const, true_implies, false_implies, implies_true, decide_true, decide_false])
  refine ⟨0, ⟨by omega, by omega, fun j hj => by omega⟩, ⟨rfl, by omega, by omega⟩, ?_⟩
  rintro k ⟨k0, k1, kh⟩
  have e : (k + 1).toNat = k.toNat + 1 := by omega
  have hkk : ((k.toNat : Nat) : Int) = k := by omega
  refine ⟨fun hlt => ⟨by omega, by omega, bif_intro (fun h => ?_) (fun h => ?_)⟩, fun hge => dif_no fun j hj => kh j (by omega)⟩
  · have := dif_at (a := a) (b := b) (k := k.toNat) (by omega) (same_no fun g => ?_) kh
    · rwa [hkk] at this
    · obtain ⟨g1, g2, g3⟩ := g
      have h3 := (sw_eq (hf.1.1 _ (getD_in (d := []) g1)) (hf.2.1.1 _ (getD_in (d := []) g2))).2 g3
      rw [h3, decide_eq_true (by omega)] at h; cases h
  · rw [Bool.not_eq_false', Bool.and_eq_true] at h
    have h1 := of_decide_eq_true h.1
    have h2 := h.2
    have h3 := (sw_eq (hf.1.1 _ (getD_in (d := []) (show k.toNat < a.length by omega))) (hf.2.1.1 _ (getD_in (d := []) (show k.toNat < b.length by omega)))).1 h2
    refine ⟨k + 1, ⟨by omega, by omega, fun j hj => ?_⟩, by omega, wr64 _ (by omega), by omega, by omega⟩
    by_cases g : j = k.toNat
    · subst g; exact same_iff.2 ⟨by omega, by omega, h3⟩
    · exact kh j (by omega)
theorem okG6 : PCok Try.prog G6 := addPC_ok okG5 okTdi
set_option maxHeartbeats 4000000 in
theorem okTcl : CtrOk Try.prog 22 kTcl := good_of okG6 mixed (fun (a, _) => noLoops) 100 fun (a, _) hf hn => by
  refine ⟨rfl, Eq.mpr (tTcl a) ?_⟩
  have hl : a.length ≤ 1000000 := of_decide_eq_true hn.1
  (simp only [eq_self_iff_true, true_and, and_true, false_and, and_false, Bool.or_not_self, Bool.not_or_self, Bool.cond_self, cond_true, cond_false, Bool.cond_true_right, Bool.cond_true_left, Bool.cond_false_right, Bool.cond_false_left, Bool.or_true, Bool.true_or, Bool.or_false, Bool.false_or, Bool.and_true, Bool.true_and, Bool.and_false, Bool.false_and, Bool.not_not, forall_eq, ← Bool.decide_and, ← Bool.decide_or, ← decide_not, cDecF, cDecT, cDecFl, Decidable.not_not, Bool.not_true, Bool.not_false, Bool.false_eq_true, imp_false, not_true_eq_false, not_false_eq_true, forall_const, true_implies, false_implies, implies_true, decide_true, decide_false]; try simp only [cDec, eq_self_iff_true, true_and, and_true, false_and, and_false, Bool.or_not_self, Bool.not_or_self, Bool.cond_self, cond_true, cond_false, Bool.cond_true_right, Bool.cond_true_left, Bool.cond_false_right, Bool.cond_false_left, Bool.or_true, Bool.true_or, Bool.or_false, Bool.false_or, Bool.and_true, Bool.true_and, Bool.and_false, Bool.false_and, Bool.not_not, forall_eq, ← Bool.decide_and, ← Bool.decide_or, ← decide_not, cDecF, cDecT, cDecFl, Decidable.not_not, Bool.not_true, Bool.not_false, Bool.false_eq_true, imp_false, not_true_eq_false, not_false_eq_true, forall_const, true_implies, false_implies, implies_true, decide_true, decide_false])
  exact ⟨bif_intro (fun h => (List.eq_nil_of_length_eq_zero (Nat.eq_of_beq_eq_true h)).symm) (fun _ => trivial), by rw [lenI_eq]; omega, rfl⟩
theorem okG7 : PCok Try.prog G7 := addPC_ok okG6 okTcl
end Go.Proofs.Ytcbmppkejphffaa
