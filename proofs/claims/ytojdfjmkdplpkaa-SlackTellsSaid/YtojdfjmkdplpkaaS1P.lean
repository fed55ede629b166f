/- These contracts hold. No condition. -/
import Derived.Test.YtojdfjmkdplpkaaS1T
import Derived.Test.YtojdfjmkdplpkaaV3N
namespace Go.Proofs.Ytojdfjmkdplpkaa
open Go.Eng
set_option linter.unusedSimpArgs false
theorem pk_part {t : List (List Value)} {q k : Int} (h : inR t q k = true) (i j : Nat) : pk t q k i j = part t q k i j := by unfold pk part; rw [h]; rfl
theorem fRows_succ (t l : List (List Value)) (hx hy st i b : Int) (n : Nat) : fRows t l hx hy st i b (n + 1) = fRows t l hx hy st i b n ++ [fRow t l hx hy st i b n] := by simp [fRows, List.range_succ]
theorem fRows_len (t l : List (List Value)) (hx hy st i b : Int) (n : Nat) : (fRows t l hx hy st i b n).length = n := by simp [fRows]
theorem fRows_get (t l : List (List Value)) (hx hy st i b : Int) {n k : Nat} (h : k < n) : (fRows t l hx hy st i b n).getD k [] = fRow t l hx hy st i b k := by simp [fRows, List.getD, h]
theorem fromE_bd (hx hy cap st en : Int) (l t : List (List Value)) (i b : Int) : 0 ≤ fromE hx hy cap st en l t i b ∧ fromE hx hy cap st en l t i b ≤ 9 := by
  have := wrong_bd hx hy cap st en l t
  unfold fromE
  cases decide (wrongE hx hy cap st en l t = 0) <;> cases fIn t l hx hy st en i b <;> simp <;> omega
section
variable {hx hy cap st en i b : Int} {l t : List (List Value)}
theorem from_of (h : wrongE hx hy cap st en l t = 0) : fromE hx hy cap st en l t i b = cond (fIn t l hx hy st en i b) 0 9 := by unfold fromE; rw [decide_eq_true h]; rfl
theorem from_wrong (h : ¬ wrongE hx hy cap st en l t = 0) : wrongE hx hy cap st en l t = fromE hx hy cap st en l t i b ∧ 0 = fromN hx hy cap st en l t i b ∧ [] = fromR hx hy cap st en l t i b := by
  have e : fromE hx hy cap st en l t i b = wrongE hx hy cap st en l t := by unfold fromE; rw [decide_eq_false h]; rfl
  have : ¬ fromE hx hy cap st en l t i b = 0 := by rw [e]; exact h
  exact ⟨e.symm, by unfold fromN; rw [decide_eq_false this]; rfl, by unfold fromR; rw [decide_eq_false this]; rfl⟩
theorem from_late (h : wrongE hx hy cap st en l t = 0) (hl : fIn t l hx hy st en i b = false) : 9 = fromE hx hy cap st en l t i b ∧ 0 = fromN hx hy cap st en l t i b ∧ [] = fromR hx hy cap st en l t i b := by
  have : fromE hx hy cap st en l t i b = 9 := by rw [from_of h, hl]; rfl
  exact ⟨this.symm, by unfold fromN; rw [this]; rfl, by unfold fromR; rw [this]; rfl⟩
theorem from_due (h : wrongE hx hy cap st en l t = 0) (hl : fIn t l hx hy st en i b = true) : 0 = fromE hx hy cap st en l t i b ∧ fEnd t l hx hy st i b = fromN hx hy cap st en l t i b ∧ fRows t l hx hy st i b l.length = fromR hx hy cap st en l t i b := by
  have : fromE hx hy cap st en l t i b = 0 := by rw [from_of h, hl]; rfl
  exact ⟨this.symm, by unfold fromN; rw [this]; rfl, by unfold fromR; rw [this]; rfl⟩
theorem fIn_no {k : Nat} (hk : k < l.length) (h : fOk t l hx hy st i b k = false) : fIn t l hx hy st en i b = false := by
  unfold fIn
  have : (List.range l.length).all (fOk t l hx hy st i b) = false := by
    rw [List.all_eq_false]; exact ⟨k, List.mem_range.2 hk, by simp [h]⟩
  rw [this]; rfl
theorem fIn_all (h : ∀ k, k < l.length → fOk t l hx hy st i b k = true) : fIn t l hx hy st en i b = decide (fEnd t l hx hy st i b ≤ en) := by
  unfold fIn
  have : (List.range l.length).all (fOk t l hx hy st i b) = true := List.all_eq_true.2 fun k hk => h k (List.mem_range.1 hk)
  rw [this]; rfl
theorem fN_in (G : Good hx hy cap st en l t) (hb : 0 ≤ b) : ∀ k, k ≤ l.length → (∀ j, j < k → fOk t l hx hy st i b j = true) → 0 ≤ fN t l hx hy st i b k ∧ fN t l hx hy st i b k ≤ 1049576
  | 0, _, _ => by have := G.st0; have := G.st1; have := G.en1; show 0 ≤ st ∧ st ≤ _; omega
  | k + 1, hk, ho => by
    have hn := fN_in G hb k (by omega) fun j hj => ho j (by omega)
    have hin := G.inr k (by omega)
    have hs := sv_in G hin
    have hw := win_in G hin
    have ok := of_decide_eq_true (ho k (by omega))
    have hd := dist_in (fX t l hx hy st i b k) (fY t l hx hy st i b k) (pX t (geti (l.getD k []) 0) (geti (l.getD k []) 1)) (pY t (geti (l.getD k []) 0) (geti (l.getD k []) 1))
    have e : fN t l hx hy st i b (k + 1) = fB t l hx hy st i b (k + 1) + sv t (geti (l.getD k []) 0) (geti (l.getD k []) 1) := rfl
    have e2 : fB t l hx hy st i b (k + 1) = max (fN t l hx hy st i b k + dist (fX t l hx hy st i b k) (fY t l hx hy st i b k) (pX t (geti (l.getD k []) 0) (geti (l.getD k []) 1)) (pY t (geti (l.getD k []) 0) (geti (l.getD k []) 1))) (wE t (geti (l.getD k []) 0) (geti (l.getD k []) 1)) + fd i b k := rfl
    have hfd : 0 ≤ fd i b k := by unfold fd; cases decide ((k : Int) = i) <;> simp <;> omega
    omega
end
set_option maxHeartbeats 4000000 in
theorem okRsp : CtrOk Try.prog 31 kRsp := good_of okG34 mixed (fun ((q, k, _), t, _) => noLoops) 100 fun ((q, k, _), t, _) hf hn => by
  refine ⟨rfl, Eq.mpr (tRsp q k t) ?_⟩
  have hq := of_decide_eq_true hn.1
  rw [lenI_eq] at hq
  (simp only [eq_self_iff_true, true_and, and_true, false_and, and_false, Bool.or_not_self, Bool.not_or_self, Bool.cond_self, cond_true, cond_false, Bool.cond_true_right, Bool.cond_true_left, Bool.cond_false_right, Bool.cond_false_left, Bool.or_true, Bool.true_or, Bool.or_false, Bool.false_or, Bool.and_true, Bool.true_and, Bool.and_false, Bool.false_and, Bool.not_not, forall_eq, ← Bool.decide_and, ← Bool.decide_or, ← decide_not, cDecF, cDecT, cDecFl, Decidable.not_not, Bool.not_true, Bool.not_false, Bool.false_eq_true, imp_false, not_true_eq_false, not_false_eq_true, forall_const, true_implies, false_implies, implies_true, decide_true, decide_false]; try simp only [cDec, eq_self_iff_true, true_and, and_true, false_and, and_false, Bool.or_not_self, Bool.not_or_self, Bool.cond_self, cond_true, cond_false, Bool.cond_true_right, Bool.cond_true_left, Bool.cond_false_right, Bool.cond_false_left, Bool.or_true, Bool.true_or, Bool.or_false, Bool.false_or, Bool.and_true, Bool.true_and, Bool.and_false, Bool.false_and, Bool.not_not, forall_eq, ← Bool.decide_and, ← Bool.decide_or, ← decide_not, cDecF, cDecT, cDecFl, Decidable.not_not, Bool.not_true, Bool.not_false, Bool.false_eq_true, imp_false, not_true_eq_false, not_false_eq_true, forall_const, true_implies, false_implies, implies_true, decide_true, decide_false])
  refine ⟨by omega, fun hk => ?_, fun hk => ?_⟩
  · unfold pk; rw [decide_eq_true hk]; exact ⟨⟨rfl, rfl⟩, rfl, rfl⟩
  · unfold pk; rw [decide_eq_false hk]; exact ⟨⟨rfl, rfl⟩, rfl, rfl⟩
theorem okG35 : PCok Try.prog G35 := addPC_ok okG34 okRsp
set_option maxHeartbeats 4000000 in
theorem okFr : CtrOk Try.prog 18 kFr := good_of okG35 mixed (fun ((hx, hy, cap, st, en, _), l, t, i, b, _) => frL t l hx hy st i b) 100 fun ((hx, hy, cap, st, en, _), l, t, i, b, _) hf hn => by
  refine ⟨rfl, Eq.mpr (tFr hx hy cap st en l t i b) ?_⟩
  have hml : (l.length : Int) ≤ 9223372036854775807 := len63 hf.2.1.2
  have hbn : 0 ≤ b ∧ b ≤ 1048577 := of_decide_eq_true hn.1
  (simp only [eq_self_iff_true, true_and, and_true, false_and, and_false, Bool.or_not_self, Bool.not_or_self, Bool.cond_self, cond_true, cond_false, Bool.cond_true_right, Bool.cond_true_left, Bool.cond_false_right, Bool.cond_false_left, Bool.or_true, Bool.true_or, Bool.or_false, Bool.false_or, Bool.and_true, Bool.true_and, Bool.and_false, Bool.false_and, Bool.not_not, forall_eq, ← Bool.decide_and, ← Bool.decide_or, ← decide_not, cDecF, cDecT, cDecFl, Decidable.not_not, Bool.not_true, Bool.not_false, Bool.false_eq_true, imp_false, not_true_eq_false, not_false_eq_true, forall_const, true_implies, false_implies, implies_true, decide_true, decide_false]; try simp only [cDec, eq_self_iff_true, true_and, and_true, false_and, and_false, Bool.or_not_self, Bool.not_or_self, Bool.cond_self, cond_true, cond_false, Bool.cond_true_right, Bool.cond_true_left, Bool.cond_false_right, Bool.cond_false_left, Bool.or_true, Bool.true_or, Bool.or_false, Bool.false_or, Bool.and_true, Bool.true_and, Bool.and_false, Bool.false_and, Bool.not_not, forall_eq, ← Bool.decide_and, ← Bool.decide_or, ← decide_not, cDecF, cDecT, cDecFl, Decidable.not_not, Bool.not_true, Bool.not_false, Bool.false_eq_true, imp_false, not_true_eq_false, not_false_eq_true, forall_const, true_implies, false_implies, implies_true, decide_true, decide_false])
  have hbd := fromE_bd hx hy cap st en l t i b
  refine ⟨fun h => ?_, fun h => ?_⟩
  · obtain ⟨h1, h2, h3⟩ := from_wrong (i := i) (b := b) h
    exact ⟨⟨by omega, h1⟩, h3⟩
  have G := good_of_wrong h
  have lt16 := G.len
  have st0 := G.st0
  have st1 := G.st1
  have en1 := G.en1
  have late : fIn t l hx hy st en i b = false → ((0 = fromN hx hy cap st en l t i b ∧ 0 ≤ fromN hx hy cap st en l t i b ∧ fromN hx hy cap st en l t i b ≤ 1048576) ∧ 9 = fromE hx hy cap st en l t i b ∧ 0 ≤ fromE hx hy cap st en l t i b ∧ fromE hx hy cap st en l t i b ≤ 9) ∧ [] = fromR hx hy cap st en l t i b := fun hl => by
    obtain ⟨h1, h2, h3⟩ := from_late (i := i) (b := b) h hl
    exact ⟨⟨by omega, h1, hbd⟩, h3⟩
  refine ⟨0, ⟨by omega, by omega, fun j hj => by simp at hj⟩, ⟨⟨rfl, by omega, by omega⟩, ⟨rfl, st0, by show st ≤ 1100000; omega⟩, ⟨rfl, rfl⟩, rfl⟩, ?_⟩
  rintro k ⟨k0, k1, kh⟩
  have e : (k + 1).toNat = k.toNat + 1 := by omega
  have ew : k < (l.length : Int) → IntKind.i64.wrap (k + 1) = k + 1 := fun _ => wr64 _ (by omega)
  have hN := fN_in G hbn.1 k.toNat (by omega) kh
  have hrl : lenI (fRows t l hx hy st i b k.toNat) ≤ 2932031007402 := by rw [lenI_eq, fRows_len]; omega
  refine ⟨fun hlt => ?_, fun hge => ?_⟩
  rotate_left
  · have hkl : k.toNat = l.length := by omega
    rw [hkl] at kh ⊢
    have hall := fIn_all (en := en) kh
    refine ⟨fun hen => late (by rw [hall]; exact decide_eq_false (by unfold fEnd; omega)), fun hen => ?_⟩
    obtain ⟨h1, h2, h3⟩ := from_due (i := i) (b := b) h (by rw [hall]; exact decide_eq_true (by unfold fEnd; omega))
    have hd2 := dist_in (fX t l hx hy st i b l.length) (fY t l hx hy st i b l.length) hx hy
    have hn2 := fN_in G hbn.1 l.length (Nat.le_refl _) kh
    have h2' : fN t l hx hy st i b l.length + dist (fX t l hx hy st i b l.length) (fY t l hx hy st i b l.length) hx hy = fromN hx hy cap st en l t i b := h2
    exact ⟨⟨by omega, h1, hbd⟩, h3⟩
  have hin := G.inr k.toNat (by omega)
  have hir := inR_iff.1 hin
  have hsv := sv_in G hin
  have hw := win_in G hin
  have p02 : pk t (geti (l.getD k.toNat []) 0) (geti (l.getD k.toNat []) 1) 0 2 = pX t (geti (l.getD k.toNat []) 0) (geti (l.getD k.toNat []) 1) := pk_part hin 0 2
  have p13 : pk t (geti (l.getD k.toNat []) 0) (geti (l.getD k.toNat []) 1) 1 3 = pY t (geti (l.getD k.toNat []) 0) (geti (l.getD k.toNat []) 1) := pk_part hin 1 3
  have p46 : pk t (geti (l.getD k.toNat []) 0) (geti (l.getD k.toNat []) 1) 4 6 = wE t (geti (l.getD k.toNat []) 0) (geti (l.getD k.toNat []) 1) := pk_part hin 4 6
  have p57 : pk t (geti (l.getD k.toNat []) 0) (geti (l.getD k.toNat []) 1) 5 7 = wL t (geti (l.getD k.toNat []) 0) (geti (l.getD k.toNat []) 1) := pk_part hin 5 7
  rw [p02, p13, p46, p57, ← hsv.2.2]
  have hd := dist_in (fX t l hx hy st i b k.toNat) (fY t l hx hy st i b k.toNat) (pX t (geti (l.getD k.toNat []) 0) (geti (l.getD k.toNat []) 1)) (pY t (geti (l.getD k.toNat []) 0) (geti (l.getD k.toNat []) 1))
  have eA : fA t l hx hy st i b (k.toNat + 1) = fN t l hx hy st i b k.toNat + dist (fX t l hx hy st i b k.toNat) (fY t l hx hy st i b k.toNat) (pX t (geti (l.getD k.toNat []) 0) (geti (l.getD k.toNat []) 1)) (pY t (geti (l.getD k.toNat []) 0) (geti (l.getD k.toNat []) 1)) := rfl
  have eB : fB t l hx hy st i b (k.toNat + 1) = max (fA t l hx hy st i b (k.toNat + 1)) (wE t (geti (l.getD k.toNat []) 0) (geti (l.getD k.toNat []) 1)) + fd i b k.toNat := rfl
  have eN : fN t l hx hy st i b (k.toNat + 1) = fB t l hx hy st i b (k.toNat + 1) + sv t (geti (l.getD k.toNat []) 0) (geti (l.getD k.toNat []) 1) := rfl
  have eX : fX t l hx hy st i b (k.toNat + 1) = pX t (geti (l.getD k.toNat []) 0) (geti (l.getD k.toNat []) 1) := rfl
  have eY : fY t l hx hy st i b (k.toNat + 1) = pY t (geti (l.getD k.toNat []) 0) (geti (l.getD k.toNat []) 1) := rfl
  have eO : fOk t l hx hy st i b k.toNat = decide (fB t l hx hy st i b (k.toNat + 1) ≤ wL t (geti (l.getD k.toNat []) 0) (geti (l.getD k.toNat []) 1)) := rfl
  have hR := fRows_succ t l hx hy st i b k.toNat
  have hRow : fRow t l hx hy st i b k.toNat = [.int .i64 (fA t l hx hy st i b (k.toNat + 1)), .int .i64 (fB t l hx hy st i b (k.toNat + 1)), .int .i64 (fN t l hx hy st i b (k.toNat + 1))] := rfl
  rw [hRow] at hR
  rw [← eA]
  have fin : ∀ v, v = fB t l hx hy st i b (k.toNat + 1) → (wL t (geti (l.getD k.toNat []) 0) (geti (l.getD k.toNat []) 1) < v → ((0 = fromN hx hy cap st en l t i b ∧ 0 ≤ fromN hx hy cap st en l t i b ∧ fromN hx hy cap st en l t i b ≤ 1048576) ∧ 9 = fromE hx hy cap st en l t i b ∧ 0 ≤ fromE hx hy cap st en l t i b ∧ fromE hx hy cap st en l t i b ≤ 9) ∧ [] = fromR hx hy cap st en l t i b) ∧
      (¬ wL t (geti (l.getD k.toNat []) 0) (geti (l.getD k.toNat []) 1) < v → (0 ≤ k ∧ k < (l.length : Int)) ∧ (0 ≤ geti (l.getD k.toNat []) 0 ∧ geti (l.getD k.toNat []) 0 < (t.length : Int)) ∧ lenI (fRows t l hx hy st i b k.toNat) ≤ 2932031007402 ∧
        ∃ s : Int, FInv t l hx hy st i b s ∧ ((l.length : Int) - s).toNat < ((l.length : Int) - k).toNat ∧ (IntKind.i64.wrap (k + 1) = s ∧ 0 ≤ s ∧ s ≤ 9223372036854775807) ∧
          (IntKind.i64.wrap (v + sv t (geti (l.getD k.toNat []) 0) (geti (l.getD k.toNat []) 1)) = fN t l hx hy st i b s.toNat ∧ 0 ≤ fN t l hx hy st i b s.toNat ∧ fN t l hx hy st i b s.toNat ≤ 1100000) ∧
          (pX t (geti (l.getD k.toNat []) 0) (geti (l.getD k.toNat []) 1) = fX t l hx hy st i b s.toNat ∧ pY t (geti (l.getD k.toNat []) 0) (geti (l.getD k.toNat []) 1) = fY t l hx hy st i b s.toNat) ∧
          fRows t l hx hy st i b k.toNat ++ [[Value.int .i64 (fA t l hx hy st i b (k.toNat + 1)), Value.int .i64 v, Value.int .i64 (IntKind.i64.wrap (v + sv t (geti (l.getD k.toNat []) 0) (geti (l.getD k.toNat []) 1)))]] = fRows t l hx hy st i b s.toNat) := by
    rintro v rfl
    refine ⟨fun hl => late (fIn_no (k := k.toNat) (by omega) (by rw [eO]; exact decide_eq_false (by omega))), fun hok => ?_⟩
    have ok' : ∀ j, j < (k + 1).toNat → fOk t l hx hy st i b j = true := fun j hj => by
      by_cases hjk : j < k.toNat
      · exact kh j hjk
      · rw [show j = k.toNat by omega, eO]; exact decide_eq_true (by omega)
    have hN2 := fN_in G hbn.1 (k.toNat + 1) (by omega) (by rw [← e]; exact ok')
    have ewN : IntKind.i64.wrap (fB t l hx hy st i b (k.toNat + 1) + sv t (geti (l.getD k.toNat []) 0) (geti (l.getD k.toNat []) 1)) = fN t l hx hy st i b (k.toNat + 1) := by rw [← eN]; exact wr64 _ (by omega)
    refine ⟨⟨k0, hlt⟩, ⟨hir.1, hir.2.1⟩, hrl, k + 1, ⟨by omega, by omega, ok'⟩, by omega, ⟨ew hlt, by omega, by omega⟩, ?_, ?_, ?_⟩
    · rw [e, ewN]; exact ⟨rfl, by omega, by omega⟩
    · rw [e]; exact ⟨eX.symm, eY.symm⟩
    · rw [e, ewN, hR]
  refine ⟨⟨k0, hlt⟩, ⟨hir.1, by rw [lenI_eq]; exact hir.2.1⟩, fun hki => ?_, fun hki => ?_⟩
  · have hfd : fd i b k.toNat = b := by unfold fd; rw [decide_eq_true (by omega)]; rfl
    rw [hfd] at eB
    exact fin _ (by rw [eB]; exact wr64 _ (by omega))
  · have hfd : fd i b k.toNat = 0 := by unfold fd; rw [decide_eq_false (by omega)]; rfl
    rw [hfd] at eB
    exact fin _ (by omega)
theorem okG36 : PCok Try.prog G36 := addPC_ok okG35 okFr
section
variable {hx hy cap st en i b : Int} {l t : List (List Value)}
theorem fz_ts (G : Good hx hy cap st en l t) : ∀ k, k ≤ l.length → (∀ j, j < k → tOk t l hx hy st j = true) → (∀ j, j < k → fd i b j = 0) → fz t l hx hy st i b k = ts t l hx hy st k
  | 0, _, _, _ => rfl
  | k + 1, hk, ho, hf => by
    have ih := fz_ts G k (by omega) (fun j hj => ho j (by omega)) (fun j hj => hf j (by omega))
    have hw := of_decide_eq_true (ho k (by omega))
    show fzS t _ _ (fz t l hx hy st i b k) (fd i b k) = tsS t _ _ (ts t l hx hy st k)
    rw [ih, hf k (by omega)]
    have hw2 : Wait (wE t (geti (l.getD k []) 0) (geti (l.getD k []) 1)) (wL t (geti (l.getD k []) 0) (geti (l.getD k []) 1)) (arr t (geti (l.getD k []) 0) (geti (l.getD k []) 1) (ts t l hx hy st k).n (ts t l hx hy st k).x (ts t l hx hy st k).y) := hw
    simp only [fzS, tsS, beg, waitN, if_pos hw2, Int.add_zero]
theorem fOk_tOk (G : Good hx hy cap st en l t) {k : Nat} (hk : k < l.length) (ho : ∀ j, j < k → tOk t l hx hy st j = true) (hf : ∀ j, j < k + 1 → fd i b j = 0) : fOk t l hx hy st i b k = tOk t l hx hy st k := by
  have e := fz_ts (i := i) (b := b) G k (by omega) ho fun j hj => hf j (by omega)
  have hw := win_in G (G.inr k hk)
  have eB : fB t l hx hy st i b (k + 1) = max (arr t (geti (l.getD k []) 0) (geti (l.getD k []) 1) (fz t l hx hy st i b k).n (fz t l hx hy st i b k).x (fz t l hx hy st i b k).y) (wE t (geti (l.getD k []) 0) (geti (l.getD k []) 1)) + fd i b k := rfl
  rw [e, hf k (by omega)] at eB
  unfold fOk tOk
  rw [eB]
  have eA : tA t l hx hy st (k + 1) = arr t (geti (l.getD k []) 0) (geti (l.getD k []) 1) (ts t l hx hy st k).n (ts t l hx hy st k).x (ts t l hx hy st k).y := rfl
  rw [eA]
  generalize arr t (geti (l.getD k []) 0) (geti (l.getD k []) 1) (ts t l hx hy st k).n (ts t l hx hy st k).x (ts t l hx hy st k).y = a
  exact decide_eq_decide.2 ⟨fun h => ⟨hw, by omega⟩, fun h => by have := h.2; omega⟩
theorem fd_m1 (k : Nat) : fd (-1) 0 k = 0 := by unfold fd; cases decide ((k : Int) = -1) <;> rfl
theorem from_m1 : fromE hx hy cap st en l t (-1) 0 = timesE hx hy cap st en l t ∧ fromR hx hy cap st en l t (-1) 0 = timesR hx hy cap st en l t ∧ fromN hx hy cap st en l t (-1) 0 = timesN hx hy cap st en l t := by
  by_cases h : wrongE hx hy cap st en l t = 0
  rotate_left
  · obtain ⟨a1, a2, a3⟩ := from_wrong (i := -1) (b := 0) h
    obtain ⟨b1, b2, b3⟩ := wrong_of h
    exact ⟨by rw [← a1, b1], by rw [← a3, b3], by rw [← a2, b2]⟩
  have G := good_of_wrong h
  have pre : ∀ k, k ≤ l.length → ((∀ j, j < k → fOk t l hx hy st (-1) 0 j = true) ↔ ∀ j, j < k → tOk t l hx hy st j = true) := by
    intro k
    induction k with
    | zero => intro _; exact ⟨fun _ j hj => absurd hj (Nat.not_lt_zero j), fun _ j hj => absurd hj (Nat.not_lt_zero j)⟩
    | succ k ih =>
      intro hk
      have ih := ih (by omega)
      constructor
      · intro hf
        have ht := ih.1 fun j hj => hf j (by omega)
        intro j hj
        by_cases hjk : j < k
        · exact ht j hjk
        · rw [show j = k by omega, ← fOk_tOk (i := -1) (b := 0) G (by omega) ht fun j _ => fd_m1 j]; exact hf k (by omega)
      · intro ht j hj
        by_cases hjk : j < k
        · exact ih.2 (fun j hj => ht j (by omega)) j hjk
        · rw [show j = k by omega, fOk_tOk (i := -1) (b := 0) G (by omega) (fun j hj => ht j (by omega)) fun j _ => fd_m1 j]; exact ht k (by omega)
  by_cases hall : ∀ j, j < l.length → tOk t l hx hy st j = true
  · have e := fz_ts (i := -1) (b := 0) G l.length (Nat.le_refl _) hall fun j _ => fd_m1 j
    have hf := (pre l.length (Nat.le_refl _)).2 hall
    have eE : fEnd t l hx hy st (-1) 0 = tEnd t l hx hy st := by unfold fEnd fN fX fY tEnd tN tX tY; rw [e]
    have eI : fIn t l hx hy st en (-1) 0 = inTime t l hx hy st en := by rw [fIn_all hf, inTime_all hall, eE]
    have e1 : fromE hx hy cap st en l t (-1) 0 = timesE hx hy cap st en l t := by rw [from_of h, times_of h, eI]
    refine ⟨e1, ?_, ?_⟩
    · unfold fromR timesR; rw [e1]
      have : fRows t l hx hy st (-1) 0 l.length = tRows t l hx hy st l.length := by
        refine List.map_congr_left fun k hk => ?_
        have hk := List.mem_range.1 hk
        have e := fz_ts (i := -1) (b := 0) G (k + 1) (by omega) (fun j hj => hall j (by omega)) fun j _ => fd_m1 j
        unfold fRow tRow fA fB fN tA tB tN; rw [e]
      rw [this]
    · unfold fromN timesN; rw [e1, eE]
  · have n1 : inTime t l hx hy st en = false := by
      unfold inTime
      have : (List.range l.length).all (tOk t l hx hy st) = false := Bool.eq_false_iff.2 fun g => hall fun j hj => List.all_eq_true.1 g j (List.mem_range.2 hj)
      rw [this]; rfl
    have n2 : fIn t l hx hy st en (-1) 0 = false := by
      unfold fIn
      have : (List.range l.length).all (fOk t l hx hy st (-1) 0) = false := Bool.eq_false_iff.2 fun g => hall ((pre l.length (Nat.le_refl _)).1 fun j hj => List.all_eq_true.1 g j (List.mem_range.2 hj))
      rw [this]; rfl
    obtain ⟨a1, a2, a3⟩ := from_late (i := -1) (b := 0) h n2
    obtain ⟨b1, b2, b3⟩ := late_of h n1
    exact ⟨by rw [← a1, b1], by rw [← a3, b3], by rw [← a2, b2]⟩

/-- Behind the stop that is pushed. -/
structure Psh (hx hy st en : Int) (l t : List (List Value)) (I : Nat) (bb b0 : Int) (m : Nat) : Prop where
  b : fB t l hx hy st I bb (I + m + 1) = pB t l hx hy en I b0 m
  n : fN t l hx hy st I bb (I + m + 1) = pB t l hx hy en I b0 m + svk t l (I + m)
  x : fX t l hx hy st I bb (I + m + 1) = pX t (geti (l.getD (I + m) []) 0) (geti (l.getD (I + m) []) 1)
  y : fY t l hx hy st I bb (I + m + 1) = pY t (geti (l.getD (I + m) []) 0) (geti (l.getD (I + m) []) 1)
theorem fd_at (I : Nat) (b : Int) : fd (I : Int) b I = b := by unfold fd; rw [decide_eq_true rfl]; rfl
theorem fd_no {I k : Nat} (h : k ≠ I) (b : Int) : fd (I : Int) b k = 0 := by unfold fd; rw [decide_eq_false (by omega)]; rfl
theorem psh_0 (D : Due hx hy cap st en l t) {I : Nat} (hI : I < l.length) {b0 : Int} (hb : b0 = tB t l hx hy st (I + 1) + b) : Psh hx hy st en l t I b b0 0 := by
  have e := fz_ts (i := (I : Int)) (b := b) D.G I (by omega) (fun j hj => D.all j (by omega)) fun j hj => fd_no (by omega) b
  have s := stop_of D hI
  have eB : fB t l hx hy st I b (I + 1) = max (arr t (geti (l.getD I []) 0) (geti (l.getD I []) 1) (fz t l hx hy st I b I).n (fz t l hx hy st I b I).x (fz t l hx hy st I b I).y) (wE t (geti (l.getD I []) 0) (geti (l.getD I []) 1)) + fd I b I := rfl
  rw [e, fd_at] at eB
  have eA : tA t l hx hy st (I + 1) = arr t (geti (l.getD I []) 0) (geti (l.getD I []) 1) (ts t l hx hy st I).n (ts t l hx hy st I).x (ts t l hx hy st I).y := rfl
  rw [← eA] at eB
  have h1 : fB t l hx hy st I b (I + 1) = b0 := by rw [eB, hb]; congr 1; exact s.b.symm
  have h2 : fN t l hx hy st I b (I + 1) = fB t l hx hy st I b (I + 1) + svk t l I := rfl
  exact ⟨h1, by show _ = b0 + _; rw [← h1]; exact h2, rfl, rfl⟩
theorem fA_psh (D : Due hx hy cap st en l t) {I m : Nat} (h : I + (m + 1) < l.length) {b0 : Int} (p : Psh hx hy st en l t I b b0 m) : fA t l hx hy st I b (I + (m + 1) + 1) = pE t l hx hy en I b0 m := by
  have s := stop_of D (show I + m < l.length by omega)
  have hE := pE_eq D (show I + m < l.length by omega) b0
  have hin1 := D.G.inr (I + (m + 1)) h
  have eA : fA t l hx hy st I b (I + (m + 1) + 1) = fN t l hx hy st I b (I + m + 1) + dist (fX t l hx hy st I b (I + m + 1)) (fY t l hx hy st I b (I + m + 1)) (pX t (geti (l.getD (I + (m + 1)) []) 0) (geti (l.getD (I + (m + 1)) []) 1)) (pY t (geti (l.getD (I + (m + 1)) []) 0) (geti (l.getD (I + (m + 1)) []) 1)) := rfl
  have e0 : sp t l ((I + m + 1 : Nat) : Int) 0 2 hx = pX t (geti (l.getD (I + (m + 1)) []) 0) (geti (l.getD (I + (m + 1)) []) 1) := sp_part h hin1 0 2 hx
  have e1 : sp t l ((I + m + 1 : Nat) : Int) 1 3 hy = pY t (geti (l.getD (I + (m + 1)) []) 0) (geti (l.getD (I + (m + 1)) []) 1) := sp_part h hin1 1 3 hy
  rw [eA, hE, p.n, p.x, p.y]
  unfold dk; rw [e0, e1]
theorem psh_ok (D : Due hx hy cap st en l t) {I m : Nat} (h : I + (m + 1) < l.length) {b0 : Int} (p : Psh hx hy st en l t I b b0 m) : fOk t l hx hy st I b (I + (m + 1)) = pW t l hx hy en I b0 m := by
  have eA := fA_psh D h p
  obtain ⟨_, hW⟩ := pB_succ D h b0
  have w := (stop_of D h).w
  rw [hW]
  have eB : fB t l hx hy st I b (I + (m + 1) + 1) = max (fA t l hx hy st I b (I + (m + 1) + 1)) (wEk t l (I + (m + 1))) + fd I b (I + (m + 1)) := rfl
  rw [fd_no (by omega), eA] at eB
  unfold fOk
  rw [eB]
  show decide (_ ≤ wLk t l (I + (m + 1))) = _
  exact decide_eq_decide.2 ⟨fun h => ⟨w, by omega⟩, fun h => by have := h.2; omega⟩
theorem psh_succ (D : Due hx hy cap st en l t) {I m : Nat} (h : I + (m + 1) < l.length) {b0 : Int} (p : Psh hx hy st en l t I b b0 m) (hw : pW t l hx hy en I b0 m = true) : Psh hx hy st en l t I b b0 (m + 1) := by
  have eA := fA_psh D h p
  obtain ⟨hB, hW⟩ := pB_succ D h b0
  rw [hW] at hw
  have hw := of_decide_eq_true hw
  unfold waitN at hB
  rw [if_pos hw] at hB
  have eB : fB t l hx hy st I b (I + (m + 1) + 1) = max (fA t l hx hy st I b (I + (m + 1) + 1)) (wEk t l (I + (m + 1))) + fd I b (I + (m + 1)) := rfl
  rw [fd_no (by omega), eA, Int.add_zero] at eB
  have h1 : fB t l hx hy st I b (I + (m + 1) + 1) = pB t l hx hy en I b0 (m + 1) := by rw [eB, hB]
  exact ⟨h1, by rw [← h1]; rfl, rfl, rfl⟩
theorem psh_all (D : Due hx hy cap st en l t) {I : Nat} (hI : I < l.length) {b0 : Int} (hb : b0 = tB t l hx hy st (I + 1) + b) : ∀ m, I + m < l.length → (∀ j, j < m → pW t l hx hy en I b0 j = true) → Psh hx hy st en l t I b b0 m
  | 0, _, _ => psh_0 D hI hb
  | m + 1, h, hw => psh_succ D h (psh_all D hI hb m (by omega) fun j hj => hw j (by omega)) (hw m (by omega))
theorem fOk_before (D : Due hx hy cap st en l t) {I k : Nat} (hI : I < l.length) (hk : k < I) : fOk t l hx hy st I b k = true := by
  rw [fOk_tOk D.G (by omega) (fun j hj => D.all j (by omega)) fun j hj => fd_no (by omega) b]; exact D.all k (by omega)
theorem fOk_at (D : Due hx hy cap st en l t) {I : Nat} (hI : I < l.length) {b0 : Int} (hb : b0 = tB t l hx hy st (I + 1) + b) : fOk t l hx hy st I b I = decide (b0 ≤ wLk t l I) := by
  have p := psh_0 (b := b) D hI hb
  have : fB t l hx hy st I b (I + 1) = b0 := p.b
  unfold fOk; rw [this]; rfl
theorem fEnd_psh (D : Due hx hy cap st en l t) {I : Nat} (hI : I < l.length) {b0 : Int} (p : Psh hx hy st en l t I b b0 (l.length - 1 - I)) : fEnd t l hx hy st I b = pE t l hx hy en I b0 (l.length - 1 - I) := by
  have hlast : I + (l.length - 1 - I) < l.length := by omega
  have hE := pE_eq D hlast b0
  have e : I + (l.length - 1 - I) + 1 = l.length := by omega
  have p1 := p.n
  have p2 := p.x
  have p3 := p.y
  rw [e] at p1 p2 p3
  unfold fEnd
  rw [hE, p1, p2, p3]
  unfold dk
  rw [sp_end (by omega), sp_end (by omega)]
theorem fIn_pIn (D : Due hx hy cap st en l t) {I : Nat} (hI : I < l.length) {b0 : Int} (hb : b0 = tB t l hx hy st (I + 1) + b) : fIn t l hx hy st en I b = pIn t l hx hy en I b0 := by
  have s := stop_of D hI
  have split : (∀ k, k < l.length → fOk t l hx hy st I b k = true) ↔ b0 ≤ wLk t l I ∧ ∀ j, j < l.length - 1 - I → pW t l hx hy en I b0 j = true := by
    constructor
    · intro h
      refine ⟨by have := h I hI; rw [fOk_at D hI hb] at this; exact of_decide_eq_true this, ?_⟩
      have key : ∀ m, m ≤ l.length - 1 - I → ∀ j, j < m → pW t l hx hy en I b0 j = true := by
        intro m
        induction m with
        | zero => intro _ j hj; exact absurd hj (Nat.not_lt_zero j)
        | succ m ih =>
          intro hm j hj
          by_cases hjm : j < m
          · exact ih (by omega) j hjm
          · rw [show j = m by omega, ← psh_ok D (by omega) (psh_all D hI hb m (by omega) (ih (by omega)))]
            exact h _ (by omega)
      exact key _ (Nat.le_refl _)
    · rintro ⟨h1, h2⟩ k hk
      rcases Nat.lt_trichotomy k I with g | g | g
      · exact fOk_before D hI g
      · rw [g, fOk_at D hI hb]; exact decide_eq_true h1
      · obtain ⟨m, rfl⟩ : ∃ m, k = I + (m + 1) := ⟨k - I - 1, by omega⟩
        rw [psh_ok D hk (psh_all D hI hb m (by omega) fun j hj => h2 j (by omega))]
        exact h2 m (by omega)
  cases hp : pIn t l hx hy en I b0 with
  | true =>
    unfold pIn at hp
    simp only [Bool.and_eq_true, decide_eq_true_eq, List.all_eq_true, List.mem_range] at hp
    obtain ⟨g1, g2, g3⟩ := hp
    rw [s.s2] at g1
    rw [fIn_all (split.2 ⟨g1, g2⟩), fEnd_psh D hI (psh_all D hI hb _ (by omega) g2)]
    exact decide_eq_true g3
  | false =>
    cases hf : fIn t l hx hy st en I b with
    | false => rfl
    | true =>
      exfalso
      unfold fIn at hf
      simp only [Bool.and_eq_true, decide_eq_true_eq, List.all_eq_true, List.mem_range] at hf
      obtain ⟨g1, g2⟩ := split.1 hf.1
      rw [fEnd_psh D hI (psh_all D hI hb _ (by omega) g2)] at hf
      have : pIn t l hx hy en I b0 = true := by
        unfold pIn
        simp only [Bool.and_eq_true, decide_eq_true_eq, List.all_eq_true, List.mem_range]
        exact ⟨by rw [s.s2]; exact g1, g2, hf.2⟩
      rw [this] at hp; cases hp
def pRow (t l : List (List Value)) (hx hy en : Int) (i : Nat) (a0 b0 : Int) : Nat → List Value
  | 0 => [.int .i64 a0, .int .i64 b0, .int .i64 (b0 + sp t l (i : Int) 9 9 0)]
  | m + 1 => [.int .i64 (pE t l hx hy en i b0 m), .int .i64 (pB t l hx hy en i b0 (m + 1)), .int .i64 (pB t l hx hy en i b0 (m + 1) + sp t l ((i + (m + 1) : Nat) : Int) 9 9 0)]
theorem pR_row (t l : List (List Value)) (hx hy en : Int) (i : Nat) (a0 b0 : Int) (xs : List (List Value)) : ∀ m, i + m < xs.length → ∀ j, j ≤ m → (pR t l hx hy en i a0 b0 xs m).getD (i + j) [] = pRow t l hx hy en i a0 b0 j
  | 0, h, j, hj => by
    rw [show j = 0 by omega]
    simp only [pR]
    rw [Nat.add_zero, set_get (by omega)]; rfl
  | m + 1, h, j, hj => by
    simp only [pR]
    by_cases e : j = m + 1
    · subst e; rw [set_get (by rw [pR_len]; exact h)]; rfl
    · rw [List.getD_eq_getElem?_getD, List.getElem?_set_ne (by omega), ← List.getD_eq_getElem?_getD]
      exact pR_row t l hx hy en i a0 b0 xs m (by omega) j (by omega)
theorem getD_ext {a c : List (List Value)} (hl : a.length = c.length) (h : ∀ k, k < a.length → a.getD k [] = c.getD k []) : a = c := by
  refine List.ext_getElem hl fun k h1 h2 => ?_
  have := h k h1
  rwa [List.getD_eq_getElem?_getD, List.getD_eq_getElem?_getD, List.getElem?_eq_getElem h1, List.getElem?_eq_getElem h2] at this
/-- With a stop pushed the document's times are what a push makes. -/
theorem from_push (h : timesE hx hy cap st en l t = 0) (ha : pArg l i b = true) : fromE hx hy cap st en l t i b = pushE hx hy cap st en l t i b ∧ fromR hx hy cap st en l t i b = pushR hx hy cap st en l t i b ∧ fromN hx hy cap st en l t i b = pushN hx hy cap st en l t i b := by
  have D := due_all h
  have hw := (wrong_of_times h).1
  have hA := pArg_iff.1 ha
  obtain ⟨I, rfl⟩ := Int.eq_ofNat_of_zero_le hA.1
  have hI : I < l.length := by omega
  have hx1 : geti ((timesR hx hy cap st en l t).getD I []) 1 = tB t l hx hy st (I + 1) := by rw [D.r, tRows_get t l hx hy st hI]; rfl
  have hx0 : geti ((timesR hx hy cap st en l t).getD I []) 0 = tA t l hx hy st (I + 1) := by rw [D.r, tRows_get t l hx hy st hI]; rfl
  have hxl : (timesR hx hy cap st en l t).length = l.length := by rw [D.r, tRows_len]
  have ep : p0 (timesR hx hy cap st en l t) I b = tB t l hx hy st (I + 1) + b := by unfold p0; rw [hx1]
  have hb : tB t l hx hy st (I + 1) + b = tB t l hx hy st (I + 1) + b := rfl
  have e := push_3 h ha
  rw [Int.toNat_natCast, ep] at e
  have e1 : fromE hx hy cap st en l t I b = pushE hx hy cap st en l t I b := by rw [from_of hw, fIn_pIn D hI hb, e]
  refine ⟨e1, ?_, ?_⟩
  · unfold fromR pushR
    rw [e1]
    by_cases h0 : pushE hx hy cap st en l t I b = 0
    rotate_left
    · rw [decide_eq_false h0]; rfl
    rw [decide_eq_true h0, cond_true, cond_true, Int.toNat_natCast, ep, hx0]
    have hp : pIn t l hx hy en I (tB t l hx hy st (I + 1) + b) = true := by
      cases hp : pIn t l hx hy en I (tB t l hx hy st (I + 1) + b) with
      | true => rfl
      | false => rw [hp] at e; rw [e] at h0; cases h0
    unfold pIn at hp
    simp only [Bool.and_eq_true, decide_eq_true_eq, List.all_eq_true, List.mem_range] at hp
    obtain ⟨_, g2, _⟩ := hp
    refine getD_ext (by rw [fRows_len, pR_len, hxl]) fun k hk => ?_
    rw [fRows_len] at hk
    rw [fRows_get t l hx hy st I b hk]
    by_cases hkI : k < I
    · rw [pR_lt _ _ _ _ _ _ _ _ _ hkI, D.r, tRows_get t l hx hy st hk]
      have ez := fz_ts (i := (I : Int)) (b := b) D.G (k + 1) (by omega) (fun j hj => D.all j (by omega)) fun j hj => fd_no (by omega) b
      unfold fRow tRow fA fB fN tA tB tN; rw [ez]
    · obtain ⟨m, rfl⟩ : ∃ m, k = I + m := ⟨k - I, by omega⟩
      rw [pR_row t l hx hy en I _ _ _ (l.length - 1 - I) (by rw [hxl]; omega) m (by omega)]
      have p := psh_all D hI hb m hk fun j hj => g2 j (by omega)
      have s := stop_of D hk
      unfold fRow
      rw [p.n, p.b, ← s.s0]
      cases m with
      | zero =>
        have ez := fz_ts (i := (I : Int)) (b := b) D.G I (by omega) (fun j hj => D.all j (by omega)) fun j hj => fd_no (by omega) b
        have eA : fA t l hx hy st I b (I + 1) = tA t l hx hy st (I + 1) := by
          show arr _ _ _ (fz t l hx hy st I b I).n (fz t l hx hy st I b I).x (fz t l hx hy st I b I).y = arr _ _ _ (ts t l hx hy st I).n (ts t l hx hy st I).x (ts t l hx hy st I).y
          rw [ez]
        show [Value.int .i64 (fA t l hx hy st I b (I + 1)), _, _] = _
        rw [eA]; rfl
      | succ m =>
        rw [fA_psh D hk (psh_all D hI hb m (by omega) fun j hj => g2 j (by omega))]; rfl
  · unfold fromN pushN
    rw [e1]
    by_cases h0 : pushE hx hy cap st en l t I b = 0
    rotate_left
    · rw [decide_eq_false h0]; rfl
    rw [decide_eq_true h0, cond_true, cond_true, Int.toNat_natCast, ep]
    have hp : pIn t l hx hy en I (tB t l hx hy st (I + 1) + b) = true := by
      cases hp : pIn t l hx hy en I (tB t l hx hy st (I + 1) + b) with
      | true => rfl
      | false => rw [hp] at e; rw [e] at h0; cases h0
    unfold pIn at hp
    simp only [Bool.and_eq_true, decide_eq_true_eq, List.all_eq_true, List.mem_range] at hp
    exact fEnd_psh D hI (psh_all D hI hb _ (by omega) hp.2.1)
end
set_option maxHeartbeats 4000000 in
theorem okRlt : CtrOk Try.prog 17 kRlt := good_of okG36 mixed (fun ((hx, hy, cap, st, en, _), l, t, _) => rlL hx hy cap st en l t) 100 fun ((hx, hy, cap, st, en, _), l, t, _) hf hn => by
  refine ⟨rfl, Eq.mpr (tRlt hx hy cap st en l t) ?_⟩
  have hml : (l.length : Int) ≤ 9223372036854775807 := len63 hf.2.1.2
  (simp only [eq_self_iff_true, true_and, and_true, false_and, and_false, Bool.or_not_self, Bool.not_or_self, Bool.cond_self, cond_true, cond_false, Bool.cond_true_right, Bool.cond_true_left, Bool.cond_false_right, Bool.cond_false_left, Bool.or_true, Bool.true_or, Bool.or_false, Bool.false_or, Bool.and_true, Bool.true_and, Bool.and_false, Bool.false_and, Bool.not_not, forall_eq, ← Bool.decide_and, ← Bool.decide_or, ← decide_not, cDecF, cDecT, cDecFl, Decidable.not_not, Bool.not_true, Bool.not_false, Bool.false_eq_true, imp_false, not_true_eq_false, not_false_eq_true, forall_const, true_implies, false_implies, implies_true, decide_true, decide_false]; try simp only [cDec, eq_self_iff_true, true_and, and_true, false_and, and_false, Bool.or_not_self, Bool.not_or_self, Bool.cond_self, cond_true, cond_false, Bool.cond_true_right, Bool.cond_true_left, Bool.cond_false_right, Bool.cond_false_left, Bool.or_true, Bool.true_or, Bool.or_false, Bool.false_or, Bool.and_true, Bool.true_and, Bool.and_false, Bool.false_and, Bool.not_not, forall_eq, ← Bool.decide_and, ← Bool.decide_or, ← decide_not, cDecF, cDecT, cDecFl, Decidable.not_not, Bool.not_true, Bool.not_false, Bool.false_eq_true, imp_false, not_true_eq_false, not_false_eq_true, forall_const, true_implies, false_implies, implies_true, decide_true, decide_false])
  obtain ⟨m1, m2, m3⟩ := from_m1 (hx := hx) (hy := hy) (cap := cap) (st := st) (en := en) (l := l) (t := t)
  rw [m1, m2]
  have hbd := timesE_bd hx hy cap st en l t
  refine ⟨fun h => ⟨rfl, by unfold latest; rw [decide_eq_false h]; rfl⟩, fun h => ?_⟩
  have D := due_all h
  have h16 := D.G.len
  have hen := D.G.en1
  have hL := D.al
  refine ⟨0, ⟨by omega, by omega⟩, ⟨⟨rfl, by omega, by omega⟩, rfl⟩, ?_⟩
  rintro k ⟨k0, k1⟩
  refine ⟨fun hlt => ?_, fun hge => ⟨⟨h.symm, hbd⟩, List.take_of_length_le (by omega)⟩⟩
  obtain ⟨I, rfl⟩ := Int.eq_ofNat_of_zero_le k0
  have hI : I < l.length := by omega
  obtain ⟨_, hF⟩ := float_get D hI
  have hae := (lat_in D.G (l.length - I) (by omega)).2
  have hbb := tB_in t l hx hy st (I + 1)
  have eF : fltI hx hy st en l t (I : Int) = lat t l hx hy en (l.length - I) - tB t l hx hy st (I + 1) := rfl
  simp only [Int.toNat_natCast, eF]
  have hpush : ∀ b, 0 ≤ b → b ≤ 1048576 → fromE hx hy cap st en l t (I : Int) b = cond (pIn t l hx hy en I (tB t l hx hy st (I + 1) + b)) 0 9 := fun b h1 h2 => by
    have hpa : pArg l (I : Int) b = true := pArg_iff.2 (by omega)
    have hx1 : geti ((timesR hx hy cap st en l t).getD I []) 1 = tB t l hx hy st (I + 1) := by rw [D.r, tRows_get t l hx hy st hI]; rfl
    rw [(from_push h hpa).1, push_3 h hpa, Int.toNat_natCast]
    unfold p0; rw [hx1]
  refine ⟨⟨0, 1048577⟩, ⟨by dsimp only; omega, by dsimp only; omega, by dsimp only; omega, by dsimp only; omega⟩, ⟨⟨rfl, by simp, by simp⟩, rfl, by simp, by simp⟩, ?_⟩
  rintro ⟨lo, hi⟩ ⟨z0, z1, z2, z3⟩
  dsimp only at z0 z1 z2 z3 ⊢
  refine ⟨fun hgt => ?_, fun hle => ?_⟩
  · have d1 : lo ≤ (lo + hi) / 2 := by omega
    have d2 : (lo + hi) / 2 < hi := by omega
    have d3 : lo < (lo + hi) / 2 := by omega
    generalize (lo + hi) / 2 = mid at *
    rw [hpush mid (by omega) (by omega)]
    refine ⟨by omega, fun hy' => ?_, fun hn' => ?_⟩
    · refine ⟨⟨mid, hi⟩, ⟨by dsimp only; omega, ?_, by dsimp only; omega, by dsimp only; omega⟩, by dsimp only; omega, ⟨rfl, by dsimp only; omega, by dsimp only; omega⟩, rfl⟩
      dsimp only
      rcases Int.lt_or_le (lat t l hx hy en (l.length - I)) (tB t l hx hy st (I + 1) + mid) with g | g
      · rw [push_over D hI g] at hy'; cases hy'
      · omega
    · refine ⟨⟨lo, mid⟩, ⟨by dsimp only; omega, by dsimp only; omega, ?_, by dsimp only; omega⟩, by dsimp only; omega, rfl, ⟨rfl, by dsimp only; omega, by dsimp only; omega⟩⟩
      dsimp only
      rcases Int.lt_or_le (lat t l hx hy en (l.length - I)) (tB t l hx hy st (I + 1) + mid) with g | g
      · omega
      · rw [(push_yes D hI (by'  := mid) rfl (by omega) g).1] at hn'; exact absurd rfl hn'
  · have hxl : (timesR hx hy cap st en l t).length = l.length := by rw [D.r, tRows_len]
    have hx1 : geti ((timesR hx hy cap st en l t).getD I []) 1 = tB t l hx hy st (I + 1) := by rw [D.r, tRows_get t l hx hy st hI]; rfl
    have eL : latest hx hy cap st en l t = latR t l hx hy en l.length := by unfold latest; rw [decide_eq_true h]; rfl
    have hg : (latest hx hy cap st en l t).getD I [] = [.int .i64 (lat t l hx hy en (l.length - I))] := by rw [eL]; exact latR_get t l hx hy en l.length (Nat.le_refl _) I hI (by omega)
    have e : ((I : Int) + 1).toNat = I + 1 := by omega
    refine ⟨⟨by omega, by omega⟩, by rw [lenI_eq, List.length_take]; omega, (I : Int) + 1, ⟨by omega, by omega⟩, by omega, ⟨wr64 _ (by omega), by omega, by omega⟩, ?_⟩
    rw [e, take_snoc (d := []) (show I < (latest hx hy cap st en l t).length by omega), hg, hx1, wr64 _ (by omega)]
    congr 4
    omega
theorem okG37 : PCok Try.prog G37 := addPC_ok okG36 okRlt
set_option maxHeartbeats 4000000 in
theorem okRpu : CtrOk Try.prog 19 kRpu := good_of okG37 mixed (fun ((hx, hy, cap, st, en, _), l, t, i, b, _) => noLoops) 100 fun ((hx, hy, cap, st, en, _), l, t, i, b, _) hf hn => by
  refine ⟨rfl, Eq.mpr (tRpu hx hy cap st en l t i b) ?_⟩
  (simp only [eq_self_iff_true, true_and, and_true, false_and, and_false, Bool.or_not_self, Bool.not_or_self, Bool.cond_self, cond_true, cond_false, Bool.cond_true_right, Bool.cond_true_left, Bool.cond_false_right, Bool.cond_false_left, Bool.or_true, Bool.true_or, Bool.or_false, Bool.false_or, Bool.and_true, Bool.true_and, Bool.and_false, Bool.false_and, Bool.not_not, forall_eq, ← Bool.decide_and, ← Bool.decide_or, ← decide_not, cDecF, cDecT, cDecFl, Decidable.not_not, Bool.not_true, Bool.not_false, Bool.false_eq_true, imp_false, not_true_eq_false, not_false_eq_true, forall_const, true_implies, false_implies, implies_true, decide_true, decide_false]; try simp only [cDec, eq_self_iff_true, true_and, and_true, false_and, and_false, Bool.or_not_self, Bool.not_or_self, Bool.cond_self, cond_true, cond_false, Bool.cond_true_right, Bool.cond_true_left, Bool.cond_false_right, Bool.cond_false_left, Bool.or_true, Bool.true_or, Bool.or_false, Bool.false_or, Bool.and_true, Bool.true_and, Bool.and_false, Bool.false_and, Bool.not_not, forall_eq, ← Bool.decide_and, ← Bool.decide_or, ← decide_not, cDecF, cDecT, cDecFl, Decidable.not_not, Bool.not_true, Bool.not_false, Bool.false_eq_true, imp_false, not_true_eq_false, not_false_eq_true, forall_const, true_implies, false_implies, implies_true, decide_true, decide_false])
  obtain ⟨m1, m2, m3⟩ := from_m1 (hx := hx) (hy := hy) (cap := cap) (st := st) (en := en) (l := l) (t := t)
  rw [m1]
  have hbd := pushE_bd hx hy cap st en l t i b
  refine ⟨fun h => ?_, fun h => ⟨fun ha => ?_, fun ha => ?_⟩⟩
  · have e := push_1 (i := i) (b := b) h
    have p := push_no (i := i) (b := b) (by rw [← e]; exact h)
    exact ⟨⟨by omega, e⟩, p.2⟩
  · have e := push_2 (i := i) (b := b) h (Bool.eq_false_iff.2 fun g => by have := pArg_iff.1 g; omega)
    have p := push_no (i := i) (b := b) (by rw [← e]; decide)
    exact ⟨⟨by omega, e, hbd⟩, p.2⟩
  · obtain ⟨g1, g2, g3⟩ := from_push (i := i) (b := b) h (pArg_iff.2 (by omega))
    exact ⟨by omega, ⟨g3, g1⟩, g2⟩
theorem okG38 : PCok Try.prog G38 := addPC_ok okG37 okRpu
theorem pk_put {x : List Value} (h : Wk PK x) : [Value.int .i64 (geti x 0)] = x := by
  have h0 := geti_eq h (j := 0) (K := .i64) rfl
  have hl : x.length = 1 := by simpa [PK] using h.length
  match x, hl with
  | [a], _ => simp only [List.getElem?_cons_zero, Option.some.injEq] at h0; rw [← h0]
theorem pk_eq {x y : List Value} (hx : Wk PK x) (hy : Wk PK y) (h0 : geti x 0 = geti y 0) : x = y := by rw [← pk_put hx, ← pk_put hy, h0]
set_option maxHeartbeats 4000000 in
theorem okInts : CtrOk Try.prog 14 kInts := good_of okG38 mixed (fun (xs, ys, _) => inL xs ys) 100 fun (xs, ys, _) hf hn => by
  refine ⟨rfl, Eq.mpr (tInts xs ys) ?_⟩
  have hm : (xs.length : Int) ≤ 9223372036854775807 := len63 hf.1.2
  have hm2 : (ys.length : Int) ≤ 9223372036854775807 := len63 hf.2.1.2
  (simp only [eq_self_iff_true, true_and, and_true, false_and, and_false, Bool.or_not_self, Bool.not_or_self, Bool.cond_self, cond_true, cond_false, Bool.cond_true_right, Bool.cond_true_left, Bool.cond_false_right, Bool.cond_false_left, Bool.or_true, Bool.true_or, Bool.or_false, Bool.false_or, Bool.and_true, Bool.true_and, Bool.and_false, Bool.false_and, Bool.not_not, forall_eq, ← Bool.decide_and, ← Bool.decide_or, ← decide_not, cDecF, cDecT, cDecFl, Decidable.not_not, Bool.not_true, Bool.not_false, Bool.false_eq_true, imp_false, not_true_eq_false, not_false_eq_true, forall_const, true_implies, false_implies, implies_true, decide_true, decide_false]; try simp only [cDec, eq_self_iff_true, true_and, and_true, false_and, and_false, Bool.or_not_self, Bool.not_or_self, Bool.cond_self, cond_true, cond_false, Bool.cond_true_right, Bool.cond_true_left, Bool.cond_false_right, Bool.cond_false_left, Bool.or_true, Bool.true_or, Bool.or_false, Bool.false_or, Bool.and_true, Bool.true_and, Bool.and_false, Bool.false_and, Bool.not_not, forall_eq, ← Bool.decide_and, ← Bool.decide_or, ← decide_not, cDecF, cDecT, cDecFl, Decidable.not_not, Bool.not_true, Bool.not_false, Bool.false_eq_true, imp_false, not_true_eq_false, not_false_eq_true, forall_const, true_implies, false_implies, implies_true, decide_true, decide_false])
  refine ⟨fun h => (dB_no (fun e => h (by rw [e]))).symm, fun hlen => ?_⟩
  refine ⟨0, ⟨by omega, by omega, by simp⟩, ⟨rfl, by omega, by omega⟩, ?_⟩
  rintro k ⟨h0, h1, h2⟩
  refine ⟨fun hlt => ⟨⟨h0, hlt⟩, ⟨h0, by omega⟩, ?_⟩, fun hge => ?_⟩
  · have ha := hf.1.1 _ (getD_in (d := []) (show k.toNat < xs.length by omega))
    have hb := hf.2.1.1 _ (getD_in (d := []) (show k.toNat < ys.length by omega))
    have sa := take_snoc (d := []) (show k.toNat < xs.length by omega)
    have sb := take_snoc (d := []) (show k.toNat < ys.length by omega)
    have e : (k + 1).toNat = k.toNat + 1 := by omega
    have ew : IntKind.i64.wrap (k + 1) = k + 1 := wr64 _ (by omega)
    have fin : xs.getD k.toNat [] = ys.getD k.toNat [] → ∃ s : Int, (0 ≤ s ∧ s ≤ xs.length ∧ List.take s.toNat xs = List.take s.toNat ys) ∧ ((xs.length : Int) - s).toNat < ((xs.length : Int) - k).toNat ∧
        IntKind.i64.wrap (k + 1) = s ∧ 0 ≤ s ∧ s ≤ 9223372036854775807 := fun hd => by
      refine ⟨k + 1, ⟨by omega, by omega, ?_⟩, by omega, ew, by omega, by omega⟩
      rw [e, sa, sb, h2, hd]
    refine ⟨fun h => (dB_no (fun e' => h (by rw [e']))).symm, fun h => fin (pk_eq ha hb h)⟩
  · refine (dB_intro ?_).symm
    have e1 : k.toNat = xs.length := by omega
    have e2 : k.toNat = ys.length := by omega
    rw [e1, List.take_length] at h2
    rw [h2, ← e1, e2, List.take_length]
theorem okG39 : PCok Try.prog G39 := addPC_ok okG38 okInts
set_option maxHeartbeats 4000000 in
theorem okTd : CtrOk Try.prog 8 kTd := good_of okG39 mixed (fun ((hx, hy, cap, st, en, _), l, t, (i, b, _), _) => tdL (floats hx hy cap st en l t)) 100 fun ((hx, hy, cap, st, en, _), l, t, (i, b, _), _) hf hn => by
  refine ⟨rfl, Eq.mpr (tTd hx hy cap st en l t i b) ?_⟩
  (simp only [eq_self_iff_true, true_and, and_true, false_and, and_false, Bool.or_not_self, Bool.not_or_self, Bool.cond_self, cond_true, cond_false, Bool.cond_true_right, Bool.cond_true_left, Bool.cond_false_right, Bool.cond_false_left, Bool.or_true, Bool.true_or, Bool.or_false, Bool.false_or, Bool.and_true, Bool.true_and, Bool.and_false, Bool.false_and, Bool.not_not, forall_eq, ← Bool.decide_and, ← Bool.decide_or, ← decide_not, cDecF, cDecT, cDecFl, Decidable.not_not, Bool.not_true, Bool.not_false, Bool.false_eq_true, imp_false, not_true_eq_false, not_false_eq_true, forall_const, true_implies, false_implies, implies_true, decide_true, decide_false]; try simp only [cDec, eq_self_iff_true, true_and, and_true, false_and, and_false, Bool.or_not_self, Bool.not_or_self, Bool.cond_self, cond_true, cond_false, Bool.cond_true_right, Bool.cond_true_left, Bool.cond_false_right, Bool.cond_false_left, Bool.or_true, Bool.true_or, Bool.or_false, Bool.false_or, Bool.and_true, Bool.true_and, Bool.and_false, Bool.false_and, Bool.not_not, forall_eq, ← Bool.decide_and, ← Bool.decide_or, ← decide_not, cDecF, cDecT, cDecFl, Decidable.not_not, Bool.not_true, Bool.not_false, Bool.false_eq_true, imp_false, not_true_eq_false, not_false_eq_true, forall_const, true_implies, false_implies, implies_true, decide_true, decide_false])
  obtain ⟨m1, m2, m3⟩ := from_m1 (hx := hx) (hy := hy) (cap := cap) (st := st) (en := en) (l := l) (t := t)
  have hT : dB True = true := dB_intro trivial
  simp only [hT, m2, Bool.not_true, Bool.false_or, cond_false]
  by_cases h : timesE hx hy cap st en l t = 0
  · have D := due_all h
    have h16 := D.G.len
    have hfl := floats_len D
    have hal := D.al
    have hxl : (timesR hx hy cap st en l t).length = l.length := by rw [D.r, tRows_len]
    rw [hfl, hal, hxl, decide_eq_false (by simp)]
    refine ⟨0, ⟨by omega, by omega⟩, ⟨rfl, by omega, by omega⟩, ?_⟩
    rintro k ⟨k0, k1⟩
    refine ⟨fun hlt => ⟨⟨k0, hlt⟩, ⟨k0, hlt⟩, ⟨k0, hlt⟩, ?_, k + 1, ⟨by omega, by omega⟩, by omega, wr64 _ (by omega), by omega, by omega⟩, fun _ => trivial⟩
    have hg := fl_get (latest hx hy cap st en l t) (timesR hx hy cap st en l t) l.length (by rw [hal]; exact Nat.le_refl _) k.toNat (by rw [hal]; omega)
    have hf : floats hx hy cap st en l t = fl (latest hx hy cap st en l t) (timesR hx hy cap st en l t) l.length := by unfold floats; rw [hxl]
    rw [if_pos (by omega)] at hg
    rw [hf, hg]; rfl
  · have e1 : timesR hx hy cap st en l t = [] := by unfold timesR; rw [decide_eq_false h]; rfl
    have e2 : latest hx hy cap st en l t = [] := by unfold latest; rw [decide_eq_false h]; rfl
    have e3 : floats hx hy cap st en l t = [] := by unfold floats; rw [e1, e2]; rfl
    rw [e1, e2, e3, decide_eq_false (by simp)]
    refine ⟨0, ⟨by omega, by simp⟩, ⟨rfl, by omega, by omega⟩, ?_⟩
    rintro k ⟨k0, k1⟩
    refine ⟨fun hlt => absurd hlt (by simp; omega), fun _ => trivial⟩
theorem okG40 : PCok Try.prog G40 := addPC_ok okG39 okTd
end Go.Proofs.Ytojdfjmkdplpkaa
