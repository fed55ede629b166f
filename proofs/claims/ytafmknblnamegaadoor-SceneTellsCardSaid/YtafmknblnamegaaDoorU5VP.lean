/- These contracts hold. No condition. -/
import Derived.Test.YtafmknblnamegaaDoorU5VT
import Derived.Test.YtafmknblnamegaaDoorV8N
namespace Go.Proofs.YtafmknblnamegaaDoor
open Go.Eng
set_option linter.unusedSimpArgs false
set_option maxHeartbeats 4000000 in
theorem okTn : CtrOk Tryd.prog 8 kTn := good_ofM okG33 mixed (fun ((w, t, n, _), (ts, cs, ls, a, b, d, ds, _), _) => noLoops) 200 fun ((w, t, n, _), (ts, cs, ls, a, b, d, ds, _), _) hf hn => by
  refine ⟨rfl, Eq.mpr (tTn w t n ts cs ls a b d ds) ?_⟩
  have hn1 : tnN ts cs ls ds t = true := hn.1
  unfold tnN at hn1
  obtain ⟨⟨g1, g2, g3, g4, g5⟩, g6, g7, g8⟩ := of_decide_eq_true hn1
  have hw : (0 : Int) ≤ w ∧ w ≤ 255 := hf.1.1
  have ht0 : (0 : Int) ≤ t ∧ t ≤ 255 := hf.1.2.1
  (simp only [eq_self_iff_true, true_and, and_true, false_and, and_false, Bool.or_not_self, Bool.not_or_self, Bool.cond_self, cond_true, cond_false, Bool.cond_true_right, Bool.cond_true_left, Bool.cond_false_right, Bool.cond_false_left, Bool.or_true, Bool.true_or, Bool.or_false, Bool.false_or, Bool.and_true, Bool.true_and, Bool.and_false, Bool.false_and, Bool.not_not, forall_eq, ← Bool.decide_and, ← Bool.decide_or, ← decide_not, cDecF, cDecT, cDecFl, Decidable.not_not, Bool.not_true, Bool.not_false, Bool.false_eq_true, imp_false, not_true_eq_false, not_false_eq_true, forall_const, true_implies, false_implies, implies_true, decide_true, decide_false]; try simp only [cDec, eq_self_iff_true, true_and, and_true, false_and, and_false, Bool.or_not_self, Bool.not_or_self, Bool.cond_self, cond_true, cond_false, Bool.cond_true_right, Bool.cond_true_left, Bool.cond_false_right, Bool.cond_false_left, Bool.or_true, Bool.true_or, Bool.or_false, Bool.false_or, Bool.and_true, Bool.true_and, Bool.and_false, Bool.false_and, Bool.not_not, forall_eq, ← Bool.decide_and, ← Bool.decide_or, ← decide_not, cDecF, cDecT, cDecFl, Decidable.not_not, Bool.not_true, Bool.not_false, Bool.false_eq_true, imp_false, not_true_eq_false, not_false_eq_true, forall_const, true_implies, false_implies, implies_true, decide_true, decide_false])
  have eC : (t.tmod ↑cs.length).toNat = tnC t cs := rfl
  rw [eC]
  have e0 : (cs.getD (tnC t cs) []).getD 0 [] = fle (cs.getD (tnC t cs) []) := rfl
  have e1 : (cs.getD (tnC t cs) []).getD 1 [] = own (cs.getD (tnC t cs) []) := rfl
  rw [e0, e1]
  simp only [lenI_eq] at g1 g2 g6 g7 g8
  have hk : ∀ m : Nat, 0 < (m : Int) → 0 ≤ t.tmod (m : Int) ∧ t.tmod (m : Int) < m := fun m hm => ⟨Int.tmod_nonneg _ (by omega), Int.tmod_lt_of_pos _ hm⟩
  have ht := hk cs.length (by omega)
  generalize fle (cs.getD (tnC t cs) []) = fl at *
  generalize own (cs.getD (tnC t cs) []) = os at *
  have q0 : 0 ≤ w % 12 ∧ w % 12 < 12 := by omega
  simp only [List.nil_append, List.length_set, lenI_eq, tnA, tnB, tnD, tnOw, tnFl, tnLs, tnTs, tnDs]
  generalize w % 12 = q at *
  refine ⟨by omega, by omega, by omega, by omega, ht, by omega, ht, ht, by omega, ht, fun h => ?_, fun h0 => ⟨fun h => ?_, fun h1 => ⟨fun h => ?_, fun h2 => ⟨fun h => ?_, fun h3 => ⟨fun h => ?_, fun h4 => ⟨fun h => ?_, fun h5 => ⟨fun h => ?_, fun h6 => ⟨fun h => ?_, fun h7 => ⟨fun h => ?_, fun h8 => ⟨fun h => ?_, fun h9 => ⟨fun h => ?_, fun h => ?_⟩⟩⟩⟩⟩⟩⟩⟩⟩⟩⟩
  · subst h
    repeat' (first | trivial | apply And.intro | rfl | omega | assumption)
  · subst h
    repeat' (first | trivial | apply And.intro | rfl | omega | assumption)
  · subst h
    repeat' (first | trivial | apply And.intro | rfl | omega | assumption)
  · subst h
    repeat' (first | trivial | apply And.intro | rfl | omega | assumption)
  · subst h
    repeat' (first | trivial | apply And.intro | rfl | omega | assumption)
  · subst h
    repeat' (first | trivial | apply And.intro | rfl | omega | assumption)
  · subst h
    repeat' (first | trivial | apply And.intro | rfl | omega | assumption)
  · subst h
    repeat' (first | trivial | apply And.intro | rfl | omega | assumption)
  · subst h
    repeat' (first | trivial | apply And.intro | rfl | omega | assumption)
  · subst h
    repeat' (first | trivial | apply And.intro | rfl | omega | assumption)
  · have hc : 10 ≤ q ∧ 0 < (ts.length : Int) := ⟨by omega, h⟩
    simp only [h0, h1, h2, h3, h4, h5, h6, h7, h8, h9, if_false]
    rw [if_pos hc]
    refine ⟨by omega, hk _ h, hk _ h, fun h' => ?_, fun h' => ?_⟩
    · rw [if_pos (show q = 11 ∧ 0 < (ls.length : Int) from ⟨h'.2, h'.1⟩)]
      refine ⟨by omega, hk _ h'.1, ?_⟩
      repeat' (first | trivial | apply And.intro | rfl | omega | assumption)
    · rw [if_neg (show ¬ (q = 11 ∧ 0 < (ls.length : Int)) from fun hh => h' ⟨hh.2, hh.1⟩)]
      repeat' (first | trivial | apply And.intro | rfl | omega | assumption)
  · have hc : ¬ (10 ≤ q ∧ 0 < (ts.length : Int)) := fun hh => h hh.2
    simp only [h0, h1, h2, h3, h4, h5, h6, h7, h8, h9, if_false]
    rw [if_neg hc]
    refine ⟨fun h' => ?_, fun h' => ?_⟩
    · rw [if_pos (show q = 11 ∧ 0 < (ls.length : Int) from ⟨h'.2, h'.1⟩)]
      refine ⟨by omega, hk _ h'.1, ?_⟩
      repeat' (first | trivial | apply And.intro | rfl | omega | assumption)
    · rw [if_neg (show ¬ (q = 11 ∧ 0 < (ls.length : Int)) from fun hh => h' ⟨hh.2, hh.1⟩)]
      repeat' (first | trivial | apply And.intro | rfl | omega | assumption)
theorem okG34 : PCok Tryd.prog G34 := addPC_ok okG33 okTn
end Go.Proofs.YtafmknblnamegaaDoor
