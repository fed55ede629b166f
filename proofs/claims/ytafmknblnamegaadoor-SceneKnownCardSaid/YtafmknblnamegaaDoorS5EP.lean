/- These contracts hold. No condition. -/
import Derived.Test.YtafmknblnamegaaDoorS5ET
import Derived.Test.YtafmknblnamegaaDoorV7N
namespace Go.Proofs.YtafmknblnamegaaDoor
open Go.Eng
set_option linter.unusedSimpArgs false
set_option maxHeartbeats 4000000 in
theorem okTl2 : CtrOk Tryd.prog 17 kTl2 := good_of okG27 mixed (fun ((p, xs), _) => noLoops) 100 fun ((p, xs), _) hf hn => by
  refine ⟨rfl, Eq.mpr (tTl2 p xs) ?_⟩
  have hp : p = false := by cases p <;> simp [allNeed] at hn ⊢
  subst hp
  (simp only [eq_self_iff_true, true_and, and_true, false_and, and_false, Bool.or_not_self, Bool.not_or_self, Bool.cond_self, cond_true, cond_false, Bool.cond_true_right, Bool.cond_true_left, Bool.cond_false_right, Bool.cond_false_left, Bool.or_true, Bool.true_or, Bool.or_false, Bool.false_or, Bool.and_true, Bool.true_and, Bool.and_false, Bool.false_and, Bool.not_not, forall_eq, ← Bool.decide_and, ← Bool.decide_or, ← decide_not, cDecF, cDecT, cDecFl, Decidable.not_not, Bool.not_true, Bool.not_false, Bool.false_eq_true, imp_false, not_true_eq_false, not_false_eq_true, forall_const, true_implies, false_implies, implies_true, decide_true, decide_false]; try simp only [cDec, eq_self_iff_true, true_and, and_true, false_and, and_false, Bool.or_not_self, Bool.not_or_self, Bool.cond_self, cond_true, cond_false, Bool.cond_true_right, Bool.cond_true_left, Bool.cond_false_right, Bool.cond_false_left, Bool.or_true, Bool.true_or, Bool.or_false, Bool.false_or, Bool.and_true, Bool.true_and, Bool.and_false, Bool.false_and, Bool.not_not, forall_eq, ← Bool.decide_and, ← Bool.decide_or, ← decide_not, cDecF, cDecT, cDecFl, Decidable.not_not, Bool.not_true, Bool.not_false, Bool.false_eq_true, imp_false, not_true_eq_false, not_false_eq_true, forall_const, true_implies, false_implies, implies_true, decide_true, decide_false])
  exact ⟨rfl, rfl, rfl⟩
theorem okG28 : PCok Tryd.prog G28 := addPC_ok okG27 (good_or okTl2 okTl)
set_option maxHeartbeats 4000000 in
theorem okTd2 : CtrOk Tryd.prog 10 kTd2 := good_of okG28 mixed (fun ((p, xs), (a, b, d, _), _) => noLoops) 100 fun ((p, xs), (a, b, d, _), _) hf hn => by
  refine ⟨rfl, Eq.mpr (tTd2 p xs a b d) ?_⟩
  have hp : p = false := by cases p <;> simp [allNeed] at hn ⊢
  subst hp
  (simp only [eq_self_iff_true, true_and, and_true, false_and, and_false, Bool.or_not_self, Bool.not_or_self, Bool.cond_self, cond_true, cond_false, Bool.cond_true_right, Bool.cond_true_left, Bool.cond_false_right, Bool.cond_false_left, Bool.or_true, Bool.true_or, Bool.or_false, Bool.false_or, Bool.and_true, Bool.true_and, Bool.and_false, Bool.false_and, Bool.not_not, forall_eq, ← Bool.decide_and, ← Bool.decide_or, ← decide_not, cDecF, cDecT, cDecFl, Decidable.not_not, Bool.not_true, Bool.not_false, Bool.false_eq_true, imp_false, not_true_eq_false, not_false_eq_true, forall_const, true_implies, false_implies, implies_true, decide_true, decide_false]; try simp only [cDec, eq_self_iff_true, true_and, and_true, false_and, and_false, Bool.or_not_self, Bool.not_or_self, Bool.cond_self, cond_true, cond_false, Bool.cond_true_right, Bool.cond_true_left, Bool.cond_false_right, Bool.cond_false_left, Bool.or_true, Bool.true_or, Bool.or_false, Bool.false_or, Bool.and_true, Bool.true_and, Bool.and_false, Bool.false_and, Bool.not_not, forall_eq, ← Bool.decide_and, ← Bool.decide_or, ← decide_not, cDecF, cDecT, cDecFl, Decidable.not_not, Bool.not_true, Bool.not_false, Bool.false_eq_true, imp_false, not_true_eq_false, not_false_eq_true, forall_const, true_implies, false_implies, implies_true, decide_true, decide_false])
  unfold tdB
  by_cases h0 : a = 0
  · subst h0; simp
  · by_cases h1 : tlA false xs 0 = a <;> by_cases h2 : tlA false xs 1 = b <;> by_cases h3 : tlA false xs 2 = d <;> simp [h0, h1, h2, h3]
theorem okG29 : PCok Tryd.prog G29 := addPC_ok okG28 (good_or okTd2 okTd)
end Go.Proofs.YtafmknblnamegaaDoor
