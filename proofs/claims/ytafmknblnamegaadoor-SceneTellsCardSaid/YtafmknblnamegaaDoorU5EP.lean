/- These contracts hold. No condition. -/
import Derived.Test.YtafmknblnamegaaDoorU5ET
import Derived.Test.YtafmknblnamegaaDoorV8N
namespace Go.Proofs.YtafmknblnamegaaDoor
open Go.Eng
set_option linter.unusedSimpArgs false
set_option maxHeartbeats 4000000 in
theorem okTl2 : CtrOk Tryd.prog 17 kTl2 := good_of okG29 mixed (fun ((p, xs), _) => noLoops) 100 fun ((p, xs), _) hf hn => by
  cases p
  · refine ⟨rfl, Eq.mpr (tTl2a xs) ?_⟩
    (simp only [eq_self_iff_true, true_and, and_true, false_and, and_false, Bool.or_not_self, Bool.not_or_self, Bool.cond_self, cond_true, cond_false, Bool.cond_true_right, Bool.cond_true_left, Bool.cond_false_right, Bool.cond_false_left, Bool.or_true, Bool.true_or, Bool.or_false, Bool.false_or, Bool.and_true, Bool.true_and, Bool.and_false, Bool.false_and, Bool.not_not, forall_eq, ← Bool.decide_and, ← Bool.decide_or, ← decide_not, cDecF, cDecT, cDecFl, Decidable.not_not, Bool.not_true, Bool.not_false, Bool.false_eq_true, imp_false, not_true_eq_false, not_false_eq_true, forall_const, true_implies, false_implies, implies_true, decide_true, decide_false]; try simp only [cDec, eq_self_iff_true, true_and, and_true, false_and, and_false, Bool.or_not_self, Bool.not_or_self, Bool.cond_self, cond_true, cond_false, Bool.cond_true_right, Bool.cond_true_left, Bool.cond_false_right, Bool.cond_false_left, Bool.or_true, Bool.true_or, Bool.or_false, Bool.false_or, Bool.and_true, Bool.true_and, Bool.and_false, Bool.false_and, Bool.not_not, forall_eq, ← Bool.decide_and, ← Bool.decide_or, ← decide_not, cDecF, cDecT, cDecFl, Decidable.not_not, Bool.not_true, Bool.not_false, Bool.false_eq_true, imp_false, not_true_eq_false, not_false_eq_true, forall_const, true_implies, false_implies, implies_true, decide_true, decide_false])
    exact ⟨rfl, rfl, rfl⟩
  · refine ⟨rfl, Eq.mpr (tTl2b xs) ?_⟩
    (simp only [eq_self_iff_true, true_and, and_true, false_and, and_false, Bool.or_not_self, Bool.not_or_self, Bool.cond_self, cond_true, cond_false, Bool.cond_true_right, Bool.cond_true_left, Bool.cond_false_right, Bool.cond_false_left, Bool.or_true, Bool.true_or, Bool.or_false, Bool.false_or, Bool.and_true, Bool.true_and, Bool.and_false, Bool.false_and, Bool.not_not, forall_eq, ← Bool.decide_and, ← Bool.decide_or, ← decide_not, cDecF, cDecT, cDecFl, Decidable.not_not, Bool.not_true, Bool.not_false, Bool.false_eq_true, imp_false, not_true_eq_false, not_false_eq_true, forall_const, true_implies, false_implies, implies_true, decide_true, decide_false]; try simp only [cDec, eq_self_iff_true, true_and, and_true, false_and, and_false, Bool.or_not_self, Bool.not_or_self, Bool.cond_self, cond_true, cond_false, Bool.cond_true_right, Bool.cond_true_left, Bool.cond_false_right, Bool.cond_false_left, Bool.or_true, Bool.true_or, Bool.or_false, Bool.false_or, Bool.and_true, Bool.true_and, Bool.and_false, Bool.false_and, Bool.not_not, forall_eq, ← Bool.decide_and, ← Bool.decide_or, ← decide_not, cDecF, cDecT, cDecFl, Decidable.not_not, Bool.not_true, Bool.not_false, Bool.false_eq_true, imp_false, not_true_eq_false, not_false_eq_true, forall_const, true_implies, false_implies, implies_true, decide_true, decide_false])
    have h : ∀ j, tlA true xs j = 0 := fun j => rfl
    rw [h 0, h 1, h 2]
    decide
theorem okG30 : PCok Tryd.prog G30 := addPC_ok okG29 okTl2
set_option maxHeartbeats 4000000 in
theorem okTd2 : CtrOk Tryd.prog 10 kTd2 := good_of okG30 mixed (fun ((p, xs), (a, b, d, _), _) => noLoops) 100 fun ((p, xs), (a, b, d, _), _) hf hn => by
  refine ⟨rfl, Eq.mpr (tTd2 p xs a b d) ?_⟩
  (simp only [eq_self_iff_true, true_and, and_true, false_and, and_false, Bool.or_not_self, Bool.not_or_self, Bool.cond_self, cond_true, cond_false, Bool.cond_true_right, Bool.cond_true_left, Bool.cond_false_right, Bool.cond_false_left, Bool.or_true, Bool.true_or, Bool.or_false, Bool.false_or, Bool.and_true, Bool.true_and, Bool.and_false, Bool.false_and, Bool.not_not, forall_eq, ← Bool.decide_and, ← Bool.decide_or, ← decide_not, cDecF, cDecT, cDecFl, Decidable.not_not, Bool.not_true, Bool.not_false, Bool.false_eq_true, imp_false, not_true_eq_false, not_false_eq_true, forall_const, true_implies, false_implies, implies_true, decide_true, decide_false]; try simp only [cDec, eq_self_iff_true, true_and, and_true, false_and, and_false, Bool.or_not_self, Bool.not_or_self, Bool.cond_self, cond_true, cond_false, Bool.cond_true_right, Bool.cond_true_left, Bool.cond_false_right, Bool.cond_false_left, Bool.or_true, Bool.true_or, Bool.or_false, Bool.false_or, Bool.and_true, Bool.true_and, Bool.and_false, Bool.false_and, Bool.not_not, forall_eq, ← Bool.decide_and, ← Bool.decide_or, ← decide_not, cDecF, cDecT, cDecFl, Decidable.not_not, Bool.not_true, Bool.not_false, Bool.false_eq_true, imp_false, not_true_eq_false, not_false_eq_true, forall_const, true_implies, false_implies, implies_true, decide_true, decide_false])
  unfold tdB
  cases p <;> by_cases h0 : a = 0 <;> simp [h0]
  all_goals rfl
theorem okG31 : PCok Tryd.prog G31 := addPC_ok okG30 okTd2
theorem intsB_refl (xs : Rw) : intsB xs xs = true := decide_eq_true rfl
theorem intsB_len {xs ys : Rw} (h : xs.length ≠ ys.length) : intsB xs ys = false := decide_eq_false fun e => h (by have := congrArg List.length e; simpa using this)
theorem intsB_at {xs ys : Rw} {k : Nat} (h1 : k < xs.length) (h2 : k < ys.length) (h : ¬ geti (xs.getD k []) 0 = geti (ys.getD k []) 0) : intsB xs ys = false := decide_eq_false fun e => h (by
  have := congrArg (fun l => l[k]?) e
  simp only [List.getElem?_map, List.getElem?_eq_getElem h1, List.getElem?_eq_getElem h2, Option.map_some, Option.some.injEq] at this
  rw [getD_get h1, getD_get h2]; exact this)
theorem intsB_all {xs ys : Rw} (h : xs.length = ys.length) (ha : ∀ j, j < xs.length → geti (xs.getD j []) 0 = geti (ys.getD j []) 0) : intsB xs ys = true := decide_eq_true (by
  apply List.ext_getElem
  · simpa using h
  · intro i h1 h2
    have h1' : i < xs.length := by simpa using h1
    have := ha i h1'
    rw [getD_get h1', getD_get (by omega)] at this
    simpa using this)
set_option maxHeartbeats 4000000 in
theorem okIt : CtrOk Tryd.prog 13 kIt := good_ofM okG31 mixed (fun (xs, ys, _) => itL xs ys) 100 fun (xs, ys, _) hf hn => by
  refine ⟨rfl, Eq.mpr (tIt xs ys) ?_⟩
  (simp only [eq_self_iff_true, true_and, and_true, false_and, and_false, Bool.or_not_self, Bool.not_or_self, Bool.cond_self, cond_true, cond_false, Bool.cond_true_right, Bool.cond_true_left, Bool.cond_false_right, Bool.cond_false_left, Bool.or_true, Bool.true_or, Bool.or_false, Bool.false_or, Bool.and_true, Bool.true_and, Bool.and_false, Bool.false_and, Bool.not_not, forall_eq, ← Bool.decide_and, ← Bool.decide_or, ← decide_not, cDecF, cDecT, cDecFl, Decidable.not_not, Bool.not_true, Bool.not_false, Bool.false_eq_true, imp_false, not_true_eq_false, not_false_eq_true, forall_const, true_implies, false_implies, implies_true, decide_true, decide_false]; try simp only [cDec, eq_self_iff_true, true_and, and_true, false_and, and_false, Bool.or_not_self, Bool.not_or_self, Bool.cond_self, cond_true, cond_false, Bool.cond_true_right, Bool.cond_true_left, Bool.cond_false_right, Bool.cond_false_left, Bool.or_true, Bool.true_or, Bool.or_false, Bool.false_or, Bool.and_true, Bool.true_and, Bool.and_false, Bool.false_and, Bool.not_not, forall_eq, ← Bool.decide_and, ← Bool.decide_or, ← decide_not, cDecF, cDecT, cDecFl, Decidable.not_not, Bool.not_true, Bool.not_false, Bool.false_eq_true, imp_false, not_true_eq_false, not_false_eq_true, forall_const, true_implies, false_implies, implies_true, decide_true, decide_false])
  have hm : maxLen = 9223372036854775807 := by decide
  have hxs : xs.length ≤ 9223372036854775807 := hm ▸ hf.1.2
  refine ⟨fun h => (intsB_len fun e => h (by omega)).symm, fun h => ⟨0, ⟨by omega, by omega, fun j hj => j0 hj⟩, ⟨rfl, by omega, by omega⟩, ?_⟩⟩
  rintro k ⟨ka, kb, kok⟩
  refine ⟨fun hlt => ⟨⟨ka, hlt⟩, ⟨ka, by omega⟩, fun hne => (intsB_at (k := k.toNat) (by omega) (by omega) hne).symm, fun he => ?_⟩, fun hge => (intsB_all (by omega) fun j hj => kok j (by omega)).symm⟩
  refine ⟨k + 1, ⟨by omega, by omega, fun j hj => ?_⟩, mu_lt ka hlt, w1 ka hlt (by omega), by omega, by omega⟩
  rcases Nat.lt_or_ge j k.toNat with g | g
  · exact kok j g
  · rw [show j = k.toNat by omega]; exact he
theorem okG32 : PCok Tryd.prog G32 := addPC_ok okG31 okIt
set_option maxHeartbeats 4000000 in
theorem okWk5 : CtrOk Tryd.prog 16 kWk5 := good_of okGK mixed (fun _ => noLoops) 400 fun _ hf hn => by
  refine ⟨rfl, Eq.mpr (tWk5 ) ?_⟩
  exact ⟨rfl, trivial⟩
theorem okG33 : PCok Tryd.prog G33 := addPC_ok okG32 okWk5
end Go.Proofs.YtafmknblnamegaaDoor
