/- These contracts hold. No condition. -/
import Derived.Test.YtafmknblnamegaaDoorS5IT
import Derived.Test.YtafmknblnamegaaDoorV7N
namespace Go.Proofs.YtafmknblnamegaaDoor
open Go.Eng
set_option linter.unusedSimpArgs false
theorem intsB_refl (xs : Rw) : intsB xs xs = true := decide_eq_true rfl
theorem intsB_len {xs ys : Rw} (h : xs.length ≠ ys.length) : intsB xs ys = false := decide_eq_false fun e => h (by have := congrArg List.length e; simpa using this)
theorem intsB_at {xs ys : Rw} {k : Nat} (h1 : k < xs.length) (h2 : k < ys.length) (h : ¬ geti (xs.getD k []) 0 = geti (ys.getD k []) 0) : intsB xs ys = false := decide_eq_false fun e => h (by
  have := congrArg (fun l => l[k]?) e
  simp only [List.getElem?_map, List.getElem?_eq_getElem h1, List.getElem?_eq_getElem h2, Option.map_some, Option.some.injEq] at this
  rw [getD_get h1, getD_get h2]; exact this)
theorem intsB_all {xs ys : Rw} (h : xs.length = ys.length) (ha : ∀ j, j < xs.length → geti (xs.getD j []) 0 = geti (ys.getD j []) 0) : intsB xs ys = true := decide_eq_true (by
  apply List.ext_getElem
  · simpa using h
  · intro i h1 h2
    have h1' : i < xs.length := by simpa using h1
    have := ha i h1'
    rw [getD_get h1', getD_get (by omega)] at this
    simpa using this)
set_option maxHeartbeats 4000000 in
theorem okIt : CtrOk Tryd.prog 13 kIt := good_ofM okG25 mixed (fun (xs, ys, _) => itL xs ys) 100 fun (xs, ys, _) hf hn => by
  refine ⟨rfl, Eq.mpr (tIt xs ys) ?_⟩
  (simp only [eq_self_iff_true, true_and, and_true, false_and, and_false, Bool.or_not_self, Bool.not_or_self, Bool.cond_self, cond_true, cond_false, Bool.cond_true_right, Bool.cond_true_left, Bool.cond_false_right, Bool.cond_false_left, Bool.or_true, Bool.true_or, Bool.or_false, Bool.false_or, Bool.and_true, Bool.true_and, Bool.and_false, Bool.false_and, Bool.not_not, forall_eq, ← Bool.decide_and, ← Bool.decide_or, ← decide_not, cDecF, cDecT, cDecFl, Decidable.not_not, Bool.not_true, Bool.not_false, Bool.false_eq_true, imp_false, not_true_eq_false, not_false_eq_true, forall_const, true_implies, false_implies, implies_true, decide_true, decide_false]; try simp only [cDec, eq_self_iff_true, true_and, and_true, false_and, and_false, Bool.or_not_self, Bool.not_or_self, Bool.cond_self, cond_true, cond_false, Bool.cond_true_right, Bool.cond_true_left, Bool.cond_false_right, Bool.cond_false_left, Bool.or_true, Bool.true_or, Bool.or_false, Bool.false_or, Bool.and_true, Bool.true_and, Bool.and_false, Bool.false_and, Bool.not_not, forall_eq, ← Bool.decide_and, ← Bool.decide_or, ← decide_not, cDecF, cDecT, cDecFl, Decidable.not_not, Bool.not_true, Bool.not_false, Bool.false_eq_true, imp_false, not_true_eq_false, not_false_eq_true, forall_const, true_implies, false_implies, implies_true, decide_true, decide_false])
  have hm : maxLen = 9223372036854775807 := by decide
  have hxs : xs.length ≤ 9223372036854775807 := hm ▸ hf.1.2
  refine ⟨fun h => (intsB_len fun e => h (by omega)).symm, fun h => ⟨0, ⟨by omega, by omega, fun j hj => j0 hj⟩, ⟨rfl, by omega, by omega⟩, ?_⟩⟩
  rintro k ⟨ka, kb, kok⟩
  refine ⟨fun hlt => ⟨⟨ka, hlt⟩, ⟨ka, by omega⟩, fun hne => (intsB_at (k := k.toNat) (by omega) (by omega) hne).symm, fun he => ?_⟩, fun hge => (intsB_all (by omega) fun j hj => kok j (by omega)).symm⟩
  refine ⟨k + 1, ⟨by omega, by omega, fun j hj => ?_⟩, mu_lt ka hlt, w1 ka hlt (by omega), by omega, by omega⟩
  rcases Nat.lt_or_ge j k.toNat with g | g
  · exact kok j g
  · rw [show j = k.toNat by omega]; exact he
theorem okG26 : PCok Tryd.prog G26 := addPC_ok okG25 okIt
end Go.Proofs.YtafmknblnamegaaDoor
