/- The law SceneKnown, run by the engine, answers true: for all arguments. No condition. -/
import Derived.Test.YtafmknblnamegaaDoorS5L3T
namespace Go.Proofs.YtafmknblnamegaaDoor
open Go.Eng
set_option linter.unusedSimpArgs false
namespace sceneKnown
set_option maxRecDepth 100000 in
set_option maxHeartbeats 4000000 in
theorem fallI   : ∃ ss, leSVs [] ss ∧ ∃ Λ n, fnS Tryd.prog G29 Λ n 6 ss [] fun u _ => isYes u := by
  refine ⟨[], trivial, skL, 400, Eq.mpr tKn ?_⟩
  (simp only [eq_self_iff_true, true_and, and_true, false_and, and_false, Bool.or_not_self, Bool.not_or_self, Bool.cond_self, cond_true, cond_false, Bool.cond_true_right, Bool.cond_true_left, Bool.cond_false_right, Bool.cond_false_left, Bool.or_true, Bool.true_or, Bool.or_false, Bool.false_or, Bool.and_true, Bool.true_and, Bool.and_false, Bool.false_and, Bool.not_not, forall_eq, ← Bool.decide_and, ← Bool.decide_or, ← decide_not, cDecF, cDecT, cDecFl, Decidable.not_not, Bool.not_true, Bool.not_false, Bool.false_eq_true, imp_false, not_true_eq_false, not_false_eq_true, forall_const, true_implies, false_implies, implies_true, decide_true, decide_false]; try simp only [cDec, eq_self_iff_true, true_and, and_true, false_and, and_false, Bool.or_not_self, Bool.not_or_self, Bool.cond_self, cond_true, cond_false, Bool.cond_true_right, Bool.cond_true_left, Bool.cond_false_right, Bool.cond_false_left, Bool.or_true, Bool.true_or, Bool.or_false, Bool.false_or, Bool.and_true, Bool.true_and, Bool.and_false, Bool.false_and, Bool.not_not, forall_eq, ← Bool.decide_and, ← Bool.decide_or, ← decide_not, cDecF, cDecT, cDecFl, Decidable.not_not, Bool.not_true, Bool.not_false, Bool.false_eq_true, imp_false, not_true_eq_false, not_false_eq_true, forall_const, true_implies, false_implies, implies_true, decide_true, decide_false])
  refine ⟨0, ⟨by omega, by omega⟩, ⟨⟨rfl, by omega, by omega⟩, rfl, rfl⟩, ?_⟩
  rintro i ⟨ia, ib⟩
  refine ⟨fun hi => ?_, fun hi => ?_⟩
  · refine ⟨⟨ia, by rw [rqK_len i ia ib]; exact hi⟩, by rw [lenI_eq, osK_len]; omega, i + 1, ⟨by omega, by omega⟩, by unfold twMu; omega, ⟨rfl, by omega, by omega⟩, rqK_set i ia hi, osK_succ i ia⟩
  obtain rfl : i = 64 := by omega
  refine ⟨0, ⟨by omega, by omega⟩, ⟨⟨rfl, by omega, by omega⟩, rfl⟩, ?_⟩
  rintro j ⟨ja, jb⟩
  refine ⟨fun hj => ?_, fun hj => ?_⟩
  · exact ⟨by rw [lenI_eq, lsK_len]; omega, j + 1, ⟨by omega, by omega⟩, by unfold twMu; omega, ⟨rfl, by omega, by omega⟩, lsK_succ j ja⟩
  obtain rfl : j = 16 := by omega
  have f1 : ckF ([] ++ rqK 64 ++ [[Value.int .i64 0, Value.int .i64 0, Value.int .i64 1, Value.int .i64 0, Value.int .i64 0, Value.int .i64 50, Value.int .i64 0, Value.int .i64 50, Value.int .i64 1, Value.int .i64 0]]) (csK (vR 0 0 5 0 99) (osK 64)) (lsK 16) 64 64 1 dsK = ⟨11, 0, 0⟩ := skF1
  have f2 : ckF (rqK 64) (csK (vR 0 0 5 0 99) (osK 64)) ([] ++ lsK 16 ++ [[Value.int .i64 20, Value.int .i64 0]]) 64 64 1 dsK = ⟨11, 0, 0⟩ := skF2
  rw [f1, f2, skF3, skF4]
  have t1 : tdB (decide ((⟨11, 0, 0⟩ : Fl).c = 0)) (flR ⟨11, 0, 0⟩) 11 0 0 = true := by decide
  have t3 : tdB (decide ((⟨2, 0, 0⟩ : Fl).c = 0)) (flR ⟨2, 0, 0⟩) 2 0 0 = true := by decide
  have t4 : tdB (decide ((⟨3, 3, 0⟩ : Fl).c = 0)) (flR ⟨3, 3, 0⟩) 3 3 0 = true := by decide
  rw [t1, t3, t4]
  have n1 : ¬ (⟨11, 0, 0⟩ : Fl).c = 0 := by decide
  have n3 : ¬ (⟨2, 0, 0⟩ : Fl).c = 0 := by decide
  have n4 : ¬ (⟨3, 3, 0⟩ : Fl).c = 0 := by decide
  simp only [cond_true, lenI_eq, List.length_append, List.length_nil]
  have h64 : (rqK 64).length = 64 := rfl
  have h16 : (lsK 16).length = 16 := rfl
  rw [h64, h16]
  exact ⟨skF0, by decide, by decide, by decide, by decide, n1, n1, n3, n4, by decide⟩
def shapes : List (Bool × List Kd2) := []
theorem fall (ss : List SV) (bs : List Blk) (h : ParsOk 0 shapes ss bs) : ∃ ss1, leSVs ss ss1 ∧ ∃ Λ n, fnS Tryd.prog G29 Λ n 6 ss1 bs fun u _ => isYes u := by
  obtain ⟨rfl, rfl⟩ := ps_nil h
  exact fallI 
end sceneKnown
end Go.Proofs.YtafmknblnamegaaDoor
