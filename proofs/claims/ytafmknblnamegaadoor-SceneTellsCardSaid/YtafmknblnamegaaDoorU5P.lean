/- The contracts hold. No condition. -/
import Derived.Test.YtafmknblnamegaaDoorU5T
import Derived.Test.YtafmknblnamegaaDoorV8N
namespace Go.Proofs.YtafmknblnamegaaDoor
open Go.Eng
set_option linter.unusedSimpArgs false
theorem okG0 : PCok Tryd.prog G0 := noPC_ok
theorem apart_in {a b : Int} (ha : 0 ≤ a ∧ a ≤ 1023) (hb : 0 ≤ b ∧ b ≤ 1023) : 0 ≤ apart a b ∧ apart a b ≤ 1023 := by unfold apart; omega
theorem dist_in (a b x y : Int) : 0 ≤ dist a b x y ∧ dist a b x y ≤ 2046 := by
  unfold dist
  split
  · rename_i h
    have h1 := apart_in (a := a) (b := x) ⟨h.1.1, h.1.2.1⟩ ⟨h.2.1, h.2.2.1⟩
    have h2 := apart_in (a := b) (b := y) ⟨h.1.2.2.1, h.1.2.2.2⟩ ⟨h.2.2.2.1, h.2.2.2.2⟩
    omega
  · omega
theorem chk_in (fx fy tx ty pe pl de dl lo se : Int) : 0 ≤ chk fx fy tx ty pe pl de dl lo se ∧ chk fx fy tx ty pe pl de dl lo se ≤ 6 := by unfold chk; (repeat' split) <;> omega
theorem veh_in (hx hy cap st en : Int) : 0 ≤ veh hx hy cap st en ∧ veh hx hy cap st en ≤ 7 := by unfold veh; (repeat' split) <;> omega
theorem chk0 (fx fy tx ty pe pl de dl lo se : Int) : chk fx fy tx ty pe pl de dl lo se = 0 ↔ Chk fx fy tx ty pe pl de dl lo se := by unfold chk; simp only [Chk]; omega
theorem veh0 (hx hy cap st en : Int) : veh hx hy cap st en = 0 ↔ (PM hx hy ∧ (1 ≤ cap ∧ cap ≤ 100000) ∧ (0 ≤ st ∧ st ≤ en) ∧ (0 ≤ en ∧ en ≤ 1048576)) := by unfold veh; omega
theorem waitN_in (a b t : Int) : 0 ≤ waitN a b t ∧ waitN a b t ≤ 1048576 := by
  unfold waitN
  split
  · rename_i h; obtain ⟨⟨h1, h2, h3⟩, h4⟩ := h; omega
  · omega
theorem nd3 (p q r : Prop) [Decidable p] [Decidable q] [Decidable r] : cond (decide p) (cond (decide q) (cond (decide r) 0 6) 5) 4 = if ¬ p then 4 else if ¬ q then 5 else if ¬ r then 6 else (0 : Int) := by
  by_cases h1 : p <;> by_cases h2 : q <;> by_cases h3 : r <;> simp [h1, h2, h3]
theorem beq_dec {p : Prop} [Decidable p] {b : Bool} (h : b = true ↔ p) : b = decide p := by
  by_cases hp : p
  · rw [decide_eq_true hp, h.2 hp]
  · rw [decide_eq_false hp]; exact Bool.eq_false_iff.2 fun e => hp (h.1 e)
set_option maxHeartbeats 4000000 in
theorem okOn : CtrOk Tryd.prog 58 kOn := good_of okG0 mixed (fun (a, _) => noLoops) 100 fun (a, _) hf hn => by
  refine ⟨rfl, Eq.mpr (tOn a) ?_⟩
  (simp only [eq_self_iff_true, true_and, and_true, false_and, and_false, Bool.or_not_self, Bool.not_or_self, Bool.cond_self, cond_true, cond_false, Bool.cond_true_right, Bool.cond_true_left, Bool.cond_false_right, Bool.cond_false_left, Bool.or_true, Bool.true_or, Bool.or_false, Bool.false_or, Bool.and_true, Bool.true_and, Bool.and_false, Bool.false_and, Bool.not_not, forall_eq, ← Bool.decide_and, ← Bool.decide_or, ← decide_not, cDecF, cDecT, cDecFl, Decidable.not_not, Bool.not_true, Bool.not_false, Bool.false_eq_true, imp_false, not_true_eq_false, not_false_eq_true, forall_const, true_implies, false_implies, implies_true, decide_true, decide_false]; try simp only [cDec, eq_self_iff_true, true_and, and_true, false_and, and_false, Bool.or_not_self, Bool.not_or_self, Bool.cond_self, cond_true, cond_false, Bool.cond_true_right, Bool.cond_true_left, Bool.cond_false_right, Bool.cond_false_left, Bool.or_true, Bool.true_or, Bool.or_false, Bool.false_or, Bool.and_true, Bool.true_and, Bool.and_false, Bool.false_and, Bool.not_not, forall_eq, ← Bool.decide_and, ← Bool.decide_or, ← decide_not, cDecF, cDecT, cDecFl, Decidable.not_not, Bool.not_true, Bool.not_false, Bool.false_eq_true, imp_false, not_true_eq_false, not_false_eq_true, forall_const, true_implies, false_implies, implies_true, decide_true, decide_false])
  exact decide_eq_decide.2 (by omega)
theorem okG1 : PCok Tryd.prog G1 := addPC_ok okG0 okOn
set_option maxHeartbeats 4000000 in
theorem okPMay : CtrOk Tryd.prog 52 kPMay := good_of okG1 mixed (fun ((a, b, _), _) => noLoops) 100 fun ((a, b, _), _) hf hn => by
  refine ⟨rfl, Eq.mpr (tPMay a b) ?_⟩
  (simp only [eq_self_iff_true, true_and, and_true, false_and, and_false, Bool.or_not_self, Bool.not_or_self, Bool.cond_self, cond_true, cond_false, Bool.cond_true_right, Bool.cond_true_left, Bool.cond_false_right, Bool.cond_false_left, Bool.or_true, Bool.true_or, Bool.or_false, Bool.false_or, Bool.and_true, Bool.true_and, Bool.and_false, Bool.false_and, Bool.not_not, forall_eq, ← Bool.decide_and, ← Bool.decide_or, ← decide_not, cDecF, cDecT, cDecFl, Decidable.not_not, Bool.not_true, Bool.not_false, Bool.false_eq_true, imp_false, not_true_eq_false, not_false_eq_true, forall_const, true_implies, false_implies, implies_true, decide_true, decide_false]; try simp only [cDec, eq_self_iff_true, true_and, and_true, false_and, and_false, Bool.or_not_self, Bool.not_or_self, Bool.cond_self, cond_true, cond_false, Bool.cond_true_right, Bool.cond_true_left, Bool.cond_false_right, Bool.cond_false_left, Bool.or_true, Bool.true_or, Bool.or_false, Bool.false_or, Bool.and_true, Bool.true_and, Bool.and_false, Bool.false_and, Bool.not_not, forall_eq, ← Bool.decide_and, ← Bool.decide_or, ← decide_not, cDecF, cDecT, cDecFl, Decidable.not_not, Bool.not_true, Bool.not_false, Bool.false_eq_true, imp_false, not_true_eq_false, not_false_eq_true, forall_const, true_implies, false_implies, implies_true, decide_true, decide_false])
  exact decide_eq_decide.2 (by simp only [PM]; omega)
theorem okG2 : PCok Tryd.prog G2 := addPC_ok okG1 okPMay
set_option maxHeartbeats 4000000 in
theorem okPMr : CtrOk Tryd.prog 44 kPMr := good_of okG2 mixed (fun ((a, b, _), _) => noLoops) 100 fun ((a, b, _), _) hf hn => by
  refine ⟨rfl, Eq.mpr (tPMr a b) ?_⟩
  (simp only [eq_self_iff_true, true_and, and_true, false_and, and_false, Bool.or_not_self, Bool.not_or_self, Bool.cond_self, cond_true, cond_false, Bool.cond_true_right, Bool.cond_true_left, Bool.cond_false_right, Bool.cond_false_left, Bool.or_true, Bool.true_or, Bool.or_false, Bool.false_or, Bool.and_true, Bool.true_and, Bool.and_false, Bool.false_and, Bool.not_not, forall_eq, ← Bool.decide_and, ← Bool.decide_or, ← decide_not, cDecF, cDecT, cDecFl, Decidable.not_not, Bool.not_true, Bool.not_false, Bool.false_eq_true, imp_false, not_true_eq_false, not_false_eq_true, forall_const, true_implies, false_implies, implies_true, decide_true, decide_false]; try simp only [cDec, eq_self_iff_true, true_and, and_true, false_and, and_false, Bool.or_not_self, Bool.not_or_self, Bool.cond_self, cond_true, cond_false, Bool.cond_true_right, Bool.cond_true_left, Bool.cond_false_right, Bool.cond_false_left, Bool.or_true, Bool.true_or, Bool.or_false, Bool.false_or, Bool.and_true, Bool.true_and, Bool.and_false, Bool.false_and, Bool.not_not, forall_eq, ← Bool.decide_and, ← Bool.decide_or, ← decide_not, cDecF, cDecT, cDecFl, Decidable.not_not, Bool.not_true, Bool.not_false, Bool.false_eq_true, imp_false, not_true_eq_false, not_false_eq_true, forall_const, true_implies, false_implies, implies_true, decide_true, decide_false])
  exact decide_eq_decide.2 (by simp only [PM]; omega)
theorem okG3 : PCok Tryd.prog G3 := addPC_ok okG2 okPMr
set_option maxHeartbeats 4000000 in
theorem okWMay : CtrOk Tryd.prog 53 kWMay := good_of okG3 mixed (fun ((a, b, _), _) => noLoops) 100 fun ((a, b, _), _) hf hn => by
  refine ⟨rfl, Eq.mpr (tWMay a b) ?_⟩
  (simp only [eq_self_iff_true, true_and, and_true, false_and, and_false, Bool.or_not_self, Bool.not_or_self, Bool.cond_self, cond_true, cond_false, Bool.cond_true_right, Bool.cond_true_left, Bool.cond_false_right, Bool.cond_false_left, Bool.or_true, Bool.true_or, Bool.or_false, Bool.false_or, Bool.and_true, Bool.true_and, Bool.and_false, Bool.false_and, Bool.not_not, forall_eq, ← Bool.decide_and, ← Bool.decide_or, ← decide_not, cDecF, cDecT, cDecFl, Decidable.not_not, Bool.not_true, Bool.not_false, Bool.false_eq_true, imp_false, not_true_eq_false, not_false_eq_true, forall_const, true_implies, false_implies, implies_true, decide_true, decide_false]; try simp only [cDec, eq_self_iff_true, true_and, and_true, false_and, and_false, Bool.or_not_self, Bool.not_or_self, Bool.cond_self, cond_true, cond_false, Bool.cond_true_right, Bool.cond_true_left, Bool.cond_false_right, Bool.cond_false_left, Bool.or_true, Bool.true_or, Bool.or_false, Bool.false_or, Bool.and_true, Bool.true_and, Bool.and_false, Bool.false_and, Bool.not_not, forall_eq, ← Bool.decide_and, ← Bool.decide_or, ← decide_not, cDecF, cDecT, cDecFl, Decidable.not_not, Bool.not_true, Bool.not_false, Bool.false_eq_true, imp_false, not_true_eq_false, not_false_eq_true, forall_const, true_implies, false_implies, implies_true, decide_true, decide_false])
  exact decide_eq_decide.2 (by simp only [WM]; omega)
theorem okG4 : PCok Tryd.prog G4 := addPC_ok okG3 okWMay
set_option maxHeartbeats 4000000 in
theorem okWMr : CtrOk Tryd.prog 45 kWMr := good_of okG4 mixed (fun ((a, b, _), _) => noLoops) 100 fun ((a, b, _), _) hf hn => by
  refine ⟨rfl, Eq.mpr (tWMr a b) ?_⟩
  (simp only [eq_self_iff_true, true_and, and_true, false_and, and_false, Bool.or_not_self, Bool.not_or_self, Bool.cond_self, cond_true, cond_false, Bool.cond_true_right, Bool.cond_true_left, Bool.cond_false_right, Bool.cond_false_left, Bool.or_true, Bool.true_or, Bool.or_false, Bool.false_or, Bool.and_true, Bool.true_and, Bool.and_false, Bool.false_and, Bool.not_not, forall_eq, ← Bool.decide_and, ← Bool.decide_or, ← decide_not, cDecF, cDecT, cDecFl, Decidable.not_not, Bool.not_true, Bool.not_false, Bool.false_eq_true, imp_false, not_true_eq_false, not_false_eq_true, forall_const, true_implies, false_implies, implies_true, decide_true, decide_false]; try simp only [cDec, eq_self_iff_true, true_and, and_true, false_and, and_false, Bool.or_not_self, Bool.not_or_self, Bool.cond_self, cond_true, cond_false, Bool.cond_true_right, Bool.cond_true_left, Bool.cond_false_right, Bool.cond_false_left, Bool.or_true, Bool.true_or, Bool.or_false, Bool.false_or, Bool.and_true, Bool.true_and, Bool.and_false, Bool.false_and, Bool.not_not, forall_eq, ← Bool.decide_and, ← Bool.decide_or, ← decide_not, cDecF, cDecT, cDecFl, Decidable.not_not, Bool.not_true, Bool.not_false, Bool.false_eq_true, imp_false, not_true_eq_false, not_false_eq_true, forall_const, true_implies, false_implies, implies_true, decide_true, decide_false])
  exact decide_eq_decide.2 (by simp only [WM]; omega)
theorem okG5 : PCok Tryd.prog G5 := addPC_ok okG4 okWMr
set_option maxHeartbeats 4000000 in
theorem okWi : CtrOk Tryd.prog 54 kWi := good_of okG5 mixed (fun (n, a, b, _) => noLoops) 100 fun (n, a, b, _) hf hn => by
  refine ⟨rfl, Eq.mpr (tWi n a b) ?_⟩
  (simp only [eq_self_iff_true, true_and, and_true, false_and, and_false, Bool.or_not_self, Bool.not_or_self, Bool.cond_self, cond_true, cond_false, Bool.cond_true_right, Bool.cond_true_left, Bool.cond_false_right, Bool.cond_false_left, Bool.or_true, Bool.true_or, Bool.or_false, Bool.false_or, Bool.and_true, Bool.true_and, Bool.and_false, Bool.false_and, Bool.not_not, forall_eq, ← Bool.decide_and, ← Bool.decide_or, ← decide_not, cDecF, cDecT, cDecFl, Decidable.not_not, Bool.not_true, Bool.not_false, Bool.false_eq_true, imp_false, not_true_eq_false, not_false_eq_true, forall_const, true_implies, false_implies, implies_true, decide_true, decide_false]; try simp only [cDec, eq_self_iff_true, true_and, and_true, false_and, and_false, Bool.or_not_self, Bool.not_or_self, Bool.cond_self, cond_true, cond_false, Bool.cond_true_right, Bool.cond_true_left, Bool.cond_false_right, Bool.cond_false_left, Bool.or_true, Bool.true_or, Bool.or_false, Bool.false_or, Bool.and_true, Bool.true_and, Bool.and_false, Bool.false_and, Bool.not_not, forall_eq, ← Bool.decide_and, ← Bool.decide_or, ← decide_not, cDecF, cDecT, cDecFl, Decidable.not_not, Bool.not_true, Bool.not_false, Bool.false_eq_true, imp_false, not_true_eq_false, not_false_eq_true, forall_const, true_implies, false_implies, implies_true, decide_true, decide_false])
theorem okG6 : PCok Tryd.prog G6 := addPC_ok okG5 okWi
set_option maxHeartbeats 4000000 in
theorem okFst : CtrOk Tryd.prog 51 kFst := good_of okG6 mixed (fun (xs, _) => ndL xs) 100 fun (xs, _) hf hn => by
  refine ⟨rfl, Eq.mpr (tFst xs) ?_⟩
  have hm : (xs.length : Int) ≤ 9223372036854775807 := len63 hf.1.2
  (simp only [eq_self_iff_true, true_and, and_true, false_and, and_false, Bool.or_not_self, Bool.not_or_self, Bool.cond_self, cond_true, cond_false, Bool.cond_true_right, Bool.cond_true_left, Bool.cond_false_right, Bool.cond_false_left, Bool.or_true, Bool.true_or, Bool.or_false, Bool.false_or, Bool.and_true, Bool.true_and, Bool.and_false, Bool.false_and, Bool.not_not, forall_eq, ← Bool.decide_and, ← Bool.decide_or, ← decide_not, cDecF, cDecT, cDecFl, Decidable.not_not, Bool.not_true, Bool.not_false, Bool.false_eq_true, imp_false, not_true_eq_false, not_false_eq_true, forall_const, true_implies, false_implies, implies_true, decide_true, decide_false]; try simp only [cDec, eq_self_iff_true, true_and, and_true, false_and, and_false, Bool.or_not_self, Bool.not_or_self, Bool.cond_self, cond_true, cond_false, Bool.cond_true_right, Bool.cond_true_left, Bool.cond_false_right, Bool.cond_false_left, Bool.or_true, Bool.true_or, Bool.or_false, Bool.false_or, Bool.and_true, Bool.true_and, Bool.and_false, Bool.false_and, Bool.not_not, forall_eq, ← Bool.decide_and, ← Bool.decide_or, ← decide_not, cDecF, cDecT, cDecFl, Decidable.not_not, Bool.not_true, Bool.not_false, Bool.false_eq_true, imp_false, not_true_eq_false, not_false_eq_true, forall_const, true_implies, false_implies, implies_true, decide_true, decide_false])
  refine ⟨0, ⟨by omega, by omega, rfl⟩, ⟨rfl, by omega, by omega⟩, ?_⟩
  rintro k ⟨k0, k1, kh⟩
  have e : (k + 1).toNat = k.toNat + 1 := by omega
  refine ⟨fun hlt => ⟨⟨k0, hlt⟩, ?_⟩, fun hge => ?_⟩
  · have ew : IntKind.i64.wrap (k + 1) = k + 1 := wr64 _ (by omega)
    have hd : xs.drop k.toNat = xs.getD k.toNat [] :: xs.drop (k.toNat + 1) := by
      rw [List.drop_eq_getElem_cons (by omega : k.toNat < xs.length)]
      simp [List.getD, List.getElem?_eq_getElem (by omega : k.toNat < xs.length)]
    rw [hd] at kh
    simp only [nd] at kh
    generalize xs.getD k.toNat [] = x at kh ⊢
    refine bif_intro (fun h => ?_) (fun h => ?_)
    · have h1 : getb x 0 = false := by simpa using h
      rw [h1, cond_false] at kh
      exact kh
    · have h1 : getb x 0 = true := by simpa using h
      rw [h1, cond_true] at kh
      exact ⟨k + 1, ⟨by omega, by omega, by rw [e]; exact kh⟩, by omega, ew, by omega, by omega⟩
  · rw [← kh, List.drop_eq_nil_of_le (by omega)]; simp [nd]
theorem okG7 : PCok Tryd.prog G7 := addPC_ok okG6 okFst
set_option maxHeartbeats 4000000 in
theorem okOch : CtrOk Tryd.prog 38 kOch := good_of okG7 mixed (fun ((fx, fy, tx, ty, pe, pl, de, dl, lo, se, _), _) => noLoops) 100 fun ((fx, fy, tx, ty, pe, pl, de, dl, lo, se, _), _) hf hn => by
  refine ⟨rfl, Eq.mpr (tOch fx fy tx ty pe pl de dl lo se) ?_⟩
  (simp only [eq_self_iff_true, true_and, and_true, false_and, and_false, Bool.or_not_self, Bool.not_or_self, Bool.cond_self, cond_true, cond_false, Bool.cond_true_right, Bool.cond_true_left, Bool.cond_false_right, Bool.cond_false_left, Bool.or_true, Bool.true_or, Bool.or_false, Bool.false_or, Bool.and_true, Bool.true_and, Bool.and_false, Bool.false_and, Bool.not_not, forall_eq, ← Bool.decide_and, ← Bool.decide_or, ← decide_not, cDecF, cDecT, cDecFl, Decidable.not_not, Bool.not_true, Bool.not_false, Bool.false_eq_true, imp_false, not_true_eq_false, not_false_eq_true, forall_const, true_implies, false_implies, implies_true, decide_true, decide_false]; try simp only [cDec, eq_self_iff_true, true_and, and_true, false_and, and_false, Bool.or_not_self, Bool.not_or_self, Bool.cond_self, cond_true, cond_false, Bool.cond_true_right, Bool.cond_true_left, Bool.cond_false_right, Bool.cond_false_left, Bool.or_true, Bool.true_or, Bool.or_false, Bool.false_or, Bool.and_true, Bool.true_and, Bool.and_false, Bool.false_and, Bool.not_not, forall_eq, ← Bool.decide_and, ← Bool.decide_or, ← decide_not, cDecF, cDecT, cDecFl, Decidable.not_not, Bool.not_true, Bool.not_false, Bool.false_eq_true, imp_false, not_true_eq_false, not_false_eq_true, forall_const, true_implies, false_implies, implies_true, decide_true, decide_false])
  refine ⟨?_, chk_in fx fy tx ty pe pl de dl lo se⟩
  show cond (decide (PM fx fy ∧ PM tx ty)) (cond (decide (WM pe pl ∧ WM de dl)) (cond (decide ((1 ≤ lo ∧ lo ≤ 1000) ∧ 0 ≤ se ∧ se ≤ 1000)) 0 6) 5) 4 = _
  exact nd3 _ _ _
theorem okG8 : PCok Tryd.prog G8 := addPC_ok okG7 okOch
set_option maxHeartbeats 4000000 in
theorem okRch : CtrOk Tryd.prog 29 kRch := good_of okG8 mixed (fun ((fx, fy, tx, ty, pe, pl, de, dl, lo, se, _), _) => noLoops) 100 fun ((fx, fy, tx, ty, pe, pl, de, dl, lo, se, _), _) hf hn => by
  refine ⟨rfl, Eq.mpr (tRch fx fy tx ty pe pl de dl lo se) ?_⟩
  (simp only [eq_self_iff_true, true_and, and_true, false_and, and_false, Bool.or_not_self, Bool.not_or_self, Bool.cond_self, cond_true, cond_false, Bool.cond_true_right, Bool.cond_true_left, Bool.cond_false_right, Bool.cond_false_left, Bool.or_true, Bool.true_or, Bool.or_false, Bool.false_or, Bool.and_true, Bool.true_and, Bool.and_false, Bool.false_and, Bool.not_not, forall_eq, ← Bool.decide_and, ← Bool.decide_or, ← decide_not, cDecF, cDecT, cDecFl, Decidable.not_not, Bool.not_true, Bool.not_false, Bool.false_eq_true, imp_false, not_true_eq_false, not_false_eq_true, forall_const, true_implies, false_implies, implies_true, decide_true, decide_false]; try simp only [cDec, eq_self_iff_true, true_and, and_true, false_and, and_false, Bool.or_not_self, Bool.not_or_self, Bool.cond_self, cond_true, cond_false, Bool.cond_true_right, Bool.cond_true_left, Bool.cond_false_right, Bool.cond_false_left, Bool.or_true, Bool.true_or, Bool.or_false, Bool.false_or, Bool.and_true, Bool.true_and, Bool.and_false, Bool.false_and, Bool.not_not, forall_eq, ← Bool.decide_and, ← Bool.decide_or, ← decide_not, cDecF, cDecT, cDecFl, Decidable.not_not, Bool.not_true, Bool.not_false, Bool.false_eq_true, imp_false, not_true_eq_false, not_false_eq_true, forall_const, true_implies, false_implies, implies_true, decide_true, decide_false])
  have hb := chk_in fx fy tx ty pe pl de dl lo se
  (repeat' (first | apply And.intro | intro _))
  all_goals first | omega | (unfold chk; omega)
theorem okG9 : PCok Tryd.prog G9 := addPC_ok okG8 okRch
set_option maxHeartbeats 4000000 in
theorem okOve : CtrOk Tryd.prog 40 kOve := good_of okG9 mixed (fun ((hx, hy, cap, st, en, _), _) => noLoops) 100 fun ((hx, hy, cap, st, en, _), _) hf hn => by
  refine ⟨rfl, Eq.mpr (tOve hx hy cap st en) ?_⟩
  (simp only [eq_self_iff_true, true_and, and_true, false_and, and_false, Bool.or_not_self, Bool.not_or_self, Bool.cond_self, cond_true, cond_false, Bool.cond_true_right, Bool.cond_true_left, Bool.cond_false_right, Bool.cond_false_left, Bool.or_true, Bool.true_or, Bool.or_false, Bool.false_or, Bool.and_true, Bool.true_and, Bool.and_false, Bool.false_and, Bool.not_not, forall_eq, ← Bool.decide_and, ← Bool.decide_or, ← decide_not, cDecF, cDecT, cDecFl, Decidable.not_not, Bool.not_true, Bool.not_false, Bool.false_eq_true, imp_false, not_true_eq_false, not_false_eq_true, forall_const, true_implies, false_implies, implies_true, decide_true, decide_false]; try simp only [cDec, eq_self_iff_true, true_and, and_true, false_and, and_false, Bool.or_not_self, Bool.not_or_self, Bool.cond_self, cond_true, cond_false, Bool.cond_true_right, Bool.cond_true_left, Bool.cond_false_right, Bool.cond_false_left, Bool.or_true, Bool.true_or, Bool.or_false, Bool.false_or, Bool.and_true, Bool.true_and, Bool.and_false, Bool.false_and, Bool.not_not, forall_eq, ← Bool.decide_and, ← Bool.decide_or, ← decide_not, cDecF, cDecT, cDecFl, Decidable.not_not, Bool.not_true, Bool.not_false, Bool.false_eq_true, imp_false, not_true_eq_false, not_false_eq_true, forall_const, true_implies, false_implies, implies_true, decide_true, decide_false])
  refine ⟨?_, veh_in hx hy cap st en⟩
  show cond (decide (PM hx hy)) (cond (decide (((1 ≤ cap ∧ cap ≤ 100000) ∧ 0 ≤ st ∧ st ≤ en) ∧ 0 ≤ en ∧ en ≤ 1048576)) 0 7) 4 = _
  unfold veh
  by_cases h1 : PM hx hy <;> by_cases h2 : ((1 ≤ cap ∧ cap ≤ 100000) ∧ 0 ≤ st ∧ st ≤ en) ∧ 0 ≤ en ∧ en ≤ 1048576
  · rw [decide_eq_true h1, decide_eq_true h2, if_neg (by omega), if_neg (by omega)]; rfl
  · rw [decide_eq_true h1, decide_eq_false h2, if_neg (by omega), if_pos (by omega)]; rfl
  · rw [decide_eq_false h1, if_pos (by omega)]; rfl
  · rw [decide_eq_false h1, if_pos (by omega)]; rfl
theorem okG10 : PCok Tryd.prog G10 := addPC_ok okG9 okOve
set_option maxHeartbeats 4000000 in
theorem okRve : CtrOk Tryd.prog 46 kRve := good_of okG10 mixed (fun ((hx, hy, cap, st, en, _), _) => noLoops) 100 fun ((hx, hy, cap, st, en, _), _) hf hn => by
  refine ⟨rfl, Eq.mpr (tRve hx hy cap st en) ?_⟩
  (simp only [eq_self_iff_true, true_and, and_true, false_and, and_false, Bool.or_not_self, Bool.not_or_self, Bool.cond_self, cond_true, cond_false, Bool.cond_true_right, Bool.cond_true_left, Bool.cond_false_right, Bool.cond_false_left, Bool.or_true, Bool.true_or, Bool.or_false, Bool.false_or, Bool.and_true, Bool.true_and, Bool.and_false, Bool.false_and, Bool.not_not, forall_eq, ← Bool.decide_and, ← Bool.decide_or, ← decide_not, cDecF, cDecT, cDecFl, Decidable.not_not, Bool.not_true, Bool.not_false, Bool.false_eq_true, imp_false, not_true_eq_false, not_false_eq_true, forall_const, true_implies, false_implies, implies_true, decide_true, decide_false]; try simp only [cDec, eq_self_iff_true, true_and, and_true, false_and, and_false, Bool.or_not_self, Bool.not_or_self, Bool.cond_self, cond_true, cond_false, Bool.cond_true_right, Bool.cond_true_left, Bool.cond_false_right, Bool.cond_false_left, Bool.or_true, Bool.true_or, Bool.or_false, Bool.false_or, Bool.and_true, Bool.true_and, Bool.and_false, Bool.false_and, Bool.not_not, forall_eq, ← Bool.decide_and, ← Bool.decide_or, ← decide_not, cDecF, cDecT, cDecFl, Decidable.not_not, Bool.not_true, Bool.not_false, Bool.false_eq_true, imp_false, not_true_eq_false, not_false_eq_true, forall_const, true_implies, false_implies, implies_true, decide_true, decide_false])
  have hb := veh_in hx hy cap st en
  (repeat' (first | apply And.intro | intro _))
  all_goals first | omega | (unfold veh; omega)
theorem okG11 : PCok Tryd.prog G11 := addPC_ok okG10 okRve
set_option maxHeartbeats 4000000 in
theorem okSw : CtrOk Tryd.prog 35 kSw := good_of okG11 mixed (fun (n, a, b, _) => noLoops) 100 fun (n, a, b, _) hf hn => by
  refine ⟨rfl, Eq.mpr (tSw n a b) ?_⟩
  (simp only [eq_self_iff_true, true_and, and_true, false_and, and_false, Bool.or_not_self, Bool.not_or_self, Bool.cond_self, cond_true, cond_false, Bool.cond_true_right, Bool.cond_true_left, Bool.cond_false_right, Bool.cond_false_left, Bool.or_true, Bool.true_or, Bool.or_false, Bool.false_or, Bool.and_true, Bool.true_and, Bool.and_false, Bool.false_and, Bool.not_not, forall_eq, ← Bool.decide_and, ← Bool.decide_or, ← decide_not, cDecF, cDecT, cDecFl, Decidable.not_not, Bool.not_true, Bool.not_false, Bool.false_eq_true, imp_false, not_true_eq_false, not_false_eq_true, forall_const, true_implies, false_implies, implies_true, decide_true, decide_false]; try simp only [cDec, eq_self_iff_true, true_and, and_true, false_and, and_false, Bool.or_not_self, Bool.not_or_self, Bool.cond_self, cond_true, cond_false, Bool.cond_true_right, Bool.cond_true_left, Bool.cond_false_right, Bool.cond_false_left, Bool.or_true, Bool.true_or, Bool.or_false, Bool.false_or, Bool.and_true, Bool.true_and, Bool.and_false, Bool.false_and, Bool.not_not, forall_eq, ← Bool.decide_and, ← Bool.decide_or, ← decide_not, cDecF, cDecT, cDecFl, Decidable.not_not, Bool.not_true, Bool.not_false, Bool.false_eq_true, imp_false, not_true_eq_false, not_false_eq_true, forall_const, true_implies, false_implies, implies_true, decide_true, decide_false])
theorem okG12 : PCok Tryd.prog G12 := addPC_ok okG11 okSw
set_option maxHeartbeats 4000000 in
theorem okWhen : CtrOk Tryd.prog 36 kWhen := good_of okG12 mixed (fun (p, e, _) => noLoops) 100 fun (p, e, _) hf hn => by
  refine ⟨rfl, Eq.mpr (tWhen p e) ?_⟩
  (simp only [eq_self_iff_true, true_and, and_true, false_and, and_false, Bool.or_not_self, Bool.not_or_self, Bool.cond_self, cond_true, cond_false, Bool.cond_true_right, Bool.cond_true_left, Bool.cond_false_right, Bool.cond_false_left, Bool.or_true, Bool.true_or, Bool.or_false, Bool.false_or, Bool.and_true, Bool.true_and, Bool.and_false, Bool.false_and, Bool.not_not, forall_eq, ← Bool.decide_and, ← Bool.decide_or, ← decide_not, cDecF, cDecT, cDecFl, Decidable.not_not, Bool.not_true, Bool.not_false, Bool.false_eq_true, imp_false, not_true_eq_false, not_false_eq_true, forall_const, true_implies, false_implies, implies_true, decide_true, decide_false]; try simp only [cDec, eq_self_iff_true, true_and, and_true, false_and, and_false, Bool.or_not_self, Bool.not_or_self, Bool.cond_self, cond_true, cond_false, Bool.cond_true_right, Bool.cond_true_left, Bool.cond_false_right, Bool.cond_false_left, Bool.or_true, Bool.true_or, Bool.or_false, Bool.false_or, Bool.and_true, Bool.true_and, Bool.and_false, Bool.false_and, Bool.not_not, forall_eq, ← Bool.decide_and, ← Bool.decide_or, ← decide_not, cDecF, cDecT, cDecFl, Decidable.not_not, Bool.not_true, Bool.not_false, Bool.false_eq_true, imp_false, not_true_eq_false, not_false_eq_true, forall_const, true_implies, false_implies, implies_true, decide_true, decide_false])
  have he := hf.2.1
  cases p <;> simp
theorem okG13 : PCok Tryd.prog G13 := addPC_ok okG12 okWhen
theorem okG14 : PCok Tryd.prog G14 := addPC_ok okG13 okAs
set_option maxHeartbeats 4000000 in
theorem okTl : CtrOk Tryd.prog 17 kTl := good_ofM okG14 mixed (fun (((c, p, i, _), _), _) => noLoops) 100 fun (((c, p, i, _), _), _) hf hn => by
  refine ⟨rfl, Eq.mpr (tTl c p i) ?_⟩
  (simp only [eq_self_iff_true, true_and, and_true, false_and, and_false, Bool.or_not_self, Bool.not_or_self, Bool.cond_self, cond_true, cond_false, Bool.cond_true_right, Bool.cond_true_left, Bool.cond_false_right, Bool.cond_false_left, Bool.or_true, Bool.true_or, Bool.or_false, Bool.false_or, Bool.and_true, Bool.true_and, Bool.and_false, Bool.false_and, Bool.not_not, forall_eq, ← Bool.decide_and, ← Bool.decide_or, ← decide_not, cDecF, cDecT, cDecFl, Decidable.not_not, Bool.not_true, Bool.not_false, Bool.false_eq_true, imp_false, not_true_eq_false, not_false_eq_true, forall_const, true_implies, false_implies, implies_true, decide_true, decide_false]; try simp only [cDec, eq_self_iff_true, true_and, and_true, false_and, and_false, Bool.or_not_self, Bool.not_or_self, Bool.cond_self, cond_true, cond_false, Bool.cond_true_right, Bool.cond_true_left, Bool.cond_false_right, Bool.cond_false_left, Bool.or_true, Bool.true_or, Bool.or_false, Bool.false_or, Bool.and_true, Bool.true_and, Bool.and_false, Bool.false_and, Bool.not_not, forall_eq, ← Bool.decide_and, ← Bool.decide_or, ← decide_not, cDecF, cDecT, cDecFl, Decidable.not_not, Bool.not_true, Bool.not_false, Bool.false_eq_true, imp_false, not_true_eq_false, not_false_eq_true, forall_const, true_implies, false_implies, implies_true, decide_true, decide_false])
theorem okG15 : PCok Tryd.prog G15 := addPC_ok okG14 okTl
set_option maxHeartbeats 4000000 in
theorem okTd : CtrOk Tryd.prog 10 kTd := good_ofM okG15 mixed (fun (((c, p, i, _), _), (a, b, d, _), _) => noLoops) 100 fun (((c, p, i, _), _), (a, b, d, _), _) hf hn => by
  refine ⟨rfl, Eq.mpr (tTd c p i a b d) ?_⟩
  have ha : a ≠ 0 := by simpa [allNeed] using hn
  (simp only [eq_self_iff_true, true_and, and_true, false_and, and_false, Bool.or_not_self, Bool.not_or_self, Bool.cond_self, cond_true, cond_false, Bool.cond_true_right, Bool.cond_true_left, Bool.cond_false_right, Bool.cond_false_left, Bool.or_true, Bool.true_or, Bool.or_false, Bool.false_or, Bool.and_true, Bool.true_and, Bool.and_false, Bool.false_and, Bool.not_not, forall_eq, ← Bool.decide_and, ← Bool.decide_or, ← decide_not, cDecF, cDecT, cDecFl, Decidable.not_not, Bool.not_true, Bool.not_false, Bool.false_eq_true, imp_false, not_true_eq_false, not_false_eq_true, forall_const, true_implies, false_implies, implies_true, decide_true, decide_false]; try simp only [cDec, eq_self_iff_true, true_and, and_true, false_and, and_false, Bool.or_not_self, Bool.not_or_self, Bool.cond_self, cond_true, cond_false, Bool.cond_true_right, Bool.cond_true_left, Bool.cond_false_right, Bool.cond_false_left, Bool.or_true, Bool.true_or, Bool.or_false, Bool.false_or, Bool.and_true, Bool.true_and, Bool.and_false, Bool.false_and, Bool.not_not, forall_eq, ← Bool.decide_and, ← Bool.decide_or, ← decide_not, cDecF, cDecT, cDecFl, Decidable.not_not, Bool.not_true, Bool.not_false, Bool.false_eq_true, imp_false, not_true_eq_false, not_false_eq_true, forall_const, true_implies, false_implies, implies_true, decide_true, decide_false])
  simp [ha]
  rfl
theorem okG16 : PCok Tryd.prog G16 := addPC_ok okG15 okTd
set_option maxHeartbeats 4000000 in
theorem okOne : CtrOk Tryd.prog 19 kOne := good_of okG16 mixed (fun _ => noLoops) 100 fun _ hf hn => by
  refine ⟨rfl, Eq.mpr (tOne ) ?_⟩
  trivial
theorem okG17 : PCok Tryd.prog G17 := addPC_ok okG16 okOne
set_option maxHeartbeats 4000000 in
theorem okLst : CtrOk Tryd.prog 18 kLst := good_of okG17 mixed (fun _ => noLoops) 100 fun _ hf hn => by
  refine ⟨rfl, Eq.mpr (tLst ) ?_⟩
  trivial
theorem okG18 : PCok Tryd.prog G18 := addPC_ok okG17 okLst
theorem okGK : PCok Tryd.prog GK := litPC_ok okG18
end Go.Proofs.YtafmknblnamegaaDoor
