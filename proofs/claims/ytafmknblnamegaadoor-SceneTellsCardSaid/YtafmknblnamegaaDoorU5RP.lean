/- These contracts hold. No condition. -/
import Derived.Test.YtafmknblnamegaaDoorU5RT
import Derived.Test.YtafmknblnamegaaDoorV8N
namespace Go.Proofs.YtafmknblnamegaaDoor
open Go.Eng
set_option linter.unusedSimpArgs false
theorem fow_hit (r : Int) : ∀ (l : Fm) (k d : Nat), d < l.length → (∀ j, j < d → r ∉ isOf (l.getD j [])) → r ∈ isOf (l.getD d []) → fow r k l = ((k + d : Nat) : Int)
  | [], _, _, h, _, _ => by simp at h
  | x :: l, k, 0, _, _, h => by
    have h' : r ∈ isOf x := h
    unfold fow; rw [if_pos h']; rfl
  | x :: l, k, d + 1, h, hn, hm => by
    have h0 : r ∉ isOf x := hn 0 (by omega)
    unfold fow
    rw [if_neg h0, fow_hit r l (k + 1) d (by simpa using h) (fun j hj => hn (j + 1) (by omega)) hm]
    congr 1; omega
theorem fow_miss (r : Int) : ∀ (l : Fm) (k : Nat), (∀ j, j < l.length → r ∉ isOf (l.getD j [])) → fow r k l = -1
  | [], _, _ => rfl
  | x :: l, k, hn => by
    have h0 : r ∉ isOf x := hn 0 (by simp)
    unfold fow
    rw [if_neg h0, fow_miss r l (k + 1) fun j hj => hn (j + 1) (by simpa using hj)]
theorem getD_take {l : Fm} {n j : Nat} (h : j < n) : (l.take n).getD j [] = l.getD j [] := by
  rw [List.getD_eq_getElem?_getD, List.getElem?_take, if_pos h, List.getD_eq_getElem?_getD]
theorem is_mem {x : List Rw} {r : Int} (h : r ∈ isOf x) : ∃ j, j < (own x).length ∧ geti ((own x).getD j []) 0 = r := by
  obtain ⟨y, hy, e⟩ := List.mem_map.1 h
  obtain ⟨j, hj, rfl⟩ := List.mem_iff_getElem.1 hy
  exact ⟨j, hj, by rw [getD_get hj]; exact e⟩
theorem mem_is {x : List Rw} {j : Nat} (h : j < (own x).length) : geti ((own x).getD j []) 0 ∈ isOf x := List.mem_map.2 ⟨_, getD_in h, rfl⟩
set_option maxHeartbeats 4000000 in
theorem okOr : CtrOk Tryd.prog 32 kOr := good_of okG20 mixed (fun ((ts, cs, ls, a, b, d, ds, _), r, h, _) => orL cs r h) 100 fun ((ts, cs, ls, a, b, d, ds, _), r, h, _) hf hn => by
  refine ⟨rfl, Eq.mpr (tOr ts cs ls a b d ds r h) ?_⟩
  (simp only [eq_self_iff_true, true_and, and_true, false_and, and_false, Bool.or_not_self, Bool.not_or_self, Bool.cond_self, cond_true, cond_false, Bool.cond_true_right, Bool.cond_true_left, Bool.cond_false_right, Bool.cond_false_left, Bool.or_true, Bool.true_or, Bool.or_false, Bool.false_or, Bool.and_true, Bool.true_and, Bool.and_false, Bool.false_and, Bool.not_not, forall_eq, ← Bool.decide_and, ← Bool.decide_or, ← decide_not, cDecF, cDecT, cDecFl, Decidable.not_not, Bool.not_true, Bool.not_false, Bool.false_eq_true, imp_false, not_true_eq_false, not_false_eq_true, forall_const, true_implies, false_implies, implies_true, decide_true, decide_false]; try simp only [cDec, eq_self_iff_true, true_and, and_true, false_and, and_false, Bool.or_not_self, Bool.not_or_self, Bool.cond_self, cond_true, cond_false, Bool.cond_true_right, Bool.cond_true_left, Bool.cond_false_right, Bool.cond_false_left, Bool.or_true, Bool.true_or, Bool.or_false, Bool.false_or, Bool.and_true, Bool.true_and, Bool.and_false, Bool.false_and, Bool.not_not, forall_eq, ← Bool.decide_and, ← Bool.decide_or, ← decide_not, cDecF, cDecT, cDecFl, Decidable.not_not, Bool.not_true, Bool.not_false, Bool.false_eq_true, imp_false, not_true_eq_false, not_false_eq_true, forall_const, true_implies, false_implies, implies_true, decide_true, decide_false])
  have hm : maxLen = 9223372036854775807 := by decide
  have hcs : cs.length ≤ 9223372036854775807 := hm ▸ hf.1.2.1.2
  have hin := hf.1.2.1.1
  refine ⟨0, ⟨by omega, by omega, .inl rfl, fun j hj => j0 hj⟩, ⟨rfl, by omega, by omega⟩, ?_⟩
  rintro k ⟨ka, kb, kc, kno⟩
  refine ⟨fun hlt => ⟨0, ⟨by omega, by omega, fun j hj => j0 hj⟩, ⟨rfl, by omega, by omega⟩, ?_⟩, fun hge => ?_⟩
  · obtain ⟨hl1, hl2⟩ := hlt
    have hk2 : k.toNat < cs.length := by omega
    have ek : ((k.toNat : Nat) : Int) = k := by omega
    obtain ⟨_, hinl⟩ := hin _ (getD_in (d := []) hk2)
    have hol : (own (cs.getD k.toNat [])).length ≤ 9223372036854775807 := hm ▸ (hinl 1 3 I64 rfl).2
    rintro i ⟨ia, ib, ino⟩
    have eo : (cs.getD k.toNat []).getD 1 [] = own (cs.getD k.toNat []) := rfl
    rw [eo]
    refine ⟨⟨ka, hl2⟩, fun hi => ⟨⟨ka, hl2⟩, ⟨ia, hi⟩, fun he => ?_, fun hne => ?_⟩, fun hi => ?_⟩
    · have := fow_hit r (cs.take h.toNat) 0 k.toNat (by rw [List.length_take]; omega) (fun j hj => by rw [getD_take (by omega)]; exact kno j hj) (by rw [getD_take (by omega), ← he]; exact mem_is (by omega))
      rw [this]; omega
    · refine ⟨i + 1, ⟨by omega, by omega, fun j hj => ?_⟩, mu_lt ia hi, w1 ia hi (by omega), by omega, by omega⟩
      rcases Nat.lt_or_ge j i.toNat with g | g
      · exact ino j g
      · rw [show j = i.toNat by omega]; exact hne
    · refine ⟨k + 1, ⟨by omega, by omega, .inr (by omega), fun j hj => ?_⟩, mu_lt ka hl2, w1 ka hl2 (by omega), by omega, by omega⟩
      rcases Nat.lt_or_ge j k.toNat with g | g
      · exact kno j g
      · rw [show j = k.toNat by omega]
        intro hmem
        obtain ⟨q, q1, q2⟩ := is_mem hmem
        exact ino q (by omega) q2
  · have : fow r 0 (cs.take h.toNat) = -1 := fow_miss r _ 0 fun j hj => by
      rw [List.length_take] at hj
      rw [getD_take (by omega)]
      exact kno j (by omega)
    rw [this]
    exact ⟨rfl, by omega, by omega⟩
theorem okG21 : PCok Tryd.prog G21 := addPC_ok okG20 okOr
theorem oT_succ (cs : Fm) (k : Int) (h : 0 ≤ k) : oT cs k ++ [[Value.int .i64 (fow k 0 cs)]] = oT cs (k + 1) := by
  unfold oT
  rw [show (k + 1).toNat = k.toNat + 1 by omega, List.range_succ, List.map_append]
  simp only [List.map_cons, List.map_nil]
  rw [show ((k.toNat : Nat) : Int) = k by omega]
theorem oT_len (cs : Fm) (k : Int) : (oT cs k).length = k.toNat := by simp [oT]
theorem oT_all (ts : Rw) (cs : Fm) {k : Int} (h : k = ts.length) : oT cs k = oR ts cs ts.length := by
  subst h
  apply List.ext_getElem
  · rw [oT_len, oR_len]; omega
  · intro i h1 h2
    rw [oR_len] at h2
    simp only [oT, oR, List.getElem_map, List.getElem_range]
    rw [if_pos (by omega)]
set_option maxHeartbeats 4000000 in
theorem okRo : CtrOk Tryd.prog 15 kRo := good_of okG21 mixed (fun ((ts, cs, ls, a, b, d, ds, _), _) => otL ts cs) 100 fun ((ts, cs, ls, a, b, d, ds, _), _) hf hn => by
  refine ⟨rfl, Eq.mpr (tRo ts cs ls a b d ds) ?_⟩
  have hn1 : (ts.length : Int) ≤ 1000 := by have := of_decide_eq_true hn.1; rwa [lenI_eq] at this
  (simp only [eq_self_iff_true, true_and, and_true, false_and, and_false, Bool.or_not_self, Bool.not_or_self, Bool.cond_self, cond_true, cond_false, Bool.cond_true_right, Bool.cond_true_left, Bool.cond_false_right, Bool.cond_false_left, Bool.or_true, Bool.true_or, Bool.or_false, Bool.false_or, Bool.and_true, Bool.true_and, Bool.and_false, Bool.false_and, Bool.not_not, forall_eq, ← Bool.decide_and, ← Bool.decide_or, ← decide_not, cDecF, cDecT, cDecFl, Decidable.not_not, Bool.not_true, Bool.not_false, Bool.false_eq_true, imp_false, not_true_eq_false, not_false_eq_true, forall_const, true_implies, false_implies, implies_true, decide_true, decide_false]; try simp only [cDec, eq_self_iff_true, true_and, and_true, false_and, and_false, Bool.or_not_self, Bool.not_or_self, Bool.cond_self, cond_true, cond_false, Bool.cond_true_right, Bool.cond_true_left, Bool.cond_false_right, Bool.cond_false_left, Bool.or_true, Bool.true_or, Bool.or_false, Bool.false_or, Bool.and_true, Bool.true_and, Bool.and_false, Bool.false_and, Bool.not_not, forall_eq, ← Bool.decide_and, ← Bool.decide_or, ← decide_not, cDecF, cDecT, cDecFl, Decidable.not_not, Bool.not_true, Bool.not_false, Bool.false_eq_true, imp_false, not_true_eq_false, not_false_eq_true, forall_const, true_implies, false_implies, implies_true, decide_true, decide_false])
  refine ⟨0, ⟨by omega, by omega⟩, ⟨⟨rfl, by omega, by omega⟩, rfl⟩, ?_⟩
  rintro k ⟨ka, kb⟩
  refine ⟨fun hlt => ⟨by rw [lenI_eq, oT_len]; omega, k + 1, ⟨by omega, by omega⟩, mu_lt ka hlt, ⟨rfl, by omega, by omega⟩, ?_⟩, fun hge => oT_all ts cs (by omega)⟩
  rw [Int.toNat_natCast, List.take_length]; exact oT_succ cs k ka
theorem okG22 : PCok Tryd.prog G22 := addPC_ok okG21 okRo
end Go.Proofs.YtafmknblnamegaaDoor
