/- These contracts hold. No condition. -/
import Derived.Test.YtafmknblnamegaaDoorU5OT
import Derived.Test.YtafmknblnamegaaDoorV8N
namespace Go.Proofs.YtafmknblnamegaaDoor
open Go.Eng
set_option linter.unusedSimpArgs false
theorem oR_len (ts : Rw) (cs : Fm) (k : Int) : (oR ts cs k).length = ts.length := by simp [oR]
theorem oR_zero (ts : Rw) (cs : Fm) (n : Nat) (hn : n = ts.length) : List.replicate n [Value.int .i64 0] = oR ts cs 0 := by
  subst hn
  apply List.ext_getElem
  · rw [oR_len]; simp
  · intro i h1 h2
    simp only [oR, List.getElem_replicate, List.getElem_map, List.getElem_range]
    rw [if_neg (by omega)]
theorem oR_set (ts : Rw) (cs : Fm) (j : Int) (h0 : 0 ≤ j) (h1 : j < ts.length) : (oR ts cs j).set j.toNat [Value.int .i64 (fow j 0 cs)] = oR ts cs (j + 1) := by
  apply List.ext_getElem
  · rw [List.length_set, oR_len, oR_len]
  · intro i g1 g2
    rw [List.getElem_set]
    by_cases h : j.toNat = i
    · rw [if_pos h]
      have e : (i : Int) = j := by omega
      simp only [oR, List.getElem_map, List.getElem_range]
      rw [if_pos (by omega), e]
    · rw [if_neg h]
      simp only [oR, List.getElem_map, List.getElem_range]
      by_cases h2 : (i : Int) < j
      · rw [if_pos h2, if_pos (by omega)]
      · rw [if_neg h2, if_neg (by omega)]
theorem ownAll_cons (x : List Rw) (l : Fm) : ownAll (x :: l) = isOf x ++ ownAll l := rfl
theorem fow_none (r : Int) : ∀ (l : Fm) (c : Nat), r ∉ ownAll l → fow r c l = -1
  | [], _, _ => rfl
  | x :: l, c, h => by
    rw [ownAll_cons, List.mem_append] at h
    unfold fow
    rw [if_neg fun hh => h (.inl hh)]
    exact fow_none r l (c + 1) fun hh => h (.inr hh)
theorem drop_c (cs : Fm) {k : Nat} (h : k < cs.length) : cs.drop k = cs.getD k [] :: cs.drop (k + 1) := by rw [getD_get h]; exact List.drop_eq_getElem_cons h
theorem tk_succ (l : Rw) {i : Nat} (h : i < l.length) : (l.take (i + 1)).map (fun y => geti y 0) = (l.take i).map (fun y => geti y 0) ++ [geti (l.getD i []) 0] := by
  rw [getD_get h, List.take_succ_eq_append_getElem h, List.map_append]; rfl
set_option maxHeartbeats 4000000 in
theorem okOw : CtrOk Tryd.prog 14 kOw := good_of okG19 mixed (fun ((ts, cs, ls, a, b, d, ds, _), _) => onL ts cs) 100 fun ((ts, cs, ls, a, b, d, ds, _), _) hf hn => by
  refine ⟨rfl, Eq.mpr (tOw ts cs ls a b d ds) ?_⟩
  have hn1 : (ts.length : Int) ≤ 1000 := by have := of_decide_eq_true hn.1; rwa [lenI_eq] at this
  (simp only [eq_self_iff_true, true_and, and_true, false_and, and_false, Bool.or_not_self, Bool.not_or_self, Bool.cond_self, cond_true, cond_false, Bool.cond_true_right, Bool.cond_true_left, Bool.cond_false_right, Bool.cond_false_left, Bool.or_true, Bool.true_or, Bool.or_false, Bool.false_or, Bool.and_true, Bool.true_and, Bool.and_false, Bool.false_and, Bool.not_not, forall_eq, ← Bool.decide_and, ← Bool.decide_or, ← decide_not, cDecF, cDecT, cDecFl, Decidable.not_not, Bool.not_true, Bool.not_false, Bool.false_eq_true, imp_false, not_true_eq_false, not_false_eq_true, forall_const, true_implies, false_implies, implies_true, decide_true, decide_false]; try simp only [cDec, eq_self_iff_true, true_and, and_true, false_and, and_false, Bool.or_not_self, Bool.not_or_self, Bool.cond_self, cond_true, cond_false, Bool.cond_true_right, Bool.cond_true_left, Bool.cond_false_right, Bool.cond_false_left, Bool.or_true, Bool.true_or, Bool.or_false, Bool.false_or, Bool.and_true, Bool.true_and, Bool.and_false, Bool.false_and, Bool.not_not, forall_eq, ← Bool.decide_and, ← Bool.decide_or, ← decide_not, cDecF, cDecT, cDecFl, Decidable.not_not, Bool.not_true, Bool.not_false, Bool.false_eq_true, imp_false, not_true_eq_false, not_false_eq_true, forall_const, true_implies, false_implies, implies_true, decide_true, decide_false])
  have hm : maxLen = 9223372036854775807 := by decide
  have hcs : cs.length ≤ 9223372036854775807 := hm ▸ hf.1.2.1.2
  have hin := hf.1.2.1.1
  refine ⟨⟨(cs.length : Int) - 1, []⟩, ⟨by show (-1 : Int) ≤ (cs.length : Int) - 1; omega, by show (cs.length : Int) - 1 < _; omega, fun r => ?_, fun r h => ?_⟩, ⟨rfl, rfl⟩, ?_⟩
  · show mhas [] r = decide (r ∈ ownAll (cs.drop ((cs.length : Int) - 1 + 1).toNat))
    rw [show ((cs.length : Int) - 1 + 1).toNat = cs.length by omega, List.drop_length]; simp [mhas, ownAll]
  · exact absurd h (by simp [mhas])
  rintro ⟨k, m⟩ ⟨ka, kb, khas, kget⟩
  dsimp only at ka kb khas kget ⊢
  refine ⟨fun hk => ⟨⟨hk, kb⟩, ⟨0, m⟩, ⟨Int.le_refl _, Int.natCast_nonneg _, fun r => ?_, fun r h => ?_⟩, ⟨⟨rfl, Int.le_refl _, (by decide : (0 : Int) ≤ 9223372036854775807)⟩, rfl⟩, ?_⟩, fun hk => ⟨⟨by omega, by omega⟩, 0, ⟨by omega, by omega⟩, ⟨⟨rfl, Int.le_refl _, (by decide : (0 : Int) ≤ 9223372036854775807)⟩, oR_zero _ _ _ (by omega)⟩, ?_⟩⟩
  · show mhas m r = decide (r ∈ (List.take 0 _).map _ ∨ _)
    rw [khas]; simp
  · show mget m r _ = [Value.int .i64 (if r ∈ (List.take 0 _).map _ then k else _)]
    rw [kget r h]; simp
  · have hk2 : k.toNat < cs.length := by omega
    obtain ⟨_, hinl⟩ := hin _ (getD_in (d := []) hk2)
    have hol : (own (cs.getD k.toNat [])).length ≤ 9223372036854775807 := hm ▸ (hinl 1 3 I64 rfl).2
    have ek : (k + 1).toNat = k.toNat + 1 := by omega
    have ek2 : ((k.toNat : Nat) : Int) = k := by omega
    rintro ⟨q, m'⟩ ⟨qa, qb, qhas, qget⟩
    dsimp only at qa qb qhas qget ⊢
    have eo : (cs.getD k.toNat []).getD 1 [] = own (cs.getD k.toNat []) := rfl
    rw [eo]
    refine ⟨fun hlt => ?_, fun hge => ?_⟩
    · have hl : q < ((own (cs.getD k.toNat [])).length : Int) := hlt
      have eq1 : (q + 1).toNat = q.toNat + 1 := by omega
      have ht := tk_succ (own (cs.getD k.toNat [])) (show q.toNat < _ by omega)
      refine ⟨⟨qa, hl⟩, ⟨q + 1, mset m' (geti ((own (cs.getD k.toNat [])).getD q.toNat []) 0) [Value.int .i64 k]⟩, ⟨by show 0 ≤ q + 1; omega, by show q + 1 ≤ _; omega, fun r => ?_, fun r h => ?_⟩, mu_lt qa hl, ⟨w1 qa hl (by omega), by show 0 ≤ q + 1; omega, by show q + 1 ≤ _; omega⟩, rfl⟩
      · show mhas (mset m' _ _) r = decide (r ∈ (List.take (q + 1).toNat _).map _ ∨ _)
        rw [mhas_mset, qhas, eq1, ht]
        by_cases hr : geti ((own (cs.getD k.toNat [])).getD q.toNat []) 0 = r
        · rw [decide_eq_true hr, Bool.true_or]; symm; apply decide_eq_true; rw [← hr]; simp
        · rw [decide_eq_false hr, Bool.false_or]; apply decide_eq_decide.2; rw [List.mem_append, List.mem_singleton]
          exact ⟨fun hh => hh.elim (fun g => .inl (.inl g)) .inr, fun hh => hh.elim (fun g => g.elim .inl fun g => absurd g.symm hr) .inr⟩
      · have h' : mhas (mset m' (geti ((own (cs.getD k.toNat [])).getD q.toNat []) 0) [Value.int .i64 k]) r = true := h
        show mget (mset m' _ _) r _ = [Value.int .i64 (if r ∈ (List.take (q + 1).toNat _).map _ then k else _)]
        rw [mget_mset, eq1, ht]
        rw [mhas_mset] at h'
        by_cases hr : geti ((own (cs.getD k.toNat [])).getD q.toNat []) 0 = r
        · rw [if_pos hr, if_pos (by rw [← hr]; simp)]
        · rw [decide_eq_false hr, Bool.false_or] at h'
          rw [if_neg hr, qget r h']
          by_cases h2 : r ∈ ((own (cs.getD k.toNat [])).take q.toNat).map (fun y => geti y 0)
          · rw [if_pos h2, if_pos (List.mem_append_left _ h2)]
          · rw [if_neg h2, if_neg (by rw [List.mem_append, List.mem_singleton]; exact fun hh => hh.elim h2 fun hh => hr hh.symm)]
    · have hl : ¬ q < ((own (cs.getD k.toNat [])).length : Int) := hge
      have e1 : q.toNat = (own (cs.getD k.toNat [])).length := by omega
      have e2 : (k - 1 + 1).toNat = k.toNat := by omega
      have e3 : ((own (cs.getD k.toNat [])).take q.toNat).map (fun y => geti y 0) = isOf (cs.getD k.toNat []) := by rw [e1, List.take_length]; rfl
      rw [e3] at qhas qget
      refine ⟨⟨k - 1, m'⟩, ⟨by show -1 ≤ k - 1; omega, by show k - 1 < _; omega, fun r => ?_, fun r h => ?_⟩, by show (k - 1 + 1).toNat < (k + 1).toNat; omega, ⟨rfl, by show -1 ≤ k - 1; omega, by show k - 1 ≤ _; omega⟩, rfl⟩
      · show mhas m' r = decide (r ∈ ownAll (cs.drop (k - 1 + 1).toNat))
        rw [qhas, e2, ek, drop_c cs hk2, ownAll_cons]; apply decide_eq_decide.2; rw [List.mem_append]
      · show mget m' r _ = [Value.int .i64 (fow r (k - 1 + 1).toNat (cs.drop (k - 1 + 1).toNat))]
        rw [qget r h, e2, ek, drop_c cs hk2]
        show _ = [Value.int .i64 (if r ∈ isOf (cs.getD k.toNat []) then ((k.toNat : Nat) : Int) else fow r (k.toNat + 1) (cs.drop (k.toNat + 1)))]
        rw [ek2]
  · rintro j ⟨ja, jb⟩
    rw [List.length_replicate, oR_len, List.length_set, oR_len]
    have ek : (k + 1).toNat = 0 := by omega
    have hj := khas j
    have hg := kget j
    rw [ek, List.drop_zero] at hj hg
    refine ⟨fun hlt => ⟨⟨ja, by omega⟩, ?_⟩, fun hge => by rw [show j = (ts.length : Int) by omega]⟩
    have hlt' : j < (ts.length : Int) := by omega
    by_cases hmem : j ∈ ownAll cs
    · have hj' : mhas m j = true := by rw [hj]; exact decide_eq_true hmem
      rw [hj', Bool.not_true, cond_false, hg hj']
      exact ⟨j + 1, ⟨by omega, by omega⟩, mu_lt ja hlt', ⟨w1 ja hlt' (by omega), by omega, by omega⟩, oR_set ts cs j ja hlt'⟩
    · have hj' : mhas m j = false := by rw [hj]; exact decide_eq_false hmem
      rw [hj', Bool.not_false, cond_true]
      refine ⟨⟨ja, by omega⟩, j + 1, ⟨by omega, by omega⟩, mu_lt ja hlt', ⟨w1 ja hlt' (by omega), by omega, by omega⟩, ?_⟩
      rw [List.set_set, ← fow_none j cs 0 hmem]
      exact oR_set ts cs j ja hlt'
theorem okG20 : PCok Tryd.prog G20 := addPC_ok okG19 okOw
end Go.Proofs.YtafmknblnamegaaDoor
