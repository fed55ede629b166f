/- These contracts hold. No condition. -/
import Derived.Test.YtfhjnececgoadaaDoorL9T
import Derived.Test.YtfhjnececgoadaaDoorV4N
namespace Go.Proofs.YtfhjnececgoadaaDoor
open Go.Eng
set_option linter.unusedSimpArgs false
theorem rqs_snoc {xs : List (List Value)} {k : Nat} (h : k < xs.length) : rqs (xs.take (k + 1)) = rqs (xs.take k) ++ cond (decide (geti (xs.getD k []) 1 = 0)) [rq1 (xs.getD k [])] [] := by
  unfold rqs
  rw [take_snoc (d := []) h, List.filter_append, List.map_append]
  generalize xs.getD k [] = y
  by_cases hk : geti y 1 = 0 <;> simp [hk]
theorem rqs_len (xs : List (List Value)) : (rqs xs).length ≤ xs.length := by simp only [rqs, List.length_map]; exact List.length_filter_le _ _
theorem rq_no {l : List (List Value)} (h : checkE l = 0) : rq l = rqs l := by unfold rq; rw [decide_eq_true h]; rfl
theorem far_snoc (t : List (List Value)) {xs : List (List Value)} {k : Nat} (h : k < xs.length) : far t (xs.take (k + 1)) = (far t (xs.take k) || decide (lenI t ≤ geti (xs.getD k []) 0)) := by
  rw [take_snoc (d := []) h]; simp [far]
theorem ill_snoc (t : List (List Value)) {xs : List (List Value)} {k : Nat} (h : k < xs.length) : ill t (xs.take (k + 1)) = (ill t (xs.take k) || !decide (chkR (t.getD (geti (xs.getD k []) 0).toNat []) = 0)) := by
  rw [take_snoc (d := []) h]; simp [ill]
theorem far_at {t xs : List (List Value)} {k : Nat} (h : k < xs.length) (hr : (t.length : Int) ≤ geti (xs.getD k []) 0) : far t xs = true := by
  simp only [far, List.any_eq_true]; exact ⟨xs.getD k [], getD_in h, decide_eq_true (by rw [lenI_eq]; exact hr)⟩
theorem far_no {t xs : List (List Value)} (h : far t xs = false) {k : Nat} (hk : k < xs.length) : geti (xs.getD k []) 0 < t.length := by
  rcases Int.lt_or_le (geti (xs.getD k []) 0) t.length with g | g
  · exact g
  · rw [far_at hk g] at h; cases h
theorem ill_at {t xs : List (List Value)} {k : Nat} (h : k < xs.length) (hr : ¬ chkR (t.getD (geti (xs.getD k []) 0).toNat []) = 0) : ill t xs = true := by
  simp only [ill, List.any_eq_true]; exact ⟨xs.getD k [], getD_in h, by rw [decide_eq_false hr]; rfl⟩
theorem chk_okB {l : List (List Value)} (h : checkE l = 0) : (l.length : Int) ≤ 16 ∧ okB l = true := by
  by_cases g : 16 < (l.length : Int)
  · rw [checkE_11 g] at h; cases h
  · refine ⟨by omega, ?_⟩
    cases ho : okB l with
    | true => rfl
    | false => rw [(checkE_ok g).2 (by rw [ho]; simp)] at h; cases h
theorem rq_mem {l : List (List Value)} {x : List Value} (h : x ∈ rqs l) : ∃ i, i < l.length ∧ geti (l.getD i []) 1 = 0 ∧ x = rq1 (l.getD i []) := by
  simp only [rqs, List.mem_map, List.mem_filter] at h
  obtain ⟨y, ⟨hy, hk⟩, rfl⟩ := h
  obtain ⟨i, hi, rfl⟩ := List.mem_iff_getElem.1 hy
  refine ⟨i, hi, ?_, ?_⟩
  · rw [List.getD_eq_getElem?_getD, List.getElem?_eq_getElem hi]; simpa using hk
  · rw [List.getD_eq_getElem?_getD, List.getElem?_eq_getElem hi]; rfl
theorem rq_in {l : List (List Value)} {i : Nat} (hi : i < l.length) (hk : geti (l.getD i []) 1 = 0) : rq1 (l.getD i []) ∈ rqs l := by
  simp only [rqs, List.mem_map, List.mem_filter]
  exact ⟨_, ⟨getD_in hi, decide_eq_true hk⟩, rfl⟩
theorem rq_ge {l : List (List Value)} (h : checkE l = 0) {k : Nat} (hk : k < (rq l).length) : 0 ≤ geti ((rq l).getD k []) 0 := by
  rw [rq_no h] at hk ⊢
  obtain ⟨i, hi, _, e⟩ := rq_mem (getD_in (d := []) hk)
  rw [e]
  exact (okAt_iff.1 (okB_iff.1 (chk_okB h).2 i hi)).1
theorem sk_put {x : List Value} (h : Wk SK x) : [Value.int .i64 (geti x 0), Value.int .i64 (geti x 1)] = x := by
  have h0 := geti_eq h (j := 0) (K := .i64) rfl
  have h1 := geti_eq h (j := 1) (K := .i64) rfl
  have hl : x.length = 2 := by simpa [SK] using h.length
  match x, hl with
  | [a, b], _ => simp only [List.getElem?_cons_zero, List.getElem?_cons_succ, Option.some.injEq] at h0 h1; rw [← h0, ← h1]
theorem flt_snoc (r : Int) {xs : List (List Value)} {k : Nat} (h : k < xs.length) : flt r (xs.take (k + 1)) = flt r (xs.take k) ++ cond (decide (geti (xs.getD k []) 0 = r)) [] [xs.getD k []] := by
  unfold flt
  rw [take_snoc (d := []) h, List.filter_append]
  generalize xs.getD k [] = y
  by_cases hk : geti y 0 = r <;> simp [hk]
theorem flt_len (r : Int) (xs : List (List Value)) : (flt r xs).length ≤ xs.length := List.length_filter_le _ _
theorem hasR_snoc (r : Int) {xs : List (List Value)} {k : Nat} (h : k < xs.length) : hasR r (xs.take (k + 1)) = (hasR r (xs.take k) || decide (geti (xs.getD k []) 0 = r)) := by
  rw [take_snoc (d := []) h]; simp [hasR]
theorem hasR_at {r : Int} {xs : List (List Value)} {k : Nat} (h : k < xs.length) (hr : geti (xs.getD k []) 0 = r) : hasR r xs = true := by
  simp only [hasR, List.any_eq_true]; exact ⟨xs.getD k [], getD_in h, decide_eq_true hr⟩
theorem flt_no {r : Int} {xs : List (List Value)} (h : hasR r xs = false) : flt r xs = xs := by
  simp only [hasR, List.any_eq_false] at h
  simp only [flt, List.filter_eq_self]
  intro x hx
  have := h x hx
  simpa using this
theorem ill_no {t xs : List (List Value)} (h : ill t xs = false) {x : List Value} (hx : x ∈ xs) : chkR (t.getD (geti x 0).toNat []) = 0 := by
  by_cases g : chkR (t.getD (geti x 0).toNat []) = 0
  · exact g
  · have : ill t xs = true := by simp only [ill, List.any_eq_true]; exact ⟨x, hx, by rw [decide_eq_false g]; rfl⟩
    rw [h] at this; cases this
theorem far_no' {t xs : List (List Value)} (h : far t xs = false) {x : List Value} (hx : x ∈ xs) : geti x 0 < t.length := by
  rcases Int.lt_or_le (geti x 0) t.length with g | g
  · exact g
  · have : far t xs = true := by simp only [far, List.any_eq_true]; exact ⟨x, hx, decide_eq_true (by rw [lenI_eq]; exact g)⟩
    rw [h] at this; cases this
theorem told_in {l t : List (List Value)} (h : toldE l t = 0) : checkE l = 0 ∧ far t (rq l) = false ∧ ill t (rq l) = false := by
  unfold toldE at h
  by_cases hc : checkE l = 0
  · rw [decide_eq_true hc, cond_true] at h
    refine ⟨hc, ?_⟩
    cases h1 : far t (rq l) with
    | true => rw [h1] at h; cases h
    | false =>
      rw [h1, cond_false] at h
      cases h2 : ill t (rq l) with
      | true => rw [h2] at h; cases h
      | false => exact ⟨rfl, rfl⟩
  · rw [decide_eq_false hc] at h; exact absurd h hc
theorem told_bd (l t : List (List Value)) : 0 ≤ toldE l t ∧ toldE l t ≤ 11 ∧ ¬ toldE l t = 10 := by
  unfold toldE
  have h : checkE l = 0 ∨ checkE l = 8 ∨ checkE l = 11 := by
    by_cases g : 16 < (l.length : Int)
    · rw [checkE_11 g]; simp
    · cases ho : okB l with
      | true => rw [(checkE_ok g).1 ho]; simp
      | false => rw [(checkE_ok g).2 (by rw [ho]; simp)]; simp
  cases hd : decide (checkE l = 0)
  · simp only [cond_false]; omega
  · cases far t (rq l) <;> cases ill t (rq l) <;> simp
theorem told_at {l t : List (List Value)} (h : toldE l t = 0) {i : Nat} (hi : i < l.length) : (0 ≤ geti (l.getD i []) 0 ∧ geti (l.getD i []) 0 < t.length) ∧ (geti (l.getD i []) 1 = 0 ∨ geti (l.getD i []) 1 = 1) ∧ 1 ≤ geti (t.getD (geti (l.getD i []) 0).toNat []) 8 ∧ geti (t.getD (geti (l.getD i []) 0).toNat []) 8 ≤ 1000 := by
  obtain ⟨hc, hf, hi2⟩ := told_in h
  rw [rq_no hc] at hf hi2
  obtain ⟨o1, o2, o3, o4, o5⟩ := okAt_iff.1 (okB_iff.1 (chk_okB hc).2 i hi)
  obtain ⟨j, hj, j1, j2⟩ := cnt_pos (r := geti (l.getD i []) 0) (k := 0) (xs := l) (by omega)
  have hm := rq_in hj j2
  have h1 := far_no' hf hm
  have h2 := ill_no hi2 hm
  have e : geti (rq1 (l.getD j [])) 0 = geti (l.getD i []) 0 := j1
  rw [e] at h1 h2
  obtain ⟨_, _, w1, w2, h8, h9⟩ := (chk0 _ _ _ _ _ _ _ _ _ _).1 h2
  exact ⟨⟨o1, h1⟩, o2, h8⟩
theorem brd_told {l t : List (List Value)} (h : toldE l t = 0) : ∀ k, k ≤ l.length → -(1000 * (k : Int)) ≤ brd t (l.take k) ∧ brd t (l.take k) ≤ 1000 * (k : Int)
  | 0, _ => by simp [brd]
  | k + 1, hk => by
    have ih := brd_told h k (by omega)
    obtain ⟨_, hh, h1, h2⟩ := told_at h (show k < l.length by omega)
    rw [brd_snoc t (by omega)]
    by_cases g : geti (l.getD k []) 1 = 0
    · rw [brd1_0 g]; omega
    · rw [brd1_1 g]; omega
theorem veh_no10 (hx hy cap st en : Int) : ¬ veh hx hy cap st en = 10 := by have := veh_in hx hy cap st en; omega
section
variable {hx hy cap st en : Int} {l t : List (List Value)}
theorem fit_v (h : ¬ veh hx hy cap st en = 0) : (-1 = fitA hx hy cap st en l t ∧ -1 ≤ fitA hx hy cap st en l t ∧ fitA hx hy cap st en l t ≤ 1000000) ∧ veh hx hy cap st en = fitE hx hy cap st en l t := by
  have e : fitE hx hy cap st en l t = veh hx hy cap st en := by unfold fitE; rw [decide_eq_false h]; rfl
  have a : fitA hx hy cap st en l t = -1 := by unfold fitA; rw [e, decide_eq_false (veh_no10 _ _ _ _ _)]; rfl
  rw [a, e]; omega
theorem fit_t (hv : veh hx hy cap st en = 0) (h : ¬ toldE l t = 0) : (-1 = fitA hx hy cap st en l t ∧ -1 ≤ fitA hx hy cap st en l t ∧ fitA hx hy cap st en l t ≤ 1000000) ∧ toldE l t = fitE hx hy cap st en l t := by
  have e : fitE hx hy cap st en l t = toldE l t := by unfold fitE; rw [decide_eq_true hv, decide_eq_false h]; rfl
  have a : fitA hx hy cap st en l t = -1 := by unfold fitA; rw [e, decide_eq_false (told_bd l t).2.2]; rfl
  rw [a, e]; omega
theorem fit_full (hv : veh hx hy cap st en = 0) (ht : toldE l t = 0) (h16 : l.length ≤ 16) {i : Nat} (hi : i < l.length) (hb : fits cap l t i = false) (h : ∀ j, j < i → fits cap l t j = true) : ((i : Int) = fitA hx hy cap st en l t ∧ -1 ≤ fitA hx hy cap st en l t ∧ fitA hx hy cap st en l t ≤ 1000000) ∧ 10 = fitE hx hy cap st en l t ∧ 0 ≤ fitE hx hy cap st en l t ∧ fitE hx hy cap st en l t ≤ 11 := by
  have en0 : fitN cap l t = i := fgood_at hb h _ hi
  have e : fitE hx hy cap st en l t = 10 := by unfold fitE; rw [decide_eq_true hv, decide_eq_true ht, en0, decide_eq_true hi]; rfl
  have a : fitA hx hy cap st en l t = i := by unfold fitA; rw [e, en0]; rfl
  rw [a, e]; omega
theorem fit_ok (hv : veh hx hy cap st en = 0) (ht : toldE l t = 0) (h : ∀ j, j < l.length → fits cap l t j = true) : (-1 = fitA hx hy cap st en l t ∧ -1 ≤ fitA hx hy cap st en l t ∧ fitA hx hy cap st en l t ≤ 1000000) ∧ 0 = fitE hx hy cap st en l t ∧ 0 ≤ fitE hx hy cap st en l t ∧ fitE hx hy cap st en l t ≤ 11 := by
  have en0 : fitN cap l t = l.length := fgood_all h
  have e : fitE hx hy cap st en l t = 0 := by unfold fitE; rw [decide_eq_true hv, decide_eq_true ht, en0, decide_eq_false (by omega)]; rfl
  have a : fitA hx hy cap st en l t = -1 := by unfold fitA; rw [e]; rfl
  rw [a, e]; omega
end
set_option maxHeartbeats 4000000 in
theorem okRqp : CtrOk Tryd.prog 74 kRqp := good_of okG46 mixed (fun (xs, _) => rqL xs) 100 fun (xs, _) hf hn => by
  refine ⟨rfl, Eq.mpr (tRqp xs) ?_⟩
  have hm : (xs.length : Int) ≤ 9223372036854775807 := len63 hf.1.2
  (simp only [eq_self_iff_true, true_and, and_true, false_and, and_false, Bool.or_not_self, Bool.not_or_self, Bool.cond_self, cond_true, cond_false, Bool.cond_true_right, Bool.cond_true_left, Bool.cond_false_right, Bool.cond_false_left, Bool.or_true, Bool.true_or, Bool.or_false, Bool.false_or, Bool.and_true, Bool.true_and, Bool.and_false, Bool.false_and, Bool.not_not, forall_eq, ← Bool.decide_and, ← Bool.decide_or, ← decide_not, cDecF, cDecT, cDecFl, Decidable.not_not, Bool.not_true, Bool.not_false, Bool.false_eq_true, imp_false, not_true_eq_false, not_false_eq_true, forall_const, true_implies, false_implies, implies_true, decide_true, decide_false]; try simp only [cDec, eq_self_iff_true, true_and, and_true, false_and, and_false, Bool.or_not_self, Bool.not_or_self, Bool.cond_self, cond_true, cond_false, Bool.cond_true_right, Bool.cond_true_left, Bool.cond_false_right, Bool.cond_false_left, Bool.or_true, Bool.true_or, Bool.or_false, Bool.false_or, Bool.and_true, Bool.true_and, Bool.and_false, Bool.false_and, Bool.not_not, forall_eq, ← Bool.decide_and, ← Bool.decide_or, ← decide_not, cDecF, cDecT, cDecFl, Decidable.not_not, Bool.not_true, Bool.not_false, Bool.false_eq_true, imp_false, not_true_eq_false, not_false_eq_true, forall_const, true_implies, false_implies, implies_true, decide_true, decide_false])
  have rq0 : ¬ checkE xs = 0 → rq xs = [] := fun h => by simp [rq, h]
  have rq2 : checkE xs = 0 → rq xs = rqs xs := fun h => by simp [rq, h]
  refine ⟨fun h => (rq0 h).symm, fun h => ?_⟩
  have h16 : (xs.length : Int) ≤ 16 := (chk_okB h).1
  rw [rq2 h]
  refine ⟨0, ⟨by omega, by omega⟩, ⟨⟨rfl, by omega, by omega⟩, by simp [rqs]⟩, ?_⟩
  rintro k ⟨k0, k1⟩
  refine ⟨fun hlt => ⟨⟨k0, hlt⟩, ?_⟩, fun hge => by rw [List.take_of_length_le (by omega)]⟩
  have e : (k + 1).toNat = k.toNat + 1 := by omega
  have ew : IntKind.i64.wrap (k + 1) = k + 1 := wr64 _ (by omega)
  have hs := rqs_snoc (xs := xs) (k := k.toNat) (by omega)
  have hlen := rqs_len (xs.take k.toNat)
  have hl2 : lenI (rqs (xs.take k.toNat)) ≤ 8796093022208 := by rw [lenI_eq]; rw [List.length_take] at hlen; omega
  refine ⟨fun hk => ?_, fun hk => ⟨k + 1, ⟨by omega, by omega⟩, by omega, ⟨ew, by omega, by omega⟩, by rw [e, hs, decide_eq_false hk]; simp⟩⟩
  refine ⟨hl2, ⟨k + 1, ⟨by omega, by omega⟩, by omega, ⟨ew, by omega, by omega⟩, by rw [e, hs, decide_eq_true hk]; rfl⟩⟩
theorem okG47 : PCok Tryd.prog G47 := addPC_ok okG46 okRqp
set_option maxHeartbeats 4000000 in
theorem okLtl : CtrOk Tryd.prog 47 kLtl := good_of okG47 mixed (fun (l, t, _) => toL l t) 100 fun (l, t, _) hf hn => by
  refine ⟨rfl, Eq.mpr (tLtl l t) ?_⟩
  have hml : (l.length : Int) ≤ 9223372036854775807 := len63 hf.1.2
  have hmt : (t.length : Int) ≤ 9223372036854775807 := len63 hf.2.1.2
  (simp only [eq_self_iff_true, true_and, and_true, false_and, and_false, Bool.or_not_self, Bool.not_or_self, Bool.cond_self, cond_true, cond_false, Bool.cond_true_right, Bool.cond_true_left, Bool.cond_false_right, Bool.cond_false_left, Bool.or_true, Bool.true_or, Bool.or_false, Bool.false_or, Bool.and_true, Bool.true_and, Bool.and_false, Bool.false_and, Bool.not_not, forall_eq, ← Bool.decide_and, ← Bool.decide_or, ← decide_not, cDecF, cDecT, cDecFl, Decidable.not_not, Bool.not_true, Bool.not_false, Bool.false_eq_true, imp_false, not_true_eq_false, not_false_eq_true, forall_const, true_implies, false_implies, implies_true, decide_true, decide_false]; try simp only [cDec, eq_self_iff_true, true_and, and_true, false_and, and_false, Bool.or_not_self, Bool.not_or_self, Bool.cond_self, cond_true, cond_false, Bool.cond_true_right, Bool.cond_true_left, Bool.cond_false_right, Bool.cond_false_left, Bool.or_true, Bool.true_or, Bool.or_false, Bool.false_or, Bool.and_true, Bool.true_and, Bool.and_false, Bool.false_and, Bool.not_not, forall_eq, ← Bool.decide_and, ← Bool.decide_or, ← decide_not, cDecF, cDecT, cDecFl, Decidable.not_not, Bool.not_true, Bool.not_false, Bool.false_eq_true, imp_false, not_true_eq_false, not_false_eq_true, forall_const, true_implies, false_implies, implies_true, decide_true, decide_false])
  have t0 : ∀ h : ¬ checkE l = 0, checkE l = toldE l t := fun h => by unfold toldE; rw [decide_eq_false h]; rfl
  refine ⟨fun h => t0 h, fun hc => ?_⟩
  have h16 := (chk_okB hc).1
  have hrl := rqs_len l
  have hq := rq_no hc
  have hql : ((rq l).length : Int) ≤ 16 := by rw [hq]; omega
  have hge := fun k hk => rq_ge (l := l) hc (k := k) hk
  have t8 : far t (rq l) = true → (8 = toldE l t ∧ 0 ≤ toldE l t ∧ toldE l t ≤ 11) := fun h => by unfold toldE; rw [decide_eq_true hc, h]; simp
  have t2 : far t (rq l) = false → ill t (rq l) = true → (2 = toldE l t ∧ 0 ≤ toldE l t ∧ toldE l t ≤ 11) := fun h h2 => by unfold toldE; rw [decide_eq_true hc, h, h2]; simp
  have t1 : far t (rq l) = false → ill t (rq l) = false → (0 = toldE l t ∧ 0 ≤ toldE l t ∧ toldE l t ≤ 11) := fun h h2 => by unfold toldE; rw [decide_eq_true hc, h, h2]; simp
  generalize toldE l t = e at *
  generalize rq l = q at *
  refine ⟨0, ⟨by omega, by omega, by simp [far]⟩, ⟨rfl, by omega, by omega⟩, ?_⟩
  rintro k ⟨k0, k1, kh⟩
  have e1 : (k + 1).toNat = k.toNat + 1 := by omega
  have ew : IntKind.i64.wrap (k + 1) = k + 1 := wr64 _ (by omega)
  refine ⟨fun hlt => ⟨⟨k0, hlt⟩, fun hr => t8 (far_at (by omega) hr), fun hr => ⟨k + 1, ⟨by omega, by omega, ?_⟩, by omega, ew, by omega, by omega⟩⟩, fun hg => ?_⟩
  · rw [e1, far_snoc t (by omega), kh, decide_eq_false (by rw [lenI_eq]; omega)]; rfl
  rw [List.take_of_length_le (by omega)] at kh
  refine ⟨0, ⟨by omega, by omega, by simp [ill]⟩, ⟨rfl, by omega, by omega⟩, ?_⟩
  rintro j ⟨j0, j1, jh⟩
  have e2 : (j + 1).toNat = j.toNat + 1 := by omega
  have ew2 : IntKind.i64.wrap (j + 1) = j + 1 := wr64 _ (by omega)
  refine ⟨fun hlt => ⟨⟨j0, hlt⟩, ⟨hge j.toNat (by omega), far_no kh (by omega)⟩, fun hr => t2 kh (ill_at (by omega) hr), fun hr => ⟨j + 1, ⟨by omega, by omega, ?_⟩, by omega, ew2, by omega, by omega⟩⟩, fun hg2 => ?_⟩
  · rw [e2, ill_snoc t (by omega), jh, decide_eq_true (show chkR _ = 0 from hr)]; rfl
  · rw [List.take_of_length_le (by omega)] at jh
    exact t1 kh jh
theorem okG48 : PCok Tryd.prog G48 := addPC_ok okG47 okLtl
set_option maxHeartbeats 4000000 in
theorem okLft : CtrOk Tryd.prog 23 kLft := good_of okG48 mixed (fun ((hx, hy, cap, st, en, _), l, t, _) => boaL cap l t) 100 fun ((hx, hy, cap, st, en, _), l, t, _) hf hn => by
  refine ⟨rfl, Eq.mpr (tLft hx hy cap st en l t) ?_⟩
  (simp only [eq_self_iff_true, true_and, and_true, false_and, and_false, Bool.or_not_self, Bool.not_or_self, Bool.cond_self, cond_true, cond_false, Bool.cond_true_right, Bool.cond_true_left, Bool.cond_false_right, Bool.cond_false_left, Bool.or_true, Bool.true_or, Bool.or_false, Bool.false_or, Bool.and_true, Bool.true_and, Bool.and_false, Bool.false_and, Bool.not_not, forall_eq, ← Bool.decide_and, ← Bool.decide_or, ← decide_not, cDecF, cDecT, cDecFl, Decidable.not_not, Bool.not_true, Bool.not_false, Bool.false_eq_true, imp_false, not_true_eq_false, not_false_eq_true, forall_const, true_implies, false_implies, implies_true, decide_true, decide_false]; try simp only [cDec, eq_self_iff_true, true_and, and_true, false_and, and_false, Bool.or_not_self, Bool.not_or_self, Bool.cond_self, cond_true, cond_false, Bool.cond_true_right, Bool.cond_true_left, Bool.cond_false_right, Bool.cond_false_left, Bool.or_true, Bool.true_or, Bool.or_false, Bool.false_or, Bool.and_true, Bool.true_and, Bool.and_false, Bool.false_and, Bool.not_not, forall_eq, ← Bool.decide_and, ← Bool.decide_or, ← decide_not, cDecF, cDecT, cDecFl, Decidable.not_not, Bool.not_true, Bool.not_false, Bool.false_eq_true, imp_false, not_true_eq_false, not_false_eq_true, forall_const, true_implies, false_implies, implies_true, decide_true, decide_false])
  refine ⟨fun h => fit_v h, fun hv => ⟨fun h => fit_t hv h, fun ht => ?_⟩⟩
  obtain ⟨hc, _, _⟩ := told_in ht
  have h16 := (chk_okB hc).1
  have hbt := brd_told ht
  refine ⟨0, ⟨by omega, by omega, by intro z hz; omega⟩, ⟨⟨rfl, by omega, by omega⟩, by simp [brd]⟩, ?_⟩
  rintro k ⟨k0, k1, kh⟩
  have e1 : (k + 1).toNat = k.toNat + 1 := by omega
  have ew : IntKind.i64.wrap (k + 1) = k + 1 := wr64 _ (by omega)
  have hkk : ((k.toNat : Nat) : Int) = k := by omega
  refine ⟨fun hlt => ?_, fun hge => fit_ok hv ht fun j hj => kh j (by omega)⟩
  obtain ⟨q1, q2, q3, q4⟩ := told_at ht (show k.toNat < l.length by omega)
  have hs := brd_snoc t (show k.toNat < l.length by omega)
  have b0 := hbt k.toNat (by omega)
  have b1 := hbt (k.toNat + 1) (by omega)
  have fin : ∀ W, W = brd t (l.take (k.toNat + 1)) → (cap < W → (k = fitA hx hy cap st en l t ∧ -1 ≤ fitA hx hy cap st en l t ∧ fitA hx hy cap st en l t ≤ 1000000) ∧ 10 = fitE hx hy cap st en l t ∧ 0 ≤ fitE hx hy cap st en l t ∧ fitE hx hy cap st en l t ≤ 11) ∧
      (¬ cap < W → ∃ s : Int, (0 ≤ s ∧ s ≤ (l.length : Int) ∧ ∀ (z : Nat), z < s.toNat → fits cap l t z = true) ∧ ((l.length : Int) - s).toNat < ((l.length : Int) - k).toNat ∧ (IntKind.i64.wrap (k + 1) = s ∧ 0 ≤ s ∧ s ≤ 9223372036854775807) ∧ W = brd t (l.take s.toNat) ∧ -100000 ≤ brd t (l.take s.toNat) ∧ brd t (l.take s.toNat) ≤ 100000) := by
    rintro W rfl
    refine ⟨fun h => ?_, fun h => ⟨k + 1, ⟨by omega, by omega, fun z hz => ?_⟩, by omega, ⟨ew, by omega, by omega⟩, by rw [e1], ?_⟩⟩
    · have := fit_full (hx := hx) (hy := hy) (st := st) (en := en) hv ht (by omega) (show k.toNat < l.length by omega) (decide_eq_false (by omega)) kh
      rwa [hkk] at this
    · by_cases g : z = k.toNat
      · subst g; exact decide_eq_true (by omega)
      · exact kh z (by omega)
    · rw [e1]; omega
  refine ⟨⟨k0, hlt⟩, ⟨by omega, by omega⟩, fun hk => ⟨q1, ?_⟩, fun hk => ⟨q1, ?_⟩⟩
  · rw [brd1_0 hk] at hs
    have w1 : IntKind.i64.wrap (1 * geti (t.getD (geti (l.getD k.toNat []) 0).toNat []) 8) = geti (t.getD (geti (l.getD k.toNat []) 0).toNat []) 8 := (wr64 _ (by omega)).trans (by omega)
    rw [w1]
    exact fin _ ((wr64 _ (by omega)).trans (by omega))
  · rw [brd1_1 (by omega)] at hs
    have w1 : IntKind.i64.wrap (-1 * geti (t.getD (geti (l.getD k.toNat []) 0).toNat []) 8) = - geti (t.getD (geti (l.getD k.toNat []) 0).toNat []) 8 := (wr64 _ (by omega)).trans (by omega)
    rw [w1]
    exact fin _ ((wr64 _ (by omega)).trans (by omega))
theorem okG49 : PCok Tryd.prog G49 := addPC_ok okG48 okLft
set_option maxHeartbeats 4000000 in
theorem okCln : CtrOk Tryd.prog 42 kCln := good_of okG49 mixed (fun (xs, _) => noLoops) 100 fun (xs, _) hf hn => by
  refine ⟨rfl, Eq.mpr (tCln xs) ?_⟩
  have hl : lenI xs ≤ 1000000 := of_decide_eq_true hn.1
  rw [lenI_eq] at hl
  (simp only [eq_self_iff_true, true_and, and_true, false_and, and_false, Bool.or_not_self, Bool.not_or_self, Bool.cond_self, cond_true, cond_false, Bool.cond_true_right, Bool.cond_true_left, Bool.cond_false_right, Bool.cond_false_left, Bool.or_true, Bool.true_or, Bool.or_false, Bool.false_or, Bool.and_true, Bool.true_and, Bool.and_false, Bool.false_and, Bool.not_not, forall_eq, ← Bool.decide_and, ← Bool.decide_or, ← decide_not, cDecF, cDecT, cDecFl, Decidable.not_not, Bool.not_true, Bool.not_false, Bool.false_eq_true, imp_false, not_true_eq_false, not_false_eq_true, forall_const, true_implies, false_implies, implies_true, decide_true, decide_false]; try simp only [cDec, eq_self_iff_true, true_and, and_true, false_and, and_false, Bool.or_not_self, Bool.not_or_self, Bool.cond_self, cond_true, cond_false, Bool.cond_true_right, Bool.cond_true_left, Bool.cond_false_right, Bool.cond_false_left, Bool.or_true, Bool.true_or, Bool.or_false, Bool.false_or, Bool.and_true, Bool.true_and, Bool.and_false, Bool.false_and, Bool.not_not, forall_eq, ← Bool.decide_and, ← Bool.decide_or, ← decide_not, cDecF, cDecT, cDecFl, Decidable.not_not, Bool.not_true, Bool.not_false, Bool.false_eq_true, imp_false, not_true_eq_false, not_false_eq_true, forall_const, true_implies, false_implies, implies_true, decide_true, decide_false])
  exact ⟨spE (fun h => (List.eq_nil_of_length_eq_zero h).symm) (fun _ => trivial), by rw [lenI_eq]; omega, rfl⟩
theorem okG50 : PCok Tryd.prog G50 := addPC_ok okG49 okCln
set_option maxHeartbeats 4000000 in
theorem okWo : CtrOk Tryd.prog 21 kWo := good_of okG50 mixed (fun (xs, r, _) => woL xs r) 100 fun (xs, r, _) hf hn => by
  refine ⟨rfl, Eq.mpr (tWo xs r) ?_⟩
  have hl : lenI xs ≤ 1000000 := of_decide_eq_true hn.1
  rw [lenI_eq] at hl
  (simp only [eq_self_iff_true, true_and, and_true, false_and, and_false, Bool.or_not_self, Bool.not_or_self, Bool.cond_self, cond_true, cond_false, Bool.cond_true_right, Bool.cond_true_left, Bool.cond_false_right, Bool.cond_false_left, Bool.or_true, Bool.true_or, Bool.or_false, Bool.false_or, Bool.and_true, Bool.true_and, Bool.and_false, Bool.false_and, Bool.not_not, forall_eq, ← Bool.decide_and, ← Bool.decide_or, ← decide_not, cDecF, cDecT, cDecFl, Decidable.not_not, Bool.not_true, Bool.not_false, Bool.false_eq_true, imp_false, not_true_eq_false, not_false_eq_true, forall_const, true_implies, false_implies, implies_true, decide_true, decide_false]; try simp only [cDec, eq_self_iff_true, true_and, and_true, false_and, and_false, Bool.or_not_self, Bool.not_or_self, Bool.cond_self, cond_true, cond_false, Bool.cond_true_right, Bool.cond_true_left, Bool.cond_false_right, Bool.cond_false_left, Bool.or_true, Bool.true_or, Bool.or_false, Bool.false_or, Bool.and_true, Bool.true_and, Bool.and_false, Bool.false_and, Bool.not_not, forall_eq, ← Bool.decide_and, ← Bool.decide_or, ← decide_not, cDecF, cDecT, cDecFl, Decidable.not_not, Bool.not_true, Bool.not_false, Bool.false_eq_true, imp_false, not_true_eq_false, not_false_eq_true, forall_const, true_implies, false_implies, implies_true, decide_true, decide_false])
  have hC : ∀ (F : List (List Value)), F.length ≤ xs.length → (F ++ xs.drop F.length).length = xs.length := fun F h => by simp; omega

  refine ⟨by rw [lenI_eq]; omega, 0, ⟨by omega, by omega, by simp [hasR]⟩, ⟨rfl, by omega, by omega⟩, ?_⟩
  rintro k ⟨k0, k1, kh⟩
  have e : (k + 1).toNat = k.toNat + 1 := by omega
  have ew : k < (xs.length : Int) → IntKind.i64.wrap (k + 1) = k + 1 := fun _ => wr64 _ (by omega)
  refine ⟨fun hlt => ⟨⟨k0, hlt⟩, fun hr => ?_, fun hr => ⟨k + 1, ⟨by omega, by omega, by rw [e, hasR_snoc r (by omega), kh, decide_eq_false hr]; rfl⟩, by omega, ew hlt, by omega, by omega⟩⟩, fun hge => ?_⟩
  · have hf1 : flt r (xs.take (k.toNat + 1)) = xs.take k.toNat := by rw [flt_snoc r (by omega), decide_eq_true hr, flt_no kh]; simp
    have hl1 : (xs.take k.toNat).length = k.toNat := by simp; omega
    refine ⟨k + 1, ⟨by omega, by omega⟩, ⟨⟨ew hlt, by omega, by omega⟩, by rw [e, hf1, hl1]; omega, by rw [e, hf1, hl1, List.take_append_drop]⟩, ?_⟩
    rintro j ⟨j0, j1⟩
    have e2 : (j + 1).toNat = j.toNat + 1 := by omega
    have ew2 : j < (xs.length : Int) → IntKind.i64.wrap (j + 1) = j + 1 := fun _ => wr64 _ (by omega)
    have hFl : (flt r (xs.take j.toNat)).length ≤ j.toNat := by have := flt_len r (xs.take j.toNat); rw [List.length_take] at this; omega
    have hs := fun h => flt_snoc r (xs := xs) (k := j.toNat) h
    have hff : j.toNat = xs.length → flt r (xs.take j.toNat) = flt r xs := fun h => by rw [h, List.take_length]
    generalize hF : flt r (xs.take j.toNat) = F at hFl hs hff ⊢
    have hCl := hC F (by omega)
    have hg : j < (xs.length : Int) → (F ++ xs.drop F.length).getD j.toNat [] = xs.getD j.toNat [] := fun h => by
      rw [List.getD_eq_getElem?_getD, List.getD_eq_getElem?_getD, List.getElem?_append_right hFl, List.getElem?_drop, show F.length + (j.toNat - F.length) = j.toNat by omega]
    have hset : ∀ x, F.length < xs.length → (F ++ xs.drop F.length).set F.length x = (F ++ [x]) ++ xs.drop (F.length + 1) := fun x h => by
      rw [List.set_append_right _ _ (Nat.le_refl _), Nat.sub_self, List.drop_eq_getElem_cons h, List.set_cons_zero, List.append_assoc]; rfl
    refine ⟨fun hlt2 => ⟨⟨j0, by omega⟩, ?_⟩, fun hge2 => ?_⟩
    · have hlt3 : j < (xs.length : Int) := by omega
      rw [hg hlt3]
      have hw := hf.1.1 _ (getD_in (d := []) (show j.toNat < xs.length by omega))
      refine ⟨fun hr2 => ⟨⟨by omega, by omega⟩, j + 1, ⟨by omega, by omega⟩, by omega, ⟨ew2 hlt3, by omega, by omega⟩, ?_, ?_⟩, fun hr2 => ⟨j + 1, ⟨by omega, by omega⟩, by omega, ⟨ew2 hlt3, by omega, by omega⟩, ?_, ?_⟩⟩
      · have ew4 : IntKind.i64.wrap ((F.length : Int) + 1) = F.length + 1 := wr64 _ (by omega)
        rw [e2, hs (by omega), decide_eq_false hr2, ew4]; simp; omega
      · rw [e2, hs (by omega), decide_eq_false hr2, sk_put hw, Int.toNat_natCast, hset _ (by omega)]; simp
      · rw [e2, hs (by omega), decide_eq_true hr2]; simp
      · rw [e2, hs (by omega), decide_eq_true hr2]; simp
    · have hj : j.toNat = xs.length := by omega
      have hFx := hff hj
      subst hFx
      rw [hCl]
      have hz : fltz r xs = flt r xs ++ List.replicate (xs.length - (flt r xs).length) zS := rfl
      have ht : List.take (0 + ((flt r xs).length : Int).toNat) (flt r xs ++ xs.drop (flt r xs).length) = flt r xs := by rw [Nat.zero_add, Int.toNat_natCast, List.take_left']; rfl
      have hd : List.drop (0 + ((flt r xs).length : Int).toNat + ((xs.length : Int) - (flt r xs).length).toNat) (flt r xs ++ xs.drop (flt r xs).length) = [] := List.drop_eq_nil_of_le (by rw [hCl]; omega)
      rw [ht, hd, hz, show ((xs.length : Int) - (flt r xs).length).toNat = xs.length - (flt r xs).length by omega]
      refine ⟨⟨by omega, by omega, by omega⟩, ⟨by omega, ?_⟩, by omega, by simp [zS]⟩
      simp only [List.length_append, List.length_replicate, List.length_nil]; omega
  · rw [List.take_of_length_le (by omega)] at kh
    have := flt_no kh
    exact ⟨by rw [this], by simp [fltz, this]⟩
theorem okG51 : PCok Tryd.prog G51 := addPC_ok okG50 okWo
end Go.Proofs.YtfhjnececgoadaaDoor
