/- These contracts hold. No condition. -/
import Derived.Test.YtcbmppkejphffaaT5T
import Derived.Test.YtcbmppkejphffaaV6N
namespace Go.Proofs.Ytcbmppkejphffaa
open Go.Eng
set_option linter.unusedSimpArgs false
theorem addC_out {tick : Bool} {css : Rows4} {c k : Int} {b : ByteArray} {r n : Int} (h : ¬ (0 ≤ c ∧ c < css.length)) : addC tick css c k b r n = 12 := by
  unfold addC
  rw [← Bool.decide_and, decide_eq_false h]; rfl
theorem addC_in {tick : Bool} {css : Rows4} {c k : Int} {b : ByteArray} {r n : Int} (h : 0 ≤ c ∧ c < css.length) : addC tick css c k b r n = cond (tick && mayB k b r n) 0 2 := by
  unfold addC
  rw [← Bool.decide_and, decide_eq_true h]; rfl
theorem addS_ne {code : Int} {css : Rows4} {c : Int} {v : List Value} (h : code ≠ 0) : addS code css c v = css := by
  unfold addS; rw [decide_eq_false h]; rfl
theorem addS_ok {css : Rows4} {c : Int} {v : List Value} : addS 0 css c v = css.set c.toNat [rowK css c ++ [v]] := rfl
theorem el1 {css : Rows4} (h : ∀ x ∈ css, x.length = 1) {c : Int} (hc : 0 ≤ c ∧ c < css.length) (X : List (List Value)) : List.take 0 (css.getD c.toNat []) ++ [X] ++ List.drop (0 + [X].length) (css.getD c.toNat []) = [X] := by
  have hk : c.toNat < css.length := by omega
  have hl : (css.getD c.toNat []).length = 1 := h _ (by rw [List.getD_eq_getElem?_getD, List.getElem?_eq_getElem hk]; exact List.getElem_mem _)
  rw [List.take_zero, List.drop_of_length_le (by rw [hl]; simp)]
  simp
theorem addFin {css : Rows4} {c k t : Int} {b : ByteArray} {r n : Int} {q : Bool} (hc : 0 ≤ c ∧ c < css.length) (h1 : ∀ x ∈ css, x.length = 1) (hlen : (rowK css c).length ≤ 1000000) : ∀ p : Bool, (q && mayB k b r n) = !p → bif p then
    (2 = addC q css c k b r n ∧ 0 ≤ addC q css c k b r n ∧ addC q css c k b r n ≤ 12) ∧ css = addS (addC q css c k b r n) css c (sawV k t b r n)
  else (0 ≤ c ∧ c < ↑css.length) ∧ ((rowK css c).length : Int) ≤ 1466015503701 ∧ (0 ≤ c ∧ c < ↑css.length) ∧
    (0 = addC q css c k b r n ∧ 0 ≤ addC q css c k b r n ∧ addC q css c k b r n ≤ 12) ∧
    css.set c.toNat (List.take 0 (css.getD c.toNat []) ++ [rowK css c ++ [[Value.int IntKind.i64 k, Value.int IntKind.i64 t, Value.string b, Value.int IntKind.i64 r, Value.int IntKind.u64 n]]] ++
      List.drop (0 + [rowK css c ++ [[Value.int IntKind.i64 k, Value.int IntKind.i64 t, Value.string b, Value.int IntKind.i64 r, Value.int IntKind.u64 n]]].length) (css.getD c.toNat [])) = addS (addC q css c k b r n) css c (sawV k t b r n) := by
  intro p hp
  rw [addC_in hc, hp]
  cases p with
  | true => exact ⟨⟨rfl, by decide, by decide⟩, (addS_ne (by decide)).symm⟩
  | false =>
    refine ⟨hc, by omega, hc, ⟨rfl, by decide, by decide⟩, ?_⟩
    rw [el1 h1 hc]
    rfl

theorem rowK_all {css : Rows4} {P : List (List Value) → Prop} (h0 : P []) (h : ∀ x ∈ css, ∀ l ∈ x, P l) (c : Int) : P (rowK css c) := by
  unfold rowK
  rw [List.getD_eq_getElem?_getD (l := css)]
  cases hx : css[c.toNat]? with
  | none => exact h0
  | some x =>
    rw [Option.getD_some, List.getD_eq_getElem?_getD]
    cases hl : x[0]? with
    | none => exact h0
    | some l => exact h x (List.mem_of_getElem? hx) l (List.mem_of_getElem? hl)
theorem tick_eq {l : List (List Value)} {t : Int} (h : l.length = 0 ∨ 0 ≤ lastT l) : tickT l t = tickB l t := by
  unfold tickT tickB
  by_cases h0 : l.length = 0
  · rw [decide_eq_true h0]; cases decide (0 ≤ t) <;> rfl
  · rw [decide_eq_false h0, cond_false, Bool.false_or, ← Bool.decide_and]
    exact decide_eq_decide.2 (by omega)
theorem addC_0 {tick : Bool} {css : Rows4} {c k : Int} {b : ByteArray} {r n : Int} (h : addC tick css c k b r n = 0) : (0 ≤ c ∧ c < css.length) ∧ tick = true := by
  by_cases hc : 0 ≤ c ∧ c < css.length
  · rw [addC_in hc] at h
    cases tick with
    | true => exact ⟨hc, rfl⟩
    | false => simp at h
  · rw [addC_out hc] at h; omega
theorem addS_inv {css : Rows4} {c k t i : Int} {b : ByteArray} {r n : Int} (h1 : ∀ x ∈ css, x.length = 1) (h2 : ∀ x ∈ css, ∀ l ∈ x, (l.length : Int) ≤ i ∧ (l.length = 0 ∨ 0 ≤ lastT l)) :
    (∀ x ∈ addS (addC (tickB (rowK css c) t) css c k b r n) css c (sawV k t b r n), x.length = 1) ∧ ∀ x ∈ addS (addC (tickB (rowK css c) t) css c k b r n) css c (sawV k t b r n), ∀ l ∈ x, (l.length : Int) ≤ i + 1 ∧ (l.length = 0 ∨ 0 ≤ lastT l) := by
  by_cases h0 : addC (tickB (rowK css c) t) css c k b r n = 0
  · obtain ⟨hc, ht⟩ := addC_0 h0
    rw [h0, addS_ok]
    have hk : c.toNat < css.length := by omega
    have hm : css.getD c.toNat [] ∈ css := by rw [List.getD_eq_getElem?_getD, List.getElem?_eq_getElem hk]; exact List.getElem_mem _
    have hl : ((rowK css c).length : Int) ≤ i := by
      have := h1 _ hm
      have e : rowK css c ∈ css.getD c.toNat [] := by
        unfold rowK
        rw [List.getD_eq_getElem?_getD (l := css.getD c.toNat []), List.getElem?_eq_getElem (by omega)]; exact List.getElem_mem _
      exact (h2 _ hm _ e).1
    refine ⟨fun x hx => ?_, fun x hx l hl' => ?_⟩
    · rcases List.mem_or_eq_of_mem_set hx with h | h
      · exact h1 x h
      · rw [h]; rfl
    · rcases List.mem_or_eq_of_mem_set hx with h | h
      · have := h2 x h l hl'; omega
      · rw [h] at hl'
        simp only [List.mem_singleton] at hl'
        subst hl'
        refine ⟨by simp; omega, .inr ?_⟩
        have e : lastT (rowK css c ++ [sawV k t b r n]) = t := by
          unfold lastT
          simp [sawV, geti]
        rw [e]
        unfold tickB at ht
        simp only [Bool.and_eq_true, decide_eq_true_eq] at ht
        exact ht.1
  · rw [addS_ne h0]
    exact ⟨h1, fun x hx l hl => by have := h2 x hx l hl; omega⟩
set_option maxHeartbeats 4000000 in
theorem okTad : CtrOk Try.prog 11 kTad := good_ofM okG7 mixed (fun ((css, _), c, (k, t, b, r, n, _), _) => noLoops) 200 fun ((css, _), c, (k, t, b, r, n, _), _) hf hn => by
  refine ⟨rfl, Eq.mpr (tTad css c k t b r n) ?_⟩
  have h1 : ∀ x ∈ css, x.length = 1 := hf.1.1.1
  have hlen : (rowK css c).length ≤ 1000000 := by simpa [allNeed] using hn
  (simp only [eq_self_iff_true, true_and, and_true, false_and, and_false, Bool.or_not_self, Bool.not_or_self, Bool.cond_self, cond_true, cond_false, Bool.cond_true_right, Bool.cond_true_left, Bool.cond_false_right, Bool.cond_false_left, Bool.or_true, Bool.true_or, Bool.or_false, Bool.false_or, Bool.and_true, Bool.true_and, Bool.and_false, Bool.false_and, Bool.not_not, forall_eq, ← Bool.decide_and, ← Bool.decide_or, ← decide_not, cDecF, cDecT, cDecFl, Decidable.not_not, Bool.not_true, Bool.not_false, Bool.false_eq_true, imp_false, not_true_eq_false, not_false_eq_true, forall_const, true_implies, false_implies, implies_true, decide_true, decide_false]; try simp only [cDec, eq_self_iff_true, true_and, and_true, false_and, and_false, Bool.or_not_self, Bool.not_or_self, Bool.cond_self, cond_true, cond_false, Bool.cond_true_right, Bool.cond_true_left, Bool.cond_false_right, Bool.cond_false_left, Bool.or_true, Bool.true_or, Bool.or_false, Bool.false_or, Bool.and_true, Bool.true_and, Bool.and_false, Bool.false_and, Bool.not_not, forall_eq, ← Bool.decide_and, ← Bool.decide_or, ← decide_not, cDecF, cDecT, cDecFl, Decidable.not_not, Bool.not_true, Bool.not_false, Bool.false_eq_true, imp_false, not_true_eq_false, not_false_eq_true, forall_const, true_implies, false_implies, implies_true, decide_true, decide_false])
  have e : (css.getD c.toNat []).getD 0 [] = rowK css c := rfl
  simp only [e, lenI_eq]
  refine ⟨fun h => ?_, fun h => ?_⟩
  · have hc : ¬ (0 ≤ c ∧ c < css.length) := by omega
    rw [addC_out hc, addS_ne (by omega)]
    exact ⟨⟨rfl, by omega, by omega⟩, rfl⟩
  · have hc : 0 ≤ c ∧ c < css.length := by omega
    refine ⟨hc, fun hl => ⟨hc, by omega, ?_⟩, fun hl => ?_⟩
    · refine addFin hc h1 hlen _ ?_
      have e1 : tickT (rowK css c) t = !decide (t < geti ((rowK css c).getD ((rowK css c).length - 1 : Int).toNat []) 1) := by
        unfold tickT
        rw [decide_eq_false (by omega), ← decide_not]
        show decide _ = decide _
        have : (((rowK css c).length : Int) - 1).toNat = (rowK css c).length - 1 := by omega
        rw [this]
        refine decide_eq_decide.2 ⟨fun h => by unfold lastT at h; omega, fun h => by unfold lastT; omega⟩
      rw [e1]
      cases decide (t < geti ((rowK css c).getD ((rowK css c).length - 1 : Int).toNat []) 1) <;> cases mayB k b r n <;> rfl
    · refine addFin hc h1 hlen _ ?_
      have e1 : tickT (rowK css c) t = !decide (t < 0) := by
        unfold tickT
        rw [decide_eq_true (by omega), ← decide_not]
        exact decide_eq_decide.2 (by omega)
      rw [e1]
      cases decide (t < 0) <;> cases mayB k b r n <;> rfl
theorem okG8 : PCok Try.prog G8 := addPC_ok okG7 okTad
set_option maxHeartbeats 4000000 in
theorem okTar : CtrOk Try.prog 12 kTar := good_ofM okG8 mixed (fun ((css, _), c, (k, t, b, r, n, _), _) => noLoops) 200 fun ((css, _), c, (k, t, b, r, n, _), _) hf hn => by
  refine ⟨rfl, Eq.mpr (tTar css c k t b r n) ?_⟩
  have h1 : ∀ x ∈ css, x.length = 1 := hf.1.1.1
  have hlen : (rowK css c).length ≤ 1000000 := by simpa [allNeed] using hn
  (simp only [eq_self_iff_true, true_and, and_true, false_and, and_false, Bool.or_not_self, Bool.not_or_self, Bool.cond_self, cond_true, cond_false, Bool.cond_true_right, Bool.cond_true_left, Bool.cond_false_right, Bool.cond_false_left, Bool.or_true, Bool.true_or, Bool.or_false, Bool.false_or, Bool.and_true, Bool.true_and, Bool.and_false, Bool.false_and, Bool.not_not, forall_eq, ← Bool.decide_and, ← Bool.decide_or, ← decide_not, cDecF, cDecT, cDecFl, Decidable.not_not, Bool.not_true, Bool.not_false, Bool.false_eq_true, imp_false, not_true_eq_false, not_false_eq_true, forall_const, true_implies, false_implies, implies_true, decide_true, decide_false]; try simp only [cDec, eq_self_iff_true, true_and, and_true, false_and, and_false, Bool.or_not_self, Bool.not_or_self, Bool.cond_self, cond_true, cond_false, Bool.cond_true_right, Bool.cond_true_left, Bool.cond_false_right, Bool.cond_false_left, Bool.or_true, Bool.true_or, Bool.or_false, Bool.false_or, Bool.and_true, Bool.true_and, Bool.and_false, Bool.false_and, Bool.not_not, forall_eq, ← Bool.decide_and, ← Bool.decide_or, ← decide_not, cDecF, cDecT, cDecFl, Decidable.not_not, Bool.not_true, Bool.not_false, Bool.false_eq_true, imp_false, not_true_eq_false, not_false_eq_true, forall_const, true_implies, false_implies, implies_true, decide_true, decide_false])
  have e : (css.getD c.toNat []).getD 0 [] = rowK css c := rfl
  simp only [e, lenI_eq]
  refine ⟨fun h => ?_, fun h => ?_⟩
  · have hc : ¬ (0 ≤ c ∧ c < css.length) := by omega
    rw [addC_out hc, addS_ne (by omega)]
    exact ⟨⟨rfl, by omega, by omega⟩, rfl⟩
  · have hc : 0 ≤ c ∧ c < css.length := by omega
    exact ⟨hc, addFin hc h1 hlen _ (by rw [Bool.not_not])⟩
theorem okG9 : PCok Try.prog G9 := addPC_ok okG8 okTar
set_option maxHeartbeats 4000000 in
theorem okTof : CtrOk Try.prog 14 kTof := good_ofM okG9 mixed (fun ((css, _), c, _) => noLoops) 200 fun ((css, _), c, _) hf hn => by
  refine ⟨rfl, Eq.mpr (tTof css c) ?_⟩
  have hlen : (rowK css c).length ≤ 1000000 := by simpa [allNeed] using hn
  (simp only [eq_self_iff_true, true_and, and_true, false_and, and_false, Bool.or_not_self, Bool.not_or_self, Bool.cond_self, cond_true, cond_false, Bool.cond_true_right, Bool.cond_true_left, Bool.cond_false_right, Bool.cond_false_left, Bool.or_true, Bool.true_or, Bool.or_false, Bool.false_or, Bool.and_true, Bool.true_and, Bool.and_false, Bool.false_and, Bool.not_not, forall_eq, ← Bool.decide_and, ← Bool.decide_or, ← decide_not, cDecF, cDecT, cDecFl, Decidable.not_not, Bool.not_true, Bool.not_false, Bool.false_eq_true, imp_false, not_true_eq_false, not_false_eq_true, forall_const, true_implies, false_implies, implies_true, decide_true, decide_false]; try simp only [cDec, eq_self_iff_true, true_and, and_true, false_and, and_false, Bool.or_not_self, Bool.not_or_self, Bool.cond_self, cond_true, cond_false, Bool.cond_true_right, Bool.cond_true_left, Bool.cond_false_right, Bool.cond_false_left, Bool.or_true, Bool.true_or, Bool.or_false, Bool.false_or, Bool.and_true, Bool.true_and, Bool.and_false, Bool.false_and, Bool.not_not, forall_eq, ← Bool.decide_and, ← Bool.decide_or, ← decide_not, cDecF, cDecT, cDecFl, Decidable.not_not, Bool.not_true, Bool.not_false, Bool.false_eq_true, imp_false, not_true_eq_false, not_false_eq_true, forall_const, true_implies, false_implies, implies_true, decide_true, decide_false])
  refine ⟨fun h => ?_, fun h => ⟨by omega, hlen, ?_⟩⟩
  · unfold rowO
    rw [← Bool.decide_and, decide_eq_false (by omega)]; rfl
  · unfold rowO
    rw [← Bool.decide_and, decide_eq_true (by omega)]; rfl
theorem okG10 : PCok Try.prog G10 := addPC_ok okG9 okTof
end Go.Proofs.Ytcbmppkejphffaa
