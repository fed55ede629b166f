/- TraceApart: what is behind its loops, in plain Lean. No condition. -/
import Derived.Test.YtcbmppkejphffaaT5BT
import Derived.Test.YtcbmppkejphffaaV6N
namespace Go.Proofs.Ytcbmppkejphffaa
open Go.Eng
/-- What is owed behind a row that is as it should be. -/
def Tail (R : List (List Value)) (z : Int) : Prop :=
  ∃ s62, N3 R s62 ∧ (1 = s62 ∧ 0 ≤ s62 ∧ s62 ≤ 9223372036854775807) ∧ ∀ (z62 : Int), N3 R z62 →
    (z62 < ↑R.length → (0 ≤ z62 ∧ z62 < ↑R.length) ∧ (0 ≤ z62 - 1 ∧ z62 - 1 < ↑R.length) ∧ ¬geti (R.getD z62.toNat []) 1 < geti (R.getD (z62 - 1).toNat []) 1 ∧
      ∃ s79, N3 R s79 ∧ m3 R s79 < m3 R z62 ∧ IntKind.i64.wrap (z62 + 1) = s79 ∧ 0 ≤ s79 ∧ s79 ≤ 9223372036854775807) ∧
    (¬z62 < ↑R.length → ∃ s69, ZInv R s69 ∧ ((0 = s69.k ∧ 0 ≤ s69.k ∧ s69.k ≤ 9223372036854775807) ∧ R = s69.xs) ∧ ∀ (z69 : TZ), ZInv R z69 →
      (z69.k < ↑z69.xs.length → (0 ≤ z69.k ∧ z69.k < ↑z69.xs.length) ∧ ∃ s78, ZInv R s78 ∧ m4 R s78 < m4 R z69 ∧ (IntKind.i64.wrap (z69.k + 1) = s78.k ∧ 0 ≤ s78.k ∧ s78.k ≤ 9223372036854775807) ∧
        z69.xs.set z69.k.toNat [Value.int IntKind.i64 9, Value.int IntKind.i64 (-9), Value.string { data := #[] }, Value.int IntKind.i64 0, Value.int IntKind.u64 0] = s78.xs) ∧
      (¬z69.k < ↑z69.xs.length → ∃ s78, (0 ≤ s78 ∧ s78 ≤ 8) ∧ (8 - s78).toNat < (8 - z).toNat ∧ IntKind.i64.wrap (z + 1) = s78 ∧ 0 ≤ s78 ∧ s78 ≤ 9223372036854775807))
theorem tail_ok {R : List (List Value)} {z : Int} (hs : Srt R) (hl : R.length ≤ 1000000) (hz : 0 ≤ z ∧ z < 8) : Tail R z := by
  refine ⟨1, ⟨by omega, by omega⟩, ⟨rfl, by omega, by omega⟩, fun k hk => ?_⟩
  have k0 := hk.k0
  have k1 := hk.k1
  refine ⟨fun hlt => ⟨⟨by omega, hlt⟩, ⟨by omega, by omega⟩, ?_, k + 1, ⟨by omega, by omega⟩, by unfold m3; omega, wr64 _ (by omega), by omega, by omega⟩, fun _ => ⟨⟨0, R⟩, ⟨by simp, by simp, rfl⟩, ⟨⟨rfl, by simp, by simp⟩, rfl⟩, ?_⟩⟩
  · have := hs k.toNat (by omega) (by omega)
    rw [show (k - 1).toNat = k.toNat - 1 by omega]
    omega
  · rintro ⟨k, xs⟩ hk
    have j0 := hk.k0
    have j1 := hk.k1
    have j2 := hk.len
    dsimp only at j0 j1 j2 ⊢
    exact ⟨fun hlt => ⟨⟨j0, hlt⟩, ⟨k + 1, _⟩, ⟨by dsimp only; omega, by dsimp only; omega, by dsimp only; rw [List.length_set]; exact j2⟩, by unfold m4; dsimp only; omega, ⟨wr64 _ (by omega), by dsimp only; omega, by dsimp only; omega⟩, rfl⟩, fun _ => ⟨z + 1, ⟨by omega, by omega⟩, by omega, wr64 _ (by omega), by omega, by omega⟩⟩
theorem srt_snoc {l : List (List Value)} {k t : Int} {b : ByteArray} {r n : Int} (h : Srt l) (ht : tickT l t = true) : Srt (l ++ [sawV k t b r n]) := by
  intro j h0 hj
  rw [List.length_append, List.length_singleton] at hj
  by_cases hlt : j < l.length
  · have e1 : (l ++ [sawV k t b r n]).getD (j - 1) [] = l.getD (j - 1) [] := by
      rw [List.getD_eq_getElem?_getD, List.getElem?_append_left (by omega), ← List.getD_eq_getElem?_getD]
    have e2 : (l ++ [sawV k t b r n]).getD j [] = l.getD j [] := by
      rw [List.getD_eq_getElem?_getD, List.getElem?_append_left hlt, ← List.getD_eq_getElem?_getD]
    rw [e1, e2]
    exact h j h0 hlt
  · have e0 : j = l.length := by omega
    subst e0
    have e1 : (l ++ [sawV k t b r n]).getD (l.length - 1) [] = l.getD (l.length - 1) [] := by
      rw [List.getD_eq_getElem?_getD, List.getElem?_append_left (by omega), ← List.getD_eq_getElem?_getD]
    have e2 : (l ++ [sawV k t b r n]).getD l.length [] = sawV k t b r n := by simp
    rw [e1, e2]
    unfold tickT at ht
    rw [decide_eq_false (by omega)] at ht
    simp only [cond_false, decide_eq_true_eq] at ht
    exact ht
theorem rowK_set {css : Rows4} {c z : Int} {l : List (List Value)} (hc : 0 ≤ c ∧ c < css.length) (hz : 0 ≤ z) : rowK (css.set c.toNat [l]) z = if z = c then l else rowK css z := by
  unfold rowK
  by_cases e : z = c
  · subst e
    rw [if_pos rfl, List.getD_eq_getElem?_getD (l := css.set _ _), List.getElem?_set_self (by omega)]; rfl
  · rw [if_neg e, List.getD_eq_getElem?_getD (l := css.set _ _), List.getElem?_set_ne (by omega), ← List.getD_eq_getElem?_getD]
theorem rowO_in {css : Rows4} {c : Int} (hc : 0 ≤ c ∧ c < css.length) : rowO css c = rowK css c := by
  unfold rowO; rw [← Bool.decide_and, decide_eq_true hc]; rfl
theorem addS_apart {css : Rows4} {c k t i : Int} {b : ByteArray} {r n : Int} (h8 : css.length = 8) (h1 : ∀ x ∈ css, x.length = 1) (h2 : ∀ x ∈ css, ∀ l ∈ x, (l.length : Int) ≤ i ∧ Srt l) (hc : 0 ≤ c ∧ c < 8) :
    (addS (addC (tickT (rowK css c) t) css c k b r n) css c (sawV k t b r n)).length = 8 ∧ (∀ x ∈ addS (addC (tickT (rowK css c) t) css c k b r n) css c (sawV k t b r n), x.length = 1) ∧
    (∀ x ∈ addS (addC (tickT (rowK css c) t) css c k b r n) css c (sawV k t b r n), ∀ l ∈ x, (l.length : Int) ≤ i + 1 ∧ Srt l) ∧
    (addC (tickT (rowK css c) t) css c k b r n = 0 → rowO (addS (addC (tickT (rowK css c) t) css c k b r n) css c (sawV k t b r n)) c = rowK css c ++ [[Value.int IntKind.i64 k, Value.int IntKind.i64 t, Value.string b, Value.int IntKind.i64 r, Value.int IntKind.u64 n]]) ∧
    (∀ z, 0 ≤ z ∧ z < 8 → ¬(z = c ∧ addC (tickT (rowK css c) t) css c k b r n = 0) → rowO (addS (addC (tickT (rowK css c) t) css c k b r n) css c (sawV k t b r n)) z = rowK css z) := by
  have hc' : 0 ≤ c ∧ c < css.length := by omega
  by_cases h0 : addC (tickT (rowK css c) t) css c k b r n = 0
  · have ht := (addC_0 h0).2
    rw [h0, addS_ok]
    have hk : c.toNat < css.length := by omega
    have hm : css.getD c.toNat [] ∈ css := by rw [List.getD_eq_getElem?_getD, List.getElem?_eq_getElem hk]; exact List.getElem_mem _
    have hl : ((rowK css c).length : Int) ≤ i ∧ Srt (rowK css c) := by
      have := h1 _ hm
      have e : rowK css c ∈ css.getD c.toNat [] := by
        unfold rowK
        rw [List.getD_eq_getElem?_getD (l := css.getD c.toNat []), List.getElem?_eq_getElem (by omega)]; exact List.getElem_mem _
      exact h2 _ hm _ e
    refine ⟨by rw [List.length_set]; exact h8, fun x hx => ?_, fun x hx l hl' => ?_, fun _ => ?_, fun z hz hn => ?_⟩
    · rcases List.mem_or_eq_of_mem_set hx with h | h
      · exact h1 x h
      · rw [h]; rfl
    · rcases List.mem_or_eq_of_mem_set hx with h | h
      · have := h2 x h l hl'; exact ⟨by omega, this.2⟩
      · rw [h] at hl'
        simp only [List.mem_singleton] at hl'
        subst hl'
        exact ⟨by simp; omega, srt_snoc hl.2 ht⟩
    · rw [rowO_in (by rw [List.length_set]; exact hc'), rowK_set hc' hc.1, if_pos rfl]; rfl
    · rw [rowO_in (by rw [List.length_set]; omega), rowK_set hc' hz.1, if_neg (fun e => hn ⟨e, rfl⟩)]
  · rw [addS_ne h0]
    exact ⟨h8, h1, fun x hx l hl => by have := h2 x hx l hl; exact ⟨by omega, this.2⟩, fun e => absurd e h0, fun z hz _ => rowO_in (by omega)⟩
end Go.Proofs.Ytcbmppkejphffaa
