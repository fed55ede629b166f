/- RouteOne: routes with one request more, in plain Lean. No condition. -/
import Derived.Test.YtbkninekhmnfdaaR6OT
namespace Go.Proofs.Ytbkninekhmnfdaa
open Go.Eng
theorem rowI_length (l : List (List Value)) (i : Int) (m : Nat) : (rowI l i m).length = m := by simp [rowI]
theorem rowI_get (l : List (List Value)) (i : Int) {m k : Nat} (h : k < m) : (rowI l i m).getD k [] = [wth l 9 i (i + k)] := by
  unfold rowI
  rw [List.getD_eq_getElem?_getD, List.getElem?_map, List.getElem?_range h]; rfl
theorem wth_idx {l : List (List Value)} {i j : Int} (h : wOk l 9 i j = true) : idx 9 0 (wth l 9 i j) = i ∧ idx 9 1 (wth l 9 i j) = j + 1 := by
  obtain ⟨A, B, C, e1, e2, e3, e4⟩ := wth_parts h
  have hn := (wOk_iff.1 h).2.2.2.2.2
  rw [e1, hasR_append, hasR_append, Bool.or_eq_false_iff, Bool.or_eq_false_iff] at hn
  have := idx_ins (C := C) hn.1 hn.2.1
  rw [e2]
  exact ⟨by rw [this.1]; exact e3, by rw [this.2]; omega⟩
theorem wth_inj {l : List (List Value)} {i j a b : Int} (h : wOk l 9 i j = true) (k : wOk l 9 a b = true) (e : wth l 9 a b = wth l 9 i j) : a = i ∧ b = j := by
  have h1 := wth_idx h
  have h2 := wth_idx k
  rw [e] at h2
  omega
theorem allI_get (l : List (List Value)) : ∀ (i : Nat) {k : Nat}, i ≤ l.length + 1 → k < (allI l i).length → ∃ a b : Int, (allI l i).getD k [] = [wth l 9 a b] ∧ 0 ≤ a ∧ a < i ∧ a ≤ b ∧ b ≤ l.length
  | 0, k, _, h => by simp [allI] at h
  | i + 1, k, hi, h => by
    simp only [allI, List.length_append, rowI_length] at h
    by_cases hk : k < (allI l i).length
    · obtain ⟨a, b, e, h1, h2, h3, h4⟩ := allI_get l i (by omega) hk
      refine ⟨a, b, ?_, h1, by omega, h3, h4⟩
      rw [allI, List.getD_eq_getElem?_getD, List.getElem?_append_left hk, ← List.getD_eq_getElem?_getD]; exact e
    · refine ⟨i, i + ((k - (allI l i).length : Nat) : Int), ?_, by omega, by omega, by omega, by omega⟩
      rw [allI, List.getD_eq_getElem?_getD, List.getElem?_append_right (by omega), ← List.getD_eq_getElem?_getD, rowI_get l i (by omega)]
theorem getD_l {α : Type} {a b : List α} {k : Nat} {d : α} (h : k < a.length) : (a ++ b).getD k d = a.getD k d := by
  rw [List.getD_eq_getElem?_getD, List.getElem?_append_left h, ← List.getD_eq_getElem?_getD]
theorem getD_r {α : Type} {a b : List α} {k : Nat} {d : α} (h : a.length ≤ k) : (a ++ b).getD k d = b.getD (k - a.length) d := by
  rw [List.getD_eq_getElem?_getD, List.getElem?_append_right h, ← List.getD_eq_getElem?_getD]
theorem partJ_ne {l : List (List Value)} {i j : Int} (h9 : hasR 9 l = false) (hl : l.length ≤ 14) (hi : 0 ≤ i) (hij : i ≤ j) (hj : j ≤ l.length) {k : Nat} (hk : k < (partJ l i j).length) : ((partJ l i j).getD k []).getD 0 [] ≠ wth l 9 i j := by
  have ok : ∀ a b : Int, 0 ≤ a → a ≤ b → b ≤ l.length → wOk l 9 a b = true := fun a b h1 h2 h3 => wOk_iff.2 ⟨h1, h2, h3, by decide, by omega, h9⟩
  unfold partJ at hk ⊢
  rw [List.length_append, rowI_length] at hk
  by_cases hk1 : k < (allI l i.toNat).length
  · obtain ⟨a, b, e, h1, h2, h3, h4⟩ := allI_get l i.toNat (by omega) hk1
    rw [getD_l hk1, e]
    intro he
    have := wth_inj (ok i j hi hij hj) (ok a b h1 h3 h4) he
    omega
  · rw [getD_r (by omega), rowI_get l i (by omega)]
    intro he
    have := wth_inj (ok i j hi hij hj) (ok i (i + ((k - (allI l i.toNat).length : Nat) : Int)) hi (by omega) (by omega)) he
    omega
theorem partJ_start (l : List (List Value)) (i : Int) : partJ l i i = allI l i.toNat := by
  unfold partJ
  rw [show (i - i).toNat = 0 by omega]; simp [rowI]
theorem partJ_snoc {l : List (List Value)} {i j : Int} (hij : i ≤ j) : partJ l i j ++ [[wth l 9 i j]] = partJ l i (j + 1) := by
  unfold partJ rowI
  rw [show (j + 1 - i).toNat = (j - i).toNat + 1 by omega, List.range_succ, List.map_append, ← List.append_assoc]
  simp only [List.map_cons, List.map_nil]
  rw [show i + ((j - i).toNat : Int) = j by omega]
theorem partJ_end {l : List (List Value)} {i : Int} (hi : 0 ≤ i) (hl : i ≤ l.length) : partJ l i (l.length + 1) = allI l (i + 1).toNat := by
  obtain ⟨n, rfl⟩ := Int.eq_ofNat_of_zero_le hi
  unfold partJ
  rw [show ((n : Int) + 1).toNat = n + 1 by omega, allI, show ((l.length : Int) + 1 - n).toNat = l.length + 1 - n by omega]
  rfl
def cntI (n : Nat) : Nat → Nat
  | 0 => 0
  | i + 1 => cntI n i + (n + 1 - i)
theorem allI_length (l : List (List Value)) : ∀ i, (allI l i).length = cntI l.length i
  | 0 => rfl
  | i + 1 => by rw [allI, List.length_append, rowI_length, allI_length l i]; rfl
theorem cnt_all : ∀ n, n < 7 → 2 * cntI n (n + 1) = (n + 1) * (n + 2) := by decide
theorem cnt_le : ∀ n, n < 7 → ∀ i, i < n + 2 → cntI n i ≤ 1000 := by decide
theorem ol_len (x : List (List Value)) : (ol x).length ≤ 6 ∧ hasR 9 (ol x) = false := by
  have hm := made_ok (x.take 6)
  have hk := hm.len
  have : (x.take 6).length ≤ 6 := by simp; omega
  refine ⟨?_, hm.new 9 (by omega)⟩
  show (made (x.take 6)).length ≤ 6
  omega
theorem ol_eq (x : List (List Value)) : made (List.take (min (x.length : Int) 6 - 0).toNat (List.drop 0 x)) = ol x := by
  unfold ol
  rw [List.drop_zero]
  by_cases h : x.length ≤ 6
  · rw [List.take_of_length_le (by omega), List.take_of_length_le (by omega)]
  · congr 2; omega
end Go.Proofs.Ytbkninekhmnfdaa
