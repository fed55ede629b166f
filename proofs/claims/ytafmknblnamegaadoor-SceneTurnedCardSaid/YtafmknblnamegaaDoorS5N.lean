/- A scene that may be, in which one more carrier owns a request: it may not be. No condition. -/
import Derived.Test.YtafmknblnamegaaDoorS5M
namespace Go.Proofs.YtafmknblnamegaaDoor
open Go.Eng
set_option linter.unusedSimpArgs false

theorem first_ne {f : Nat → Int} : ∀ {n : Nat}, (∃ j, j < n ∧ f j ≠ 0) → ∃ k, k < n ∧ (∀ j, j < k → f j = 0) ∧ f k ≠ 0
  | 0, ⟨j, h, _⟩ => by omega
  | n + 1, ⟨j, h, hne⟩ => by
    by_cases hex : ∃ j, j < n ∧ f j ≠ 0
    · obtain ⟨k, h1, h2, h3⟩ := first_ne hex
      exact ⟨k, by omega, h2, h3⟩
    · have hz : ∀ i, i < n → f i = 0 := fun i hi => Classical.byContradiction fun hh => hex ⟨i, hi, hh⟩
      have e : j = n := by
        rcases Nat.lt_or_ge j n with g | g
        · exact absurd (hz j g) hne
        · omega
      subst e
      exact ⟨j, by omega, hz, hne⟩
theorem scanE_two {f : Nat → Int} {v : Int} : ∀ {n : Nat}, (∀ i, i < n → f i = 0 ∨ f i = v) → scanE f n = 0 ∨ scanE f n = v
  | 0, _ => .inl rfl
  | n + 1, h => by
    unfold scanE
    by_cases hz : scanE f n = 0
    · rw [if_pos hz]; exact h n (by omega)
    · rw [if_neg hz]; exact scanE_two fun i hi => h i (by omega)
theorem scanE_ne {f : Nat → Int} {n i : Nat} (hi : i < n) (h : f i ≠ 0) : scanE f n ≠ 0 := by
  obtain ⟨k, h1, h2, h3⟩ := first_ne ⟨i, hi, h⟩
  rw [scanE_hit h2 h3 h1]; exact h3
theorem mem_ownTo (cs : Fm) (c i : Nat) (hc : c ≤ cs.length) (r : Int) : r ∈ ownTo cs c i ↔ (∃ c2, c2 < c ∧ r ∈ isOf (cs.getD c2 [])) ∨ r ∈ (isOf (cs.getD c [])).take i := by
  unfold ownTo
  rw [isOf_take, List.mem_append, mem_ownAll_take cs r c hc]
theorem getD_set {α : Type} {l : List α} {c j : Nat} {v d : α} (hc : c < l.length) : (l.set c v).getD j d = if j = c then v else l.getD j d := by
  rw [List.getD_eq_getElem?_getD, List.getElem?_set]
  by_cases h : j = c
  · subst h; rw [if_pos rfl, if_pos rfl, if_pos hc]; rfl
  · rw [if_neg (Ne.symm h), if_neg h, List.getD_eq_getElem?_getD]
section
variable {ts : Rw} {cs : Fm} {ls : Rw} {a b d : Int} {ds : Fm} {w : Nat → Nat}
theorem more_fault (M : May ts cs ls a b d ds w) {c : Nat} (hc : c < cs.length) {r : Nat} (hr : r < ts.length) :
    ∃ k : Nat, c ≤ k ∧ k < cs.length ∧ ckF ts (cs.set c [fle (cs.getD c []), own (cs.getD c []) ++ [[Value.int .i64 (r : Int)]]]) ls a b d ds = ⟨13, 2, k⟩ := by
  generalize hcs' : cs.set c [fle (cs.getD c []), own (cs.getD c []) ++ [[Value.int .i64 (r : Int)]]] = cs'
  have hlen : cs'.length = cs.length := by rw [← hcs', List.length_set]
  have hget : ∀ j, cs'.getD j [] = if j = c then [fle (cs.getD c []), own (cs.getD c []) ++ [[Value.int .i64 (r : Int)]]] else cs.getD j [] := fun j => by rw [← hcs']; exact getD_set hc
  have hgc : cs'.getD c [] = [fle (cs.getD c []), own (cs.getD c []) ++ [[Value.int .i64 (r : Int)]]] := by rw [hget, if_pos rfl]
  have hgn : ∀ j, j ≠ c → cs'.getD j [] = cs.getD j [] := fun j hj => by rw [hget, if_neg hj]
  have hfle : ∀ j, fle (cs'.getD j []) = fle (cs.getD j []) := fun j => by
    by_cases h : j = c
    · subst h; rw [hgc]; rfl
    · rw [hgn j h]
  have hic : isOf (cs'.getD c []) = isOf (cs.getD c []) ++ [(r : Int)] := by
    rw [hgc]; show List.map _ (own (cs.getD c []) ++ [[Value.int .i64 (r : Int)]]) = _
    rw [List.map_append]; rfl
  have hoc : (own (cs'.getD c [])).length = (own (cs.getD c [])).length + 1 := by
    rw [hgc]; show (own (cs.getD c []) ++ [[Value.int .i64 (r : Int)]]).length = _
    rw [List.length_append]; rfl
  have hcn : cnF ts cs' ls ds = 0 := by have := M.cn; unfold cnF at this ⊢; rw [hlen]; exact this
  have hct : ∀ j, j < cs'.length → cntE cs' j = 0 := fun j hj => by have := M.ct j (by omega); unfold cntE at this ⊢; rw [hfle]; exact this
  have hve : ∀ j, j < cs'.length → scanE (vesE cs' j) (fle (cs'.getD j [])).length = 0 := fun j hj => scanE_none fun i hi => by
    have := M.ve j (by omega) i (by rw [← hfle]; exact hi)
    unfold vesE at this ⊢; rw [hfle]; exact this
  have hca : ∀ j, j < cs'.length → carE ts cs' j = scanE (owE ts cs' j) (own (cs'.getD j [])).length := fun j hj => by unfold carE; rw [if_pos (hve j hj)]
  have hin : ∀ j, j < cs'.length → ∀ x : Int, x ∈ isOf (cs'.getD j []) → 0 ≤ x ∧ x < (ts.length : Int) := fun j hj x hx => by
    have old : ∀ y, y ∈ isOf (cs.getD j []) → 0 ≤ y ∧ y < (ts.length : Int) := fun y hy => by
      obtain ⟨q, q1, q2, _⟩ := (M.pa.mem j (by omega) y).1 hy; omega
    by_cases h : j = c
    · subst h
      rw [hic, List.mem_append, List.mem_singleton] at hx
      rcases hx with hx | rfl
      · exact old x hx
      · omega
    · rw [hgn j h] at hx; exact old x hx
  have hel : ∀ j i, i < (own (cs'.getD j [])).length → geti ((own (cs'.getD j [])).getD i []) 0 ∈ isOf (cs'.getD j []) := fun j i hi => by rw [← isOf_get _ hi]; exact List.getElem_mem _
  have h13 : ∀ j, j < cs'.length → ∀ i, i < (own (cs'.getD j [])).length → owE ts cs' j i = 0 ∨ owE ts cs' j i = 13 := fun j hj i hi => by
    unfold owE
    rw [if_pos (hin j hj _ (hel j i hi))]
    by_cases hm : geti ((own (cs'.getD j [])).getD i []) 0 ∈ ownTo cs' j i
    · rw [if_pos hm]; exact .inr rfl
    · rw [if_neg hm]; exact .inl rfl
  have ne13 : ∀ j, j < cs'.length → ∀ i, i < (own (cs'.getD j [])).length → geti ((own (cs'.getD j [])).getD i []) 0 ∈ ownTo cs' j i → owE ts cs' j i ≠ 0 := fun j hj i hi hm => by
    unfold owE
    rw [if_pos (hin j hj _ (hel j i hi)), if_pos hm]; decide
  have hlow : ∀ j, j < c → carE ts cs' j = 0 := fun j hj => by
    rw [hca j (by omega), hgn j (by omega)]
    refine scanE_none fun i hi => ?_
    have h0 := M.pa.notTo (by omega : j < cs.length) hi
    rw [mem_ownTo cs j i (by omega)] at h0
    have h1 := hin j (by omega) _ (hel j i (by rw [hgn j (by omega)]; exact hi))
    rw [hgn j (by omega)] at h1
    unfold owE
    rw [hgn j (by omega), if_pos h1, if_neg]
    rw [mem_ownTo cs' j i (by omega), hgn j (by omega)]
    rintro (⟨c2, g1, g2⟩ | g2)
    · rw [hgn c2 (by omega)] at g2; exact h0 (.inl ⟨c2, g1, g2⟩)
    · exact h0 (.inr g2)
  have hw := M.pa.lt r hr
  have hwm : (r : Int) ∈ isOf (cs.getD (w r) []) := (M.pa.mem _ hw _).2 ⟨r, hr, rfl, rfl⟩
  have hex : ∃ j, j < cs'.length ∧ carE ts cs' j ≠ 0 := by
    rcases Nat.lt_or_ge c (w r) with g | g
    · obtain ⟨i, hi, ei⟩ := List.mem_iff_getElem.1 hwm
      have hi' : i < (own (cs.getD (w r) [])).length := by rw [← isOf_len]; exact hi
      have hg := hgn (w r) (by omega)
      refine ⟨w r, by omega, ?_⟩
      rw [hca _ (by omega)]
      refine scanE_ne (i := i) (by rw [hg]; exact hi') (ne13 _ (by omega) i (by rw [hg]; exact hi') ?_)
      rw [hg, ← isOf_get _ hi', ei, mem_ownTo cs' _ i (by omega)]
      exact .inl ⟨c, g, by rw [hic]; simp⟩
    · refine ⟨c, by omega, ?_⟩
      rw [hca _ (by omega)]
      have hi' : (own (cs.getD c [])).length < (own (cs'.getD c [])).length := by omega
      have he : geti ((own (cs'.getD c [])).getD (own (cs.getD c [])).length []) 0 = (r : Int) := by
        rw [hgc]
        show geti ((own (cs.getD c []) ++ [[Value.int .i64 (r : Int)]]).getD (own (cs.getD c [])).length []) 0 = _
        rw [List.getD_eq_getElem?_getD, List.getElem?_append_right (Nat.le_refl _), Nat.sub_self]; rfl
      refine scanE_ne hi' (ne13 _ (by omega) _ hi' ?_)
      rw [he, mem_ownTo cs' _ _ (by omega)]
      rcases Nat.lt_or_ge (w r) c with g2 | g2
      · exact .inl ⟨w r, g2, by rw [hgn _ (by omega)]; exact hwm⟩
      · have e : w r = c := by omega
        rw [e] at hwm
        refine .inr ?_
        rw [hic, ← isOf_len, List.take_left]; exact hwm
  obtain ⟨k, k1, k2, k3⟩ := first_ne hex
  have kc : c ≤ k := Classical.byContradiction fun hh => k3 (hlow k (by omega))
  have hk : carE ts cs' k = 13 := by
    rcases (hca k k1 ▸ scanE_two (h13 k k1) : carE ts cs' k = 0 ∨ carE ts cs' k = 13) with h | h
    · exact absurd h k3
    · exact h
  refine ⟨k, kc, by omega, ?_⟩
  rw [ck_0 hcn, orF_r (scanF_none hct), orF_r (x := ⟨agF a b d, 0, 0⟩) M.ag, orF_r (scanF_none M.rq), scanF_hit k2 k3 k1, hk]
  exact orF_l (show (13 : Int) ≠ 0 by decide)
end
def oneR (n : Nat) (l : List Int) : Rw := (List.range n).map fun (r : Nat) => [.int .i64 (if (r : Int) ∈ l then 1 else 0)]
theorem oneR_len (n : Nat) (l : List Int) : (oneR n l).length = n := by simp [oneR]
theorem oneR_nil (n m : Nat) (h : m = n) : List.replicate m [Value.int .i64 0] = oneR n [] := by
  subst h
  apply List.ext_getElem
  · rw [oneR_len]; simp
  · intro i h1 h2
    simp only [oneR, List.getElem_replicate, List.getElem_map, List.getElem_range]
    rw [if_neg (by simp)]
theorem oneR_get (n : Nat) (l : List Int) {r : Int} (h0 : 0 ≤ r) (h : r < n) : geti ((oneR n l).getD r.toNat []) 0 = if r ∈ l then 1 else 0 := by
  have e : ((r.toNat : Nat) : Int) = r := by omega
  rw [getD_get (by rw [oneR_len]; omega)]
  simp only [oneR, List.getElem_map, List.getElem_range]
  rw [e]; rfl
theorem oneR_set (n : Nat) (l : List Int) {r : Int} (h0 : 0 ≤ r) (h : r < n) (hm : r ∉ l) : (oneR n l).set r.toNat [Value.int .i64 (IntKind.i64.wrap (geti ((oneR n l).getD r.toNat []) 0 + 1))] = oneR n (l ++ [r]) := by
  have e1 : IntKind.i64.wrap (geti ((oneR n l).getD r.toNat []) 0 + 1) = 1 := by
    rw [oneR_get n l h0 h, if_neg hm]; decide
  rw [e1]
  apply List.ext_getElem
  · rw [List.length_set, oneR_len, oneR_len]
  · intro i g1 g2
    rw [List.getElem_set]
    by_cases hi : r.toNat = i
    · rw [if_pos hi]
      have e : (i : Int) = r := by omega
      simp only [oneR, List.getElem_map, List.getElem_range]
      rw [if_pos (by rw [e]; simp)]
    · rw [if_neg hi]
      have e : (i : Int) ≠ r := by omega
      simp only [oneR, List.getElem_map, List.getElem_range]
      by_cases hm2 : (i : Int) ∈ l
      · rw [if_pos hm2, if_pos (List.mem_append_left _ hm2)]
      · rw [if_neg hm2, if_neg (by rw [List.mem_append, List.mem_singleton]; exact fun hh => hh.elim hm2 e)]
theorem oR_get (ts : Rw) (cs : Fm) {r : Int} (h0 : 0 ≤ r) (h : r < ts.length) : geti ((oR ts cs ts.length).getD r.toNat []) 0 = fow r 0 cs := by
  have e : ((r.toNat : Nat) : Int) = r := by omega
  rw [getD_get (by rw [oR_len]; omega)]
  simp only [oR, List.getElem_map, List.getElem_range]
  rw [e, if_pos h]; rfl
end Go.Proofs.YtafmknblnamegaaDoor
