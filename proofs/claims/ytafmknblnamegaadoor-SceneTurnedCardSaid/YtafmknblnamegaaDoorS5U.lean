/- A scene that may be, turned round: it may be, and each request has the same owner. No condition. -/
import Derived.Test.YtafmknblnamegaaDoorS5N
namespace Go.Proofs.YtafmknblnamegaaDoor
open Go.Eng
set_option linter.unusedSimpArgs false

def tuR (b : Bool) (l : Rw) : Rw := cond b l.reverse l
def tuT (b : Bool) (l : Rw) (i : Int) : Rw := (tuR b l).take i.toNat
def tuX (p q : Bool) (x : List Rw) : List Rw := [tuR p (fle x), tuR q (own x)]
def tuC (p q : Bool) (cs : Fm) (k : Int) : Fm := (cs.take k.toNat).map (tuX p q)
def tuK (b : Bool) (n i : Int) : Int := cond b (n - 1 - i) i
theorem tuR_len (b : Bool) (l : Rw) : (tuR b l).length = l.length := by cases b <;> simp [tuR]
theorem tuT_zero (b : Bool) (l : Rw) : tuT b l 0 = [] := by simp [tuT]
theorem tuT_full (b : Bool) (l : Rw) {i : Int} (h : i = l.length) : tuT b l i = tuR b l := by
  subst h; unfold tuT; rw [Int.toNat_natCast, ← tuR_len b l, List.take_length]
theorem tuT_len (b : Bool) (l : Rw) {i : Int} (h0 : 0 ≤ i) (h : i ≤ l.length) : (tuT b l i).length = i.toNat := by
  unfold tuT; rw [List.length_take, tuR_len]; omega
theorem tuT_succ (b : Bool) (l : Rw) {i : Int} (h0 : 0 ≤ i) (h : i < l.length) : tuT b l i ++ [l.getD (tuK b l.length i).toNat []] = tuT b l (i + 1) := by
  unfold tuT
  have hi : i.toNat < (tuR b l).length := by rw [tuR_len]; omega
  rw [show (i + 1).toNat = i.toNat + 1 by omega, List.take_succ_eq_append_getElem hi]
  have e : l.getD (tuK b l.length i).toNat [] = (tuR b l)[i.toNat] := by
    cases b with
    | false => exact getD_get (show i.toNat < l.length by omega)
    | true =>
      have hk : (tuK true l.length i).toNat = l.length - 1 - i.toNat := by show ((l.length : Int) - 1 - i).toNat = _; omega
      rw [hk, getD_get (by omega)]
      simp only [tuR, cond_true, List.getElem_reverse]
  rw [e]
theorem tuC_succ (p q : Bool) (cs : Fm) {k : Int} (h0 : 0 ≤ k) (h : k < cs.length) : tuC p q cs k ++ [tuX p q (cs.getD k.toNat [])] = tuC p q cs (k + 1) := by
  unfold tuC
  rw [show (k + 1).toNat = k.toNat + 1 by omega, List.take_succ_eq_append_getElem (show k.toNat < cs.length by omega), List.map_append, getD_get (by omega)]; rfl
theorem tuC_len (p q : Bool) (cs : Fm) {k : Int} (h0 : 0 ≤ k) (h : k ≤ cs.length) : (tuC p q cs k).length = k.toNat := by
  unfold tuC; rw [List.length_map, List.length_take]; omega
theorem tuR_mem (b : Bool) (l : Rw) (x : List Value) : x ∈ tuR b l ↔ x ∈ l := by cases b <;> simp [tuR]
def tuA (p q : Bool) (cs : Fm) : Fm := cs.map (tuX p q)
theorem tuC_full (p q : Bool) (cs : Fm) {k : Int} (h : k = cs.length) : tuC p q cs k = tuA p q cs := by subst h; unfold tuC tuA; rw [Int.toNat_natCast, List.take_length]
theorem tuA_get (p q : Bool) (cs : Fm) {c : Nat} (h : c < cs.length) : (tuA p q cs).getD c [] = tuX p q (cs.getD c []) := by
  rw [getD_get (by unfold tuA; rw [List.length_map]; exact h), getD_get h]; simp [tuA]
theorem tuA_len (p q : Bool) (cs : Fm) : (tuA p q cs).length = cs.length := by simp [tuA]
theorem tuR_mapmem (b : Bool) (l : Rw) (r : Int) : r ∈ (tuR b l).map (fun y => geti y 0) ↔ r ∈ l.map fun y => geti y 0 := by
  simp only [List.mem_map, tuR_mem]
theorem tuR_nd (b : Bool) (l : Rw) (h : (l.map fun y => geti y 0).Nodup) : ((tuR b l).map fun y => geti y 0).Nodup := by
  cases b with
  | false => exact h
  | true =>
    show (l.reverse.map fun y => geti y 0).Nodup
    rw [List.map_reverse]
    exact List.pairwise_reverse.2 (h.imp fun hne => Ne.symm hne)
section
variable {ts : Rw} {cs : Fm} {ls : Rw} {a b d : Int} {ds : Fm} {w : Nat → Nat}
theorem May.turn (M : May ts cs ls a b d ds w) (p q z : Bool) : May ts (tuA p q cs) (tuR z ls) a b d ds w := by
  have fl : ∀ c, c < cs.length → (fle ((tuA p q cs).getD c [])) = tuR p (fle (cs.getD c [])) := fun c hc => by rw [tuA_get p q cs hc]; rfl
  have is : ∀ c, c < cs.length → isOf ((tuA p q cs).getD c []) = (tuR q (own (cs.getD c []))).map fun y => geti y 0 := fun c hc => by rw [tuA_get p q cs hc]; rfl
  refine ⟨?_, fun c hc => ?_, M.ag, M.rq, fun c hc i hi => ?_, ⟨fun r hr => by rw [tuA_len]; exact M.pa.lt r hr, fun c hc r => ?_, fun c hc => ?_⟩, ⟨fun j hj => ?_, tuR_nd z ls M.lo.nd⟩⟩
  · have := M.cn; unfold cnF at this ⊢; rw [tuA_len, tuR_len]; exact this
  · rw [tuA_len] at hc
    have := M.ct c hc
    unfold cntE at this ⊢; rw [fl c hc, tuR_len]; exact this
  · rw [tuA_len] at hc
    rw [fl c hc] at hi
    unfold vesE; rw [fl c hc]
    have hm : (tuR p (fle (cs.getD c []))).getD i [] ∈ fle (cs.getD c []) := (tuR_mem _ _ _).1 (getD_in hi)
    obtain ⟨j, hj, e⟩ := List.mem_iff_getElem.1 hm
    have := M.ve c hc j hj
    unfold vesE at this
    rw [getD_get hj, e] at this; exact this
  · rw [tuA_len] at hc
    rw [is c hc, tuR_mapmem]; exact M.pa.mem c hc r
  · rw [tuA_len] at hc
    rw [is c hc]; exact tuR_nd _ _ (M.pa.nd c hc)
  · have hm : (tuR z ls).getD j [] ∈ ls := (tuR_mem _ _ _).1 (getD_in hj)
    obtain ⟨k, hk, e⟩ := List.mem_iff_getElem.1 hm
    have := M.lo.rng k hk
    rw [getD_get hk, e] at this; exact this
theorem Part.owner (P : Part ts.length cs w) {r : Nat} (hr : r < ts.length) : Go.Proofs.YtafmknblnamegaaDoor.fow (r : Int) 0 cs = (w r : Int) := by
  have hl := P.lt r hr
  have := P.fow hl ((P.mem _ hl _).2 ⟨r, hr, rfl, rfl⟩) 0 (Nat.zero_le _)
  rwa [List.drop_zero] at this
theorem Part.same {cs' : Fm} (P : Part ts.length cs w) (P' : Part ts.length cs' w) : oR ts cs ts.length = oR ts cs' ts.length := by
  apply List.ext_getElem
  · rw [oR_len, oR_len]
  · intro i h1 h2
    rw [oR_len] at h1
    simp only [oR, List.getElem_map, List.getElem_range]
    rw [if_pos (by omega), if_pos (by omega), P.owner h1, P'.owner h1]
end
theorem dLs_rec (bs : Rw) (t : Int) : ∀ (i : Nat) (y : List Value), y ∈ dLs bs t i → [Value.int .i64 (geti y 0), Value.int .i64 (geti y 1)] = y
  | 0, y, h => by simp [dLs] at h
  | i + 1, y, h => by
    unfold dLs at h
    by_cases hp : 0 < nx bs (lT bs t i + 2) 3
    · rw [if_pos hp, List.mem_append, List.mem_singleton] at h
      rcases h with h | rfl
      · exact dLs_rec bs t i y h
      · rfl
    · rw [if_neg hp] at h; exact dLs_rec bs t i y h
theorem cFl_rec (bs : Rw) (N : Int) (c : Nat) (y : List Value) (h : y ∈ cFl bs N c) : [Value.int .i64 (geti y 0), Value.int .i64 (geti y 1), Value.int .i64 (geti y 2), Value.int .i64 (geti y 3), Value.int .i64 (geti y 4)] = y := by
  obtain ⟨j, _, rfl⟩ := List.mem_map.1 h; rfl
theorem dOw_rec (bs : Rw) (t C : Int) (i c : Nat) (y : List Value) (h : y ∈ dOw bs t C i c) : [Value.int .i64 (geti y 0)] = y := by
  obtain ⟨j, _, rfl⟩ := List.mem_map.1 h; rfl
end Go.Proofs.YtafmknblnamegaaDoor
