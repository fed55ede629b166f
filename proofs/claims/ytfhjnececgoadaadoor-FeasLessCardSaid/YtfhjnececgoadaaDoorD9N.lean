/- Chapter 09: the earliest times serve a route just if nothing is wrong with it, and none are earlier. No condition. -/
import Derived.Test.YtfhjnececgoadaaDoorD9M
namespace Go.Proofs.YtfhjnececgoadaaDoor
open Go.Eng
set_option linter.unusedSimpArgs false

section
variable {hx hy cap st en : Int} {l t ts' : List (List Value)}
theorem part_pk {q k : Int} (h : inR t q k = true) (i j : Nat) : part t q k i j = pk t q k i j := by unfold part pk; rw [h]; rfl
theorem ts_lz (hq : reqsOk t = true) (hr : ∀ i, i < l.length → inR t (geti (l.getD i []) 0) (geti (l.getD i []) 1) = true) : ∀ k, k ≤ l.length → (∀ j, j < k → lB t l hx hy st (j + 1) ≤ pk t (sq l j) (sk l j) 5 7) → ts t l hx hy st k = lz t l hx hy st k
  | 0, _, _ => rfl
  | k + 1, hk, h => by
    have ih := ts_lz hq hr k (by omega) fun j hj => h j (by omega)
    have hin := hr k (by omega)
    have hi := inR_iff.1 hin
    have p := pkIn hq (inL_of ⟨hi.1, hi.2.1⟩) (geti (l.getD k []) 1)
    have hb := h k (by omega)
    have e0 : pX t (geti (l.getD k []) 0) (geti (l.getD k []) 1) = pk t (sq l k) (sk l k) 0 2 := part_pk hin 0 2
    have e1 : pY t (geti (l.getD k []) 0) (geti (l.getD k []) 1) = pk t (sq l k) (sk l k) 1 3 := part_pk hin 1 3
    have e4 : wE t (geti (l.getD k []) 0) (geti (l.getD k []) 1) = pk t (sq l k) (sk l k) 4 6 := part_pk hin 4 6
    have e5 : wL t (geti (l.getD k []) 0) (geti (l.getD k []) 1) = pk t (sq l k) (sk l k) 5 7 := part_pk hin 5 7
    have e9 : sv t (geti (l.getD k []) 0) (geti (l.getD k []) 1) = rf t (sq l k) 9 := by
      have : sv t (geti (l.getD k []) 0) (geti (l.getD k []) 1) = pk t (sq l k) (sk l k) 9 9 := part_pk hin 9 9
      rw [this]; unfold pk; cases decide (sk l k = 0) <;> rfl
    have eB : lB t l hx hy st (k + 1) = max ((lz t l hx hy st k).n + dist (lz t l hx hy st k).x (lz t l hx hy st k).y (pk t (sq l k) (sk l k) 0 2) (pk t (sq l k) (sk l k) 1 3)) (pk t (sq l k) (sk l k) 4 6) := rfl
    show tsS t (geti (l.getD k []) 0) (geti (l.getD k []) 1) (ts t l hx hy st k) = lzS t (sq l k) (sk l k) (lz t l hx hy st k)
    rw [ih]
    unfold tsS lzS beg arr
    rw [e0, e1, e4, e5, e9]
    rw [eB] at hb
    have hw : Wait (pk t (sq l k) (sk l k) 4 6) (pk t (sq l k) (sk l k) 5 7) ((lz t l hx hy st k).n + dist (lz t l hx hy st k).x (lz t l hx hy st k).y (pk t (sq l k) (sk l k) 0 2) (pk t (sq l k) (sk l k) 1 3)) := by
      obtain ⟨p1, p2, p3, _⟩ := p
      exact ⟨⟨p1, p2, p3⟩, hb⟩
    unfold waitN
    rw [if_pos hw]
structure Fine (hx hy cap st en : Int) (l t : List (List Value)) : Prop where
  e : timesE hx hy cap st en l t = 0
  r : timesR hx hy cap st en l t = tRows t l hx hy st l.length
  z : ∀ k, k ≤ l.length → ts t l hx hy st k = lz t l hx hy st k
theorem fine_of (h : (chkF hx hy cap st en l t).c = 0) : Fine hx hy cap st en l t := by
  have hm := chk_may h
  obtain ⟨h1, h2, h3, h4, h5⟩ := chk_c0.1 h
  obtain ⟨m1, m2, m3, m4, m5⟩ := mayB_iff.1 hm
  have hs : ∀ i, i < l.length → StOk t l hx hy cap st i := fun i hi => stG_iff.1 (h3 i hi)
  have hr : ∀ i, i < l.length → inR t (geti (l.getD i []) 0) (geti (l.getD i []) 1) = true := fun i hi => (hs i hi).inr
  have hz : ∀ k, k ≤ l.length → ts t l hx hy st k = lz t l hx hy st k := fun k hk => ts_lz m3 hr k hk fun j hj => (hs j (by omega)).w
  have hst : stopsOk l t = true := List.all_eq_true.2 fun x hx => by
    obtain ⟨i, hi, rfl⟩ := List.mem_iff_getElem.1 hx
    have := hr i hi
    rwa [List.getD_eq_getElem?_getD, List.getElem?_eq_getElem hi] at this
  have hw := wrong_iff.2 ⟨m1, m3, m2, hst⟩
  have hall : ∀ i, i < l.length → tOk t l hx hy st i = true := fun i hi => by
    have hin := hr i hi
    have hi' := inR_iff.1 hin
    obtain ⟨p1, p2, p3, _⟩ := pkIn m3 (inL_of ⟨hi'.1, hi'.2.1⟩) (geti (l.getD i []) 1)
    have e0 : pX t (geti (l.getD i []) 0) (geti (l.getD i []) 1) = pk t (sq l i) (sk l i) 0 2 := part_pk hin 0 2
    have e1 : pY t (geti (l.getD i []) 0) (geti (l.getD i []) 1) = pk t (sq l i) (sk l i) 1 3 := part_pk hin 1 3
    have e4 : wE t (geti (l.getD i []) 0) (geti (l.getD i []) 1) = pk t (sq l i) (sk l i) 4 6 := part_pk hin 4 6
    have e5 : wL t (geti (l.getD i []) 0) (geti (l.getD i []) 1) = pk t (sq l i) (sk l i) 5 7 := part_pk hin 5 7
    unfold tOk
    rw [e4, e5]
    refine decide_eq_true ⟨⟨p1, p2, p3⟩, ?_⟩
    have hb := (hs i hi).w
    have eB : lB t l hx hy st (i + 1) = max (tA t l hx hy st (i + 1)) (pk t (sq l i) (sk l i) 4 6) := by
      have : tA t l hx hy st (i + 1) = (lz t l hx hy st (i + 1)).a := by unfold tA; rw [hz (i + 1) (by omega)]
      rw [this]; rfl
    omega
  have hend : tEnd t l hx hy st ≤ en := by
    have : tEnd t l hx hy st = lEnd t l hx hy st := by unfold tEnd lEnd tN tX tY lN lX lY; rw [hz l.length (Nat.le_refl _)]
    omega
  obtain ⟨d1, _, d3⟩ := due_of hw (inTime_iff.2 ⟨hall, hend⟩)
  exact ⟨d1.symm, d3.symm, hz⟩
theorem fine_row (F : Fine hx hy cap st en l t) {i : Nat} (hi : i < l.length) : (timesR hx hy cap st en l t).getD i [] = [.int .i64 (lz t l hx hy st (i + 1)).a, .int .i64 (lz t l hx hy st (i + 1)).b, .int .i64 (lz t l hx hy st (i + 1)).n] := by
  rw [F.r, tRows_get t l hx hy st hi]
  unfold tRow tA tB tN; rw [F.z (i + 1) (by omega)]
theorem fine_rN (F : Fine hx hy cap st en l t) : ∀ k, k ≤ l.length → rN (timesR hx hy cap st en l t) st k = lN t l hx hy st k
  | 0, _ => rfl
  | k + 1, hk => by
    show geti ((timesR hx hy cap st en l t).getD k []) 2 = _
    rw [fine_row F (by omega)]; rfl
theorem fine_right (h : (chkF hx hy cap st en l t).c = 0) : rightB hx hy cap st en l t (timesR hx hy cap st en l t) = true := by
  have F := fine_of h
  obtain ⟨h1, h2, h3, h4, h5⟩ := chk_c0.1 h
  refine rightB_iff.2 ⟨chk_may h, by rw [F.r, tRows_len], fun i hi => rOk_iff.2 ?_, ?_⟩
  · rw [fine_rN F i (by omega), fine_row F hi]
    have hw := (stG_iff.1 (h3 i hi)).w
    have g0 : geti [Value.int .i64 (lz t l hx hy st (i + 1)).a, .int .i64 (lz t l hx hy st (i + 1)).b, .int .i64 (lz t l hx hy st (i + 1)).n] 0 = lN t l hx hy st i + dist (lX t l hx hy st i) (lY t l hx hy st i) (pk t (sq l i) (sk l i) 0 2) (pk t (sq l i) (sk l i) 1 3) := rfl
    have g1 : geti [Value.int .i64 (lz t l hx hy st (i + 1)).a, .int .i64 (lz t l hx hy st (i + 1)).b, .int .i64 (lz t l hx hy st (i + 1)).n] 1 = max (lN t l hx hy st i + dist (lX t l hx hy st i) (lY t l hx hy st i) (pk t (sq l i) (sk l i) 0 2) (pk t (sq l i) (sk l i) 1 3)) (pk t (sq l i) (sk l i) 4 6) := rfl
    have g2 : geti [Value.int .i64 (lz t l hx hy st (i + 1)).a, .int .i64 (lz t l hx hy st (i + 1)).b, .int .i64 (lz t l hx hy st (i + 1)).n] 2 = lB t l hx hy st (i + 1) + rf t (sq l i) 9 := rfl
    have g3 : lB t l hx hy st (i + 1) = max (lN t l hx hy st i + dist (lX t l hx hy st i) (lY t l hx hy st i) (pk t (sq l i) (sk l i) 0 2) (pk t (sq l i) (sk l i) 1 3)) (pk t (sq l i) (sk l i) 4 6) := rfl
    rw [g0, g1, g2]
    omega
  · unfold rEnd
    rw [fine_rN F l.length (Nat.le_refl _)]
    unfold lEnd at h5
    omega
theorem right_chk (h : rightB hx hy cap st en l t ts' = true) : (chkF hx hy cap st en l t).c = 0 := by
  obtain ⟨h1, h2, h3, h4⟩ := rightB_iff.1 h
  exact may_chk h1 h3 h4
theorem none_earlier (h : rightB hx hy cap st en l t ts' = true) {i : Nat} (hi : i < l.length) : (lz t l hx hy st (i + 1)).a ≤ geti (ts'.getD i []) 0 ∧ (lz t l hx hy st (i + 1)).b ≤ geti (ts'.getD i []) 1 ∧ (lz t l hx hy st (i + 1)).n ≤ geti (ts'.getD i []) 2 := by
  obtain ⟨h1, h2, h3, h4⟩ := rightB_iff.1 h
  have hl := lN_le i (by omega) fun j hj => h3 j (by omega)
  obtain ⟨g1, g2, g3, g4, g5⟩ := rOk_iff.1 (h3 i hi)
  have ea : (lz t l hx hy st (i + 1)).a = lN t l hx hy st i + dist (lX t l hx hy st i) (lY t l hx hy st i) (pk t (sq l i) (sk l i) 0 2) (pk t (sq l i) (sk l i) 1 3) := rfl
  have eb : (lz t l hx hy st (i + 1)).b = max (lz t l hx hy st (i + 1)).a (pk t (sq l i) (sk l i) 4 6) := rfl
  have en' : (lz t l hx hy st (i + 1)).n = (lz t l hx hy st (i + 1)).b + rf t (sq l i) 9 := rfl
  omega
end
end Go.Proofs.YtfhjnececgoadaaDoor
