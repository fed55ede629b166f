/- Pushes of stops: by its float a stop may be pushed, by one more not. No condition. -/
import Derived.Test.YtojdfjmkdplpkaaS0M
namespace Go.Proofs.Ytojdfjmkdplpkaa
open Go.Eng
set_option linter.unusedSimpArgs false

theorem fl_get (a xs : List (List Value)) : ∀ j, j ≤ a.length → ∀ k, k < a.length → (fl a xs j).getD k [] = if k < j then [.int .i64 (W64 (geti (a.getD k []) 0 - geti (xs.getD k []) 1))] else a.getD k []
  | 0, _, k, hk => by simp [fl]
  | j + 1, hj, k, hk => by
    have ih := fl_get a xs j (by omega)
    simp only [fl]
    by_cases e : k = j
    · subst e
      rw [set_get (by rw [fl_len]; exact hk), if_pos (by omega), ih k hk, if_neg (by omega)]
    · rw [List.getD_eq_getElem?_getD, List.getElem?_set_ne (fun h => e h.symm), ← List.getD_eq_getElem?_getD, ih k hk]
      by_cases h : k < j
      · rw [if_pos h, if_pos (by omega)]
      · rw [if_neg h, if_neg (by omega)]

/-- The way from a stop to what lies behind it. -/
def dk (t l : List (List Value)) (hx hy : Int) (k : Nat) : Int := dist (pX t (geti (l.getD k []) 0) (geti (l.getD k []) 1)) (pY t (geti (l.getD k []) 0) (geti (l.getD k []) 1)) (sp t l ((k + 1 : Nat) : Int) 0 2 hx) (sp t l ((k + 1 : Nat) : Int) 1 3 hy)
def svk (t l : List (List Value)) (k : Nat) : Int := sv t (geti (l.getD k []) 0) (geti (l.getD k []) 1)
def wEk (t l : List (List Value)) (k : Nat) : Int := wE t (geti (l.getD k []) 0) (geti (l.getD k []) 1)
def wLk (t l : List (List Value)) (k : Nat) : Int := wL t (geti (l.getD k []) 0) (geti (l.getD k []) 1)
structure Due (hx hy cap st en : Int) (l t : List (List Value)) : Prop where
  G : Good hx hy cap st en l t
  all : ∀ i, i < l.length → tOk t l hx hy st i = true
  fin : tEnd t l hx hy st ≤ en
  r : timesR hx hy cap st en l t = tRows t l hx hy st l.length
  n : timesN hx hy cap st en l t = tEnd t l hx hy st
  a : ∀ k, k < l.length → LatF hx hy en l t (latest hx hy cap st en l t) k
  al : (latest hx hy cap st en l t).length = l.length
theorem due_all {hx hy cap st en : Int} {l t : List (List Value)} (h : timesE hx hy cap st en l t = 0) : Due hx hy cap st en l t := by
  obtain ⟨hw, hi⟩ := wrong_of_times h
  obtain ⟨hall, hend⟩ := inTime_iff.1 hi
  obtain ⟨_, d2, d3⟩ := due_of hw hi
  obtain ⟨f1, f2⟩ := lat_facts h
  exact ⟨good_of_wrong hw, hall, hend, d3.symm, d2.symm, f2, f1⟩

section
variable {hx hy cap st en : Int} {l t : List (List Value)}

theorem float_get (D : Due hx hy cap st en l t) {k : Nat} (hk : k < l.length) : geti ((floats hx hy cap st en l t).getD k []) 0 = lat t l hx hy en (l.length - k) - tB t l hx hy st (k + 1) ∧ 0 ≤ lat t l hx hy en (l.length - k) - tB t l hx hy st (k + 1) := by
  have hxl : (timesR hx hy cap st en l t).length = l.length := by rw [D.r, tRows_len]
  have hg := fl_get (latest hx hy cap st en l t) (timesR hx hy cap st en l t) l.length (by rw [D.al]; exact Nat.le_refl _) k (by rw [D.al]; exact hk)
  have hf : floats hx hy cap st en l t = fl (latest hx hy cap st en l t) (timesR hx hy cap st en l t) l.length := by unfold floats; rw [hxl]
  have hb : geti ((timesR hx hy cap st en l t).getD k []) 1 = tB t l hx hy st (k + 1) := by rw [D.r, tRows_get t l hx hy st hk]; rfl
  have hv := (D.a k hk).v
  have hl := lat_in D.G (l.length - k) (by omega)
  have h16 := D.G.len
  have hen := D.G.en1
  have hbb := tB_in t l hx hy st (k + 1)
  have hge := late_ge D.G D.all D.fin (l.length - k - 1) k (by omega)
  rw [if_pos hk, hv, hb] at hg
  refine ⟨?_, by omega⟩
  rw [hf, hg]
  show W64 _ = _
  exact wr64 _ (by omega)
theorem floats_len (D : Due hx hy cap st en l t) : (floats hx hy cap st en l t).length = l.length := by
  unfold floats; rw [fl_len, D.al]

/-- What the times are, stop by stop. -/
structure Stop (hx hy st en : Int) (l t : List (List Value)) (k : Nat) : Prop where
  b : tB t l hx hy st (k + 1) = max (tA t l hx hy st (k + 1)) (wEk t l k)
  n : tN t l hx hy st (k + 1) = tB t l hx hy st (k + 1) + svk t l k
  nx : k + 1 < l.length → tA t l hx hy st (k + 1 + 1) = tN t l hx hy st (k + 1) + dk t l hx hy k
  nd : k + 1 = l.length → tEnd t l hx hy st = tN t l hx hy st (k + 1) + dk t l hx hy k
  a : lat t l hx hy en (l.length - k) = min (wLk t l k) (lat t l hx hy en (l.length - (k + 1)) - svk t l k - dk t l hx hy k)
  e : wEk t l k ≤ lat t l hx hy en (l.length - k)
  w : 0 ≤ wEk t l k ∧ wEk t l k ≤ wLk t l k ∧ wLk t l k ≤ 1048576
  s0 : sp t l (k : Int) 9 9 0 = svk t l k
  s1 : sp t l (k : Int) 4 6 0 = wEk t l k
  s2 : sp t l (k : Int) 5 7 en = wLk t l k
  g : ∀ b, pGo t l hx hy k b = b + svk t l k + dk t l hx hy k
theorem stop_of (D : Due hx hy cap st en l t) {k : Nat} (hk : k < l.length) : Stop hx hy st en l t k := by
  have hin := D.G.inr k hk
  have e0 : sp t l (k : Int) 0 2 hx = pX t (geti (l.getD k []) 0) (geti (l.getD k []) 1) := sp_part hk hin 0 2 hx
  have e1 : sp t l (k : Int) 1 3 hy = pY t (geti (l.getD k []) 0) (geti (l.getD k []) 1) := sp_part hk hin 1 3 hy
  have e9 : sp t l (k : Int) 9 9 0 = svk t l k := sp_part hk hin 9 9 0
  refine ⟨(tB_wait (D.all k hk)).1, rfl, fun h => ?_, fun h => ?_, lat_succ D.G hk, ?_, win_in D.G hin, e9, sp_part hk hin 4 6 0, sp_part hk hin 5 7 en, fun b => ?_⟩
  · have hin1 := D.G.inr (k + 1) h
    have f0 : sp t l ((k + 1 : Nat) : Int) 0 2 hx = pX t (geti (l.getD (k + 1) []) 0) (geti (l.getD (k + 1) []) 1) := sp_part h hin1 0 2 hx
    have f1 : sp t l ((k + 1 : Nat) : Int) 1 3 hy = pY t (geti (l.getD (k + 1) []) 0) (geti (l.getD (k + 1) []) 1) := sp_part h hin1 1 3 hy
    unfold dk; rw [f0, f1]; rfl
  · unfold dk; rw [sp_end (by omega), sp_end (by omega)]
    show tN t l hx hy st l.length + dist (tX t l hx hy st l.length) (tY t l hx hy st l.length) hx hy = _
    rw [← h]; rfl
  · have f := D.a k hk
    have v := f.v
    have ee := f.early
    unfold wEk; omega
  · unfold pGo dk; rw [e0, e1, e9]

theorem pE_eq (D : Due hx hy cap st en l t) {i m : Nat} (h : i + m < l.length) (b0 : Int) : pE t l hx hy en i b0 m = pB t l hx hy en i b0 m + svk t l (i + m) + dk t l hx hy (i + m) := by
  cases m with
  | zero => exact (stop_of D h).g b0
  | succ m => exact (stop_of D h).g _
theorem pB_succ (D : Due hx hy cap st en l t) {i m : Nat} (h : i + (m + 1) < l.length) (b0 : Int) : pB t l hx hy en i b0 (m + 1) = waitN (wEk t l (i + (m + 1))) (wLk t l (i + (m + 1))) (pE t l hx hy en i b0 m) ∧ pW t l hx hy en i b0 m = decide (Wait (wEk t l (i + (m + 1))) (wLk t l (i + (m + 1))) (pE t l hx hy en i b0 m)) := by
  have s := stop_of D h
  constructor
  · show waitN _ _ _ = _
    rw [s.s1, s.s2]; rfl
  · unfold pW; rw [s.s1, s.s2]

theorem push_in (D : Due hx hy cap st en l t) {i : Nat} {b0 by' : Int} (hi : i < l.length) (hb : b0 = tB t l hx hy st (i + 1) + by') (hby : 0 ≤ by') (hle : b0 ≤ lat t l hx hy en (l.length - i)) :
    ∀ m, i + m < l.length → (tB t l hx hy st (i + m + 1) ≤ pB t l hx hy en i b0 m ∧ pB t l hx hy en i b0 m ≤ tB t l hx hy st (i + m + 1) + by' ∧ pB t l hx hy en i b0 m ≤ lat t l hx hy en (l.length - (i + m))) ∧ ∀ j, j < m → pW t l hx hy en i b0 j = true
  | 0, h => by
    have e : pB t l hx hy en i b0 0 = b0 := rfl
    rw [e, Nat.add_zero]
    exact ⟨⟨by omega, by omega, hle⟩, fun j hj => absurd hj (Nat.not_lt_zero j)⟩
  | m + 1, h => by
    obtain ⟨⟨h1, h2, h3⟩, h4⟩ := push_in D hi hb hby hle m (by omega)
    have s := stop_of D (show i + m < l.length by omega)
    have s' := stop_of D h
    have hE := pE_eq D (show i + m < l.length by omega) b0
    obtain ⟨hB, hW⟩ := pB_succ D h b0
    have hnx := s.nx (by omega)
    have hn := s.n
    have ha := s.a
    have hb' := s'.b
    have he' := s'.e
    have ha' := s'.a
    have hw' := s'.w
    rw [show i + (m + 1) = i + m + 1 by omega] at *
    have hwait : Wait (wEk t l (i + m + 1)) (wLk t l (i + m + 1)) (pE t l hx hy en i b0 m) := ⟨hw', by omega⟩
    unfold waitN at hB
    rw [if_pos hwait] at hB
    refine ⟨⟨by omega, by omega, by omega⟩, fun j hj => ?_⟩
    by_cases hjm : j < m
    · exact h4 j hjm
    · rw [show j = m by omega, hW]; exact decide_eq_true hwait

theorem push_yes (D : Due hx hy cap st en l t) {i : Nat} {b0 by' : Int} (hi : i < l.length) (hb : b0 = tB t l hx hy st (i + 1) + by') (hby : 0 ≤ by') (hle : b0 ≤ lat t l hx hy en (l.length - i)) :
    pIn t l hx hy en i b0 = true ∧ tEnd t l hx hy st ≤ pE t l hx hy en i b0 (l.length - 1 - i) ∧ pE t l hx hy en i b0 (l.length - 1 - i) ≤ tEnd t l hx hy st + by' := by
  obtain ⟨⟨h1, h2, h3⟩, h4⟩ := push_in D hi hb hby hle (l.length - 1 - i) (by omega)
  have hlast : i + (l.length - 1 - i) < l.length := by omega
  have hE := pE_eq D hlast b0
  have s := stop_of D hlast
  have si := stop_of D hi
  have hnd := s.nd (by omega)
  have hn := s.n
  have ha := s.a
  have hai := si.a
  have h0 : lat t l hx hy en (l.length - (i + (l.length - 1 - i) + 1)) = en := by rw [show l.length - (i + (l.length - 1 - i) + 1) = 0 by omega]; rfl
  rw [h0] at ha
  refine ⟨?_, by omega, by omega⟩
  unfold pIn
  rw [si.s2, decide_eq_true (show b0 ≤ wLk t l i by omega), decide_eq_true (show pE t l hx hy en i b0 (l.length - 1 - i) ≤ en by omega)]
  have : (List.range (l.length - 1 - i)).all (pW t l hx hy en i b0) = true := List.all_eq_true.2 fun j hj => h4 j (List.mem_range.1 hj)
  rw [this]; rfl

theorem push_over (D : Due hx hy cap st en l t) {i : Nat} {b0 : Int} (hi : i < l.length) (hle : lat t l hx hy en (l.length - i) < b0) : pIn t l hx hy en i b0 = false := by
  cases h : pIn t l hx hy en i b0 with
  | false => rfl
  | true =>
    exfalso
    unfold pIn at h
    simp only [Bool.and_eq_true, decide_eq_true_eq, List.all_eq_true, List.mem_range] at h
    obtain ⟨g1, g2, g3⟩ := h
    rw [(stop_of D hi).s2] at g1
    have key : ∀ m, i + m < l.length → lat t l hx hy en (l.length - (i + m)) < pB t l hx hy en i b0 m ∧ pB t l hx hy en i b0 m ≤ wLk t l (i + m) := by
      intro m
      induction m with
      | zero => intro _; exact ⟨hle, g1⟩
      | succ m ih =>
        intro hm
        obtain ⟨k1, k2⟩ := ih (by omega)
        have s := stop_of D (show i + m < l.length by omega)
        have hE := pE_eq D (show i + m < l.length by omega) b0
        obtain ⟨hB, hW⟩ := pB_succ D hm b0
        have hw := g2 m (by omega)
        rw [hW] at hw
        have hwait := of_decide_eq_true hw
        unfold waitN at hB
        rw [if_pos hwait] at hB
        have ha := s.a
        have hw2 := hwait.2
        rw [show i + (m + 1) = i + m + 1 by omega] at *
        omega
    have hlast : i + (l.length - 1 - i) < l.length := by omega
    obtain ⟨k1, k2⟩ := key (l.length - 1 - i) hlast
    have s := stop_of D hlast
    have hE := pE_eq D hlast b0
    have ha := s.a
    have h0 : lat t l hx hy en (l.length - (i + (l.length - 1 - i) + 1)) = en := by rw [show l.length - (i + (l.length - 1 - i) + 1) = 0 by omega]; rfl
    rw [h0] at ha
    omega

theorem pR_lt (t l : List (List Value)) (hx hy en : Int) (i : Nat) (a0 b0 : Int) (xs : List (List Value)) {k : Nat} (hk : k < i) : ∀ m, (pR t l hx hy en i a0 b0 xs m).getD k [] = xs.getD k []
  | 0 => by simp only [pR]; rw [List.getD_eq_getElem?_getD, List.getElem?_set_ne (by omega), ← List.getD_eq_getElem?_getD]
  | m + 1 => by simp only [pR]; rw [List.getD_eq_getElem?_getD, List.getElem?_set_ne (by omega), ← List.getD_eq_getElem?_getD]; exact pR_lt t l hx hy en i a0 b0 xs hk m
theorem pR_ge (t l : List (List Value)) (hx hy en : Int) (i : Nat) (a0 b0 : Int) (xs : List (List Value)) : ∀ m, i + m < xs.length → ∀ j, j ≤ m → geti ((pR t l hx hy en i a0 b0 xs m).getD (i + j) []) 1 = pB t l hx hy en i b0 j
  | 0, h, j, hj => by
    rw [show j = 0 by omega]
    simp only [pR]
    rw [Nat.add_zero, set_get (by omega)]; rfl
  | m + 1, h, j, hj => by
    simp only [pR]
    by_cases e : j = m + 1
    · subst e; rw [set_get (by rw [pR_len]; exact h)]; rfl
    · rw [List.getD_eq_getElem?_getD, List.getElem?_set_ne (by omega), ← List.getD_eq_getElem?_getD]
      exact pR_ge t l hx hy en i a0 b0 xs m (by omega) j (by omega)
end
end Go.Proofs.Ytojdfjmkdplpkaa
