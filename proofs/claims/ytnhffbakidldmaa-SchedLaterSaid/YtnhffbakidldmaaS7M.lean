/- Who starts later, or may begin later, is nowhere earlier. No condition. -/
import Derived.Test.YtnhffbakidldmaaS7P
namespace Go.Proofs.Ytnhffbakidldmaa
open Go.Eng
set_option linter.unusedSimpArgs false

theorem tRows_get (t l : List (List Value)) (hx hy st : Int) {n k : Nat} (h : k < n) : (tRows t l hx hy st n).getD k [] = tRow t l hx hy st k := by
  simp [tRows, List.getD, h]
theorem wrong_of_times {hx hy cap st en : Int} {l t : List (List Value)} (h : timesE hx hy cap st en l t = 0) : wrongE hx hy cap st en l t = 0 ∧ inTime t l hx hy st en = true := by
  by_cases hw : wrongE hx hy cap st en l t = 0
  · refine ⟨hw, ?_⟩
    rw [times_of hw] at h
    cases hi : inTime t l hx hy st en with
    | true => rfl
    | false => rw [hi] at h; cases h
  · rw [(wrong_of hw).1] at hw; exact absurd h hw
theorem inTime_iff {t l : List (List Value)} {hx hy st en : Int} : inTime t l hx hy st en = true ↔ (∀ i, i < l.length → tOk t l hx hy st i = true) ∧ tEnd t l hx hy st ≤ en := by
  simp only [inTime, Bool.and_eq_true, List.all_eq_true, List.mem_range, decide_eq_true_eq]
theorem none_of {hx hy cap st en : Int} {l t : List (List Value)} (h : ¬ timesE hx hy cap st en l t = 0) : timesR hx hy cap st en l t = [] := by unfold timesR; rw [decide_eq_false h]; rfl

structure Less (t t' l : List (List Value)) (hx hy st st' : Int) (n : Nat) : Prop where
  x : tX t l hx hy st n = tX t' l hx hy st' n
  y : tY t l hx hy st n = tY t' l hx hy st' n
  m : tN t l hx hy st n ≤ tN t' l hx hy st' n
  a : tA t l hx hy st n ≤ tA t' l hx hy st' n
  b : tB t l hx hy st n ≤ tB t' l hx hy st' n

structure Later (t t' : List (List Value)) : Prop where
  i : ∀ q k, inR t' q k = inR t q k
  x : ∀ q k, pX t' q k = pX t q k
  y : ∀ q k, pY t' q k = pY t q k
  s : ∀ q k, sv t' q k = sv t q k
  l : ∀ q k, wL t' q k = wL t q k
  e : ∀ q k, 0 ≤ wE t q k ∧ wE t q k ≤ wE t' q k

theorem less_all {t t' l : List (List Value)} {hx hy st st' : Int} (hst : st ≤ st') (L : Later t t') : ∀ n, (∀ i, i < n → tOk t' l hx hy st' i = true) → Less t t' l hx hy st st' n ∧ ∀ i, i < n → tOk t l hx hy st i = true
  | 0, _ => ⟨⟨rfl, rfl, hst, Int.le_refl 0, Int.le_refl 0⟩, fun i hi => absurd hi (Nat.not_lt_zero i)⟩
  | n + 1, h => by
    obtain ⟨ih, io⟩ := less_all hst L n fun i hi => h i (by omega)
    have ho := h n (by omega)
    have hw' : Wait (wE t' (geti (l.getD n []) 0) (geti (l.getD n []) 1)) (wL t' (geti (l.getD n []) 0) (geti (l.getD n []) 1)) (tA t' l hx hy st' (n + 1)) := of_decide_eq_true ho
    have eA : tA t l hx hy st (n + 1) = tN t l hx hy st n + dist (tX t l hx hy st n) (tY t l hx hy st n) (pX t (geti (l.getD n []) 0) (geti (l.getD n []) 1)) (pY t (geti (l.getD n []) 0) (geti (l.getD n []) 1)) := rfl
    have eA' : tA t' l hx hy st' (n + 1) = tN t' l hx hy st' n + dist (tX t' l hx hy st' n) (tY t' l hx hy st' n) (pX t' (geti (l.getD n []) 0) (geti (l.getD n []) 1)) (pY t' (geti (l.getD n []) 0) (geti (l.getD n []) 1)) := rfl
    rw [L.x, L.y, ← ih.x, ← ih.y] at eA'
    have hn := ih.m
    have ha : tA t l hx hy st (n + 1) ≤ tA t' l hx hy st' (n + 1) := by omega
    have he := L.e (geti (l.getD n []) 0) (geti (l.getD n []) 1)
    have hl := L.l (geti (l.getD n []) 0) (geti (l.getD n []) 1)
    have hs := L.s (geti (l.getD n []) 0) (geti (l.getD n []) 1)
    obtain ⟨⟨w1, w2, w3⟩, w4⟩ := hw'
    rw [hl] at w2 w3 w4
    have hw : Wait (wE t (geti (l.getD n []) 0) (geti (l.getD n []) 1)) (wL t (geti (l.getD n []) 0) (geti (l.getD n []) 1)) (tA t l hx hy st (n + 1)) := ⟨⟨he.1, by omega, w3⟩, by omega⟩
    have hok : tOk t l hx hy st n = true := decide_eq_true hw
    have eB : tB t l hx hy st (n + 1) = max (tA t l hx hy st (n + 1)) (wE t (geti (l.getD n []) 0) (geti (l.getD n []) 1)) := by
      show waitN _ _ _ = _
      unfold waitN; exact if_pos hw
    have eB' : tB t' l hx hy st' (n + 1) = max (tA t' l hx hy st' (n + 1)) (wE t' (geti (l.getD n []) 0) (geti (l.getD n []) 1)) := by
      show waitN _ _ _ = _
      unfold waitN; exact if_pos ⟨⟨w1, by rw [hl]; exact w2, by rw [hl]; exact w3⟩, by rw [hl]; exact w4⟩
    have eN : tN t l hx hy st (n + 1) = tB t l hx hy st (n + 1) + sv t (geti (l.getD n []) 0) (geti (l.getD n []) 1) := rfl
    have eN' : tN t' l hx hy st' (n + 1) = tB t' l hx hy st' (n + 1) + sv t' (geti (l.getD n []) 0) (geti (l.getD n []) 1) := rfl
    rw [hs] at eN'
    refine ⟨⟨(L.x _ _).symm, (L.y _ _).symm, by omega, ha, by omega⟩, fun i hi => ?_⟩
    by_cases hin : i < n
    · exact io i hin
    · rw [show i = n by omega]; exact hok

structure LessR (hx hy cap st st' en : Int) (l t t' : List (List Value)) : Prop where
  e : timesE hx hy cap st en l t = 0
  n : timesN hx hy cap st en l t ≤ timesN hx hy cap st' en l t'
  r : timesR hx hy cap st en l t = tRows t l hx hy st l.length
  r' : timesR hx hy cap st' en l t' = tRows t' l hx hy st' l.length
  k : ∀ k, k ≤ l.length → Less t t' l hx hy st st' k
theorem gen {hx hy cap st st' en : Int} {l t t' : List (List Value)} (h : timesE hx hy cap st' en l t' = 0) (hv : veh hx hy cap st en = 0) (hq : reqsOk t = true) (hst : st ≤ st') (L : Later t t') : LessR hx hy cap st st' en l t t' := by
  obtain ⟨hw', hi'⟩ := wrong_of_times h
  obtain ⟨hall', hend'⟩ := inTime_iff.1 hi'
  obtain ⟨_, _, hc, hs⟩ := wrong_iff.1 hw'
  have hs2 : stopsOk l t = true := by
    unfold stopsOk at hs ⊢
    rw [List.all_eq_true] at hs ⊢
    intro x hx; rw [← L.i]; exact hs x hx
  have hw : wrongE hx hy cap st en l t = 0 := wrong_iff.2 ⟨hv, hq, hc, hs2⟩
  obtain ⟨hl, hok⟩ := less_all (l := l) (hx := hx) (hy := hy) hst L l.length hall'
  have eE : tEnd t l hx hy st = tN t l hx hy st l.length + dist (tX t l hx hy st l.length) (tY t l hx hy st l.length) hx hy := rfl
  have eE' : tEnd t' l hx hy st' = tN t' l hx hy st' l.length + dist (tX t' l hx hy st' l.length) (tY t' l hx hy st' l.length) hx hy := rfl
  rw [← hl.x, ← hl.y] at eE'
  have hn := hl.m
  have hi : inTime t l hx hy st en = true := inTime_iff.2 ⟨hok, by omega⟩
  obtain ⟨d1, d2, d3⟩ := due_of hw hi
  obtain ⟨_, d5, d6⟩ := due_of hw' hi'
  exact ⟨d1.symm, by omega, d3.symm, d6.symm, fun k hk => (less_all hst L k fun i hi => hall' i (by omega)).1⟩

theorem later_refl {t : List (List Value)} (hq : reqsOk t = true) : Later t t := by
  refine ⟨fun _ _ => rfl, fun _ _ => rfl, fun _ _ => rfl, fun _ _ => rfl, fun _ _ => rfl, fun q k => ⟨?_, Int.le_refl _⟩⟩
  cases h : inR t q k with
  | false => rw [wE, part_no h]; exact Int.le_refl 0
  | true =>
    obtain ⟨h1, h2, h3⟩ := inR_iff.1 h
    have hc := (chk0 _ _ _ _ _ _ _ _ _ _).1 (reqsOk_at hq (show q.toNat < t.length by omega))
    unfold wE
    by_cases hk : k = 0
    · rw [part_k0 h hk]; exact hc.2.2.1.1
    · rw [part_k1 h hk]; exact hc.2.2.2.1.1

/-! ### Drafts -/
theorem wideN_in (w : Int) : 0 ≤ wideN w ∧ wideN w ≤ 400 := by
  unfold wideN
  have h : 0 ≤ w % 4 ∧ w % 4 < 4 := ⟨Int.emod_nonneg _ (by decide), Int.emod_lt_of_pos _ (by decide)⟩
  have : w % 4 = 0 ∨ w % 4 = 1 ∨ w % 4 = 2 ∨ w % 4 = 3 := by omega
  rcases this with e | e | e | e <;> rw [e] <;> decide
theorem dN_in (N : Int) : 0 ≤ dN N ∧ dN N ≤ 6 := by unfold dN; omega
theorem draft_veh (bs : List (List Value)) (N : Int) : veh (dVx bs N) (dVy bs N) (dVc bs N) (dVs bs N) (dVe bs N) = 0 ∧ dVe bs N ≤ 1100 := by
  have h1 := nx_in bs (8 * dN N + 1) 20 (by decide)
  have h2 := nx_in bs (8 * dN N + 2) 20 (by decide)
  have h3 := nx_in bs (8 * dN N + 3) 20 (by decide)
  have h4 := nx_in bs (8 * dN N + 4) 20 (by decide)
  have h5 := nx_in bs (8 * dN N + 5) 100 (by decide)
  unfold dVx dVy dVc dVs dVe
  exact ⟨(veh0 _ _ _ _ _).2 (by simp only [PM]; omega), by omega⟩
theorem dReq_in (bs : List (List Value)) (w a i : Int) (hi : 0 ≤ i ∧ i ≤ 6) : chkR (dReq bs w a i) = 0 ∧ 0 ≤ geti (dReq bs w a i) 6 ∧ geti (dReq bs w a i) 6 ≤ geti (dReq bs w a i) 7 ∧ geti (dReq bs w a i) 7 ≤ 2000 := by
  have h1 := nx_in bs (a + 1) 40 (by decide)
  have h2 := nx_in bs (a + 2) 60 (by decide)
  have h3 := nx_in bs (a + 3) 20 (by decide)
  have h4 := nx_in bs (a + 4) 20 (by decide)
  have h5 := nx_in bs (a + 5) 20 (by decide)
  have h6 := nx_in bs (a + 6) 20 (by decide)
  have h7 := nx_in bs (a + 7) 9 (by decide)
  have h8 := nx_in bs (a + 8) 4 (by decide)
  have hw := wideN_in w
  have e6 : geti (dReq bs w a i) 6 = 25 * i + nx bs (a + 1) 40 + nx bs (a + 2) 60 := rfl
  have e7 : geti (dReq bs w a i) 7 = 25 * i + nx bs (a + 1) 40 + nx bs (a + 2) 60 + wideN w + 30 := rfl
  refine ⟨?_, by omega, by omega, by omega⟩
  show chk (500 + nx bs (a + 3) 20) (500 + nx bs (a + 4) 20) (500 + nx bs (a + 5) 20) (500 + nx bs (a + 6) 20) (25 * i + nx bs (a + 1) 40) (25 * i + nx bs (a + 1) 40 + wideN w) (25 * i + nx bs (a + 1) 40 + nx bs (a + 2) 60) (25 * i + nx bs (a + 1) 40 + nx bs (a + 2) 60 + wideN w + 30) (1 + nx bs (a + 7) 9) (nx bs (a + 8) 4) = 0
  exact (chk0 _ _ _ _ _ _ _ _ _ _).2 (by simp only [Chk, PM, WM]; omega)
theorem dTs_mem {bs : List (List Value)} {N w : Int} {x : List Value} (h : x ∈ dTs bs N w) : chkR x = 0 ∧ 0 ≤ geti x 6 ∧ geti x 6 ≤ geti x 7 ∧ geti x 7 ≤ 2000 := by
  have hN := dN_in N
  simp only [dTs, dReqs, List.mem_map, List.mem_range] at h
  obtain ⟨i, hi, rfl⟩ := h
  exact dReq_in _ _ _ _ (by omega)
theorem dTs_ok (bs : List (List Value)) (N w : Int) : reqsOk (dTs bs N w) = true := List.all_eq_true.2 fun _ hx => decide_eq_true (dTs_mem hx).1

def bump (d : Int) (x : List Value) : List Value := [.int .i64 (geti x 0), .int .i64 (geti x 1), .int .i64 (geti x 2), .int .i64 (geti x 3), .int .i64 (geti x 4), .int .i64 (geti x 5), .int .i64 (min (IntKind.i64.wrap (geti x 6 + d)) (geti x 7)), .int .i64 (geti x 7), .int .i64 (geti x 8), .int .i64 (geti x 9)]
def bumpN (d : Int) (t : List (List Value)) (i : Nat) : List (List Value) := (t.take i).map (bump d) ++ t.drop i
theorem bump_all (d : Int) (t : List (List Value)) : bumpN d t t.length = t.map (bump d) := by simp [bumpN]
theorem bump_len (d : Int) (t : List (List Value)) (i : Nat) : (bumpN d t i).length = t.length := by simp [bumpN]; omega
theorem bump_step (d : Int) {t : List (List Value)} {i : Nat} (h : i < t.length) : (bumpN d t i).getD i [] = t.getD i [] ∧ (bumpN d t i).set i (bump d (t.getD i [])) = bumpN d t (i + 1) := by
  have hl : ((t.take i).map (bump d)).length = i := by simp; omega
  have hd : t.drop i = t.getD i [] :: t.drop (i + 1) := by
    rw [List.drop_eq_getElem_cons h]; simp [List.getD, List.getElem?_eq_getElem h]
  constructor
  · unfold bumpN
    rw [List.getD_eq_getElem?_getD, List.getElem?_append_right (by omega), hl, Nat.sub_self, hd]; rfl
  · unfold bumpN
    rw [List.set_append_right _ _ (by omega), hl, Nat.sub_self, hd, List.set_cons_zero, take_snoc (d := []) h]
    simp
theorem bump_later {t : List (List Value)} {d : Int} (hq : reqsOk t = true) (hd : 0 ≤ d ∧ d ≤ 9) (ht : ∀ x ∈ t, 0 ≤ geti x 6 ∧ geti x 6 ≤ geti x 7 ∧ geti x 7 ≤ 2000) : Later t (t.map (bump d)) := by
  have hi : ∀ q k, inR (t.map (bump d)) q k = inR t q k := fun q k => by unfold inR; rw [lenI_eq, lenI_eq, List.length_map]
  have hg : ∀ q k, inR t q k = true → (t.map (bump d)).getD q.toNat [] = bump d (t.getD q.toNat []) ∧ t.getD q.toNat [] ∈ t := fun q k h => by
    obtain ⟨h1, h2, _⟩ := inR_iff.1 h
    have hlt : q.toNat < t.length := by omega
    exact ⟨by simp [List.getD, hlt], getD_in hlt⟩
  have key : ∀ q k i j, (∀ x, geti (bump d x) i = geti x i) → (∀ x, geti (bump d x) j = geti x j) → part (t.map (bump d)) q k i j = part t q k i j := fun q k i j e1 e2 => by
    cases h : inR t q k with
    | false => rw [part_no h, part_no (by rw [hi]; exact h)]
    | true =>
      have h' : inR (t.map (bump d)) q k = true := by rw [hi]; exact h
      obtain ⟨g1, _⟩ := hg q k h
      by_cases hk : k = 0
      · rw [part_k0 h hk, part_k0 h' hk, g1, e1]
      · rw [part_k1 h hk, part_k1 h' hk, g1, e2]
  refine ⟨hi, fun q k => key q k 0 2 (fun _ => rfl) (fun _ => rfl), fun q k => key q k 1 3 (fun _ => rfl) (fun _ => rfl), fun q k => key q k 9 9 (fun _ => rfl) (fun _ => rfl), fun q k => key q k 5 7 (fun _ => rfl) (fun _ => rfl), fun q k => ⟨((later_refl hq).e q k).1, ?_⟩⟩
  cases h : inR t q k with
  | false => unfold wE; rw [part_no h, part_no (by rw [hi]; exact h)]; exact Int.le_refl 0
  | true =>
    have h' : inR (t.map (bump d)) q k = true := by rw [hi]; exact h
    obtain ⟨g1, g2⟩ := hg q k h
    unfold wE
    by_cases hk : k = 0
    · rw [part_k0 h hk, part_k0 h' hk, g1]; exact Int.le_refl _
    · rw [part_k1 h hk, part_k1 h' hk, g1]
      obtain ⟨b1, b2, b3⟩ := ht _ g2
      show _ ≤ min (IntKind.i64.wrap (geti (t.getD q.toNat []) 6 + d)) (geti (t.getD q.toNat []) 7)
      rw [wr64 _ (by omega)]; omega
theorem wider {hx hy cap st en en' : Int} {l t : List (List Value)} (h : timesE hx hy cap st en l t = 0) (he : en ≤ en') (hm : en' ≤ 1048576) : timesE hx hy cap st en' l t = 0 ∧ timesN hx hy cap st en' l t = timesN hx hy cap st en l t ∧ timesR hx hy cap st en' l t = timesR hx hy cap st en l t := by
  obtain ⟨hw, hi⟩ := wrong_of_times h
  obtain ⟨hall, hend⟩ := inTime_iff.1 hi
  obtain ⟨hv, hq, hc, hs⟩ := wrong_iff.1 hw
  have v := (veh0 _ _ _ _ _).1 hv
  have hw' : wrongE hx hy cap st en' l t = 0 := wrong_iff.2 ⟨(veh0 _ _ _ _ _).2 (by simp only [PM] at v ⊢; omega), hq, hc, hs⟩
  have hi' : inTime t l hx hy st en' = true := inTime_iff.2 ⟨hall, by omega⟩
  obtain ⟨_, d2, d3⟩ := due_of hw hi
  obtain ⟨e1, e2, e3⟩ := due_of hw' hi'
  exact ⟨e1.symm, by rw [← e2, ← d2], by rw [← e3, ← d3]⟩
end Go.Proofs.Ytnhffbakidldmaa
