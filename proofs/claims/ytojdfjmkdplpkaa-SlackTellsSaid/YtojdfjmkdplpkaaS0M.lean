/- The latest Begins of a route's stops. No condition. -/
import Derived.Test.YtojdfjmkdplpkaaS0P
namespace Go.Proofs.Ytojdfjmkdplpkaa
open Go.Eng
set_option linter.unusedSimpArgs false

theorem latR_get (t l : List (List Value)) (hx hy en : Int) : ∀ j, j ≤ l.length → ∀ k, k < l.length → l.length - j ≤ k → (latR t l hx hy en j).getD k [] = [.int .i64 (lat t l hx hy en (l.length - k))]
  | 0, _, k, hk, h => by omega
  | j + 1, hj, k, hk, h => by
    simp only [latR]
    rw [List.getD_eq_getElem?_getD]
    by_cases e : k = l.length - (j + 1)
    · subst e
      rw [List.getElem?_set_self (by rw [latR_len]; omega), show l.length - (l.length - (j + 1)) = j + 1 by omega]; rfl
    · rw [List.getElem?_set_ne (by omega), ← List.getD_eq_getElem?_getD]
      exact latR_get t l hx hy en j (by omega) k hk (by omega)
theorem tB_wait {t l : List (List Value)} {hx hy st : Int} {k : Nat} (h : tOk t l hx hy st k = true) :
    tB t l hx hy st (k + 1) = max (tA t l hx hy st (k + 1)) (wE t (geti (l.getD k []) 0) (geti (l.getD k []) 1)) ∧ tB t l hx hy st (k + 1) ≤ wL t (geti (l.getD k []) 0) (geti (l.getD k []) 1) := by
  have hw : Wait (wE t (geti (l.getD k []) 0) (geti (l.getD k []) 1)) (wL t (geti (l.getD k []) 0) (geti (l.getD k []) 1)) (tA t l hx hy st (k + 1)) := of_decide_eq_true h
  have e : tB t l hx hy st (k + 1) = waitN (wE t (geti (l.getD k []) 0) (geti (l.getD k []) 1)) (wL t (geti (l.getD k []) 0) (geti (l.getD k []) 1)) (tA t l hx hy st (k + 1)) := rfl
  unfold waitN at e
  rw [if_pos hw] at e
  obtain ⟨⟨h1, h2, h3⟩, h4⟩ := hw
  exact ⟨e, by omega⟩
theorem lat_succ {hx hy cap st en : Int} {l t : List (List Value)} (G : Good hx hy cap st en l t) {k : Nat} (hk : k < l.length) :
    lat t l hx hy en (l.length - k) = min (wL t (geti (l.getD k []) 0) (geti (l.getD k []) 1)) (lat t l hx hy en (l.length - (k + 1)) - sv t (geti (l.getD k []) 0) (geti (l.getD k []) 1) - dist (pX t (geti (l.getD k []) 0) (geti (l.getD k []) 1)) (pY t (geti (l.getD k []) 0) (geti (l.getD k []) 1)) (sp t l ((k + 1 : Nat) : Int) 0 2 hx) (sp t l ((k + 1 : Nat) : Int) 1 3 hy)) := by
  have hin := G.inr k hk
  have e5 : sp t l (k : Int) 5 7 en = wL t (geti (l.getD k []) 0) (geti (l.getD k []) 1) := sp_part hk hin 5 7 en
  have e9 : sp t l (k : Int) 9 9 0 = sv t (geti (l.getD k []) 0) (geti (l.getD k []) 1) := sp_part hk hin 9 9 0
  have e0 : sp t l (k : Int) 0 2 hx = pX t (geti (l.getD k []) 0) (geti (l.getD k []) 1) := sp_part hk hin 0 2 hx
  have e1 : sp t l (k : Int) 1 3 hy = pY t (geti (l.getD k []) 0) (geti (l.getD k []) 1) := sp_part hk hin 1 3 hy
  rw [show l.length - k = (l.length - (k + 1)) + 1 by omega]
  simp only [lat]
  rw [show l.length - (l.length - (k + 1) + 1) = k by omega, show l.length - (l.length - (k + 1)) = k + 1 by omega, e5, e9, e0, e1]
theorem late_ge {hx hy cap st en : Int} {l t : List (List Value)} (G : Good hx hy cap st en l t) (hall : ∀ i, i < l.length → tOk t l hx hy st i = true) (hend : tEnd t l hx hy st ≤ en) :
    ∀ j k, l.length = k + j + 1 → tB t l hx hy st (k + 1) ≤ lat t l hx hy en (l.length - k)
  | 0, k, h => by
    have hk : k < l.length := by omega
    rw [lat_succ G hk]
    have hw := tB_wait (hall k hk)
    have eN : tN t l hx hy st (k + 1) = tB t l hx hy st (k + 1) + sv t (geti (l.getD k []) 0) (geti (l.getD k []) 1) := rfl
    have eE : tEnd t l hx hy st = tN t l hx hy st l.length + dist (tX t l hx hy st l.length) (tY t l hx hy st l.length) hx hy := rfl
    rw [show l.length = k + 1 by omega] at eE
    have eX : tX t l hx hy st (k + 1) = pX t (geti (l.getD k []) 0) (geti (l.getD k []) 1) := rfl
    have eY : tY t l hx hy st (k + 1) = pY t (geti (l.getD k []) 0) (geti (l.getD k []) 1) := rfl
    rw [eX, eY] at eE
    rw [sp_end (by omega), sp_end (by omega), show l.length - (k + 1) = 0 by omega]
    show _ ≤ min _ (en - _ - _)
    omega
  | j + 1, k, h => by
    have ih := late_ge G hall hend j (k + 1) (by omega)
    have hk : k < l.length := by omega
    have hk1 : k + 1 < l.length := by omega
    rw [lat_succ G hk]
    have hw := tB_wait (hall k hk)
    have hw1 := tB_wait (hall (k + 1) hk1)
    have hin1 := G.inr (k + 1) hk1
    have e0 : sp t l ((k + 1 : Nat) : Int) 0 2 hx = pX t (geti (l.getD (k + 1) []) 0) (geti (l.getD (k + 1) []) 1) := sp_part hk1 hin1 0 2 hx
    have e1 : sp t l ((k + 1 : Nat) : Int) 1 3 hy = pY t (geti (l.getD (k + 1) []) 0) (geti (l.getD (k + 1) []) 1) := sp_part hk1 hin1 1 3 hy
    have eN : tN t l hx hy st (k + 1) = tB t l hx hy st (k + 1) + sv t (geti (l.getD k []) 0) (geti (l.getD k []) 1) := rfl
    have eA : tA t l hx hy st (k + 1 + 1) = tN t l hx hy st (k + 1) + dist (pX t (geti (l.getD k []) 0) (geti (l.getD k []) 1)) (pY t (geti (l.getD k []) 0) (geti (l.getD k []) 1)) (pX t (geti (l.getD (k + 1) []) 0) (geti (l.getD (k + 1) []) 1)) (pY t (geti (l.getD (k + 1) []) 0) (geti (l.getD (k + 1) []) 1)) := rfl
    rw [e0, e1]
    omega

structure LatF (hx hy en : Int) (l t : List (List Value)) (a : List (List Value)) (k : Nat) : Prop where
  v : geti (a.getD k []) 0 = lat t l hx hy en (l.length - k)
  late : geti (a.getD k []) 0 ≤ wL t (geti (l.getD k []) 0) (geti (l.getD k []) 1)
  early : wE t (geti (l.getD k []) 0) (geti (l.getD k []) 1) ≤ geti (a.getD k []) 0
  next : geti (a.getD k []) 0 + sv t (geti (l.getD k []) 0) (geti (l.getD k []) 1) ≤ lat t l hx hy en (l.length - (k + 1))
  en : lat t l hx hy en (l.length - (k + 1)) ≤ en
theorem lat_facts {hx hy cap st en : Int} {l t : List (List Value)} (h : timesE hx hy cap st en l t = 0) : (latest hx hy cap st en l t).length = l.length ∧ ∀ k, k < l.length → LatF hx hy en l t (latest hx hy cap st en l t) k := by
  obtain ⟨hw, hi⟩ := wrong_of_times h
  obtain ⟨hall, hend⟩ := inTime_iff.1 hi
  have G := good_of_wrong hw
  have hl : latest hx hy cap st en l t = latR t l hx hy en l.length := by unfold latest; rw [decide_eq_true h]; rfl
  refine ⟨by rw [hl, latR_len], fun k hk => ?_⟩
  have hg := latR_get t l hx hy en l.length (Nat.le_refl _) k hk (by omega)
  have hv : geti ((latest hx hy cap st en l t).getD k []) 0 = lat t l hx hy en (l.length - k) := by rw [hl, hg]; rfl
  have hs := lat_succ G hk
  have hge := late_ge G hall hend (l.length - k - 1) k (by omega)
  have hwt := tB_wait (hall k hk)
  have hd := dist_in (pX t (geti (l.getD k []) 0) (geti (l.getD k []) 1)) (pY t (geti (l.getD k []) 0) (geti (l.getD k []) 1)) (sp t l ((k + 1 : Nat) : Int) 0 2 hx) (sp t l ((k + 1 : Nat) : Int) 1 3 hy)
  have hle := (lat_in G (l.length - (k + 1)) (by omega)).2
  exact ⟨hv, by omega, by omega, by omega, hle⟩
theorem fields {hx hy cap st en : Int} {l t : List (List Value)} (G : Good hx hy cap st en l t) {k : Nat} (hk : k < l.length) :
    (0 ≤ geti (l.getD k []) 0 ∧ geti (l.getD k []) 0 < (t.length : Int)) ∧ 0 ≤ geti (t.getD (geti (l.getD k []) 0).toNat []) 9 ∧ geti (t.getD (geti (l.getD k []) 0).toNat []) 9 ≤ 1000 ∧ sv t (geti (l.getD k []) 0) (geti (l.getD k []) 1) = geti (t.getD (geti (l.getD k []) 0).toNat []) 9 ∧
    0 ≤ wE t (geti (l.getD k []) 0) (geti (l.getD k []) 1) ∧
    (geti (l.getD k []) 1 = 1 → wE t (geti (l.getD k []) 0) (geti (l.getD k []) 1) = geti (t.getD (geti (l.getD k []) 0).toNat []) 6 ∧ wL t (geti (l.getD k []) 0) (geti (l.getD k []) 1) = geti (t.getD (geti (l.getD k []) 0).toNat []) 7) ∧
    (¬ geti (l.getD k []) 1 = 1 → wE t (geti (l.getD k []) 0) (geti (l.getD k []) 1) = geti (t.getD (geti (l.getD k []) 0).toNat []) 4 ∧ wL t (geti (l.getD k []) 0) (geti (l.getD k []) 1) = geti (t.getD (geti (l.getD k []) 0).toNat []) 5) := by
  have hin := G.inr k hk
  have hir := inR_iff.1 hin
  have hs := sv_in G hin
  have hw := win_in G hin
  refine ⟨⟨hir.1, hir.2.1⟩, by omega, by omega, hs.2.2, hw.1, fun h1 => ?_, fun h1 => ?_⟩
  · exact ⟨part_k1 hin (by omega) 4 6, part_k1 hin (by omega) 5 7⟩
  · exact ⟨part_k0 hin (by omega) 4 6, part_k0 hin (by omega) 5 7⟩
end Go.Proofs.Ytojdfjmkdplpkaa
