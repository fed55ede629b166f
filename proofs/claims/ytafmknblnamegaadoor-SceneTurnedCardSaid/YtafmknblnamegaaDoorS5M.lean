/- What the drafts of scenes are like: they may be; who owns what. No condition. -/
import Derived.Test.YtafmknblnamegaaDoorS5DP
namespace Go.Proofs.YtafmknblnamegaaDoor
open Go.Eng
set_option linter.unusedSimpArgs false

theorem mem_ownAll_take (cs : Fm) (r : Int) : ∀ k, k ≤ cs.length → (r ∈ ownAll (cs.take k) ↔ ∃ c, c < k ∧ r ∈ isOf (cs.getD c []))
  | 0, _ => by simp [ownAll]
  | k + 1, h => by
    rw [ownAll_succ cs h, List.mem_append, mem_ownAll_take cs r k (by omega)]
    constructor
    · rintro (⟨c, h1, h2⟩ | h2)
      · exact ⟨c, by omega, h2⟩
      · exact ⟨k, by omega, h2⟩
    · rintro ⟨c, h1, h2⟩
      rcases Nat.lt_or_ge c k with g | g
      · exact .inl ⟨c, g, h2⟩
      · have e : c = k := by omega
        subst e; exact .inr h2
theorem mem_ownAll (cs : Fm) (r : Int) : r ∈ ownAll cs ↔ ∃ c, c < cs.length ∧ r ∈ isOf (cs.getD c []) := by
  have := mem_ownAll_take cs r cs.length (Nat.le_refl _)
  rwa [List.take_length] at this
/-- Each of n requests has one owner; what the owners have are requests. -/
structure Part (n : Nat) (cs : Fm) (w : Nat → Nat) : Prop where
  lt : ∀ r, r < n → w r < cs.length
  mem : ∀ c, c < cs.length → ∀ r : Int, r ∈ isOf (cs.getD c []) ↔ ∃ j : Nat, j < n ∧ (j : Int) = r ∧ w j = c
  nd : ∀ c, c < cs.length → (isOf (cs.getD c [])).Nodup
theorem isOf_len (x : List Rw) : (isOf x).length = (own x).length := by simp [isOf]
theorem isOf_get (x : List Rw) {i : Nat} (h : i < (own x).length) : (isOf x)[i]'(by rw [isOf_len]; exact h) = geti ((own x).getD i []) 0 := by rw [getD_get h]; simp [isOf]
theorem isOf_take (x : List Rw) (i : Nat) : ((own x).take i).map (fun y => geti y 0) = (isOf x).take i := by simp [isOf, List.map_take]
theorem nd_take {l : List Int} (h : l.Nodup) : ∀ {i : Nat} (hi : i < l.length), l[i] ∉ l.take i := fun {i} hi hm => by
  obtain ⟨j, hj, e⟩ := List.mem_iff_getElem.1 hm
  have hj' : j < i := by have := hj; rw [List.length_take] at this; omega
  have hjl : j < l.length := by omega
  rw [List.getElem_take] at e
  have hp := List.pairwise_iff_getElem.1 h j i hjl hi hj'
  exact hp e
section
variable {ts : Rw} {cs : Fm} {w : Nat → Nat}
theorem Part.range (P : Part ts.length cs w) {c i : Nat} (hc : c < cs.length) (hi : i < (own (cs.getD c [])).length) : ∃ j : Nat, j < ts.length ∧ (j : Int) = geti ((own (cs.getD c [])).getD i []) 0 ∧ w j = c :=
  (P.mem c hc _).1 (by rw [← isOf_get _ hi]; exact List.getElem_mem _)
theorem Part.notTo (P : Part ts.length cs w) {c i : Nat} (hc : c < cs.length) (hi : i < (own (cs.getD c [])).length) : geti ((own (cs.getD c [])).getD i []) 0 ∉ ownTo cs c i := fun hm => by
  obtain ⟨j, j1, j2, j3⟩ := P.range hc hi
  unfold ownTo at hm
  rw [isOf_take, List.mem_append, mem_ownAll_take cs _ c (by omega)] at hm
  rcases hm with ⟨c2, h1, h2⟩ | h2
  · obtain ⟨j', j1', j2', j3'⟩ := (P.mem c2 (by omega) _).1 h2
    have e : j' = j := by omega
    subst e; omega
  · rw [← isOf_get _ hi] at h2
    exact nd_take (P.nd c hc) _ h2
theorem Part.owE (P : Part ts.length cs w) {c i : Nat} (hc : c < cs.length) (hi : i < (own (cs.getD c [])).length) : owE ts cs c i = 0 := by
  obtain ⟨j, j1, j2, j3⟩ := P.range hc hi
  unfold Go.Proofs.YtafmknblnamegaaDoor.owE
  rw [if_pos (by omega), if_neg (P.notTo hc hi)]
theorem Part.all (P : Part ts.length cs w) (r : Int) : r ∈ ownAll cs ↔ 0 ≤ r ∧ r < (ts.length : Int) := by
  rw [mem_ownAll]
  constructor
  · rintro ⟨c, hc, h⟩
    obtain ⟨j, j1, j2, _⟩ := (P.mem c hc _).1 h
    omega
  · rintro ⟨h0, h1⟩
    have hl := P.lt r.toNat (by omega)
    exact ⟨w r.toNat, hl, (P.mem _ hl _).2 ⟨r.toNat, by omega, by omega, rfl⟩⟩
theorem Part.unE (P : Part ts.length cs w) {r : Nat} (h : r < ts.length) : unE cs r = 0 := by
  unfold Go.Proofs.YtafmknblnamegaaDoor.unE
  rw [decide_eq_true ((P.all (r : Int)).2 (by omega))]; rfl
theorem Part.fow (P : Part ts.length cs w) {c : Nat} (hc : c < cs.length) {r : Int} (hr : r ∈ isOf (cs.getD c [])) : ∀ k, k ≤ c → fow r k (cs.drop k) = (c : Int) := fun k hk => by
  obtain ⟨d, rfl⟩ : ∃ d, c = k + d := ⟨c - k, by omega⟩
  induction d generalizing k with
  | zero =>
    rw [Nat.add_zero] at hc hr
    rw [drop_c cs hc]
    unfold Go.Proofs.YtafmknblnamegaaDoor.fow
    rw [if_pos hr]; rfl
  | succ d ih =>
    rw [drop_c cs (by omega)]
    unfold Go.Proofs.YtafmknblnamegaaDoor.fow
    rw [if_neg fun h => by
      obtain ⟨j, j1, j2, j3⟩ := (P.mem _ hc _).1 hr
      obtain ⟨j', j1', j2', j3'⟩ := (P.mem k (by omega) _).1 h
      have e : j' = j := by omega
      subst e; omega]
    have e : k + (d + 1) = k + 1 + d := by omega
    have := ih (k + 1) (by rw [← e]; exact hc) (by rw [← e]; exact hr) (by omega)
    rw [this, e]
end
/-- Lots of requests, each of another one. -/
structure Lots (n : Nat) (ls : Rw) : Prop where
  rng : ∀ j, j < ls.length → 0 ≤ geti (ls.getD j []) 0 ∧ geti (ls.getD j []) 0 < (n : Int) ∧ 0 ≤ geti (ls.getD j []) 1 ∧ geti (ls.getD j []) 1 ≤ 16777216
  nd : (ls.map fun y => geti y 0).Nodup
theorem Lots.notTo {n : Nat} {ls : Rw} (L : Lots n ls) {j : Nat} (h : j < ls.length) : geti (ls.getD j []) 0 ∉ ltTo ls j := fun hm => by
  unfold ltTo at hm
  rw [List.map_take] at hm
  have hl : j < (ls.map fun y => geti y 0).length := by simpa using h
  have e : geti (ls.getD j []) 0 = (ls.map fun y => geti y 0)[j] := by rw [getD_get h]; simp
  rw [e] at hm
  exact nd_take L.nd hl hm
theorem Lots.ltE {ts ls : Rw} (L : Lots ts.length ls) {j : Nat} (h : j < ls.length) : ltE ts ls j = 0 := by
  obtain ⟨h1, h2, h3, h4⟩ := L.rng j h
  unfold Go.Proofs.YtafmknblnamegaaDoor.ltE
  rw [if_pos ⟨h1, h2⟩, if_neg (L.notTo h), if_pos ⟨h3, h4⟩]
/-- A scene that may be. -/
structure May (ts : Rw) (cs : Fm) (ls : Rw) (a b d : Int) (ds : Fm) (w : Nat → Nat) : Prop where
  cn : cnF ts cs ls ds = 0
  ct : ∀ c, c < cs.length → cntE cs c = 0
  ag : agF a b d = 0
  rq : ∀ i, i < ts.length → rqsE ts i = 0
  ve : ∀ c, c < cs.length → ∀ i, i < (fle (cs.getD c [])).length → vesE cs c i = 0
  pa : Part ts.length cs w
  lo : Lots ts.length ls
theorem May.carE {ts : Rw} {cs : Fm} {ls : Rw} {a b d : Int} {ds : Fm} {w : Nat → Nat} (M : May ts cs ls a b d ds w) {c : Nat} (hc : c < cs.length) : carE ts cs c = 0 := by
  unfold Go.Proofs.YtafmknblnamegaaDoor.carE
  rw [if_pos (scanE_none (M.ve c hc))]
  exact scanE_none fun i hi => M.pa.owE hc hi
theorem May.ok {ts : Rw} {cs : Fm} {ls : Rw} {a b d : Int} {ds : Fm} {w : Nat → Nat} (M : May ts cs ls a b d ds w) : (ckF ts cs ls a b d ds).c = 0 := by
  rw [ck_0 M.cn, orF_r (scanF_none M.ct), orF_r (x := ⟨agF a b d, 0, 0⟩) M.ag, orF_r (scanF_none M.rq), orF_r (scanF_none fun c hc => M.carE hc), orF_r (scanF_none fun r hr => M.pa.unE hr)]
  exact scanF_none fun j hj => M.lo.ltE hj

/-! ### The drafts -/
theorem dOw_is (bs : Rw) (t C : Int) (i c : Nat) : (dOw bs t C i c).map (fun y => geti y 0) = ((List.range i).filter fun r => decide (who bs t C r = (c : Int))).map fun (r : Nat) => (r : Int) := by
  unfold dOw; rw [List.map_map]; rfl
theorem dOw_mem (bs : Rw) (t C : Int) (i c : Nat) (r : Int) : r ∈ (dOw bs t C i c).map (fun y => geti y 0) ↔ ∃ j : Nat, j < i ∧ (j : Int) = r ∧ who bs t C j = (c : Int) := by
  rw [dOw_is, List.mem_map]
  constructor
  · rintro ⟨j, hj, rfl⟩
    rw [List.mem_filter, List.mem_range] at hj
    exact ⟨j, hj.1, rfl, of_decide_eq_true hj.2⟩
  · rintro ⟨j, h1, rfl, h2⟩
    exact ⟨j, by rw [List.mem_filter, List.mem_range]; exact ⟨h1, decide_eq_true h2⟩, rfl⟩
theorem nd_cast {l : List Nat} (h : l.Nodup) : (l.map fun (r : Nat) => (r : Int)).Nodup := by
  refine List.pairwise_map.2 (h.imp fun hne he => hne (by omega))
theorem dOw_nd (bs : Rw) (t C : Int) (i c : Nat) : ((dOw bs t C i c).map fun y => geti y 0).Nodup := by
  rw [dOw_is]; exact nd_cast (List.nodup_range.filter _)
theorem who_in (bs : Rw) (t C : Int) (hC : 1 ≤ C) (i : Nat) : 0 ≤ who bs t C i ∧ who bs t C i < C := nx_in _ _ _ hC
theorem dCs_part (bs : Rw) (N C : Int) (hC : 1 ≤ C) (i : Nat) : Part i (dCs bs N C i) fun r => (who bs (cT bs N C.toNat) C r).toNat := by
  refine ⟨fun r hr => ?_, fun c hc r => ?_, fun c hc => ?_⟩
  · have := who_in bs (cT bs N C.toNat) C hC r
    rw [dCs_len]; omega
  · rw [dCs_len] at hc
    rw [dCs_get bs N C i hc]
    show r ∈ (dOw _ _ _ _ _).map (fun y => geti y 0) ↔ _
    rw [dOw_mem]
    constructor
    · rintro ⟨j, h1, h2, h3⟩; exact ⟨j, h1, h2, by show (who _ _ _ j).toNat = c; omega⟩
    · rintro ⟨j, h1, h2, h3⟩
      have := who_in bs (cT bs N C.toNat) C hC j
      refine ⟨j, h1, h2, ?_⟩
      have h3' : (who bs (cT bs N C.toNat) C j).toNat = c := h3
      omega
  · rw [dCs_len] at hc
    rw [dCs_get bs N C i hc]
    exact dOw_nd _ _ _ _ _
theorem dLs_mem (bs : Rw) (t : Int) : ∀ (i : Nat) (x : List Value), x ∈ dLs bs t i → ∃ r : Nat, r < i ∧ geti x 0 = (r : Int) ∧ 0 ≤ geti x 1 ∧ geti x 1 ≤ 16777216
  | 0, x, h => by simp [dLs] at h
  | i + 1, x, h => by
    unfold dLs at h
    by_cases hp : 0 < nx bs (lT bs t i + 2) 3
    · rw [if_pos hp, List.mem_append, List.mem_singleton] at h
      rcases h with h | rfl
      · obtain ⟨r, h1, h2⟩ := dLs_mem bs t i x h; exact ⟨r, by omega, h2⟩
      · have := nx_in bs (lT bs t i + 3) 250 (by decide)
        refine ⟨i, by omega, rfl, ?_⟩
        show 0 ≤ nx bs (lT bs t i + 3) 250 ∧ nx bs (lT bs t i + 3) 250 ≤ 16777216
        omega
    · rw [if_neg hp] at h
      obtain ⟨r, h1, h2⟩ := dLs_mem bs t i x h; exact ⟨r, by omega, h2⟩
theorem dLs_nd (bs : Rw) (t : Int) : ∀ i : Nat, ((dLs bs t i).map fun y => geti y 0).Nodup
  | 0 => List.nodup_nil
  | i + 1 => by
    have ih := dLs_nd bs t i
    unfold dLs
    by_cases hp : 0 < nx bs (lT bs t i + 2) 3
    · rw [if_pos hp, List.map_append, List.nodup_append]
      refine ⟨ih, by simp, fun a ha b hb => ?_⟩
      obtain ⟨x, hx, rfl⟩ := List.mem_map.1 ha
      obtain ⟨r, h1, h2, _⟩ := dLs_mem bs t i x hx
      have hb' : b = (i : Int) := by simpa [geti] using hb
      rw [hb']; show geti x 0 ≠ (i : Int); omega
    · rw [if_neg hp]; exact ih
theorem dLs_lots (bs : Rw) (t : Int) (i : Nat) : Lots i (dLs bs t i) := by
  refine ⟨fun j hj => ?_, dLs_nd bs t i⟩
  obtain ⟨r, h1, h2, h3⟩ := dLs_mem bs t i _ (getD_in (d := []) hj)
  omega
theorem dRq_ok (bs : Rw) (t : Int) : rqE (dRq bs t) = 0 := by
  have h1 := nx_in bs (t + 1) 30 (by decide)
  have h2 := nx_in bs (t + 2) 30 (by decide)
  have h3 := nx_in bs (t + 3) 30 (by decide)
  have h4 := nx_in bs (t + 4) 30 (by decide)
  have h5 := nx_in bs (t + 5) 60 (by decide)
  have h6 := nx_in bs (t + 6) 120 (by decide)
  have h7 := nx_in bs (t + 7) 80 (by decide)
  have h8 := nx_in bs (t + 8) 120 (by decide)
  have h9 := nx_in bs (t + 9) 9 (by decide)
  have h10 := nx_in bs (t + 10) 5 (by decide)
  show chk (500 + nx bs (t + 1) 30) (500 + nx bs (t + 2) 30) (500 + nx bs (t + 3) 30) (500 + nx bs (t + 4) 30) (4 * nx bs (t + 5) 60) (4 * nx bs (t + 5) 60 + 10 + 3 * nx bs (t + 6) 120) (40 + 4 * nx bs (t + 7) 80) (40 + 4 * nx bs (t + 7) 80 + 10 + 3 * nx bs (t + 8) 120) (1 + nx bs (t + 9) 9) (nx bs (t + 10) 5) = 0
  exact (chk0 _ _ _ _ _ _ _ _ _ _).2 (by simp only [Chk, PM, WM]; omega)
theorem dTs_rq (bs : Rw) (n : Nat) {i : Nat} (h : i < (dTs bs n).length) : rqsE (dTs bs n) i = 0 := by
  have : (dTs bs n).getD i [] = dRq bs (10 * (i : Int)) := by rw [getD_get h]; simp [dTs]
  unfold rqsE; rw [this]; exact dRq_ok _ _
theorem dVe_ok (bs : Rw) (t : Int) : veE (dVe bs t) = 0 := by
  have h1 := nx_in bs (t + 1) 30 (by decide)
  have h2 := nx_in bs (t + 2) 30 (by decide)
  have h3 := nx_in bs (t + 3) 20 (by decide)
  have h4 := nx_in bs (t + 4) 20 (by decide)
  have h5 := nx_in bs (t + 5) 120 (by decide)
  show veh (500 + nx bs (t + 1) 30) (500 + nx bs (t + 2) 30) (5 + nx bs (t + 3) 20) (nx bs (t + 4) 20) (400 + 5 * nx bs (t + 5) 120) = 0
  exact (veh0 _ _ _ _ _).2 (by simp only [PM]; omega)
theorem cFl_len (bs : Rw) (N : Int) (c : Nat) : 1 ≤ (cFl bs N c).length ∧ (cFl bs N c).length ≤ 2 := by
  have := vN_in bs (cT bs N c)
  unfold cFl; rw [dFl_len]; omega
theorem cFl_ok (bs : Rw) (N : Int) (c : Nat) {i : Nat} (h : i < (cFl bs N c).length) : veE ((cFl bs N c).getD i []) = 0 := by
  have : (cFl bs N c).getD i [] = dVe bs (cT bs N c + 1 + 5 * (i : Int)) := by rw [getD_get h]; simp [cFl, dFl]
  rw [this]; exact dVe_ok _ _
theorem cN_in (x : Int) : 1 ≤ cN x ∧ cN x ≤ 6 := by unfold cN; omega
theorem rN_in (y : Int) : 0 ≤ rN y ∧ rN y < 13 := by unfold rN; omega
theorem draft_may (bs : Rw) (x y z : Int) : May (dTs bs (rN y).toNat) (dCs bs (rN y) (cN x) (rN y).toNat) (dLs bs (cT bs (rN y) (cN x).toNat) (rN y).toNat) (aN z) (bN z) (sN z) (dDs bs (rN y) (cN x).toNat) (fun r => (who bs (cT bs (rN y) (cN x).toNat) (cN x) r).toNat) := by
  have hC := cN_in x
  have hN := rN_in y
  have hl := dLs_len bs (cT bs (rN y) (cN x).toNat) (rN y).toNat
  refine ⟨?_, fun c hc => ?_, ?_, fun i hi => dTs_rq _ _ hi, fun c hc i hi => ?_, by rw [dTs_len]; exact dCs_part _ _ _ hC.1 _, by rw [dTs_len]; exact dLs_lots _ _ _⟩
  · unfold cnF
    rw [dTs_len, dCs_len, dDs_len, decide_eq_false (not_not_intro ⟨⟨⟨by omega, by omega, by omega⟩, by omega⟩, rfl⟩)]; rfl
  · rw [dCs_len] at hc
    have := cFl_len bs (rN y) c
    unfold cntE
    rw [dCs_get _ _ _ _ hc, show fle [cFl bs (rN y) c, dOw bs (cT bs (rN y) (cN x).toNat) (cN x) (rN y).toNat c] = cFl bs (rN y) c from rfl, decide_eq_false (not_not_intro (show 1 ≤ ((cFl bs (rN y) c).length : Int) ∧ ((cFl bs (rN y) c).length : Int) ≤ 4 by omega))]; rfl
  · unfold agF aN bN sN
    rw [decide_eq_false (not_not_intro (by omega))]; rfl
  · rw [dCs_len] at hc
    rw [dCs_get _ _ _ _ hc] at hi
    unfold vesE; rw [dCs_get _ _ _ _ hc]
    exact cFl_ok _ _ _ hi
end Go.Proofs.YtafmknblnamegaaDoor
