/- Chapter 09: what is wrong with a route is its times, or its load. No condition. -/
import Derived.Test.YtfhjnececgoadaaDoorD9N
import Derived.Test.YtfhjnececgoadaaDoorD9Q
namespace Go.Proofs.YtfhjnececgoadaaDoor
open Go.Eng
set_option linter.unusedSimpArgs false

section
variable {hx hy cap st en : Int} {l t : List (List Value)}
/-- A route that is told well. -/
structure Told (hx hy cap st en : Int) (l t : List (List Value)) : Prop where
  v : veh hx hy cap st en = 0
  q : reqsOk t = true
  c : checkE l = 0
  r : ∀ i, i < l.length → inR t (geti (l.getD i []) 0) (geti (l.getD i []) 1) = true

theorem Told.wrong (H : Told hx hy cap st en l t) : wrongE hx hy cap st en l t = 0 := by
  refine wrong_iff.2 ⟨H.v, H.q, H.c, List.all_eq_true.2 fun x hx => ?_⟩
  obtain ⟨i, hi, rfl⟩ := List.mem_iff_getElem.1 hx
  have := H.r i hi
  rwa [List.getD_eq_getElem?_getD, List.getElem?_eq_getElem hi] at this
theorem Told.rng (H : Told hx hy cap st en l t) : rngs l t = true := rngs_of fun i hi => by
  have := inR_iff.1 (H.r i hi); exact inL_of ⟨this.1, this.2.1⟩
theorem Told.may (H : Told hx hy cap st en l t) : mayB hx hy 100000 st en l t = true := by
  obtain ⟨h16, ho⟩ := checkE_0 H.c
  refine mayB_iff.2 ⟨?_, H.c, H.q, H.rng, fun i hi => ?_⟩
  · have := (veh0 hx hy cap st en).1 H.v
    exact (veh0 hx hy 100000 st en).2 ⟨this.1, by omega, this.2.2.1, this.2.2.2⟩
  · have hr : rngs (l.take (i + 1)) t = true := rngs_of fun j hj => by
      rw [List.length_take] at hj
      rw [getD_take (by omega)]
      exact rngs_at H.rng (by omega)
    have hb := brd_in H.q (l.take (i + 1)) hr
    rw [List.length_take] at hb
    omega
theorem Told.told (H : Told hx hy cap st en l t) : toldE l t = 0 := by
  have hm : ∀ x ∈ rqs l, inL t (geti x 0) = true := fun x hx => by
    obtain ⟨i, hi, _, rfl⟩ := rq_mem hx
    exact rngs_at H.rng hi
  have h1 : far t (rq l) = false := by
    rw [rq_no H.c]
    simp only [far, List.any_eq_false, decide_eq_true_eq]
    intro x hx
    have := inL_iff.1 (hm x hx)
    rw [lenI_eq]; omega
  have h2 : ill t (rq l) = false := by
    rw [rq_no H.c]
    simp only [ill, List.any_eq_false]
    intro x hx
    have := inL_iff.1 (hm x hx)
    rw [decide_eq_true (reqsOk_at H.q (k := (geti x 0).toNat) (by omega))]; simp
  unfold toldE
  rw [decide_eq_true H.c, h1, h2]; rfl

theorem late_at (H : Told hx hy cap st en l t) {i : Nat} (hi : i < l.length) (hb : ∀ j, j < i → lB t l hx hy st (j + 1) ≤ pk t (sq l j) (sk l j) 5 7) (h : pk t (sq l i) (sk l i) 5 7 < lB t l hx hy st (i + 1)) : timesE hx hy cap st en l t = 9 := by
  refine (late_of H.wrong (inTime_no hi ?_)).1.symm
  have hin := H.r i hi
  have hi' := inR_iff.1 hin
  obtain ⟨p1, p2, p3, _⟩ := pkIn H.q (inL_of ⟨hi'.1, hi'.2.1⟩) (geti (l.getD i []) 1)
  have e0 : pX t (geti (l.getD i []) 0) (geti (l.getD i []) 1) = pk t (sq l i) (sk l i) 0 2 := part_pk hin 0 2
  have e1 : pY t (geti (l.getD i []) 0) (geti (l.getD i []) 1) = pk t (sq l i) (sk l i) 1 3 := part_pk hin 1 3
  have e4 : wE t (geti (l.getD i []) 0) (geti (l.getD i []) 1) = pk t (sq l i) (sk l i) 4 6 := part_pk hin 4 6
  have e5 : wL t (geti (l.getD i []) 0) (geti (l.getD i []) 1) = pk t (sq l i) (sk l i) 5 7 := part_pk hin 5 7
  unfold tOk
  rw [e4, e5]
  refine decide_eq_false fun hw => ?_
  have hz := ts_lz (hx := hx) (hy := hy) (st := st) H.q H.r i (by omega) hb
  have ea : tA t l hx hy st (i + 1) = (lz t l hx hy st i).n + dist (lz t l hx hy st i).x (lz t l hx hy st i).y (pk t (sq l i) (sk l i) 0 2) (pk t (sq l i) (sk l i) 1 3) := by
    show arr t (geti (l.getD i []) 0) (geti (l.getD i []) 1) (ts t l hx hy st i).n (ts t l hx hy st i).x (ts t l hx hy st i).y = _
    rw [hz]; unfold arr; rw [e0, e1]
  have eB : lB t l hx hy st (i + 1) = max ((lz t l hx hy st i).n + dist (lz t l hx hy st i).x (lz t l hx hy st i).y (pk t (sq l i) (sk l i) 0 2) (pk t (sq l i) (sk l i) 1 3)) (pk t (sq l i) (sk l i) 4 6) := rfl
  have h1 := hw.2
  rw [ea] at h1
  have q4 : pk t (geti (l.getD i []) 0) (geti (l.getD i []) 1) 4 6 = pk t (sq l i) (sk l i) 4 6 := rfl
  have q5 : pk t (geti (l.getD i []) 0) (geti (l.getD i []) 1) 5 7 = pk t (sq l i) (sk l i) 5 7 := rfl
  rw [q4, q5] at p2
  omega
theorem late_end (H : Told hx hy cap st en l t) (hb : ∀ j, j < l.length → lB t l hx hy st (j + 1) ≤ pk t (sq l j) (sk l j) 5 7) (h : en < lEnd t l hx hy st) : timesE hx hy cap st en l t = 9 := by
  refine (late_of H.wrong ?_).1.symm
  cases hi : inTime t l hx hy st en with
  | false => rfl
  | true =>
    have hz := ts_lz (hx := hx) (hy := hy) (st := st) H.q H.r l.length (Nat.le_refl _) hb
    have h2 := (inTime_iff.1 hi).2
    have e : tEnd t l hx hy st = lEnd t l hx hy st := by unfold tEnd lEnd tN tX tY lN lX lY; rw [hz]
    omega

inductive Agr (hx hy cap st en : Int) (l t : List (List Value)) : Prop where
  | ok (c : (chkF hx hy cap st en l t).c = 0) (e : timesE hx hy cap st en l t = 0) (f : fitE hx hy cap st en l t = 0)
  | full (c : (chkF hx hy cap st en l t).c = 10) (p : (chkF hx hy cap st en l t).p = 2) (i : (chkF hx hy cap st en l t).i = fitA hx hy cap st en l t) (f : fitE hx hy cap st en l t = 10)
  | late (c : (chkF hx hy cap st en l t).c = 9) (e : timesE hx hy cap st en l t = 9) (f : fitE hx hy cap st en l t = 0 ∨ ((chkF hx hy cap st en l t).p = 2 ∧ (chkF hx hy cap st en l t).i < fitA hx hy cap st en l t))

theorem agrees (H : Told hx hy cap st en l t) : Agr hx hy cap st en l t := by
  obtain ⟨h16, ho⟩ := checkE_0 H.c
  have hreq : ∀ j, j < t.length → reqG t j = true := fun j hj => decide_eq_true (reqsOk_at H.q hj)
  have hF := chkF_t (en := en) (l := l) H.v hreq
  have hok : ∀ i, i < l.length → okS t l i = true := fun i hi => may_okS H.may hi
  have hbr := may_brd H.may
  have hfit : ∀ i, fits cap l t i = true ↔ brd t (l.take (i + 1)) ≤ cap := fun i => decide_eq_true_iff
  by_cases hall : ∀ j, j < l.length → stG t l hx hy cap st j = true
  · have hs : ∀ i, i < l.length → StOk t l hx hy cap st i := fun i hi => stG_iff.1 (hall i hi)
    have hf := fit_ok (hx := hx) (hy := hy) (cap := cap) (st := st) (en := en) H.v H.told fun j hj => (hfit j).2 (hs j hj).b
    by_cases he : en < lEnd t l hx hy st
    · have hT := chkT_9 (en := en) hall (by omega) he
      exact .late (by rw [hF, hT]) (late_end H (fun j hj => (hs j hj).w) he) (.inl hf.2.1.symm)
    · have hT := chkT_0 (en := en) hall (by omega) he
      have hc : (chkF hx hy cap st en l t).c = 0 := by rw [hF, hT]
      exact .ok hc (fine_of hc).e hf.2.1.symm
  · -- the first bad stop
    have hex : ∃ k, k < l.length ∧ stG t l hx hy cap st k = false ∧ ∀ j, j < k → stG t l hx hy cap st j = true := by
      have hne : fgood (stG t l hx hy cap st) l.length ≠ l.length := fun e => hall (fgood_eq e)
      have key : ∀ n, fgood (stG t l hx hy cap st) n ≠ n → ∃ k, k < n ∧ stG t l hx hy cap st k = false ∧ ∀ j, j < k → stG t l hx hy cap st j = true := by
        intro n
        induction n with
        | zero => intro h; exact absurd rfl h
        | succ n ih =>
          intro h
          by_cases hn : fgood (stG t l hx hy cap st) n = n
          · cases hg : stG t l hx hy cap st n with
            | false => exact ⟨n, by omega, hg, fgood_eq hn⟩
            | true =>
              refine absurd ?_ h
              simp only [fgood]; rw [hn, decide_eq_false (Nat.lt_irrefl n), hg]; rfl
          · obtain ⟨k, k1, k2⟩ := ih hn
            exact ⟨k, by omega, k2⟩
      exact key _ hne
    obtain ⟨k, hk, hbad, hgood⟩ := hex
    have hT := chkT_s (en := en) hk hgood hbad
    have hs : ∀ i, i < k → StOk t l hx hy cap st i := fun i hi => stG_iff.1 (hgood i hi)
    by_cases h3 : cap < brd t (l.take (k + 1))
    · have hf := fit_full (hx := hx) (hy := hy) (cap := cap) (st := st) (en := en) H.v H.told h16 hk (decide_eq_false (by omega)) fun j hj => (hfit j).2 (hs j hj).b
      have e10 := stE_10 (hx := hx) (hy := hy) (st := st) (by omega) (hok k hk) h3
      exact .full (by rw [hF, hT]; exact e10.symm) (by rw [hF, hT]) (by rw [hF, hT]; exact hf.1.1) hf.2.1.symm
    · by_cases h4 : pk t (sq l k) (sk l k) 5 7 < lB t l hx hy st (k + 1)
      · have e9 := stE_9 (hx := hx) (hy := hy) (st := st) (by omega) (hok k hk) h3 h4
        refine .late (by rw [hF, hT]; exact e9.symm) (late_at H hk (fun j hj => (hs j hj).w) h4) ?_
        have hpre : ∀ j, j ≤ k → fits cap l t j = true := fun j hj => by
          by_cases e : j = k
          · subst e; exact (hfit _).2 (by omega)
          · exact (hfit j).2 (hs j (by omega)).b
        have hle := fgood_le (fits cap l t) l.length
        have eN : fitN cap l t = fgood (fits cap l t) l.length := rfl
        by_cases hlt : fitN cap l t < l.length
        · right
          have hgt : k < fitN cap l t := by
            rcases Nat.lt_or_ge k (fitN cap l t) with g | g
            · exact g
            · exfalso
              have key : ∀ n, k < n → k < fgood (fits cap l t) n := by
                intro n
                induction n with
                | zero => intro h; omega
                | succ n ih =>
                  intro h
                  simp only [fgood]
                  by_cases hkn : k < n
                  · have := ih hkn
                    cases decide (fgood (fits cap l t) n < n)
                    · rw [cond_false]; cases fits cap l t n
                      · rw [cond_false]; exact hkn
                      · rw [cond_true]; omega
                    · rw [cond_true]; exact this
                  · have e : n = k := by omega
                    subst e
                    have ha : fgood (fits cap l t) n = n := fgood_all fun j hj => hpre j (by omega)
                    rw [ha, decide_eq_false (Nat.lt_irrefl n), hpre n (Nat.le_refl _)]
                    simp
              have := key l.length hk
              omega
          have e : fitE hx hy cap st en l t = 10 := by unfold fitE; rw [decide_eq_true H.v, decide_eq_true H.told, decide_eq_true hlt]; rfl
          have ea : fitA hx hy cap st en l t = fitN cap l t := by unfold fitA; rw [e]; rfl
          rw [hF, hT, ea]
          exact ⟨rfl, by show ((k : Nat) : Int) < _; omega⟩
        · left
          unfold fitE; rw [decide_eq_true H.v, decide_eq_true H.told, decide_eq_false hlt]; rfl
      · exfalso
        have e0 := stE_0 (hx := hx) (hy := hy) (st := st) (show ¬ 16 ≤ k by omega) (hok k hk) h3 h4
        have : stG t l hx hy cap st k = true := decide_eq_true e0.symm
        rw [this] at hbad; cases hbad
theorem draft_told (bs : List (List Value)) (N w : Int) (c : Int) (hc : 1 ≤ c ∧ c ≤ 100000) : Told (dVx bs N) (dVy bs N) c (dVs bs N) (dVe bs N) (dOwn bs N) (dTs bs N w) := by
  refine ⟨?_, dTs_ok bs N w, own_chk bs N, fun i hi => own_in bs N w (getD_in hi)⟩
  have := (veh0 _ _ _ _ _).1 (draft_veh bs N).1
  exact (veh0 _ _ _ _ _).2 ⟨this.1, hc, this.2.2.1, this.2.2.2⟩
end
end Go.Proofs.YtfhjnececgoadaaDoor
