/- Chapter 09: wider windows, more room, a longer shift; all later by as much. No condition. -/
import Derived.Test.YtfhjnececgoadaaDoorD9N
namespace Go.Proofs.YtfhjnececgoadaaDoor
open Go.Eng
set_option linter.unusedSimpArgs false

def mapN (f : List Value → List Value) (t : List (List Value)) (i : Nat) : List (List Value) := (t.take i).map f ++ t.drop i
theorem set_get {xs : List (List Value)} {i : Nat} (h : i < xs.length) (v : List Value) : (xs.set i v).getD i [] = v := by simp [List.getD, h]
theorem mapN_0 (f : List Value → List Value) (t : List (List Value)) : mapN f t 0 = t := by simp [mapN]
theorem mapN_all (f : List Value → List Value) (t : List (List Value)) : mapN f t t.length = t.map f := by simp [mapN]
theorem mapN_len (f : List Value → List Value) (t : List (List Value)) (i : Nat) : (mapN f t i).length = t.length := by simp [mapN]; omega
theorem mapN_step (f : List Value → List Value) {t : List (List Value)} {i : Nat} (h : i < t.length) : (mapN f t i).getD i [] = t.getD i [] ∧ (mapN f t i).set i (f (t.getD i [])) = mapN f t (i + 1) := by
  have hl : ((t.take i).map f).length = i := by simp; omega
  have hd : t.drop i = t.getD i [] :: t.drop (i + 1) := by
    rw [List.drop_eq_getElem_cons h]; simp [List.getD, List.getElem?_eq_getElem h]
  constructor
  · unfold mapN
    rw [List.getD_eq_getElem?_getD, List.getElem?_append_right (by omega), hl, Nat.sub_self, hd]; rfl
  · unfold mapN
    rw [List.set_append_right _ _ (by omega), hl, Nat.sub_self, hd, List.set_cons_zero, take_snoc (d := []) h]
    simp
theorem map_get (f : List Value → List Value) {t : List (List Value)} {i : Nat} (h : i < t.length) : (t.map f).getD i [] = f (t.getD i []) := by simp [List.getD, h]
theorem map_none (f : List Value → List Value) {t : List (List Value)} {i : Nat} (h : ¬ i < t.length) (j : Nat) : geti ((t.map f).getD i []) j = geti (t.getD i []) j := by
  simp [List.getD, h, Nat.le_of_not_lt h]
theorem dTs_5 {bs : List (List Value)} {N w : Int} {x : List Value} (h : x ∈ dTs bs N w) : geti x 5 ≤ 2000 := by
  have hN := dN_in N
  simp only [dTs, dReqs, List.mem_map, List.mem_range] at h
  obtain ⟨i, hi, rfl⟩ := h
  have h1 := nx_in bs (0 + 8 * (i : Int) + 1) 40 (by decide)
  have hw := wideN_in w
  show 25 * (i : Int) + nx bs (0 + 8 * (i : Int) + 1) 40 + wideN w ≤ 2000
  omega

/-- The same requests, but for their windows. -/
structure Alike (t t' : List (List Value)) : Prop where
  len : t'.length = t.length
  eq : ∀ (i j : Nat), (j = 0 ∨ j = 1 ∨ j = 2 ∨ j = 3 ∨ j = 8 ∨ j = 9) → geti (t'.getD i []) j = geti (t.getD i []) j
section
variable {hx hy cap st en cap' st' en' n : Int} {l t t' p p' : List (List Value)}
theorem Alike.rf (A : Alike t t') (q : Int) {j : Nat} (h : j = 0 ∨ j = 1 ∨ j = 2 ∨ j = 3 ∨ j = 8 ∨ j = 9) : Go.Proofs.YtfhjnececgoadaaDoor.rf t' q j = Go.Proofs.YtfhjnececgoadaaDoor.rf t q j := A.eq q.toNat j h
theorem Alike.pk02 (A : Alike t t') (q k : Int) : pk t' q k 0 2 = pk t q k 0 2 := by unfold pk; rw [A.rf q (.inl rfl), A.rf q (.inr (.inr (.inl rfl)))]
theorem Alike.pk13 (A : Alike t t') (q k : Int) : pk t' q k 1 3 = pk t q k 1 3 := by unfold pk; rw [A.rf q (.inr (.inl rfl)), A.rf q (.inr (.inr (.inr (.inl rfl))))]
theorem Alike.inL (A : Alike t t') (q : Int) : Go.Proofs.YtfhjnececgoadaaDoor.inL t' q = Go.Proofs.YtfhjnececgoadaaDoor.inL t q := by unfold Go.Proofs.YtfhjnececgoadaaDoor.inL; rw [lenI_eq, lenI_eq, A.len]
theorem Alike.inR (A : Alike t t') (q k : Int) : Go.Proofs.YtfhjnececgoadaaDoor.inR t' q k = Go.Proofs.YtfhjnececgoadaaDoor.inR t q k := by unfold Go.Proofs.YtfhjnececgoadaaDoor.inR; rw [lenI_eq, lenI_eq, A.len]
theorem Alike.rngs (A : Alike t t') (l : List (List Value)) : Go.Proofs.YtfhjnececgoadaaDoor.rngs l t' = Go.Proofs.YtfhjnececgoadaaDoor.rngs l t := by unfold Go.Proofs.YtfhjnececgoadaaDoor.rngs; simp only [A.inL]
theorem Alike.brd (A : Alike t t') : ∀ l, Go.Proofs.YtfhjnececgoadaaDoor.brd t' l = Go.Proofs.YtfhjnececgoadaaDoor.brd t l
  | [] => rfl
  | x :: l => by
    simp only [Go.Proofs.YtfhjnececgoadaaDoor.brd, A.brd l]
    unfold brd1; rw [A.rf _ (.inr (.inr (.inr (.inr (.inl rfl)))))]
theorem Alike.xy (A : Alike t t') (hx hy st st' : Int) : ∀ k, lX t' l hx hy st' k = lX t l hx hy st k ∧ lY t' l hx hy st' k = lY t l hx hy st k
  | 0 => ⟨rfl, rfl⟩
  | _ + 1 => ⟨A.pk02 _ _, A.pk13 _ _⟩
theorem Alike.okS (A : Alike t t') (i : Nat) : Go.Proofs.YtfhjnececgoadaaDoor.okS t' l i = Go.Proofs.YtfhjnececgoadaaDoor.okS t l i := by unfold Go.Proofs.YtfhjnececgoadaaDoor.okS stB; rw [A.inR]

structure Wider (t t' : List (List Value)) : Prop where
  al : Alike t t'
  e : ∀ (i j : Nat), (j = 4 ∨ j = 6) → geti (t'.getD i []) j ≤ geti (t.getD i []) j
  w : ∀ (i j : Nat), (j = 5 ∨ j = 7) → geti (t.getD i []) j ≤ geti (t'.getD i []) j
theorem Wider.pke (W : Wider t t') (q k : Int) : pk t' q k 4 6 ≤ pk t q k 4 6 := by
  unfold pk; cases decide (k = 0)
  · exact W.e q.toNat 6 (.inr rfl)
  · exact W.e q.toNat 4 (.inl rfl)
theorem Wider.pkw (W : Wider t t') (q k : Int) : pk t q k 5 7 ≤ pk t' q k 5 7 := by
  unfold pk; cases decide (k = 0)
  · exact W.w q.toNat 7 (.inr rfl)
  · exact W.w q.toNat 5 (.inl rfl)
theorem wider_right (W : Wider t t') (hq : reqsOk t' = true) (hv : veh hx hy cap' st' en' = 0) (hc : cap ≤ cap') (hs : st' ≤ st) (he : en ≤ en') (h : rightB hx hy cap st en l t p = true) : rightB hx hy cap' st' en' l t' p = true := by
  obtain ⟨h1, h2, h3, h4⟩ := rightB_iff.1 h
  obtain ⟨m1, m2, m3, m4, m5⟩ := mayB_iff.1 h1
  have A := W.al
  have hN : ∀ k, rN p st' k ≤ rN p st k := fun k => by cases k with
    | zero => exact hs
    | succ k => exact Int.le_refl _
  refine rightB_iff.2 ⟨mayB_iff.2 ⟨hv, m2, hq, by rw [A.rngs]; exact m4, fun i hi => by rw [A.brd]; have := m5 i hi; omega⟩, h2, fun i hi => rOk_iff.2 ?_, ?_⟩
  · obtain ⟨g1, g2, g3, g4, g5⟩ := rOk_iff.1 (h3 i hi)
    obtain ⟨x1, x2⟩ := A.xy (l := l) hx hy st st' i
    have e1 := W.pke (sq l i) (sk l i)
    have e2 := W.pkw (sq l i) (sk l i)
    have e3 := hN i
    rw [x1, x2, A.pk02, A.pk13, A.rf _ (.inr (.inr (.inr (.inr (.inr rfl)))))]
    omega
  · obtain ⟨x1, x2⟩ := A.xy (l := l) hx hy st st' l.length
    have e3 := hN l.length
    unfold rEnd at h4 ⊢
    rw [x1, x2]
    omega
theorem wider_chk (W : Wider t t') (hq : reqsOk t' = true) (hv : veh hx hy cap' st' en' = 0) (hc : cap ≤ cap') (hs : st' ≤ st) (he : en ≤ en') (h : (chkF hx hy cap st en l t).c = 0) : (chkF hx hy cap' st' en' l t').c = 0 :=
  right_chk (wider_right W hq hv hc hs he (fine_right h))

structure Shift (n : Int) (t t' : List (List Value)) : Prop where
  al : Alike t t'
  s : ∀ (i j : Nat), i < t.length → (j = 4 ∨ j = 5 ∨ j = 6 ∨ j = 7) → geti (t'.getD i []) j = geti (t.getD i []) j + n
theorem Shift.pke (S : Shift n t t') {q : Int} (h : inL t q = true) (k : Int) : pk t' q k 4 6 = pk t q k 4 6 + n ∧ pk t' q k 5 7 = pk t q k 5 7 + n := by
  have hi := inL_iff.1 h
  have hq : q.toNat < t.length := by omega
  unfold pk; cases decide (k = 0)
  · exact ⟨S.s q.toNat 6 hq (.inr (.inr (.inl rfl))), S.s q.toNat 7 hq (.inr (.inr (.inr rfl)))⟩
  · exact ⟨S.s q.toNat 4 hq (.inl rfl), S.s q.toNat 5 hq (.inr (.inl rfl))⟩
theorem shift_lz (S : Shift n t t') (hr : ∀ i, i < l.length → inL t (geti (l.getD i []) 0) = true) : ∀ k, k ≤ l.length → lN t' l hx hy (st + n) k = lN t l hx hy st k + n
  | 0, _ => rfl
  | k + 1, hk => by
    have ih := shift_lz S hr k (by omega)
    obtain ⟨x1, x2⟩ := S.al.xy (l := l) hx hy st (st + n) k
    have hp := (S.pke (q := sq l k) (hr k (by omega)) (sk l k)).1
    have e : ∀ (t : List (List Value)) (s : Int), lN t l hx hy s (k + 1) = max (lN t l hx hy s k + dist (lX t l hx hy s k) (lY t l hx hy s k) (pk t (sq l k) (sk l k) 0 2) (pk t (sq l k) (sk l k) 1 3)) (pk t (sq l k) (sk l k) 4 6) + rf t (sq l k) 9 := fun _ _ => rfl
    rw [e, e, ih, x1, x2, S.al.pk02, S.al.pk13, S.al.rf _ (.inr (.inr (.inr (.inr (.inr rfl))))), hp]
    omega
theorem shift_stE (S : Shift n t t') (hr : ∀ i, i < l.length → inL t (geti (l.getD i []) 0) = true) {i : Nat} (hi : i < l.length) : stE t' l hx hy cap (st + n) i = stE t l hx hy cap st i := by
  have hN := shift_lz (hx := hx) (hy := hy) (st := st) S hr i (by omega)
  obtain ⟨x1, x2⟩ := S.al.xy (l := l) hx hy st (st + n) i
  obtain ⟨p1, p2⟩ := S.pke (q := sq l i) (hr i hi) (sk l i)
  have e : ∀ (t : List (List Value)) (s : Int), lB t l hx hy s (i + 1) = max (lN t l hx hy s i + dist (lX t l hx hy s i) (lY t l hx hy s i) (pk t (sq l i) (sk l i) 0 2) (pk t (sq l i) (sk l i) 1 3)) (pk t (sq l i) (sk l i) 4 6) := fun _ _ => rfl
  have eB : lB t' l hx hy (st + n) (i + 1) = lB t l hx hy st (i + 1) + n := by
    rw [e, e, hN, x1, x2, S.al.pk02, S.al.pk13, p1]; omega
  unfold stE
  rw [S.al.okS, S.al.brd, eB, p2]
  have : decide (pk t (sq l i) (sk l i) 5 7 + n < lB t l hx hy st (i + 1) + n) = decide (pk t (sq l i) (sk l i) 5 7 < lB t l hx hy st (i + 1)) := decide_eq_decide.2 (by omega)
  rw [this]
theorem fgood_congr {f g : Nat → Bool} : ∀ {n : Nat}, (∀ i, i < n → f i = g i) → fgood f n = fgood g n
  | 0, _ => rfl
  | n + 1, h => by simp only [fgood]; rw [fgood_congr fun i hi => h i (by omega), h n (by omega)]
theorem shift_chk (S : Shift n t t') (hr : ∀ i, i < l.length → inL t (geti (l.getD i []) 0) = true) (hq : reqsOk t = true) (hq' : reqsOk t' = true) (hv : veh hx hy cap st en = 0) (hv' : veh hx hy cap (st + n) (en + n) = 0) : chkF hx hy cap (st + n) (en + n) l t' = chkF hx hy cap st en l t := by
  rw [chkF_t hv fun j hj => decide_eq_true (reqsOk_at hq hj), chkF_t hv' fun j hj => decide_eq_true (reqsOk_at hq' hj)]
  have hg : fgood (stG t' l hx hy cap (st + n)) l.length = fgood (stG t l hx hy cap st) l.length := fgood_congr fun i hi => by unfold stG; rw [shift_stE S hr hi]
  have hN := shift_lz (hx := hx) (hy := hy) (st := st) S hr l.length (Nat.le_refl _)
  obtain ⟨x1, x2⟩ := S.al.xy (l := l) hx hy st (st + n) l.length
  have eE : lEnd t' l hx hy (st + n) = lEnd t l hx hy st + n := by unfold lEnd; rw [hN, x1, x2]; omega
  have eD : decide (en + n < lEnd t l hx hy st + n) = decide (en < lEnd t l hx hy st) := decide_eq_decide.2 (by omega)
  unfold chkT
  rw [hg, S.al.brd, eE, eD]
  by_cases h : fgood (stG t l hx hy cap st) l.length = l.length
  · rw [decide_eq_true h]
    simp only [cond_true]
  · rw [decide_eq_false h]
    have hlt : fgood (stG t l hx hy cap st) l.length < l.length := Nat.lt_of_le_of_ne (fgood_le _ _) h
    rw [shift_stE S hr hlt]
theorem shift_right (S : Shift n t t') (hr : ∀ i, i < l.length → inL t (geti (l.getD i []) 0) = true) (hq : reqsOk t = true) (hq' : reqsOk t' = true) (hv : veh hx hy cap st en = 0) (hv' : veh hx hy cap (st + n) (en + n) = 0)
    (hp : p'.length = p.length) (hs : ∀ (i j : Nat), i < p.length → (j = 0 ∨ j = 1 ∨ j = 2) → geti (p'.getD i []) j = geti (p.getD i []) j + n) : rightB hx hy cap (st + n) (en + n) l t' p' = rightB hx hy cap st en l t p := by
  by_cases hlen : p.length = l.length
  rotate_left
  · rw [← rightB_no fun g => hlen g.2.1, ← rightB_no fun g => hlen (hp.symm.trans g.2.1)]
  have hN : ∀ k, k ≤ l.length → rN p' (st + n) k = rN p st k + n := fun k hk => by cases k with
    | zero => rfl
    | succ k => exact hs k 2 (by omega) (.inr (.inr rfl))
  have hm : mayB hx hy cap (st + n) (en + n) l t' = mayB hx hy cap st en l t := by
    unfold mayB
    rw [hv, hv', hq, hq', S.al.rngs]
    have : (List.range l.length).all (boB t' l cap) = (List.range l.length).all (boB t l cap) := by congr 1; funext i; unfold boB; rw [S.al.brd]
    rw [this]
  have ho : ∀ i, i < l.length → rOk t' l p' hx hy (st + n) i = rOk t l p hx hy st i := fun i hi => by
    obtain ⟨x1, x2⟩ := S.al.xy (l := l) hx hy st (st + n) i
    obtain ⟨p1, p2⟩ := S.pke (q := sq l i) (hr i hi) (sk l i)
    unfold rOk
    rw [hN i (by omega), x1, x2, S.al.pk02, S.al.pk13, p1, p2, S.al.rf _ (.inr (.inr (.inr (.inr (.inr rfl))))), hs i 0 (by omega) (.inl rfl), hs i 1 (by omega) (.inr (.inl rfl)), hs i 2 (by omega) (.inr (.inr rfl))]
    exact decide_eq_decide.2 (by omega)
  have hE : rEnd t' l p' hx hy (st + n) = rEnd t l p hx hy st + n := by
    obtain ⟨x1, x2⟩ := S.al.xy (l := l) hx hy st (st + n) l.length
    unfold rEnd; rw [hN l.length (Nat.le_refl _), x1, x2]; omega
  cases h : rightB hx hy cap st en l t p with
  | true =>
    obtain ⟨h1, h2, h3, h4⟩ := rightB_iff.1 h
    exact rightB_iff.2 ⟨by rw [hm]; exact h1, by omega, fun i hi => by rw [ho i hi]; exact h3 i hi, by omega⟩
  | false =>
    cases h' : rightB hx hy cap (st + n) (en + n) l t' p' with
    | false => rfl
    | true =>
      obtain ⟨h1, h2, h3, h4⟩ := rightB_iff.1 h'
      rw [rightB_iff.2 ⟨by rw [← hm]; exact h1, hlen, fun i hi => by rw [← ho i hi]; exact h3 i hi, by omega⟩] at h
      cases h
end
end Go.Proofs.YtfhjnececgoadaaDoor
