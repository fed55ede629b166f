/- Chapter 09: what serves a route serves what is left of it without a request. No condition. -/
import Derived.Test.YtfhjnececgoadaaDoorD9N
import Derived.Test.YtfhjnececgoadaaDoorD9Q
namespace Go.Proofs.YtfhjnececgoadaaDoor
open Go.Eng
set_option linter.unusedSimpArgs false

def tk3 (x : List Value) : List Value := [.int .i64 (geti x 0), .int .i64 (geti x 1), .int .i64 (geti x 2)]
/-- The times of the other stops. -/
def rst (l p : List (List Value)) (r : Int) : Nat → List (List Value)
  | 0 => []
  | k + 1 => rst l p r k ++ cond (decide (geti (l.getD k []) 0 = r)) [] [tk3 (p.getD k [])]
theorem rst_len (l p : List (List Value)) (r : Int) : ∀ k, (rst l p r k).length ≤ k
  | 0 => by simp [rst]
  | k + 1 => by
    have := rst_len l p r k
    simp only [rst, List.length_append]
    cases decide (geti (l.getD k []) 0 = r) <;> simp <;> omega

theorem apart_tri (a b c : Int) : apart a c ≤ apart a b + apart b c := by unfold apart; omega
theorem dist_tri {a b c d e f : Int} (h : PM c d) : dist a b e f ≤ dist a b c d + dist c d e f := by
  have n1 := (dist_in a b c d).1
  have n2 := (dist_in c d e f).1
  by_cases g : PM a b ∧ PM e f
  · have e1 : dist a b e f = apart a e + apart b f := by unfold dist; rw [if_pos g]
    have e2 : dist a b c d = apart a c + apart b d := by unfold dist; rw [if_pos ⟨g.1, h⟩]
    have e3 : dist c d e f = apart c e + apart d f := by unfold dist; rw [if_pos ⟨h, g.2⟩]
    have t1 := apart_tri a c e
    have t2 := apart_tri b d f
    omega
  · have : dist a b e f = 0 := by unfold dist; rw [if_neg g]
    omega
theorem dist_self (a b : Int) : dist a b a b = 0 := by
  unfold dist apart
  split <;> omega

section
variable {hx hy cap st en r : Int} {l t ts p : List (List Value)} {x y : List Value}
theorem lz_app {j : Nat} (h : j ≤ l.length) : lz t (l ++ [x]) hx hy st j = lz t l hx hy st j := by
  have := lz_take (t := t) (l := l ++ [x]) (hx := hx) (hy := hy) (st := st) l.length j h
  rw [List.take_left'] at this
  · exact this.symm
  · rfl
theorem getD_app {d : List Value} {j : Nat} (h : j < l.length) : (l ++ [x]).getD j d = l.getD j d := by simp only [List.getD, List.getElem?_append_left h]
theorem getD_end {d : List Value} : (l ++ [x]).getD l.length d = x := by simp [List.getD]
theorem rN_app {j : Nat} (h : j ≤ ts.length) : rN (ts ++ [y]) st j = rN ts st j := by
  cases j with
  | zero => rfl
  | succ j => show geti ((ts ++ [y]).getD j []) 2 = geti (ts.getD j []) 2; rw [getD_app (by omega)]
theorem rOk_app (hl : ts.length = l.length) {i : Nat} (hi : i < l.length) : rOk t (l ++ [x]) (ts ++ [y]) hx hy st i = rOk t l ts hx hy st i := by
  unfold rOk lX lY sq sk
  rw [rN_app (by omega), lz_app (by omega), getD_app hi, getD_app (by omega)]
theorem rOk_end (hl : ts.length = l.length) : rOk t (l ++ [x]) (ts ++ [y]) hx hy st l.length = true ↔ rN ts st l.length + dist (lX t l hx hy st l.length) (lY t l hx hy st l.length) (pk t (geti x 0) (geti x 1) 0 2) (pk t (geti x 0) (geti x 1) 1 3) ≤ geti y 0 ∧ geti y 0 ≤ geti y 1 ∧ pk t (geti x 0) (geti x 1) 4 6 ≤ geti y 1 ∧ geti y 1 ≤ pk t (geti x 0) (geti x 1) 5 7 ∧ geti y 2 = geti y 1 + rf t (geti x 0) 9 := by
  rw [rOk_iff]
  have e1 : sq (l ++ [x]) l.length = geti x 0 := by unfold sq; rw [getD_end]
  have e2 : sk (l ++ [x]) l.length = geti x 1 := by unfold sk; rw [getD_end]
  have e3 : (ts ++ [y]).getD l.length [] = y := by rw [← hl, getD_end]
  have e4 : rN (ts ++ [y]) st l.length = rN ts st l.length := rN_app (by omega)
  have e5 : lX t (l ++ [x]) hx hy st l.length = lX t l hx hy st l.length := by unfold lX; rw [lz_app (Nat.le_refl _)]
  have e6 : lY t (l ++ [x]) hx hy st l.length = lY t l hx hy st l.length := by unfold lY; rw [lz_app (Nat.le_refl _)]
  rw [e1, e2, e3, e4, e5, e6]
theorem lX_end : lX t (l ++ [x]) hx hy st (l.length + 1) = pk t (geti x 0) (geti x 1) 0 2 := by
  show pk t (sq (l ++ [x]) l.length) (sk (l ++ [x]) l.length) 0 2 = _
  unfold sq sk; rw [getD_end]
theorem lY_end : lY t (l ++ [x]) hx hy st (l.length + 1) = pk t (geti x 0) (geti x 1) 1 3 := by
  show pk t (sq (l ++ [x]) l.length) (sk (l ++ [x]) l.length) 1 3 = _
  unfold sq sk; rw [getD_end]
theorem place_pm (hq : reqsOk t = true) {q k : Int} (hi : inL t q = true) : PM (pk t q k 0 2) (pk t q k 1 3) := by
  obtain ⟨h1, h2, _⟩ := rq_of hq hi
  by_cases hk : k = 0
  · rw [pk_0 hk, pk_0 hk]; exact h1
  · rw [pk_1 hk, pk_1 hk]; exact h2
theorem way_pm (hv : PM hx hy) (hq : reqsOk t = true) (hr : rngs l t = true) : ∀ k, k ≤ l.length → PM (lX t l hx hy st k) (lY t l hx hy st k)
  | 0, _ => hv
  | k + 1, hk => place_pm hq (rngs_at hr (by omega))

theorem brd_flt (hk : ∀ x ∈ l, geti x 1 = 0 ∨ geti x 1 = 1) : brd t l = brd t (flt r l) + rf t r 8 * (cnt r 0 l - cnt r 1 l) := by
  induction l with
  | nil => simp [brd, flt, cnt]
  | cons x l ih =>
    have ih := ih fun y hy => hk y (.tail _ hy)
    have hx := hk x (.head _)
    by_cases g : geti x 0 = r
    · have e : flt r (x :: l) = flt r l := by simp [flt, g]
      rw [e]
      simp only [brd, cnt]
      rcases hx with h | h
      · rw [isS_iff.2 ⟨g, h⟩, isS_no (.inr (by omega)), brd1_0 h, ih]
        have : geti (t.getD (geti x 0).toNat []) 8 = rf t r 8 := by rw [g]; rfl
        rw [this]
        simp only [cond_true, cond_false]
        rw [show 1 + cnt r 0 l - (0 + cnt r 1 l) = (cnt r 0 l - cnt r 1 l) + 1 by omega, Int.mul_add]
        omega
      · rw [isS_iff.2 ⟨g, h⟩, isS_no (.inr (by omega)), brd1_1 (by omega), ih]
        have : geti (t.getD (geti x 0).toNat []) 8 = rf t r 8 := by rw [g]; rfl
        rw [this]
        simp only [cond_true, cond_false]
        rw [show 0 + cnt r 0 l - (1 + cnt r 1 l) = (cnt r 0 l - cnt r 1 l) + -1 by omega, Int.mul_add]
        omega
    · have e : flt r (x :: l) = x :: flt r l := by simp [flt, g]
      rw [e]
      simp only [brd, cnt]
      rw [isS_no (.inl g), isS_no (.inl g), ih]
      simp only [cond_false]
      rw [show 0 + cnt r 0 l - (0 + cnt r 1 l) = cnt r 0 l - cnt r 1 l by omega]
      omega
theorem on_ge (ho : okB l = true) (r : Int) : ∀ k, k ≤ l.length → cnt r 1 (l.take k) ≤ cnt r 0 (l.take k)
  | 0, _ => by simp [cnt]
  | k + 1, hk => by
    have ih := on_ge ho r k (by omega)
    have hs := (ok_step ho k (by omega)).2
    rw [cnt_snoc r 0 (by omega), cnt_snoc r 1 (by omega)]
    by_cases g : geti (l.getD k []) 0 = r
    · rw [g] at hs
      rcases hs with ⟨h, h1, h2⟩ | ⟨h, h1, h2⟩
      · rw [isS_iff.2 ⟨g, h⟩, isS_no (.inr (by omega))]; simp only [cond_true, cond_false]; omega
      · rw [isS_iff.2 ⟨g, h⟩, isS_no (.inr (by omega))]; simp only [cond_true, cond_false]; omega
    · rw [isS_no (.inl g), isS_no (.inl g)]; simp only [cond_false]; omega
theorem brd_less (ho : okB l = true) (hq : reqsOk t = true) (hr : inL t r = true) {k : Nat} (hk : k ≤ l.length) : brd t (flt r (l.take k)) ≤ brd t (l.take k) := by
  have h1 := on_ge ho r k hk
  have h8 := (pkIn hq hr 0).d0
  have hb := brd_flt (t := t) (r := r) (l := l.take k) fun x hx => by
    obtain ⟨i, hi, rfl⟩ := List.mem_iff_getElem.1 (List.mem_of_mem_take hx)
    have := (okAt_iff.1 (okB_iff.1 ho i hi)).2.1
    rwa [List.getD_eq_getElem?_getD, List.getElem?_eq_getElem hi] at this
  have : 0 ≤ rf t r 8 * (cnt r 0 (l.take k) - cnt r 1 (l.take k)) := Int.mul_nonneg (by omega) (by omega)
  omega

structure LI (hx hy cap st : Int) (t l p : List (List Value)) (r : Int) (k : Nat) : Prop where
  len : (rst l p r k).length = (flt r (l.take k)).length
  ok : ∀ i, i < (flt r (l.take k)).length → rOk t (flt r (l.take k)) (rst l p r k) hx hy st i = true
  bo : ∀ i, i < (flt r (l.take k)).length → brd t ((flt r (l.take k)).take (i + 1)) ≤ cap
  way : rN (rst l p r k) st (flt r (l.take k)).length + dist (lX t (flt r (l.take k)) hx hy st (flt r (l.take k)).length) (lY t (flt r (l.take k)) hx hy st (flt r (l.take k)).length) (lX t l hx hy st k) (lY t l hx hy st k) ≤ rN p st k

theorem less_all (hv : PM hx hy) (ho : okB l = true) (hq : reqsOk t = true) (hl : rngs l t = true) (hr : inL t r = true) (hok : ∀ i, i < l.length → rOk t l p hx hy st i = true) (hb : ∀ i, i < l.length → brd t (l.take (i + 1)) ≤ cap) :
    ∀ k, k ≤ l.length → LI hx hy cap st t l p r k
  | 0, _ => ⟨rfl, fun i hi => absurd hi (by simp [flt]), fun i hi => absurd hi (by simp [flt]), by
      show st + dist hx hy hx hy ≤ st
      rw [dist_self]; omega⟩
  | k + 1, hk => by
    have I := less_all hv ho hq hl hr hok hb k (by omega)
    have hin := rngs_at hl (show k < l.length by omega)
    obtain ⟨o1, o2, o3, o4, o5⟩ := rOk_iff.1 (hok k (by omega))
    have hs := flt_snoc r (show k < l.length by omega)
    have s9 := (pkIn hq hin 0).s0
    have tri := dist_tri (a := lX t (flt r (l.take k)) hx hy st (flt r (l.take k)).length) (b := lY t (flt r (l.take k)) hx hy st (flt r (l.take k)).length) (e := pk t (sq l k) (sk l k) 0 2) (f := pk t (sq l k) (sk l k) 1 3) (way_pm (hx := hx) (hy := hy) (st := st) hv hq hl k (by omega))
    have hX : lX t l hx hy st (k + 1) = pk t (sq l k) (sk l k) 0 2 := rfl
    have hY : lY t l hx hy st (k + 1) = pk t (sq l k) (sk l k) 1 3 := rfl
    have hN : rN p st (k + 1) = geti (p.getD k []) 2 := rfl
    have hS : rf t (sq l k) 9 = rf t (geti (l.getD k []) 0) 9 := rfl
    have hbl := brd_less (r := r) ho hq hr (show k + 1 ≤ l.length by omega)
    have hbk := hb k (by omega)
    have w := I.way
    by_cases g : geti (l.getD k []) 0 = r
    · have e1 : rst l p r (k + 1) = rst l p r k := by simp only [rst]; rw [decide_eq_true g]; simp
      have e2 : flt r (l.take (k + 1)) = flt r (l.take k) := by rw [hs, decide_eq_true g]; simp
      refine ⟨by rw [e1, e2]; exact I.len, by rw [e1, e2]; exact I.ok, by rw [e2]; exact I.bo, ?_⟩
      rw [e1, e2, hX, hY, hN]
      omega
    · have e1 : rst l p r (k + 1) = rst l p r k ++ [tk3 (p.getD k [])] := by simp only [rst]; rw [decide_eq_false g]; simp
      have e2 : flt r (l.take (k + 1)) = flt r (l.take k) ++ [l.getD k []] := by rw [hs, decide_eq_false g]; simp
      rw [e2] at hbl
      have hok' : rOk t (flt r (l.take k) ++ [l.getD k []]) (rst l p r k ++ [tk3 (p.getD k [])]) hx hy st (flt r (l.take k)).length = true := by
        refine (rOk_end I.len).2 ⟨?_, o2, o3, o4, o5⟩
        have t0 : geti (tk3 (p.getD k [])) 0 = geti (p.getD k []) 0 := rfl
        rw [t0]
        have : pk t (geti (l.getD k []) 0) (geti (l.getD k []) 1) 0 2 = pk t (sq l k) (sk l k) 0 2 := rfl
        rw [this]
        have : pk t (geti (l.getD k []) 0) (geti (l.getD k []) 1) 1 3 = pk t (sq l k) (sk l k) 1 3 := rfl
        rw [this]
        omega
      refine ⟨by rw [e1, e2]; simp [I.len], fun i hi => ?_, fun i hi => ?_, ?_⟩
      · rw [e1, e2]
        rw [e2, List.length_append, List.length_singleton] at hi
        by_cases h : i < (flt r (l.take k)).length
        · rw [rOk_app I.len h]; exact I.ok i h
        · rw [show i = (flt r (l.take k)).length by omega]; exact hok'
      · rw [e2]
        rw [e2, List.length_append, List.length_singleton] at hi
        by_cases h : i < (flt r (l.take k)).length
        · rw [List.take_append_of_le_length (by omega)]; exact I.bo i h
        · rw [List.take_of_length_le (by simp; omega)]; omega
      · rw [e1, e2, List.length_append, List.length_singleton, lX_end, lY_end, hX, hY, hN]
        show rN (rst l p r k ++ [tk3 (p.getD k [])]) st ((flt r (l.take k)).length + 1) + dist (pk t (sq l k) (sk l k) 0 2) (pk t (sq l k) (sk l k) 1 3) (pk t (sq l k) (sk l k) 0 2) (pk t (sq l k) (sk l k) 1 3) ≤ _
        rw [dist_self]
        show geti ((rst l p r k ++ [tk3 (p.getD k [])]).getD (flt r (l.take k)).length []) 2 + 0 ≤ _
        rw [← I.len, getD_end]
        show geti (p.getD k []) 2 + 0 ≤ _
        omega

theorem less_right (h : rightB hx hy cap st en l t p = true) (hr : inL t r = true) : rightB hx hy cap st en (flt r l) t (rst l p r l.length) = true := by
  obtain ⟨hm, hlen, hok, hend⟩ := rightB_iff.1 h
  obtain ⟨m1, m2, m3, m4, m5⟩ := mayB_iff.1 hm
  obtain ⟨h16, ho⟩ := checkE_0 m2
  have hv := ((veh0 hx hy cap st en).1 m1).1
  have I := less_all (r := r) (p := p) hv ho m3 m4 hr hok m5 l.length (Nat.le_refl _)
  have w := I.way
  have i1 := I.len; have i2 := I.ok; have i3 := I.bo
  rw [List.take_length] at w i1 i2 i3
  have hfl := flt_len r l
  refine rightB_iff.2 ⟨mayB_iff.2 ⟨m1, check_ok (ok_flt ho) (by omega), m3, List.all_eq_true.2 fun x hx => List.all_eq_true.1 m4 x (List.mem_filter.1 hx).1, i3⟩, i1, i2, ?_⟩
  have tri := dist_tri (a := lX t (flt r l) hx hy st (flt r l).length) (b := lY t (flt r l) hx hy st (flt r l).length) (e := hx) (f := hy) (way_pm (hx := hx) (hy := hy) (st := st) hv m3 m4 l.length (Nat.le_refl _))
  unfold rEnd at hend ⊢
  omega
theorem less_chk (h : (chkF hx hy cap st en l t).c = 0) (hr : inL t r = true) : (chkF hx hy cap st en (flt r l) t).c = 0 := right_chk (less_right (fine_right h) hr)
end
end Go.Proofs.YtfhjnececgoadaaDoor
