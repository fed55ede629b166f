/- These contracts hold. No condition. -/
import Derived.Test.YtfhjnececgoadaaDoorP9T
import Derived.Test.YtfhjnececgoadaaDoorV4N
namespace Go.Proofs.YtfhjnececgoadaaDoor
open Go.Eng
set_option linter.unusedSimpArgs false
theorem wRows_succ (t l bs : List (List Value)) (hx hy st : Int) (m : Nat) : wRows t l bs hx hy st (m + 1) = wRows t l bs hx hy st m ++ [wRow t l bs hx hy st m] := by simp [wRows, List.range_succ]
theorem wRows_len (t l bs : List (List Value)) (hx hy st : Int) (m : Nat) : (wRows t l bs hx hy st m).length = m := by simp [wRows]
theorem wRows_get (t l bs : List (List Value)) (hx hy st : Int) {m k : Nat} (h : k < m) : (wRows t l bs hx hy st m).getD k [] = wRow t l bs hx hy st k := by simp [wRows, List.getD, h]
section
variable {hx hy cap st en : Int} {l t bs : List (List Value)}
theorem wz_xy : ∀ k, (wz t l bs hx hy st k).x = lX t l hx hy st k ∧ (wz t l bs hx hy st k).y = lY t l hx hy st k
  | 0 => ⟨rfl, rfl⟩
  | _ + 1 => ⟨rfl, rfl⟩
theorem byN_in (h : ∀ x ∈ bs, Wk [.int .u8] x) (k : Nat) : 0 ≤ byN bs k ∧ byN bs k ≤ 255 := by
  unfold byN
  by_cases h0 : bs.length = 0
  · rw [decide_eq_true h0]; simp
  · rw [decide_eq_false h0, cond_false]
    have hk : k % bs.length < bs.length := Nat.mod_lt _ (by omega)
    have hw := h _ (getD_in (d := []) hk)
    obtain ⟨m, hm, hk0⟩ := Fa.get (ks := [.int .u8]) 0 hw rfl
    obtain ⟨x, rfl, h1, h2⟩ := hk0
    have : geti (bs.getD (k % bs.length) []) 0 = x := by unfold geti; rw [hm]
    rw [this]; exact ⟨h1, h2⟩
theorem wA_eq (k : Nat) : wA t l bs hx hy st (k + 1) = wN t l bs hx hy st k + dist (lX t l hx hy st k) (lY t l hx hy st k) (pk t (sq l k) (sk l k) 0 2) (pk t (sq l k) (sk l k) 1 3) + byN bs k % 8 := by
  show (wz t l bs hx hy st k).n + dist (wz t l bs hx hy st k).x (wz t l bs hx hy st k).y _ _ + _ = _
  rw [(wz_xy k).1, (wz_xy k).2]; rfl
theorem wB_eq (k : Nat) : wB t l bs hx hy st (k + 1) = max (wA t l bs hx hy st (k + 1)) (pk t (sq l k) (sk l k) 4 6) + byN bs k / 8 := rfl
theorem wN_eq (k : Nat) : wN t l bs hx hy st (k + 1) = wB t l bs hx hy st (k + 1) + rf t (sq l k) 9 := rfl
theorem wN_in (hb : ∀ x ∈ bs, Wk [.int .u8] x) (h : reqsOk t = true) (hr : ∀ i, i < l.length → inL t (geti (l.getD i []) 0) = true) (hs : 0 ≤ st ∧ st ≤ 1048576) : ∀ j, j ≤ l.length → 0 ≤ wN t l bs hx hy st j ∧ wN t l bs hx hy st j ≤ 1048576 + 3085 * j
  | 0, _ => by show 0 ≤ st ∧ st ≤ _; omega
  | j + 1, hj => by
    have ih := wN_in hb h hr hs j (by omega)
    obtain ⟨p1, p2, p3, p4, p5, _, _⟩ := pkIn h (hr j (by omega)) (geti (l.getD j []) 1)
    have hd := dist_in (lX t l hx hy st j) (lY t l hx hy st j) (pk t (sq l j) (sk l j) 0 2) (pk t (sq l j) (sk l j) 1 3)
    have q1 : pk t (sq l j) (sk l j) 4 6 = pk t (geti (l.getD j []) 0) (geti (l.getD j []) 1) 4 6 := rfl
    have q3 : rf t (sq l j) 9 = rf t (geti (l.getD j []) 0) 9 := rfl
    have hby := byN_in hb j
    have e1 := wA_eq (t := t) (l := l) (bs := bs) (hx := hx) (hy := hy) (st := st) j
    have e2 := wB_eq (t := t) (l := l) (bs := bs) (hx := hx) (hy := hy) (st := st) j
    have e3 := wN_eq (t := t) (l := l) (bs := bs) (hx := hx) (hy := hy) (st := st) j
    omega
end
set_option maxHeartbeats 4000000 in
theorem okPti : CtrOk Tryd.prog 13 kPti := good_of okG45 mixed (fun ((bs, a, w, d, _), (hx, hy, cap, st, en, _), l, t, _) => ptL t l bs hx hy st) 100 fun ((bs, a, w, d, _), (hx, hy, cap, st, en, _), l, t, _) hf hn => by
  refine ⟨rfl, Eq.mpr (tPti bs a w d hx hy cap st en l t) ?_⟩
  obtain ⟨hr, hq, hs, hl16, _⟩ := hn
  have hs := of_decide_eq_true hs
  have hl16 := of_decide_eq_true hl16
  rw [lenI_eq] at hl16
  have hbs : ∀ x ∈ bs, Wk [.int .u8] x := hf.1.1.1
  have ha : 0 ≤ a ∧ a ≤ 255 := hf.1.2.1
  have hdd : -128 ≤ d ∧ d ≤ 127 := hf.1.2.2.2.1
  (simp only [eq_self_iff_true, true_and, and_true, false_and, and_false, Bool.or_not_self, Bool.not_or_self, Bool.cond_self, cond_true, cond_false, Bool.cond_true_right, Bool.cond_true_left, Bool.cond_false_right, Bool.cond_false_left, Bool.or_true, Bool.true_or, Bool.or_false, Bool.false_or, Bool.and_true, Bool.true_and, Bool.and_false, Bool.false_and, Bool.not_not, forall_eq, ← Bool.decide_and, ← Bool.decide_or, ← decide_not, cDecF, cDecT, cDecFl, Decidable.not_not, Bool.not_true, Bool.not_false, Bool.false_eq_true, imp_false, not_true_eq_false, not_false_eq_true, forall_const, true_implies, false_implies, implies_true, decide_true, decide_false]; try simp only [cDec, eq_self_iff_true, true_and, and_true, false_and, and_false, Bool.or_not_self, Bool.not_or_self, Bool.cond_self, cond_true, cond_false, Bool.cond_true_right, Bool.cond_true_left, Bool.cond_false_right, Bool.cond_false_left, Bool.or_true, Bool.true_or, Bool.or_false, Bool.false_or, Bool.and_true, Bool.true_and, Bool.and_false, Bool.false_and, Bool.not_not, forall_eq, ← Bool.decide_and, ← Bool.decide_or, ← decide_not, cDecF, cDecT, cDecFl, Decidable.not_not, Bool.not_true, Bool.not_false, Bool.false_eq_true, imp_false, not_true_eq_false, not_false_eq_true, forall_const, true_implies, false_implies, implies_true, decide_true, decide_false])
  have hN := wN_in (hx := hx) (hy := hy) hbs hq (fun i hi => rngs_at hr hi) hs
  refine ⟨0, ⟨by omega, by omega⟩, ⟨⟨rfl, by omega, by omega⟩, ⟨rfl, hs.1, by show st ≤ 1100000; omega⟩, ⟨rfl, rfl⟩, rfl⟩, ?_⟩
  rintro k ⟨k0, k1⟩
  obtain ⟨K, rfl⟩ := Int.eq_ofNat_of_zero_le k0
  simp only [Int.toNat_natCast]
  have e1 := wA_eq (t := t) (l := l) (bs := bs) (hx := hx) (hy := hy) (st := st) K
  have e2 := wB_eq (t := t) (l := l) (bs := bs) (hx := hx) (hy := hy) (st := st) K
  have e3 := wN_eq (t := t) (l := l) (bs := bs) (hx := hx) (hy := hy) (st := st) K
  have hby := byN_in hbs K
  refine ⟨fun hlt => ?_, fun hge => ?_⟩
  · have hK : K < l.length := by omega
    have hin := rngs_at hr hK
    have hq' := inL_iff.1 hin
    obtain ⟨p1, p2, p3, p4, p5, _, _⟩ := pkIn hq hin (geti (l.getD K []) 1)
    have q46 : pk t (geti (l.getD K []) 0) (geti (l.getD K []) 1) 4 6 = pk t (sq l K) (sk l K) 4 6 := rfl
    have q02 : pk t (geti (l.getD K []) 0) (geti (l.getD K []) 1) 0 2 = pk t (sq l K) (sk l K) 0 2 := rfl
    have q13 : pk t (geti (l.getD K []) 0) (geti (l.getD K []) 1) 1 3 = pk t (sq l K) (sk l K) 1 3 := rfl
    have q9 : geti (t.getD (geti (l.getD K []) 0).toNat []) 9 = rf t (sq l K) 9 := rfl
    have q9' : rf t (geti (l.getD K []) 0) 9 = rf t (sq l K) 9 := rfl
    rw [q46] at p1 p2
    rw [q9'] at p4 p5
    have hN0 := hN K (by omega)
    have hN1 := hN (K + 1) (by omega)
    have hd := dist_in (lX t l hx hy st K) (lY t l hx hy st K) (pk t (sq l K) (sk l K) 0 2) (pk t (sq l K) (sk l K) 1 3)
    have ew : IntKind.i64.wrap ((K : Int) + 1) = (K : Int) + 1 := wr64 _ (by omega)
    have hR := wRows_succ t l bs hx hy st K
    have hRow : wRow t l bs hx hy st K = [.int .i64 (wA t l bs hx hy st (K + 1)), .int .i64 (wB t l bs hx hy st (K + 1)), .int .i64 (wN t l bs hx hy st (K + 1))] := rfl
    rw [hRow] at hR
    have fin : ∀ A Bv Nv : Int, A = wA t l bs hx hy st (K + 1) → Bv = wB t l bs hx hy st (K + 1) → Nv = wN t l bs hx hy st (K + 1) → lenI (wRows t l bs hx hy st K) ≤ 2932031007402 ∧ ∃ s : Int, (0 ≤ s ∧ s ≤ (l.length : Int)) ∧ ((l.length : Int) - s).toNat < ((l.length : Int) - (K : Int)).toNat ∧
        (IntKind.i64.wrap ((K : Int) + 1) = s ∧ 0 ≤ s ∧ s ≤ 9223372036854775807) ∧ (Nv = wN t l bs hx hy st s.toNat ∧ 0 ≤ wN t l bs hx hy st s.toNat ∧ wN t l bs hx hy st s.toNat ≤ 1100000) ∧ (pk t (sq l K) (sk l K) 0 2 = lX t l hx hy st s.toNat ∧ pk t (sq l K) (sk l K) 1 3 = lY t l hx hy st s.toNat) ∧
        wRows t l bs hx hy st K ++ [[Value.int .i64 A, Value.int .i64 Bv, Value.int .i64 Nv]] = wRows t l bs hx hy st s.toNat := by
      rintro A Bv Nv rfl rfl rfl
      have e : ((K : Int) + 1).toNat = K + 1 := by omega
      refine ⟨by rw [lenI_eq, wRows_len]; omega, (K : Int) + 1, ⟨by omega, by omega⟩, by omega, ⟨ew, by omega, by omega⟩, ?_⟩
      rw [e, hR]
      exact ⟨⟨rfl, by omega, by omega⟩, ⟨rfl, rfl⟩, rfl⟩
    rw [hin]
    simp only [cond_true, q46, q02, q13, q9]
    refine ⟨fun hb0 => ?_, fun hb0 => ?_⟩
    · have eb : ((K : Int).tmod (bs.length : Int)) = ((K % bs.length : Nat) : Int) := rfl
      have hlt2 : K % bs.length < bs.length := Nat.mod_lt _ (by omega)
      have eby : byN bs K = geti (bs.getD (K % bs.length) []) 0 := by unfold byN; rw [decide_eq_false (by omega)]; rfl
      rw [eb]
      simp only [Int.toNat_natCast, ← eby]
      refine ⟨by omega, ⟨by omega, by omega⟩, ⟨k0, hlt⟩, ⟨k0, hlt⟩, ⟨k0, hlt⟩, hq', fin _ _ _ (by rw [e1]) ?_ ?_⟩
      · rw [e2, ← e1]; exact wr64 _ (by omega)
      · rw [← e1, wr64 (max _ _ + _) (by omega), ← e2, ← e3]; exact wr64 _ (by omega)
    · have eby : byN bs K = 0 := by unfold byN; rw [decide_eq_true (by omega)]; rfl
      rw [eby] at e1 e2
      refine ⟨⟨k0, hlt⟩, ⟨k0, hlt⟩, ⟨k0, hlt⟩, hq', fin _ _ _ (by rw [e1]; rfl) (by rw [e2, e1]; rfl) ?_⟩
      have e2' : max (wN t l bs hx hy st K + dist (lX t l hx hy st K) (lY t l hx hy st K) (pk t (sq l K) (sk l K) 0 2) (pk t (sq l K) (sk l K) 1 3) + 0) (pk t (sq l K) (sk l K) 4 6) + 0 = wB t l bs hx hy st (K + 1) := by rw [e2, e1]; rfl
      rw [e2', ← e3]; exact wr64 _ (by omega)
  · have hK : K = l.length := by omega
    subst hK
    rw [wRows_len]
    refine ⟨fun hpos => ?_, fun hz => ?_⟩
    · obtain ⟨A, rfl⟩ := Int.eq_ofNat_of_zero_le ha.1
      have eb : ((A : Int).tmod (l.length : Int)) = ((A % l.length : Nat) : Int) := rfl
      have hlt2 : A % l.length < l.length := Nat.mod_lt _ (by omega)
      rw [eb]
      simp only [Int.toNat_natCast]
      rw [wRows_get t l bs hx hy st hlt2]
      have hin := rngs_at hr hlt2
      obtain ⟨p1, p2, p3, p4, p5, _, _⟩ := pkIn hq hin (geti (l.getD (A % l.length) []) 1)
      have q46 : pk t (geti (l.getD (A % l.length) []) 0) (geti (l.getD (A % l.length) []) 1) 4 6 = pk t (sq l (A % l.length)) (sk l (A % l.length)) 4 6 := rfl
      have q9' : rf t (geti (l.getD (A % l.length) []) 0) 9 = rf t (sq l (A % l.length)) 9 := rfl
      rw [q46] at p1 p2
      rw [q9'] at p4 p5
      have f1 := wA_eq (t := t) (l := l) (bs := bs) (hx := hx) (hy := hy) (st := st) (A % l.length)
      have f2 := wB_eq (t := t) (l := l) (bs := bs) (hx := hx) (hy := hy) (st := st) (A % l.length)
      have f3 := wN_eq (t := t) (l := l) (bs := bs) (hx := hx) (hy := hy) (st := st) (A % l.length)
      have hby2 := byN_in hbs (A % l.length)
      have hd := dist_in (lX t l hx hy st (A % l.length)) (lY t l hx hy st (A % l.length)) (pk t (sq l (A % l.length)) (sk l (A % l.length)) 0 2) (pk t (sq l (A % l.length)) (sk l (A % l.length)) 1 3)
      have hN0 := hN (A % l.length) (by omega)
      have hN1 := hN (A % l.length + 1) (by omega)
      have g0 : geti (wRow t l bs hx hy st (A % l.length)) 0 = wA t l bs hx hy st (A % l.length + 1) := rfl
      have g1 : geti (wRow t l bs hx hy st (A % l.length)) 1 = wB t l bs hx hy st (A % l.length + 1) := rfl
      have g2 : geti (wRow t l bs hx hy st (A % l.length)) 2 = wN t l bs hx hy st (A % l.length + 1) := rfl
      have hw0 : IntKind.i64.wrap (geti (wRow t l bs hx hy st (A % l.length)) 0 + d) = geti (wRow t l bs hx hy st (A % l.length)) 0 + d := wr64 _ (by omega)
      have hw1 : IntKind.i64.wrap (geti (wRow t l bs hx hy st (A % l.length)) 1 + d) = geti (wRow t l bs hx hy st (A % l.length)) 1 + d := wr64 _ (by omega)
      have hw2 : IntKind.i64.wrap (geti (wRow t l bs hx hy st (A % l.length)) 2 + d) = geti (wRow t l bs hx hy st (A % l.length)) 2 + d := wr64 _ (by omega)
      have eP : pT t l bs hx hy st (A : Int) w d = (wRows t l bs hx hy st l.length).set (A % l.length) (adj (wRow t l bs hx hy st (A % l.length)) w d) := by
        unfold pT; rw [Int.toNat_natCast, wRows_get t l bs hx hy st hlt2]
      rw [eP, hw0, hw1, hw2]
      refine ⟨by omega, ⟨by omega, by omega⟩, fun h0 => ?_, fun h0 => ⟨fun h1 => ?_, fun h1 => ?_⟩⟩
      · unfold adj; rw [decide_eq_true h0]; rfl
      · unfold adj; rw [decide_eq_false h0, decide_eq_true h1]; rfl
      · unfold adj; rw [decide_eq_false h0, decide_eq_false h1]; rfl
    · have h0 : l.length = 0 := by omega
      unfold pT; rw [h0]; rfl
theorem okG46 : PCok Tryd.prog G46 := addPC_ok okG45 okPti
end Go.Proofs.YtfhjnececgoadaaDoor
