/- The contracts hold. No condition. -/
import Derived.Test.YtfhjnececgoadaaDoorS9T
import Derived.Test.YtfhjnececgoadaaDoorV4N
namespace Go.Proofs.YtfhjnececgoadaaDoor
open Go.Eng
set_option linter.unusedSimpArgs false
theorem okG0 : PCok Tryd.prog G0 := noPC_ok
theorem cnt_append (r k : Int) : ∀ xs ys, cnt r k (xs ++ ys) = cnt r k xs + cnt r k ys
  | [], ys => by simp [cnt]
  | x :: l, ys => by simp only [List.cons_append, cnt, cnt_append r k l ys]; omega
theorem cnt_bd (r k : Int) : ∀ xs, 0 ≤ cnt r k xs ∧ cnt r k xs ≤ xs.length
  | [] => by simp [cnt]
  | x :: l => by
    have := cnt_bd r k l
    simp only [cnt, List.length_cons]
    cases isS r k x <;> simp <;> omega
theorem cnt_snoc (r k : Int) {xs : List (List Value)} {j : Nat} (h : j < xs.length) : cnt r k (xs.take (j + 1)) = cnt r k (xs.take j) + cond (isS r k (xs.getD j [])) 1 0 := by
  rw [take_snoc (d := []) h, cnt_append]; simp [cnt]
theorem isS_iff {r k : Int} {x : List Value} : isS r k x = true ↔ geti x 0 = r ∧ geti x 1 = k := by simp [isS]
theorem isS_no {r k : Int} {x : List Value} (h : geti x 0 ≠ r ∨ geti x 1 ≠ k) : isS r k x = false := by
  cases hx : isS r k x with
  | false => rfl
  | true => have := isS_iff.1 hx; rcases h with h | h
            · exact absurd this.1 h
            · exact absurd this.2 h
theorem cnt_pos {r k : Int} : ∀ {xs : List (List Value)}, 0 < cnt r k xs → ∃ i, i < xs.length ∧ geti (xs.getD i []) 0 = r ∧ geti (xs.getD i []) 1 = k
  | [], h => by simp [cnt] at h
  | x :: l, h => by
    cases hx : isS r k x with
    | true => exact ⟨0, by simp, by simpa using isS_iff.1 hx⟩
    | false =>
      simp only [cnt, hx, cond_false] at h
      obtain ⟨i, h1, h2⟩ := cnt_pos (r := r) (k := k) (xs := l) (by omega)
      exact ⟨i + 1, by simp; omega, by simpa using h2⟩
theorem cnt_mono (r k : Int) (xs : List (List Value)) (i : Nat) : cnt r k (xs.take i) ≤ cnt r k xs := by
  have := cnt_append r k (xs.take i) (xs.drop i)
  rw [List.take_append_drop] at this
  have := (cnt_bd r k (xs.drop i)).1
  omega
theorem okAt_iff {xs : List (List Value)} {i : Nat} : okAt xs i = true ↔ 0 ≤ geti (xs.getD i []) 0 ∧ (geti (xs.getD i []) 1 = 0 ∨ geti (xs.getD i []) 1 = 1) ∧ cnt (geti (xs.getD i []) 0) 0 xs = 1 ∧ cnt (geti (xs.getD i []) 0) 1 xs = 1 ∧
    (geti (xs.getD i []) 1 = 1 → cnt (geti (xs.getD i []) 0) 0 (xs.take i) = 1) := by
  simp [okAt, Decidable.imp_iff_not_or]
theorem okB_iff {xs : List (List Value)} : okB xs = true ↔ ∀ i, i < xs.length → okAt xs i = true := by
  simp [okB, List.all_eq_true]
theorem ok_step {xs : List (List Value)} (h : okB xs = true) : ∀ i, i < xs.length → stepOk xs i := by
  intro i hi
  obtain ⟨h1, h2, h3, h4, h5⟩ := okAt_iff.1 (okB_iff.1 h i hi)
  generalize hr : geti (xs.getD i []) 0 = r at h1 h3 h4 h5
  refine ⟨by rw [hr]; exact h1, ?_⟩
  rw [hr]
  have s0 := cnt_snoc r 0 hi
  have s1 := cnt_snoc r 1 hi
  have m0 := cnt_mono r 0 xs (i + 1)
  have m1 := cnt_mono r 1 xs (i + 1)
  have b0 := cnt_bd r 0 (xs.take i)
  have b1 := cnt_bd r 1 (xs.take i)
  rcases h2 with h2 | h2
  · left
    rw [isS_iff.2 ⟨hr, h2⟩, cond_true] at s0
    refine ⟨h2, by omega, ?_⟩
    rcases Int.lt_or_le 0 (cnt r 1 (xs.take i)) with hlt | hle
    · exfalso
      obtain ⟨j, hj, hj0, hj1⟩ := cnt_pos hlt
      have hj' : j < i := by simp at hj; omega
      have hg : (xs.take i).getD j [] = xs.getD j [] := by simp [List.getD, List.getElem?_take, hj']
      rw [hg] at hj0 hj1
      obtain ⟨_, _, _, _, g5⟩ := okAt_iff.1 (okB_iff.1 h j (by omega))
      have := g5 hj1
      rw [hj0] at this
      have hm := cnt_mono r 0 (xs.take i) j
      rw [List.take_take, Nat.min_eq_left (by omega)] at hm
      omega
    · omega
  · right
    rw [isS_iff.2 ⟨hr, h2⟩, cond_true] at s1
    exact ⟨h2, h5 h2, by omega⟩
theorem ok_eq {xs : List (List Value)} (h : okB xs = true) (r : Int) : cnt r 0 xs = cnt r 1 xs := by
  have key : ∀ k, (k = 0 ∨ k = 1) → 0 < cnt r k xs → cnt r 0 xs = 1 ∧ cnt r 1 xs = 1 := fun k hk h0 => by
    obtain ⟨i, hi, h1, h2⟩ := cnt_pos h0
    obtain ⟨_, _, h3, h4, _⟩ := okAt_iff.1 (okB_iff.1 h i hi)
    rw [h1] at h3 h4
    exact ⟨h3, h4⟩
  have b0 := cnt_bd r 0 xs
  have b1 := cnt_bd r 1 xs
  rcases Int.lt_or_le 0 (cnt r 0 xs) with h0 | h0
  · have := key 0 (.inl rfl) h0; omega
  · rcases Int.lt_or_le 0 (cnt r 1 xs) with h1 | h1
    · have := key 1 (.inr rfl) h1; omega
    · omega
theorem step_le {xs : List (List Value)} {n : Nat} (hn : n ≤ xs.length) (h : ∀ i, i < n → stepOk xs i) (r : Int) : cnt r 0 (xs.take n) ≤ 1 ∧ cnt r 1 (xs.take n) ≤ cnt r 0 (xs.take n) := by
  induction n with
  | zero => simp [cnt]
  | succ n ih =>
    obtain ⟨i1, i2⟩ := ih (by omega) fun i hi => h i (by omega)
    obtain ⟨g1, g2⟩ := h n (by omega)
    rw [cnt_snoc r 0 (by omega), cnt_snoc r 1 (by omega)]
    by_cases hr : geti (xs.getD n []) 0 = r
    · rw [hr] at g2
      rcases g2 with ⟨k1, k2, k3⟩ | ⟨k1, k2, k3⟩
      · have e0 : isS r 0 (xs.getD n []) = true := isS_iff.2 ⟨hr, k1⟩
        have e1 : isS r 1 (xs.getD n []) = false := isS_no (.inr (by omega))
        rw [e0, e1]; simp; omega
      · have e0 : isS r 0 (xs.getD n []) = false := isS_no (.inr (by omega))
        have e1 : isS r 1 (xs.getD n []) = true := isS_iff.2 ⟨hr, k1⟩
        rw [e0, e1]; simp; omega
    · have e0 : isS r 0 (xs.getD n []) = false := isS_no (.inl hr)
      have e1 : isS r 1 (xs.getD n []) = false := isS_no (.inl hr)
      rw [e0, e1]; simp; omega
theorem ok_of {xs : List (List Value)} (h : ∀ i, i < xs.length → stepOk xs i) (he : ∀ r, cnt r 0 xs = cnt r 1 xs) : okB xs = true := by
  rw [okB_iff]
  intro i hi
  rw [okAt_iff]
  obtain ⟨h1, h2⟩ := h i hi
  have hl := step_le (Nat.le_refl _) h (geti (xs.getD i []) 0)
  rw [List.take_length] at hl
  have heq := he (geti (xs.getD i []) 0)
  have m0 := cnt_mono (geti (xs.getD i []) 0) 0 xs (i + 1)
  have m1 := cnt_mono (geti (xs.getD i []) 0) 1 xs (i + 1)
  rw [cnt_snoc _ 0 hi] at m0
  rw [cnt_snoc _ 1 hi] at m1
  have b0 := cnt_bd (geti (xs.getD i []) 0) 0 (xs.take i)
  rcases h2 with ⟨k1, k2, k3⟩ | ⟨k1, k2, k3⟩
  · rw [isS_iff.2 ⟨rfl, k1⟩, cond_true] at m0
    exact ⟨h1, .inl k1, by omega, by omega, fun e => by omega⟩
  · rw [isS_iff.2 ⟨rfl, k1⟩, cond_true] at m1
    exact ⟨h1, .inr k1, by omega, by omega, fun _ => k2⟩
theorem mget_mset (m : List (Int × List Value)) (r r' : Int) (v z : List Value) : mget (mset m r v) r' z = if r' = r then v else mget m r' z := by
  induction m with
  | nil =>
    by_cases h : r' = r
    · subst h; simp [mset, mget]
    · have h' : ¬ r = r' := fun e => h e.symm
      simp [mset, mget, h, h']
  | cons x l ih =>
    by_cases hx : x.1 = r
    · by_cases h : r' = r
      · subst h; simp [mset, mget, hx]
      · have h' : ¬ r = r' := fun e => h e.symm
        have h2 : ¬ x.1 = r' := fun e => h' (hx.symm.trans e)
        simp [mset, mget, hx, h, h', h2]
    · by_cases h2 : x.1 = r'
      · have h : ¬ r' = r := fun e => hx (h2.trans e)
        simp [mset, mget, hx, h2, h]
      · simp only [mset, hx, decide_false, cond_false, mget, h2, ih]
theorem mset_keys (m : List (Int × List Value)) (r : Int) (v : List Value) : (∃ x ∈ m, x.1 = r) ∧ (mset m r v).map (·.1) = m.map (·.1) ∨ (∀ x ∈ m, x.1 ≠ r) ∧ (mset m r v).map (·.1) = m.map (·.1) ++ [r] := by
  induction m with
  | nil => right; simp [mset]
  | cons x l ih =>
    by_cases hx : x.1 = r
    · left; exact ⟨⟨x, .head _, hx⟩, by simp [mset, hx]⟩
    · rcases ih with ⟨⟨y, hy, e⟩, h2⟩ | ⟨h1, h2⟩
      · left; exact ⟨⟨y, .tail _ hy, e⟩, by simp [mset, hx, h2]⟩
      · right
        refine ⟨fun y hy => ?_, by simp [mset, hx, h2]⟩
        rcases List.mem_cons.1 hy with rfl | hy
        · exact hx
        · exact h1 y hy
theorem mset_nd {m : List (Int × List Value)} {r : Int} {v : List Value} (h : (m.map (·.1)).Nodup) : ((mset m r v).map (·.1)).Nodup := by
  rcases mset_keys m r v with ⟨_, h2⟩ | ⟨h1, h2⟩
  · rw [h2]; exact h
  · rw [h2, List.nodup_append]
    refine ⟨h, by simp, fun a ha b hb => ?_⟩
    obtain ⟨x, hx, rfl⟩ := List.mem_map.1 ha
    rw [List.mem_singleton.1 hb]; exact h1 x hx
theorem mget_mem {m : List (Int × List Value)} (h : (m.map (·.1)).Nodup) {x : Int × List Value} (hx : x ∈ m) (z : List Value) : mget m x.1 z = x.2 := by
  induction m with
  | nil => cases hx
  | cons y l ih =>
    simp only [List.map_cons, List.nodup_cons] at h
    rcases List.mem_cons.1 hx with rfl | hx
    · simp [mget]
    · have : ¬ y.1 = x.1 := fun e => h.1 (by rw [e]; exact List.mem_map_of_mem hx)
      simp [mget, this, ih h.2 hx]
theorem mget_or (m : List (Int × List Value)) (r : Int) (z : List Value) : mget m r z = z ∨ ∃ j, j < m.length ∧ (m.getD j (0, [])).1 = r ∧ mget m r z = (m.getD j (0, [])).2 := by
  induction m with
  | nil => left; rfl
  | cons x l ih =>
    by_cases hx : x.1 = r
    · right; exact ⟨0, by simp, by simpa using hx, by simp [mget, hx]⟩
    · rcases ih with h | ⟨j, h1, h2, h3⟩
      · left; simp [mget, hx, h]
      · right; exact ⟨j + 1, by simp; omega, by simpa using h2, by simp [mget, hx]; exact h3⟩
theorem MInv.step {xs : List (List Value)} {m : List (Int × List Value)} {j : Nat} (h : MInv (xs.take j) m) (hj : j < xs.length) (c0 c1 : Int)
    (h0 : c0 = cnt (geti (xs.getD j []) 0) 0 (xs.take (j + 1))) (h1 : c1 = cnt (geti (xs.getD j []) 0) 1 (xs.take (j + 1))) : MInv (xs.take (j + 1)) (mset m (geti (xs.getD j []) 0) (pr c0 c1)) := by
  have has : ∀ r, mget (mset m (geti (xs.getD j []) 0) (pr c0 c1)) r (pr 0 0) = pr (cnt r 0 (xs.take (j + 1))) (cnt r 1 (xs.take (j + 1))) := by
    intro r
    rw [mget_mset]
    by_cases hr : r = geti (xs.getD j []) 0
    · rw [if_pos hr, h0, h1, hr]
    · rw [if_neg hr, h.has r, cnt_snoc r 0 hj, cnt_snoc r 1 hj]
      have e : ∀ k, isS r k (xs.getD j []) = false := fun k => isS_no (.inl fun e => hr e.symm)
      rw [e 0, e 1]; simp
  refine ⟨fun x hx => ?_, mset_nd h.nd, has⟩
  rw [← has x.1, mget_mem (mset_nd h.nd) hx]
theorem nd_le : ∀ (n : Nat) (l : List Nat), l.Nodup → (∀ i ∈ l, i < n) → l.length ≤ n
  | 0, l, _, h => by
    cases l with
    | nil => simp
    | cons a l => exact absurd (h a (.head _)) (by omega)
  | n + 1, l, hn, h => by
    have h1 := nd_le n (l.erase n) (hn.erase n) fun i hi => by
      have h2 := (hn.mem_erase_iff).1 hi
      have := h i h2.2
      have := h2.1
      omega
    rw [List.length_erase] at h1
    split at h1 <;> omega
theorem walk (m : List (Int × List Value)) (e0 c : Int) (he : e0 = 8 ∨ e0 = 0) (h8 : e0 = 8 → c = 8) (hb : (∃ j, j < m.length ∧ bad m j) → c = 8) (hn : e0 = 0 → (∀ j, j < m.length → ¬ bad m j) → c = 0) :
    ∃ s : WkS, WkI m e0 s ∧ ((e0 = s.e ∧ 0 ≤ s.e ∧ s.e ≤ 8) ∧ [] = s.seen) ∧ ∀ z : WkS, WkI m e0 z → (∀ j : Nat, j < m.length → z.seen.contains j = false → j < m.length ∧
      (¬ geti (m.getD j (0, [])).snd 0 = geti (m.getD j (0, [])).snd 1 → ∃ s : WkS, WkI m e0 s ∧ m.length + 1 - s.seen.length < m.length + 1 - z.seen.length ∧ (8 = s.e ∧ 0 ≤ s.e ∧ s.e ≤ 8) ∧ j :: z.seen = s.seen) ∧
      (geti (m.getD j (0, [])).snd 0 = geti (m.getD j (0, [])).snd 1 → ∃ s : WkS, WkI m e0 s ∧ m.length + 1 - s.seen.length < m.length + 1 - z.seen.length ∧ z.e = s.e ∧ j :: z.seen = s.seen)) ∧
      ((∀ j : Nat, j < m.length → z.seen.contains j = true) → z.e = c) := by
  refine ⟨⟨[], e0⟩, ⟨by simp, by simp, ?_⟩, ⟨⟨rfl, by dsimp only; omega, by dsimp only; omega⟩, rfl⟩, ?_⟩
  · rcases he with rfl | rfl
    · exact .inl ⟨rfl, .inl rfl⟩
    · exact .inr ⟨rfl, rfl, by simp⟩
  intro z hz
  have grow : ∀ j, j < m.length → z.seen.contains j = false → (∀ i ∈ j :: z.seen, i < m.length) ∧ (j :: z.seen).Nodup ∧ m.length + 1 - (j :: z.seen).length < m.length + 1 - z.seen.length := by
    intro j hj hc
    have hc' : j ∉ z.seen := by simpa using hc
    have hnd : (j :: z.seen).Nodup := List.nodup_cons.2 ⟨hc', hz.nd⟩
    have hlt : ∀ i ∈ j :: z.seen, i < m.length := by
      intro i hi
      rcases List.mem_cons.1 hi with rfl | hi
      · exact hj
      · exact hz.lt i hi
    have hsub := nd_le _ _ hnd hlt
    simp only [List.length_cons] at hsub
    exact ⟨hlt, hnd, by simp only [List.length_cons]; omega⟩
  refine ⟨fun j hj hc => ⟨hj, fun hne => ?_, fun heq => ?_⟩, fun hall => ?_⟩
  · obtain ⟨g1, g2, g3⟩ := grow j hj hc
    exact ⟨⟨j :: z.seen, 8⟩, ⟨g1, g2, .inl ⟨rfl, .inr ⟨j, .head _, hne⟩⟩⟩, g3, ⟨rfl, by simp, by simp⟩, rfl⟩
  · obtain ⟨g1, g2, g3⟩ := grow j hj hc
    refine ⟨⟨j :: z.seen, z.e⟩, ⟨g1, g2, ?_⟩, g3, rfl, rfl⟩
    rcases hz.e with ⟨a1, a2 | ⟨i, hi, hbi⟩⟩ | ⟨a1, a2, a3⟩
    · exact .inl ⟨a1, .inl a2⟩
    · exact .inl ⟨a1, .inr ⟨i, .tail _ hi, hbi⟩⟩
    · refine .inr ⟨a1, a2, fun i hi => ?_⟩
      rcases List.mem_cons.1 hi with rfl | hi
      · exact fun hb' => hb' heq
      · exact a3 i hi
  · rcases hz.e with ⟨a1, a2 | ⟨i, hi, hbi⟩⟩ | ⟨a1, a2, a3⟩
    · rw [a1, h8 a2]
    · rw [a1, hb ⟨i, hz.lt i hi, hbi⟩]
    · rw [a1, hn a2 fun j hj => a3 j (by simpa using hall j hj)]
theorem checkE_bd (xs : List (List Value)) : 0 ≤ checkE xs ∧ checkE xs ≤ 11 := by
  unfold checkE; cases decide (16 < lenI xs) <;> cases okB xs <;> simp
theorem checkE_11 {xs : List (List Value)} (h : 16 < (xs.length : Int)) : checkE xs = 11 := by
  unfold checkE; rw [lenI_eq, decide_eq_true h]; rfl
theorem checkE_ok {xs : List (List Value)} (h : ¬ 16 < (xs.length : Int)) : (okB xs = true → checkE xs = 0) ∧ (¬ okB xs = true → checkE xs = 8) := by
  unfold checkE; rw [lenI_eq, decide_eq_false h]
  exact ⟨fun h => by rw [h]; rfl, fun h => by rw [Bool.eq_false_iff.2 h]; rfl⟩
set_option maxHeartbeats 4000000 in
theorem okCnt : CtrOk Tryd.prog 82 kCnt := good_of okG0 mixed (fun (xs, (r, k, _), _) => cntL r k xs) 100 fun (xs, (r, k, _), _) hf hn => by
  refine ⟨rfl, Eq.mpr (tCnt xs r k) ?_⟩
  have hm : (xs.length : Int) ≤ 9223372036854775807 := len63 hf.1.2
  (simp only [eq_self_iff_true, true_and, and_true, false_and, and_false, Bool.or_not_self, Bool.not_or_self, Bool.cond_self, cond_true, cond_false, Bool.cond_true_right, Bool.cond_true_left, Bool.cond_false_right, Bool.cond_false_left, Bool.or_true, Bool.true_or, Bool.or_false, Bool.false_or, Bool.and_true, Bool.true_and, Bool.and_false, Bool.false_and, Bool.not_not, forall_eq, ← Bool.decide_and, ← Bool.decide_or, ← decide_not, cDecF, cDecT, cDecFl, Decidable.not_not, Bool.not_true, Bool.not_false, Bool.false_eq_true, imp_false, not_true_eq_false, not_false_eq_true, forall_const, true_implies, false_implies, implies_true, decide_true, decide_false]; try simp only [cDec, eq_self_iff_true, true_and, and_true, false_and, and_false, Bool.or_not_self, Bool.not_or_self, Bool.cond_self, cond_true, cond_false, Bool.cond_true_right, Bool.cond_true_left, Bool.cond_false_right, Bool.cond_false_left, Bool.or_true, Bool.true_or, Bool.or_false, Bool.false_or, Bool.and_true, Bool.true_and, Bool.and_false, Bool.false_and, Bool.not_not, forall_eq, ← Bool.decide_and, ← Bool.decide_or, ← decide_not, cDecF, cDecT, cDecFl, Decidable.not_not, Bool.not_true, Bool.not_false, Bool.false_eq_true, imp_false, not_true_eq_false, not_false_eq_true, forall_const, true_implies, false_implies, implies_true, decide_true, decide_false])
  have hb := cnt_bd r k
  refine ⟨0, ⟨by omega, by omega⟩, ⟨⟨rfl, by omega, by omega⟩, by simp [cnt], by simp [cnt], by simp [cnt]⟩, ?_⟩
  intro j hj
  refine ⟨fun hlt => ⟨⟨by omega, hlt⟩, ?_⟩, fun hge => by rw [show j.toNat = xs.length by omega, List.take_length]⟩
  have e : (j + 1).toNat = j.toNat + 1 := by omega
  have ew : IntKind.i64.wrap (j + 1) = j + 1 := wr64 _ (by omega)
  have hs := cnt_snoc r k (xs := xs) (j := j.toNat) (by omega)
  have b1 := hb (xs.take j.toNat)
  have b2 := hb (xs.take (j.toNat + 1))
  have l1 : ((xs.take j.toNat).length : Int) ≤ xs.length := by simp; omega
  have l2 : ((xs.take (j.toNat + 1)).length : Int) ≤ xs.length := by simp; omega
  rw [ew]
  refine bif_intro (fun h => ?_) (fun h => ?_)
  · have h1 : isS r k (xs.getD j.toNat []) = true := by simpa [isS] using h
    rw [h1, cond_true] at hs
    have ew2 : IntKind.i64.wrap (cnt r k (xs.take j.toNat) + 1) = cnt r k (xs.take j.toNat) + 1 := wr64 _ (by omega)
    rw [ew2]
    exact ⟨j + 1, by omega, by omega, by omega, by rw [e]; omega, by rw [e]; omega, by rw [e]; omega⟩
  · have h1 : isS r k (xs.getD j.toNat []) = false := by
      cases hx : isS r k (xs.getD j.toNat []) with
      | false => rfl
      | true => have := isS_iff.1 hx; rw [this.1, this.2] at h; simp at h
    rw [h1, cond_false] at hs
    exact ⟨j + 1, by omega, by omega, by omega, by rw [e]; omega⟩
theorem okG1 : PCok Tryd.prog G1 := addPC_ok okG0 okCnt
set_option maxHeartbeats 4000000 in
theorem okRck : CtrOk Tryd.prog 61 kRck := good_of okG1 mixed (fun (xs, _) => rckL xs) 100 fun (xs, _) hf hn => by
  refine ⟨rfl, Eq.mpr (tRck xs) ?_⟩
  have hm : (xs.length : Int) ≤ 9223372036854775807 := len63 hf.1.2
  (simp only [eq_self_iff_true, true_and, and_true, false_and, and_false, Bool.or_not_self, Bool.not_or_self, Bool.cond_self, cond_true, cond_false, Bool.cond_true_right, Bool.cond_true_left, Bool.cond_false_right, Bool.cond_false_left, Bool.or_true, Bool.true_or, Bool.or_false, Bool.false_or, Bool.and_true, Bool.true_and, Bool.and_false, Bool.false_and, Bool.not_not, forall_eq, ← Bool.decide_and, ← Bool.decide_or, ← decide_not, cDecF, cDecT, cDecFl, Decidable.not_not, Bool.not_true, Bool.not_false, Bool.false_eq_true, imp_false, not_true_eq_false, not_false_eq_true, forall_const, true_implies, false_implies, implies_true, decide_true, decide_false]; try simp only [cDec, eq_self_iff_true, true_and, and_true, false_and, and_false, Bool.or_not_self, Bool.not_or_self, Bool.cond_self, cond_true, cond_false, Bool.cond_true_right, Bool.cond_true_left, Bool.cond_false_right, Bool.cond_false_left, Bool.or_true, Bool.true_or, Bool.or_false, Bool.false_or, Bool.and_true, Bool.true_and, Bool.and_false, Bool.false_and, Bool.not_not, forall_eq, ← Bool.decide_and, ← Bool.decide_or, ← decide_not, cDecF, cDecT, cDecFl, Decidable.not_not, Bool.not_true, Bool.not_false, Bool.false_eq_true, imp_false, not_true_eq_false, not_false_eq_true, forall_const, true_implies, false_implies, implies_true, decide_true, decide_false])
  have hbd := checkE_bd xs
  refine ⟨fun h => ⟨(checkE_11 h).symm, hbd⟩, fun h16 => ?_⟩
  obtain ⟨c0, c8⟩ := checkE_ok h16
  refine ⟨0, ⟨by omega, by omega, fun i hi => by omega⟩, by omega, ?_⟩
  rintro j ⟨j0, j1, hok⟩
  have ew : j < (xs.length : Int) → IntKind.i64.wrap (j + 1) = j + 1 := fun _ => wr64 _ (by omega)
  have e1 : (xs.drop 0).take (j - 0).toNat = xs.take j.toNat := by simp
  rw [e1]
  refine ⟨fun hlt => ⟨⟨j0, hlt⟩, fun hbad => ?_, fun hg => ⟨by omega, fun hbad => ?_, fun hg2 => ?_⟩⟩, fun hge => ?_⟩
  · refine ⟨(c8 fun hk => ?_).symm, hbd⟩
    have := okAt_iff.1 (okB_iff.1 hk j.toNat (by omega))
    omega
  · refine ⟨(c8 fun hk => ?_).symm, hbd⟩
    have := okAt_iff.1 (okB_iff.1 hk j.toNat (by omega))
    exact hbad.2 (this.2.2.2.2 hbad.1)
  · rw [ew hlt]
    refine ⟨j + 1, ⟨by omega, by omega, fun i hi => ?_⟩, by omega, rfl, by omega, by omega⟩
    by_cases hij : i < j.toNat
    · exact hok i hij
    · have : i = j.toNat := by omega
      subst this
      exact okAt_iff.2 ⟨by omega, by omega, by omega, by omega, fun e => by
        rcases Decidable.em (cnt (geti (xs.getD j.toNat []) 0) 0 (xs.take j.toNat) = 1) with h | h
        · exact h
        · exact absurd ⟨e, h⟩ hg2⟩
  · exact ⟨(c0 (okB_iff.2 fun i hi => hok i (by omega))).symm, hbd⟩
theorem okG2 : PCok Tryd.prog G2 := addPC_ok okG1 okRck
set_option maxHeartbeats 4000000 in
theorem okCk : CtrOk Tryd.prog 70 kCk := good_of okG2 mixed (fun (xs, _) => ckL xs) 100 fun (xs, _) hf hn => by
  refine ⟨rfl, Eq.mpr (tCk xs) ?_⟩
  have hm : (xs.length : Int) ≤ 9223372036854775807 := len63 hf.1.2
  (simp only [eq_self_iff_true, true_and, and_true, false_and, and_false, Bool.or_not_self, Bool.not_or_self, Bool.cond_self, cond_true, cond_false, Bool.cond_true_right, Bool.cond_true_left, Bool.cond_false_right, Bool.cond_false_left, Bool.or_true, Bool.true_or, Bool.or_false, Bool.false_or, Bool.and_true, Bool.true_and, Bool.and_false, Bool.false_and, Bool.not_not, forall_eq, ← Bool.decide_and, ← Bool.decide_or, ← decide_not, cDecF, cDecT, cDecFl, Decidable.not_not, Bool.not_true, Bool.not_false, Bool.false_eq_true, imp_false, not_true_eq_false, not_false_eq_true, forall_const, true_implies, false_implies, implies_true, decide_true, decide_false]; try simp only [cDec, eq_self_iff_true, true_and, and_true, false_and, and_false, Bool.or_not_self, Bool.not_or_self, Bool.cond_self, cond_true, cond_false, Bool.cond_true_right, Bool.cond_true_left, Bool.cond_false_right, Bool.cond_false_left, Bool.or_true, Bool.true_or, Bool.or_false, Bool.false_or, Bool.and_true, Bool.true_and, Bool.and_false, Bool.false_and, Bool.not_not, forall_eq, ← Bool.decide_and, ← Bool.decide_or, ← decide_not, cDecF, cDecT, cDecFl, Decidable.not_not, Bool.not_true, Bool.not_false, Bool.false_eq_true, imp_false, not_true_eq_false, not_false_eq_true, forall_const, true_implies, false_implies, implies_true, decide_true, decide_false])
  have hbd := checkE_bd xs
  refine ⟨fun h => ⟨(checkE_11 h).symm, hbd⟩, fun h16 => ?_⟩
  obtain ⟨c0, c8⟩ := checkE_ok h16
  refine ⟨⟨0, []⟩, ⟨by simp, by simp, fun i hi => by simp at hi, ⟨by simp, by simp, fun r => rfl⟩⟩, ⟨⟨rfl, by simp, by simp⟩, rfl⟩, ?_⟩
  rintro ⟨j, m⟩ hI
  have j0 := hI.j0
  have j1 := hI.j1
  have hok := hI.ok
  have hmi := hI.mi
  dsimp only at j0 j1 hok hmi ⊢
  refine ⟨fun hlt => ⟨⟨j0, hlt⟩, fun hneg => ?_, fun hge => ?_⟩, fun hge => ?_⟩
  · have c := c8 fun hk => by have := (ok_step hk j.toNat (by omega)).1; omega
    rw [c]
    exact walk m 8 8 (.inl rfl) (fun _ => rfl) (fun _ => rfl) (fun h => by cases h)
  · have hg := hmi.has (geti (xs.getD j.toNat []) 0)
    have ew : IntKind.i64.wrap (j + 1) = j + 1 := wr64 _ (by omega)
    have e : (j + 1).toNat = j.toNat + 1 := by omega
    have g0 : geti (mget m (geti (xs.getD j.toNat []) 0) [Value.int .i64 0, Value.int .i64 0]) 0 = cnt (geti (xs.getD j.toNat []) 0) 0 (xs.take j.toNat) := by
      show geti (mget m (geti (xs.getD j.toNat []) 0) (pr 0 0)) 0 = _
      rw [hg]; rfl
    have g1 : geti (mget m (geti (xs.getD j.toNat []) 0) [Value.int .i64 0, Value.int .i64 0]) 1 = cnt (geti (xs.getD j.toNat []) 0) 1 (xs.take j.toNat) := by
      show geti (mget m (geti (xs.getD j.toNat []) 0) (pr 0 0)) 1 = _
      rw [hg]; rfl
    rw [g0, g1, ew]
    have s0 := cnt_snoc (geti (xs.getD j.toNat []) 0) 0 (xs := xs) (j := j.toNat) (by omega)
    have s1 := cnt_snoc (geti (xs.getD j.toNat []) 0) 1 (xs := xs) (j := j.toNat) (by omega)
    have next : ∀ v0 v1 : Int, stepOk xs j.toNat → v0 = cnt (geti (xs.getD j.toNat []) 0) 0 (xs.take (j.toNat + 1)) → v1 = cnt (geti (xs.getD j.toNat []) 0) 1 (xs.take (j.toNat + 1)) →
        ∃ s : CkS, CkI xs s ∧ ((xs.length : Int) - s.j).toNat < ((xs.length : Int) - j).toNat ∧ (j + 1 = s.j ∧ 0 ≤ s.j ∧ s.j ≤ 9223372036854775807) ∧ mset m (geti (xs.getD j.toNat []) 0) [Value.int .i64 v0, Value.int .i64 v1] = s.m := by
      intro v0 v1 hst hv0 hv1
      refine ⟨⟨j + 1, mset m (geti (xs.getD j.toNat []) 0) (pr v0 v1)⟩, ⟨by dsimp only; omega, by dsimp only; omega, fun i hi => ?_, ?_⟩, by dsimp only; omega, ⟨rfl, by dsimp only; omega, by dsimp only; omega⟩, rfl⟩
      · dsimp only at hi
        by_cases hij : i < j.toNat
        · exact hok i hij
        · have : i = j.toNat := by omega
          subst this; exact hst
      · dsimp only
        rw [e]
        exact hmi.step (by omega) v0 v1 hv0 hv1
    refine bif_intro (fun h => ?_) (fun h => bif_intro (fun h2 => ?_) (fun h2 => ?_))
    · simp only [Bool.and_eq_true, decide_eq_true_eq, beq_iff_eq] at h
      obtain ⟨k0, q0, q1⟩ := h
      rw [isS_iff.2 ⟨rfl, k0⟩, cond_true] at s0
      rw [show isS (geti (xs.getD j.toNat []) 0) 1 (xs.getD j.toNat []) = false from isS_no (.inr (by omega)), cond_false] at s1
      have w1 : IntKind.i64.wrap (cnt (geti (xs.getD j.toNat []) 0) 0 (xs.take j.toNat) + 1) = cnt (geti (xs.getD j.toNat []) 0) 0 (xs.take j.toNat) + 1 := wr64 _ (by omega)
      rw [w1]
      exact next _ _ ⟨by omega, .inl ⟨k0, q0, q1⟩⟩ (by omega) (by omega)
    · simp only [Bool.and_eq_true, decide_eq_true_eq, beq_iff_eq] at h2
      obtain ⟨k0, q0, q1⟩ := h2
      rw [isS_iff.2 ⟨rfl, k0⟩, cond_true] at s1
      rw [show isS (geti (xs.getD j.toNat []) 0) 0 (xs.getD j.toNat []) = false from isS_no (.inr (by omega)), cond_false] at s0
      have w1 : IntKind.i64.wrap (cnt (geti (xs.getD j.toNat []) 0) 1 (xs.take j.toNat) + 1) = cnt (geti (xs.getD j.toNat []) 0) 1 (xs.take j.toNat) + 1 := wr64 _ (by omega)
      rw [w1]
      exact next _ _ ⟨by omega, .inr ⟨k0, q0, q1⟩⟩ (by omega) (by omega)
    · have c := c8 fun hk => by
        obtain ⟨_, a | a⟩ := ok_step hk j.toNat (by omega)
        · rw [a.1, a.2.1, a.2.2] at h; simp at h
        · rw [a.1, a.2.1, a.2.2] at h2; simp at h2
      rw [c]
      exact walk m 8 8 (.inl rfl) (fun _ => rfl) (fun _ => rfl) (fun h => by cases h)
  · have hj : j.toNat = xs.length := by omega
    rw [hj, List.take_length] at hmi
    rw [hj] at hok
    refine walk m 0 (checkE xs) (.inr rfl) (fun h => by cases h) ?_ ?_
    · rintro ⟨i, hi, hb⟩
      refine c8 fun hk => hb ?_
      have hmem : m.getD i (0, []) ∈ m := by
        rw [List.getD, List.getElem?_eq_getElem hi]; exact List.getElem_mem hi
      rw [hmi.all _ hmem]
      exact ok_eq hk _
    · intro _ hnb
      refine c0 (ok_of hok fun r => ?_)
      have hr := hmi.has r
      rcases mget_or m r (pr 0 0) with hz | ⟨i, hi, h1, h2⟩
      · rw [hz] at hr
        have a := congrArg (fun l => geti l 0) hr
        have b := congrArg (fun l => geti l 1) hr
        simp [pr, geti] at a b
        omega
      · have := hnb i hi
        unfold bad at this
        rw [Decidable.not_not, ← h2, hr] at this
        exact this
theorem okG3 : PCok Tryd.prog G3 := addPC_ok okG2 okCk
theorem okGK : PCok Tryd.prog GK := litPC_ok okG3
theorem apart_in {a b : Int} (ha : 0 ≤ a ∧ a ≤ 1023) (hb : 0 ≤ b ∧ b ≤ 1023) : 0 ≤ apart a b ∧ apart a b ≤ 1023 := by unfold apart; omega
theorem dist_in (a b x y : Int) : 0 ≤ dist a b x y ∧ dist a b x y ≤ 2046 := by
  unfold dist
  split
  · rename_i h
    have h1 := apart_in (a := a) (b := x) ⟨h.1.1, h.1.2.1⟩ ⟨h.2.1, h.2.2.1⟩
    have h2 := apart_in (a := b) (b := y) ⟨h.1.2.2.1, h.1.2.2.2⟩ ⟨h.2.2.2.1, h.2.2.2.2⟩
    omega
  · omega
theorem chk_in (fx fy tx ty pe pl de dl lo se : Int) : 0 ≤ chk fx fy tx ty pe pl de dl lo se ∧ chk fx fy tx ty pe pl de dl lo se ≤ 6 := by unfold chk; (repeat' split) <;> omega
theorem veh_in (hx hy cap st en : Int) : 0 ≤ veh hx hy cap st en ∧ veh hx hy cap st en ≤ 7 := by unfold veh; (repeat' split) <;> omega
theorem chk0 (fx fy tx ty pe pl de dl lo se : Int) : chk fx fy tx ty pe pl de dl lo se = 0 ↔ Chk fx fy tx ty pe pl de dl lo se := by unfold chk; simp only [Chk]; omega
theorem veh0 (hx hy cap st en : Int) : veh hx hy cap st en = 0 ↔ (PM hx hy ∧ (1 ≤ cap ∧ cap ≤ 100000) ∧ (0 ≤ st ∧ st ≤ en) ∧ (0 ≤ en ∧ en ≤ 1048576)) := by unfold veh; omega
theorem waitN_in (a b t : Int) : 0 ≤ waitN a b t ∧ waitN a b t ≤ 1048576 := by
  unfold waitN
  split
  · rename_i h; obtain ⟨⟨h1, h2, h3⟩, h4⟩ := h; omega
  · omega
theorem nd3 (p q r : Prop) [Decidable p] [Decidable q] [Decidable r] : cond (decide p) (cond (decide q) (cond (decide r) 0 6) 5) 4 = if ¬ p then 4 else if ¬ q then 5 else if ¬ r then 6 else (0 : Int) := by
  by_cases h1 : p <;> by_cases h2 : q <;> by_cases h3 : r <;> simp [h1, h2, h3]
theorem beq_dec {p : Prop} [Decidable p] {b : Bool} (h : b = true ↔ p) : b = decide p := by
  by_cases hp : p
  · rw [decide_eq_true hp, h.2 hp]
  · rw [decide_eq_false hp]; exact Bool.eq_false_iff.2 fun e => hp (h.1 e)
set_option maxHeartbeats 4000000 in
theorem okOn : CtrOk Tryd.prog 81 kOn := good_of okG3 mixed (fun (a, _) => noLoops) 100 fun (a, _) hf hn => by
  refine ⟨rfl, Eq.mpr (tOn a) ?_⟩
  (simp only [eq_self_iff_true, true_and, and_true, false_and, and_false, Bool.or_not_self, Bool.not_or_self, Bool.cond_self, cond_true, cond_false, Bool.cond_true_right, Bool.cond_true_left, Bool.cond_false_right, Bool.cond_false_left, Bool.or_true, Bool.true_or, Bool.or_false, Bool.false_or, Bool.and_true, Bool.true_and, Bool.and_false, Bool.false_and, Bool.not_not, forall_eq, ← Bool.decide_and, ← Bool.decide_or, ← decide_not, cDecF, cDecT, cDecFl, Decidable.not_not, Bool.not_true, Bool.not_false, Bool.false_eq_true, imp_false, not_true_eq_false, not_false_eq_true, forall_const, true_implies, false_implies, implies_true, decide_true, decide_false]; try simp only [cDec, eq_self_iff_true, true_and, and_true, false_and, and_false, Bool.or_not_self, Bool.not_or_self, Bool.cond_self, cond_true, cond_false, Bool.cond_true_right, Bool.cond_true_left, Bool.cond_false_right, Bool.cond_false_left, Bool.or_true, Bool.true_or, Bool.or_false, Bool.false_or, Bool.and_true, Bool.true_and, Bool.and_false, Bool.false_and, Bool.not_not, forall_eq, ← Bool.decide_and, ← Bool.decide_or, ← decide_not, cDecF, cDecT, cDecFl, Decidable.not_not, Bool.not_true, Bool.not_false, Bool.false_eq_true, imp_false, not_true_eq_false, not_false_eq_true, forall_const, true_implies, false_implies, implies_true, decide_true, decide_false])
  exact decide_eq_decide.2 (by omega)
theorem okG4 : PCok Tryd.prog G4 := addPC_ok okG3 okOn
set_option maxHeartbeats 4000000 in
theorem okPMay : CtrOk Tryd.prog 59 kPMay := good_of okG4 mixed (fun ((a, b, _), _) => noLoops) 100 fun ((a, b, _), _) hf hn => by
  refine ⟨rfl, Eq.mpr (tPMay a b) ?_⟩
  (simp only [eq_self_iff_true, true_and, and_true, false_and, and_false, Bool.or_not_self, Bool.not_or_self, Bool.cond_self, cond_true, cond_false, Bool.cond_true_right, Bool.cond_true_left, Bool.cond_false_right, Bool.cond_false_left, Bool.or_true, Bool.true_or, Bool.or_false, Bool.false_or, Bool.and_true, Bool.true_and, Bool.and_false, Bool.false_and, Bool.not_not, forall_eq, ← Bool.decide_and, ← Bool.decide_or, ← decide_not, cDecF, cDecT, cDecFl, Decidable.not_not, Bool.not_true, Bool.not_false, Bool.false_eq_true, imp_false, not_true_eq_false, not_false_eq_true, forall_const, true_implies, false_implies, implies_true, decide_true, decide_false]; try simp only [cDec, eq_self_iff_true, true_and, and_true, false_and, and_false, Bool.or_not_self, Bool.not_or_self, Bool.cond_self, cond_true, cond_false, Bool.cond_true_right, Bool.cond_true_left, Bool.cond_false_right, Bool.cond_false_left, Bool.or_true, Bool.true_or, Bool.or_false, Bool.false_or, Bool.and_true, Bool.true_and, Bool.and_false, Bool.false_and, Bool.not_not, forall_eq, ← Bool.decide_and, ← Bool.decide_or, ← decide_not, cDecF, cDecT, cDecFl, Decidable.not_not, Bool.not_true, Bool.not_false, Bool.false_eq_true, imp_false, not_true_eq_false, not_false_eq_true, forall_const, true_implies, false_implies, implies_true, decide_true, decide_false])
  exact decide_eq_decide.2 (by simp only [PM]; omega)
theorem okG5 : PCok Tryd.prog G5 := addPC_ok okG4 okPMay
set_option maxHeartbeats 4000000 in
theorem okPMr : CtrOk Tryd.prog 57 kPMr := good_of okG5 mixed (fun ((a, b, _), _) => noLoops) 100 fun ((a, b, _), _) hf hn => by
  refine ⟨rfl, Eq.mpr (tPMr a b) ?_⟩
  (simp only [eq_self_iff_true, true_and, and_true, false_and, and_false, Bool.or_not_self, Bool.not_or_self, Bool.cond_self, cond_true, cond_false, Bool.cond_true_right, Bool.cond_true_left, Bool.cond_false_right, Bool.cond_false_left, Bool.or_true, Bool.true_or, Bool.or_false, Bool.false_or, Bool.and_true, Bool.true_and, Bool.and_false, Bool.false_and, Bool.not_not, forall_eq, ← Bool.decide_and, ← Bool.decide_or, ← decide_not, cDecF, cDecT, cDecFl, Decidable.not_not, Bool.not_true, Bool.not_false, Bool.false_eq_true, imp_false, not_true_eq_false, not_false_eq_true, forall_const, true_implies, false_implies, implies_true, decide_true, decide_false]; try simp only [cDec, eq_self_iff_true, true_and, and_true, false_and, and_false, Bool.or_not_self, Bool.not_or_self, Bool.cond_self, cond_true, cond_false, Bool.cond_true_right, Bool.cond_true_left, Bool.cond_false_right, Bool.cond_false_left, Bool.or_true, Bool.true_or, Bool.or_false, Bool.false_or, Bool.and_true, Bool.true_and, Bool.and_false, Bool.false_and, Bool.not_not, forall_eq, ← Bool.decide_and, ← Bool.decide_or, ← decide_not, cDecF, cDecT, cDecFl, Decidable.not_not, Bool.not_true, Bool.not_false, Bool.false_eq_true, imp_false, not_true_eq_false, not_false_eq_true, forall_const, true_implies, false_implies, implies_true, decide_true, decide_false])
  exact decide_eq_decide.2 (by simp only [PM]; omega)
theorem okG6 : PCok Tryd.prog G6 := addPC_ok okG5 okPMr
set_option maxHeartbeats 4000000 in
theorem okWMay : CtrOk Tryd.prog 64 kWMay := good_of okG6 mixed (fun ((a, b, _), _) => noLoops) 100 fun ((a, b, _), _) hf hn => by
  refine ⟨rfl, Eq.mpr (tWMay a b) ?_⟩
  (simp only [eq_self_iff_true, true_and, and_true, false_and, and_false, Bool.or_not_self, Bool.not_or_self, Bool.cond_self, cond_true, cond_false, Bool.cond_true_right, Bool.cond_true_left, Bool.cond_false_right, Bool.cond_false_left, Bool.or_true, Bool.true_or, Bool.or_false, Bool.false_or, Bool.and_true, Bool.true_and, Bool.and_false, Bool.false_and, Bool.not_not, forall_eq, ← Bool.decide_and, ← Bool.decide_or, ← decide_not, cDecF, cDecT, cDecFl, Decidable.not_not, Bool.not_true, Bool.not_false, Bool.false_eq_true, imp_false, not_true_eq_false, not_false_eq_true, forall_const, true_implies, false_implies, implies_true, decide_true, decide_false]; try simp only [cDec, eq_self_iff_true, true_and, and_true, false_and, and_false, Bool.or_not_self, Bool.not_or_self, Bool.cond_self, cond_true, cond_false, Bool.cond_true_right, Bool.cond_true_left, Bool.cond_false_right, Bool.cond_false_left, Bool.or_true, Bool.true_or, Bool.or_false, Bool.false_or, Bool.and_true, Bool.true_and, Bool.and_false, Bool.false_and, Bool.not_not, forall_eq, ← Bool.decide_and, ← Bool.decide_or, ← decide_not, cDecF, cDecT, cDecFl, Decidable.not_not, Bool.not_true, Bool.not_false, Bool.false_eq_true, imp_false, not_true_eq_false, not_false_eq_true, forall_const, true_implies, false_implies, implies_true, decide_true, decide_false])
  exact decide_eq_decide.2 (by simp only [WM]; omega)
theorem okG7 : PCok Tryd.prog G7 := addPC_ok okG6 okWMay
set_option maxHeartbeats 4000000 in
theorem okWMr : CtrOk Tryd.prog 79 kWMr := good_of okG7 mixed (fun ((a, b, _), _) => noLoops) 100 fun ((a, b, _), _) hf hn => by
  refine ⟨rfl, Eq.mpr (tWMr a b) ?_⟩
  (simp only [eq_self_iff_true, true_and, and_true, false_and, and_false, Bool.or_not_self, Bool.not_or_self, Bool.cond_self, cond_true, cond_false, Bool.cond_true_right, Bool.cond_true_left, Bool.cond_false_right, Bool.cond_false_left, Bool.or_true, Bool.true_or, Bool.or_false, Bool.false_or, Bool.and_true, Bool.true_and, Bool.and_false, Bool.false_and, Bool.not_not, forall_eq, ← Bool.decide_and, ← Bool.decide_or, ← decide_not, cDecF, cDecT, cDecFl, Decidable.not_not, Bool.not_true, Bool.not_false, Bool.false_eq_true, imp_false, not_true_eq_false, not_false_eq_true, forall_const, true_implies, false_implies, implies_true, decide_true, decide_false]; try simp only [cDec, eq_self_iff_true, true_and, and_true, false_and, and_false, Bool.or_not_self, Bool.not_or_self, Bool.cond_self, cond_true, cond_false, Bool.cond_true_right, Bool.cond_true_left, Bool.cond_false_right, Bool.cond_false_left, Bool.or_true, Bool.true_or, Bool.or_false, Bool.false_or, Bool.and_true, Bool.true_and, Bool.and_false, Bool.false_and, Bool.not_not, forall_eq, ← Bool.decide_and, ← Bool.decide_or, ← decide_not, cDecF, cDecT, cDecFl, Decidable.not_not, Bool.not_true, Bool.not_false, Bool.false_eq_true, imp_false, not_true_eq_false, not_false_eq_true, forall_const, true_implies, false_implies, implies_true, decide_true, decide_false])
  exact decide_eq_decide.2 (by simp only [WM]; omega)
theorem okG8 : PCok Tryd.prog G8 := addPC_ok okG7 okWMr
set_option maxHeartbeats 4000000 in
theorem okWi : CtrOk Tryd.prog 63 kWi := good_of okG8 mixed (fun (n, a, b, _) => noLoops) 100 fun (n, a, b, _) hf hn => by
  refine ⟨rfl, Eq.mpr (tWi n a b) ?_⟩
  (simp only [eq_self_iff_true, true_and, and_true, false_and, and_false, Bool.or_not_self, Bool.not_or_self, Bool.cond_self, cond_true, cond_false, Bool.cond_true_right, Bool.cond_true_left, Bool.cond_false_right, Bool.cond_false_left, Bool.or_true, Bool.true_or, Bool.or_false, Bool.false_or, Bool.and_true, Bool.true_and, Bool.and_false, Bool.false_and, Bool.not_not, forall_eq, ← Bool.decide_and, ← Bool.decide_or, ← decide_not, cDecF, cDecT, cDecFl, Decidable.not_not, Bool.not_true, Bool.not_false, Bool.false_eq_true, imp_false, not_true_eq_false, not_false_eq_true, forall_const, true_implies, false_implies, implies_true, decide_true, decide_false]; try simp only [cDec, eq_self_iff_true, true_and, and_true, false_and, and_false, Bool.or_not_self, Bool.not_or_self, Bool.cond_self, cond_true, cond_false, Bool.cond_true_right, Bool.cond_true_left, Bool.cond_false_right, Bool.cond_false_left, Bool.or_true, Bool.true_or, Bool.or_false, Bool.false_or, Bool.and_true, Bool.true_and, Bool.and_false, Bool.false_and, Bool.not_not, forall_eq, ← Bool.decide_and, ← Bool.decide_or, ← decide_not, cDecF, cDecT, cDecFl, Decidable.not_not, Bool.not_true, Bool.not_false, Bool.false_eq_true, imp_false, not_true_eq_false, not_false_eq_true, forall_const, true_implies, false_implies, implies_true, decide_true, decide_false])
theorem okG9 : PCok Tryd.prog G9 := addPC_ok okG8 okWi
set_option maxHeartbeats 4000000 in
theorem okFst : CtrOk Tryd.prog 62 kFst := good_of okG9 mixed (fun (xs, _) => ndL xs) 100 fun (xs, _) hf hn => by
  refine ⟨rfl, Eq.mpr (tFst xs) ?_⟩
  have hm : (xs.length : Int) ≤ 9223372036854775807 := len63 hf.1.2
  (simp only [eq_self_iff_true, true_and, and_true, false_and, and_false, Bool.or_not_self, Bool.not_or_self, Bool.cond_self, cond_true, cond_false, Bool.cond_true_right, Bool.cond_true_left, Bool.cond_false_right, Bool.cond_false_left, Bool.or_true, Bool.true_or, Bool.or_false, Bool.false_or, Bool.and_true, Bool.true_and, Bool.and_false, Bool.false_and, Bool.not_not, forall_eq, ← Bool.decide_and, ← Bool.decide_or, ← decide_not, cDecF, cDecT, cDecFl, Decidable.not_not, Bool.not_true, Bool.not_false, Bool.false_eq_true, imp_false, not_true_eq_false, not_false_eq_true, forall_const, true_implies, false_implies, implies_true, decide_true, decide_false]; try simp only [cDec, eq_self_iff_true, true_and, and_true, false_and, and_false, Bool.or_not_self, Bool.not_or_self, Bool.cond_self, cond_true, cond_false, Bool.cond_true_right, Bool.cond_true_left, Bool.cond_false_right, Bool.cond_false_left, Bool.or_true, Bool.true_or, Bool.or_false, Bool.false_or, Bool.and_true, Bool.true_and, Bool.and_false, Bool.false_and, Bool.not_not, forall_eq, ← Bool.decide_and, ← Bool.decide_or, ← decide_not, cDecF, cDecT, cDecFl, Decidable.not_not, Bool.not_true, Bool.not_false, Bool.false_eq_true, imp_false, not_true_eq_false, not_false_eq_true, forall_const, true_implies, false_implies, implies_true, decide_true, decide_false])
  refine ⟨0, ⟨by omega, by omega, rfl⟩, ⟨rfl, by omega, by omega⟩, ?_⟩
  rintro k ⟨k0, k1, kh⟩
  have e : (k + 1).toNat = k.toNat + 1 := by omega
  refine ⟨fun hlt => ⟨⟨k0, hlt⟩, ?_⟩, fun hge => ?_⟩
  · have ew : IntKind.i64.wrap (k + 1) = k + 1 := wr64 _ (by omega)
    have hd : xs.drop k.toNat = xs.getD k.toNat [] :: xs.drop (k.toNat + 1) := by
      rw [List.drop_eq_getElem_cons (by omega : k.toNat < xs.length)]
      simp [List.getD, List.getElem?_eq_getElem (by omega : k.toNat < xs.length)]
    rw [hd] at kh
    simp only [nd] at kh
    generalize xs.getD k.toNat [] = x at kh ⊢
    refine bif_intro (fun h => ?_) (fun h => ?_)
    · have h1 : getb x 0 = false := by simpa using h
      rw [h1, cond_false] at kh
      exact kh
    · have h1 : getb x 0 = true := by simpa using h
      rw [h1, cond_true] at kh
      exact ⟨k + 1, ⟨by omega, by omega, by rw [e]; exact kh⟩, by omega, ew, by omega, by omega⟩
  · rw [← kh, List.drop_eq_nil_of_le (by omega)]; simp [nd]
theorem okG10 : PCok Tryd.prog G10 := addPC_ok okG9 okFst
set_option maxHeartbeats 4000000 in
theorem okOch : CtrOk Tryd.prog 36 kOch := good_of okG10 mixed (fun ((fx, fy, tx, ty, pe, pl, de, dl, lo, se, _), _) => noLoops) 100 fun ((fx, fy, tx, ty, pe, pl, de, dl, lo, se, _), _) hf hn => by
  refine ⟨rfl, Eq.mpr (tOch fx fy tx ty pe pl de dl lo se) ?_⟩
  (simp only [eq_self_iff_true, true_and, and_true, false_and, and_false, Bool.or_not_self, Bool.not_or_self, Bool.cond_self, cond_true, cond_false, Bool.cond_true_right, Bool.cond_true_left, Bool.cond_false_right, Bool.cond_false_left, Bool.or_true, Bool.true_or, Bool.or_false, Bool.false_or, Bool.and_true, Bool.true_and, Bool.and_false, Bool.false_and, Bool.not_not, forall_eq, ← Bool.decide_and, ← Bool.decide_or, ← decide_not, cDecF, cDecT, cDecFl, Decidable.not_not, Bool.not_true, Bool.not_false, Bool.false_eq_true, imp_false, not_true_eq_false, not_false_eq_true, forall_const, true_implies, false_implies, implies_true, decide_true, decide_false]; try simp only [cDec, eq_self_iff_true, true_and, and_true, false_and, and_false, Bool.or_not_self, Bool.not_or_self, Bool.cond_self, cond_true, cond_false, Bool.cond_true_right, Bool.cond_true_left, Bool.cond_false_right, Bool.cond_false_left, Bool.or_true, Bool.true_or, Bool.or_false, Bool.false_or, Bool.and_true, Bool.true_and, Bool.and_false, Bool.false_and, Bool.not_not, forall_eq, ← Bool.decide_and, ← Bool.decide_or, ← decide_not, cDecF, cDecT, cDecFl, Decidable.not_not, Bool.not_true, Bool.not_false, Bool.false_eq_true, imp_false, not_true_eq_false, not_false_eq_true, forall_const, true_implies, false_implies, implies_true, decide_true, decide_false])
  refine ⟨?_, chk_in fx fy tx ty pe pl de dl lo se⟩
  show cond (decide (PM fx fy ∧ PM tx ty)) (cond (decide (WM pe pl ∧ WM de dl)) (cond (decide ((1 ≤ lo ∧ lo ≤ 1000) ∧ 0 ≤ se ∧ se ≤ 1000)) 0 6) 5) 4 = _
  exact nd3 _ _ _
theorem okG11 : PCok Tryd.prog G11 := addPC_ok okG10 okOch
set_option maxHeartbeats 4000000 in
theorem okRch : CtrOk Tryd.prog 53 kRch := good_of okG11 mixed (fun ((fx, fy, tx, ty, pe, pl, de, dl, lo, se, _), _) => noLoops) 100 fun ((fx, fy, tx, ty, pe, pl, de, dl, lo, se, _), _) hf hn => by
  refine ⟨rfl, Eq.mpr (tRch fx fy tx ty pe pl de dl lo se) ?_⟩
  (simp only [eq_self_iff_true, true_and, and_true, false_and, and_false, Bool.or_not_self, Bool.not_or_self, Bool.cond_self, cond_true, cond_false, Bool.cond_true_right, Bool.cond_true_left, Bool.cond_false_right, Bool.cond_false_left, Bool.or_true, Bool.true_or, Bool.or_false, Bool.false_or, Bool.and_true, Bool.true_and, Bool.and_false, Bool.false_and, Bool.not_not, forall_eq, ← Bool.decide_and, ← Bool.decide_or, ← decide_not, cDecF, cDecT, cDecFl, Decidable.not_not, Bool.not_true, Bool.not_false, Bool.false_eq_true, imp_false, not_true_eq_false, not_false_eq_true, forall_const, true_implies, false_implies, implies_true, decide_true, decide_false]; try simp only [cDec, eq_self_iff_true, true_and, and_true, false_and, and_false, Bool.or_not_self, Bool.not_or_self, Bool.cond_self, cond_true, cond_false, Bool.cond_true_right, Bool.cond_true_left, Bool.cond_false_right, Bool.cond_false_left, Bool.or_true, Bool.true_or, Bool.or_false, Bool.false_or, Bool.and_true, Bool.true_and, Bool.and_false, Bool.false_and, Bool.not_not, forall_eq, ← Bool.decide_and, ← Bool.decide_or, ← decide_not, cDecF, cDecT, cDecFl, Decidable.not_not, Bool.not_true, Bool.not_false, Bool.false_eq_true, imp_false, not_true_eq_false, not_false_eq_true, forall_const, true_implies, false_implies, implies_true, decide_true, decide_false])
  have hb := chk_in fx fy tx ty pe pl de dl lo se
  (repeat' (first | apply And.intro | intro _))
  all_goals first | omega | (unfold chk; omega)
theorem okG12 : PCok Tryd.prog G12 := addPC_ok okG11 okRch
set_option maxHeartbeats 4000000 in
theorem okOve : CtrOk Tryd.prog 34 kOve := good_of okG12 mixed (fun ((hx, hy, cap, st, en, _), _) => noLoops) 100 fun ((hx, hy, cap, st, en, _), _) hf hn => by
  refine ⟨rfl, Eq.mpr (tOve hx hy cap st en) ?_⟩
  (simp only [eq_self_iff_true, true_and, and_true, false_and, and_false, Bool.or_not_self, Bool.not_or_self, Bool.cond_self, cond_true, cond_false, Bool.cond_true_right, Bool.cond_true_left, Bool.cond_false_right, Bool.cond_false_left, Bool.or_true, Bool.true_or, Bool.or_false, Bool.false_or, Bool.and_true, Bool.true_and, Bool.and_false, Bool.false_and, Bool.not_not, forall_eq, ← Bool.decide_and, ← Bool.decide_or, ← decide_not, cDecF, cDecT, cDecFl, Decidable.not_not, Bool.not_true, Bool.not_false, Bool.false_eq_true, imp_false, not_true_eq_false, not_false_eq_true, forall_const, true_implies, false_implies, implies_true, decide_true, decide_false]; try simp only [cDec, eq_self_iff_true, true_and, and_true, false_and, and_false, Bool.or_not_self, Bool.not_or_self, Bool.cond_self, cond_true, cond_false, Bool.cond_true_right, Bool.cond_true_left, Bool.cond_false_right, Bool.cond_false_left, Bool.or_true, Bool.true_or, Bool.or_false, Bool.false_or, Bool.and_true, Bool.true_and, Bool.and_false, Bool.false_and, Bool.not_not, forall_eq, ← Bool.decide_and, ← Bool.decide_or, ← decide_not, cDecF, cDecT, cDecFl, Decidable.not_not, Bool.not_true, Bool.not_false, Bool.false_eq_true, imp_false, not_true_eq_false, not_false_eq_true, forall_const, true_implies, false_implies, implies_true, decide_true, decide_false])
  refine ⟨?_, veh_in hx hy cap st en⟩
  show cond (decide (PM hx hy)) (cond (decide (((1 ≤ cap ∧ cap ≤ 100000) ∧ 0 ≤ st ∧ st ≤ en) ∧ 0 ≤ en ∧ en ≤ 1048576)) 0 7) 4 = _
  unfold veh
  by_cases h1 : PM hx hy <;> by_cases h2 : ((1 ≤ cap ∧ cap ≤ 100000) ∧ 0 ≤ st ∧ st ≤ en) ∧ 0 ≤ en ∧ en ≤ 1048576
  · rw [decide_eq_true h1, decide_eq_true h2, if_neg (by omega), if_neg (by omega)]; rfl
  · rw [decide_eq_true h1, decide_eq_false h2, if_neg (by omega), if_pos (by omega)]; rfl
  · rw [decide_eq_false h1, if_pos (by omega)]; rfl
  · rw [decide_eq_false h1, if_pos (by omega)]; rfl
theorem okG13 : PCok Tryd.prog G13 := addPC_ok okG12 okOve
set_option maxHeartbeats 4000000 in
theorem okRve : CtrOk Tryd.prog 52 kRve := good_of okG13 mixed (fun ((hx, hy, cap, st, en, _), _) => noLoops) 100 fun ((hx, hy, cap, st, en, _), _) hf hn => by
  refine ⟨rfl, Eq.mpr (tRve hx hy cap st en) ?_⟩
  (simp only [eq_self_iff_true, true_and, and_true, false_and, and_false, Bool.or_not_self, Bool.not_or_self, Bool.cond_self, cond_true, cond_false, Bool.cond_true_right, Bool.cond_true_left, Bool.cond_false_right, Bool.cond_false_left, Bool.or_true, Bool.true_or, Bool.or_false, Bool.false_or, Bool.and_true, Bool.true_and, Bool.and_false, Bool.false_and, Bool.not_not, forall_eq, ← Bool.decide_and, ← Bool.decide_or, ← decide_not, cDecF, cDecT, cDecFl, Decidable.not_not, Bool.not_true, Bool.not_false, Bool.false_eq_true, imp_false, not_true_eq_false, not_false_eq_true, forall_const, true_implies, false_implies, implies_true, decide_true, decide_false]; try simp only [cDec, eq_self_iff_true, true_and, and_true, false_and, and_false, Bool.or_not_self, Bool.not_or_self, Bool.cond_self, cond_true, cond_false, Bool.cond_true_right, Bool.cond_true_left, Bool.cond_false_right, Bool.cond_false_left, Bool.or_true, Bool.true_or, Bool.or_false, Bool.false_or, Bool.and_true, Bool.true_and, Bool.and_false, Bool.false_and, Bool.not_not, forall_eq, ← Bool.decide_and, ← Bool.decide_or, ← decide_not, cDecF, cDecT, cDecFl, Decidable.not_not, Bool.not_true, Bool.not_false, Bool.false_eq_true, imp_false, not_true_eq_false, not_false_eq_true, forall_const, true_implies, false_implies, implies_true, decide_true, decide_false])
  have hb := veh_in hx hy cap st en
  (repeat' (first | apply And.intro | intro _))
  all_goals first | omega | (unfold veh; omega)
theorem okG14 : PCok Tryd.prog G14 := addPC_ok okG13 okRve
set_option maxHeartbeats 4000000 in
theorem okAp : CtrOk Tryd.prog 60 kAp := good_of okG14 mixed (fun (a, b, _) => noLoops) 100 fun (a, b, _) hf hn => by
  refine ⟨rfl, Eq.mpr (tAp a b) ?_⟩
  (simp only [eq_self_iff_true, true_and, and_true, false_and, and_false, Bool.or_not_self, Bool.not_or_self, Bool.cond_self, cond_true, cond_false, Bool.cond_true_right, Bool.cond_true_left, Bool.cond_false_right, Bool.cond_false_left, Bool.or_true, Bool.true_or, Bool.or_false, Bool.false_or, Bool.and_true, Bool.true_and, Bool.and_false, Bool.false_and, Bool.not_not, forall_eq, ← Bool.decide_and, ← Bool.decide_or, ← decide_not, cDecF, cDecT, cDecFl, Decidable.not_not, Bool.not_true, Bool.not_false, Bool.false_eq_true, imp_false, not_true_eq_false, not_false_eq_true, forall_const, true_implies, false_implies, implies_true, decide_true, decide_false]; try simp only [cDec, eq_self_iff_true, true_and, and_true, false_and, and_false, Bool.or_not_self, Bool.not_or_self, Bool.cond_self, cond_true, cond_false, Bool.cond_true_right, Bool.cond_true_left, Bool.cond_false_right, Bool.cond_false_left, Bool.or_true, Bool.true_or, Bool.or_false, Bool.false_or, Bool.and_true, Bool.true_and, Bool.and_false, Bool.false_and, Bool.not_not, forall_eq, ← Bool.decide_and, ← Bool.decide_or, ← decide_not, cDecF, cDecT, cDecFl, Decidable.not_not, Bool.not_true, Bool.not_false, Bool.false_eq_true, imp_false, not_true_eq_false, not_false_eq_true, forall_const, true_implies, false_implies, implies_true, decide_true, decide_false])
  rfl
theorem okG15 : PCok Tryd.prog G15 := addPC_ok okG14 okAp
set_option maxHeartbeats 4000000 in
theorem okApr : CtrOk Tryd.prog 58 kApr := good_of okG15 mixed (fun (a, b, _) => apL a b) 100 fun (a, b, _) hf hn => by
  refine ⟨rfl, Eq.mpr (tApr a b) ?_⟩
  have ha := hf.1
  have hb := hf.2.1
  (simp only [eq_self_iff_true, true_and, and_true, false_and, and_false, Bool.or_not_self, Bool.not_or_self, Bool.cond_self, cond_true, cond_false, Bool.cond_true_right, Bool.cond_true_left, Bool.cond_false_right, Bool.cond_false_left, Bool.or_true, Bool.true_or, Bool.or_false, Bool.false_or, Bool.and_true, Bool.true_and, Bool.and_false, Bool.false_and, Bool.not_not, forall_eq, ← Bool.decide_and, ← Bool.decide_or, ← decide_not, cDecF, cDecT, cDecFl, Decidable.not_not, Bool.not_true, Bool.not_false, Bool.false_eq_true, imp_false, not_true_eq_false, not_false_eq_true, forall_const, true_implies, false_implies, implies_true, decide_true, decide_false]; try simp only [cDec, eq_self_iff_true, true_and, and_true, false_and, and_false, Bool.or_not_self, Bool.not_or_self, Bool.cond_self, cond_true, cond_false, Bool.cond_true_right, Bool.cond_true_left, Bool.cond_false_right, Bool.cond_false_left, Bool.or_true, Bool.true_or, Bool.or_false, Bool.false_or, Bool.and_true, Bool.true_and, Bool.and_false, Bool.false_and, Bool.not_not, forall_eq, ← Bool.decide_and, ← Bool.decide_or, ← decide_not, cDecF, cDecT, cDecFl, Decidable.not_not, Bool.not_true, Bool.not_false, Bool.false_eq_true, imp_false, not_true_eq_false, not_false_eq_true, forall_const, true_implies, false_implies, implies_true, decide_true, decide_false])
  have hw0 : IntKind.i64.wrap (min a b - min a b) = 0 := by rw [Int.sub_self]; rfl
  refine ⟨min a b, by omega, ⟨⟨hw0.symm, by omega, by omega⟩, rfl⟩, ?_⟩
  intro i hi
  have e1 := wrE (i - min a b)
  have e2 := wrE (i + 1 - min a b)
  refine ⟨fun hc => ?_, fun hc => ?_⟩
  · have hA : -9223372036854775808 ≤ a ∧ a ≤ 9223372036854775807 := ha
    have hB : -9223372036854775808 ≤ b ∧ b ≤ 9223372036854775807 := hb
    have ew : IntKind.i64.wrap (i + 1) = i + 1 := wr64 _ (by omega)
    exact ⟨i + 1, by omega, by omega, by rw [wrAL]; congr 1; omega, ew⟩
  · rw [show i - min a b = apart a b by unfold apart; omega]
theorem okG16 : PCok Tryd.prog G16 := addPC_ok okG15 okApr
set_option maxHeartbeats 4000000 in
theorem okDs : CtrOk Tryd.prog 32 kDs := good_of okG16 mixed (fun ((a, b, _), (x, y, _), _) => noLoops) 100 fun ((a, b, _), (x, y, _), _) hf hn => by
  refine ⟨rfl, Eq.mpr (tDs a b x y) ?_⟩
  (simp only [eq_self_iff_true, true_and, and_true, false_and, and_false, Bool.or_not_self, Bool.not_or_self, Bool.cond_self, cond_true, cond_false, Bool.cond_true_right, Bool.cond_true_left, Bool.cond_false_right, Bool.cond_false_left, Bool.or_true, Bool.true_or, Bool.or_false, Bool.false_or, Bool.and_true, Bool.true_and, Bool.and_false, Bool.false_and, Bool.not_not, forall_eq, ← Bool.decide_and, ← Bool.decide_or, ← decide_not, cDecF, cDecT, cDecFl, Decidable.not_not, Bool.not_true, Bool.not_false, Bool.false_eq_true, imp_false, not_true_eq_false, not_false_eq_true, forall_const, true_implies, false_implies, implies_true, decide_true, decide_false]; try simp only [cDec, eq_self_iff_true, true_and, and_true, false_and, and_false, Bool.or_not_self, Bool.not_or_self, Bool.cond_self, cond_true, cond_false, Bool.cond_true_right, Bool.cond_true_left, Bool.cond_false_right, Bool.cond_false_left, Bool.or_true, Bool.true_or, Bool.or_false, Bool.false_or, Bool.and_true, Bool.true_and, Bool.and_false, Bool.false_and, Bool.not_not, forall_eq, ← Bool.decide_and, ← Bool.decide_or, ← decide_not, cDecF, cDecT, cDecFl, Decidable.not_not, Bool.not_true, Bool.not_false, Bool.false_eq_true, imp_false, not_true_eq_false, not_false_eq_true, forall_const, true_implies, false_implies, implies_true, decide_true, decide_false])
  have hb := dist_in a b x y
  refine ⟨fun h => ⟨?_, hb⟩, fun h => ⟨?_, hb⟩⟩
  · unfold dist; rw [if_neg (by omega)]
  · have h1 : PM a b ∧ PM x y := by omega
    have h2 := apart_in (a := a) (b := x) ⟨h1.1.1, h1.1.2.1⟩ ⟨h1.2.1, h1.2.2.1⟩
    have h3 := apart_in (a := b) (b := y) ⟨h1.1.2.2.1, h1.1.2.2.2⟩ ⟨h1.2.2.2.1, h1.2.2.2.2⟩
    unfold dist; rw [if_pos h1, wr64 (apart a x) (by omega), wr64 (apart b y) (by omega), wr64 _ (by omega)]
theorem okG17 : PCok Tryd.prog G17 := addPC_ok okG16 okDs
set_option maxHeartbeats 4000000 in
theorem okDsr : CtrOk Tryd.prog 29 kDsr := good_of okG17 mixed (fun ((a, b, _), (x, y, _), _) => noLoops) 100 fun ((a, b, _), (x, y, _), _) hf hn => by
  refine ⟨rfl, Eq.mpr (tDsr a b x y) ?_⟩
  (simp only [eq_self_iff_true, true_and, and_true, false_and, and_false, Bool.or_not_self, Bool.not_or_self, Bool.cond_self, cond_true, cond_false, Bool.cond_true_right, Bool.cond_true_left, Bool.cond_false_right, Bool.cond_false_left, Bool.or_true, Bool.true_or, Bool.or_false, Bool.false_or, Bool.and_true, Bool.true_and, Bool.and_false, Bool.false_and, Bool.not_not, forall_eq, ← Bool.decide_and, ← Bool.decide_or, ← decide_not, cDecF, cDecT, cDecFl, Decidable.not_not, Bool.not_true, Bool.not_false, Bool.false_eq_true, imp_false, not_true_eq_false, not_false_eq_true, forall_const, true_implies, false_implies, implies_true, decide_true, decide_false]; try simp only [cDec, eq_self_iff_true, true_and, and_true, false_and, and_false, Bool.or_not_self, Bool.not_or_self, Bool.cond_self, cond_true, cond_false, Bool.cond_true_right, Bool.cond_true_left, Bool.cond_false_right, Bool.cond_false_left, Bool.or_true, Bool.true_or, Bool.or_false, Bool.false_or, Bool.and_true, Bool.true_and, Bool.and_false, Bool.false_and, Bool.not_not, forall_eq, ← Bool.decide_and, ← Bool.decide_or, ← decide_not, cDecF, cDecT, cDecFl, Decidable.not_not, Bool.not_true, Bool.not_false, Bool.false_eq_true, imp_false, not_true_eq_false, not_false_eq_true, forall_const, true_implies, false_implies, implies_true, decide_true, decide_false])
  have hb := dist_in a b x y
  refine ⟨fun h => ⟨?_, hb⟩, fun h => ⟨?_, hb⟩⟩
  · unfold dist; rw [if_neg (by omega)]
  · have h1 : PM a b ∧ PM x y := by omega
    have h2 := apart_in (a := a) (b := x) ⟨h1.1.1, h1.1.2.1⟩ ⟨h1.2.1, h1.2.2.1⟩
    have h3 := apart_in (a := b) (b := y) ⟨h1.1.2.2.1, h1.1.2.2.2⟩ ⟨h1.2.2.2.1, h1.2.2.2.2⟩
    unfold dist; rw [if_pos h1, wr64 (apart a x) (by omega), wr64 (apart b y) (by omega), wr64 _ (by omega)]
theorem okG18 : PCok Tryd.prog G18 := addPC_ok okG17 okDsr
set_option maxHeartbeats 4000000 in
theorem okWt : CtrOk Tryd.prog 71 kWt := good_of okG18 mixed (fun ((a, b, _), t, _) => noLoops) 100 fun ((a, b, _), t, _) hf hn => by
  refine ⟨rfl, Eq.mpr (tWt a b t) ?_⟩
  (simp only [eq_self_iff_true, true_and, and_true, false_and, and_false, Bool.or_not_self, Bool.not_or_self, Bool.cond_self, cond_true, cond_false, Bool.cond_true_right, Bool.cond_true_left, Bool.cond_false_right, Bool.cond_false_left, Bool.or_true, Bool.true_or, Bool.or_false, Bool.false_or, Bool.and_true, Bool.true_and, Bool.and_false, Bool.false_and, Bool.not_not, forall_eq, ← Bool.decide_and, ← Bool.decide_or, ← decide_not, cDecF, cDecT, cDecFl, Decidable.not_not, Bool.not_true, Bool.not_false, Bool.false_eq_true, imp_false, not_true_eq_false, not_false_eq_true, forall_const, true_implies, false_implies, implies_true, decide_true, decide_false]; try simp only [cDec, eq_self_iff_true, true_and, and_true, false_and, and_false, Bool.or_not_self, Bool.not_or_self, Bool.cond_self, cond_true, cond_false, Bool.cond_true_right, Bool.cond_true_left, Bool.cond_false_right, Bool.cond_false_left, Bool.or_true, Bool.true_or, Bool.or_false, Bool.false_or, Bool.and_true, Bool.true_and, Bool.and_false, Bool.false_and, Bool.not_not, forall_eq, ← Bool.decide_and, ← Bool.decide_or, ← decide_not, cDecF, cDecT, cDecFl, Decidable.not_not, Bool.not_true, Bool.not_false, Bool.false_eq_true, imp_false, not_true_eq_false, not_false_eq_true, forall_const, true_implies, false_implies, implies_true, decide_true, decide_false])
  have hb := waitN_in a b t
  have yes : Wait a b t → max t a = waitN a b t ∧ true = decide (Wait a b t) := fun h => ⟨by unfold waitN; rw [if_pos h], (decide_eq_true h).symm⟩
  have no : ¬ Wait a b t → 0 = waitN a b t ∧ false = decide (Wait a b t) := fun h => ⟨by unfold waitN; rw [if_neg h], (decide_eq_false h).symm⟩
  refine ⟨fun h => ⟨⟨(no ?_).1, hb⟩, (no ?_).2⟩, fun h => ⟨fun h2 => ⟨⟨(no ?_).1, hb⟩, (no ?_).2⟩, fun h2 => ⟨⟨(yes ?_).1, hb⟩, (yes ?_).2⟩⟩⟩
  all_goals (simp only [Wait, WM]; omega)
theorem okG19 : PCok Tryd.prog G19 := addPC_ok okG18 okWt
theorem okGM : PCok Tryd.prog GM := litPC_ok okG19
theorem dB_intro {p : Prop} (h : p) : dB p = true := by unfold dB; exact @decide_eq_true p (Classical.propDecidable p) h
theorem dB_no {p : Prop} (h : ¬ p) : dB p = false := by unfold dB; exact @decide_eq_false p (Classical.propDecidable p) h
theorem dB_true {p : Prop} (h : dB p = true) : p := by unfold dB at h; exact @of_decide_eq_true p (Classical.propDecidable p) h
theorem inR_iff {t : List (List Value)} {q k : Int} : inR t q k = true ↔ 0 ≤ q ∧ q < (t.length : Int) ∧ (k = 0 ∨ k = 1) := by simp [inR, lenI_eq]
theorem inR_no {t : List (List Value)} {q k : Int} (h : ¬ (0 ≤ q ∧ q < (t.length : Int) ∧ (k = 0 ∨ k = 1))) : inR t q k = false := Bool.eq_false_iff.2 fun e => h (inR_iff.1 e)
theorem inR_yes {t : List (List Value)} {q k : Int} (h : 0 ≤ q ∧ q < (t.length : Int) ∧ (k = 0 ∨ k = 1)) : inR t q k = true := inR_iff.2 h
theorem part_no {t : List (List Value)} {q k : Int} (h : inR t q k = false) (i j : Nat) : part t q k i j = 0 := by unfold part; rw [h]; rfl
theorem part_k0 {t : List (List Value)} {q k : Int} (h : inR t q k = true) (hk : k = 0) (i j : Nat) : part t q k i j = geti (t.getD q.toNat []) i := by unfold part; rw [h, decide_eq_true hk]; rfl
theorem part_k1 {t : List (List Value)} {q k : Int} (h : inR t q k = true) (hk : ¬ k = 0) (i j : Nat) : part t q k i j = geti (t.getD q.toNat []) j := by unfold part; rw [h, decide_eq_false hk]; rfl
theorem reqsOk_snoc {t : List (List Value)} {k : Nat} (h : k < t.length) : reqsOk (t.take (k + 1)) = (reqsOk (t.take k) && decide (chkR (t.getD k []) = 0)) := by
  rw [take_snoc (d := []) h]; simp only [reqsOk, List.all_append, List.all_cons, List.all_nil, Bool.and_true]
theorem reqsOk_at {t : List (List Value)} (h : reqsOk t = true) {k : Nat} (hk : k < t.length) : chkR (t.getD k []) = 0 := by
  have := List.all_eq_true.1 h _ (getD_in (d := []) hk)
  exact of_decide_eq_true this
theorem stopsOk_snoc {l t : List (List Value)} {k : Nat} (h : k < l.length) : stopsOk (l.take (k + 1)) t = (stopsOk (l.take k) t && inR t (geti (l.getD k []) 0) (geti (l.getD k []) 1)) := by
  rw [take_snoc (d := []) h]; simp only [stopsOk, List.all_append, List.all_cons, List.all_nil, Bool.and_true]
theorem stopsOk_at {l t : List (List Value)} (h : stopsOk l t = true) {k : Nat} (hk : k < l.length) : inR t (geti (l.getD k []) 0) (geti (l.getD k []) 1) = true := List.all_eq_true.1 h _ (getD_in (d := []) hk)
theorem wrong_iff {hx hy cap st en : Int} {l t : List (List Value)} : wrongE hx hy cap st en l t = 0 ↔ veh hx hy cap st en = 0 ∧ reqsOk t = true ∧ checkE l = 0 ∧ stopsOk l t = true := by
  unfold wrongE
  by_cases h1 : veh hx hy cap st en = 0 <;> cases h2 : reqsOk t <;> by_cases h3 : checkE l = 0 <;> cases h4 : stopsOk l t <;> simp [h1, h3]
theorem wrong_2 {hx hy cap st en : Int} {l t : List (List Value)} (h : ¬ (veh hx hy cap st en = 0 ∧ reqsOk t = true)) : 2 = wrongE hx hy cap st en l t := by
  unfold wrongE
  by_cases h1 : veh hx hy cap st en = 0 <;> cases h2 : reqsOk t <;> simp_all
theorem wrong_8 {hx hy cap st en : Int} {l t : List (List Value)} (h1 : veh hx hy cap st en = 0) (h2 : reqsOk t = true) (h : ¬ (checkE l = 0 ∧ stopsOk l t = true)) : 8 = wrongE hx hy cap st en l t := by
  unfold wrongE
  rw [decide_eq_true h1, h2]
  by_cases h3 : checkE l = 0 <;> cases h4 : stopsOk l t <;> simp_all
theorem wrong_bd (hx hy cap st en : Int) (l t : List (List Value)) : 0 ≤ wrongE hx hy cap st en l t ∧ wrongE hx hy cap st en l t ≤ 8 := by
  unfold wrongE
  cases (decide (veh hx hy cap st en = 0) && reqsOk t) <;> cases (decide (checkE l = 0) && stopsOk l t) <;> simp
theorem timesE_bd (hx hy cap st en : Int) (l t : List (List Value)) : 0 ≤ timesE hx hy cap st en l t ∧ timesE hx hy cap st en l t ≤ 9 := by
  have := wrong_bd hx hy cap st en l t
  unfold timesE
  cases decide (wrongE hx hy cap st en l t = 0) <;> cases inTime t l hx hy st en <;> simp <;> omega
structure Good (hx hy cap st en : Int) (l t : List (List Value)) : Prop where
  st0 : 0 ≤ st
  st1 : st ≤ en
  en1 : en ≤ 1048576
  hm : PM hx hy
  len : l.length ≤ 16
  inr : ∀ i, i < l.length → inR t (geti (l.getD i []) 0) (geti (l.getD i []) 1) = true
  rq : ∀ i, i < t.length → Chk (rf t i 0) (rf t i 1) (rf t i 2) (rf t i 3) (rf t i 4) (rf t i 5) (rf t i 6) (rf t i 7) (rf t i 8) (rf t i 9)
theorem good_of_wrong {hx hy cap st en : Int} {l t : List (List Value)} (h : wrongE hx hy cap st en l t = 0) : Good hx hy cap st en l t := by
  obtain ⟨h1, h2, h3, h4⟩ := wrong_iff.1 h
  have hv := (veh0 hx hy cap st en).1 h1
  refine ⟨hv.2.2.1.1, hv.2.2.1.2, hv.2.2.2.2, hv.1, ?_, fun i hi => stopsOk_at h4 hi, fun i hi => ?_⟩
  · rcases Int.lt_or_le 16 (l.length : Int) with g | g
    · rw [checkE_11 g] at h3; cases h3
    · omega
  · exact (chk0 _ _ _ _ _ _ _ _ _ _).1 (reqsOk_at h2 hi)
theorem sv_in {hx hy cap st en : Int} {l t : List (List Value)} (G : Good hx hy cap st en l t) {q k : Int} (h : inR t q k = true) : 0 ≤ sv t q k ∧ sv t q k ≤ 1000 ∧ sv t q k = geti (t.getD q.toNat []) 9 := by
  obtain ⟨h1, h2, h3⟩ := inR_iff.1 h
  have hs : sv t q k = geti (t.getD q.toNat []) 9 := by
    unfold sv
    by_cases hk : k = 0
    · exact part_k0 h hk 9 9
    · exact part_k1 h hk 9 9
  have g := (G.rq q.toNat (by omega)).2.2.2.2.2
  have e : rf t ((q.toNat : Nat) : Int) 9 = geti (t.getD q.toNat []) 9 := rfl
  rw [e] at g
  rw [hs]
  exact ⟨g.1, g.2, rfl⟩
theorem tN_in {hx hy cap st en : Int} {l t : List (List Value)} (G : Good hx hy cap st en l t) : ∀ k, k ≤ l.length → 0 ≤ tN t l hx hy st k ∧ tN t l hx hy st k ≤ 1049576
  | 0, _ => by have := G.st0; have := G.st1; have := G.en1; show 0 ≤ st ∧ st ≤ _; omega
  | k + 1, hk => by
    have hs := sv_in G (G.inr k (by omega))
    have hw := waitN_in (wE t (geti (l.getD k []) 0) (geti (l.getD k []) 1)) (wL t (geti (l.getD k []) 0) (geti (l.getD k []) 1)) (tA t l hx hy st (k + 1))
    have e : tN t l hx hy st (k + 1) = waitN (wE t (geti (l.getD k []) 0) (geti (l.getD k []) 1)) (wL t (geti (l.getD k []) 0) (geti (l.getD k []) 1)) (tA t l hx hy st (k + 1)) + sv t (geti (l.getD k []) 0) (geti (l.getD k []) 1) := rfl
    omega
theorem tA_in {hx hy cap st en : Int} {l t : List (List Value)} (G : Good hx hy cap st en l t) (k : Nat) (hk : k ≤ l.length) : 0 ≤ tA t l hx hy st k ∧ tA t l hx hy st k ≤ 1100000 := by
  cases k with
  | zero => show 0 ≤ (0 : Int) ∧ (0 : Int) ≤ _; omega
  | succ k =>
    have hn := tN_in G k (by omega)
    have hd := dist_in (tX t l hx hy st k) (tY t l hx hy st k) (pX t (geti (l.getD k []) 0) (geti (l.getD k []) 1)) (pY t (geti (l.getD k []) 0) (geti (l.getD k []) 1))
    have e : tA t l hx hy st (k + 1) = tN t l hx hy st k + dist (tX t l hx hy st k) (tY t l hx hy st k) (pX t (geti (l.getD k []) 0) (geti (l.getD k []) 1)) (pY t (geti (l.getD k []) 0) (geti (l.getD k []) 1)) := rfl
    omega
theorem tB_in (t l : List (List Value)) (hx hy st : Int) (k : Nat) : 0 ≤ tB t l hx hy st k ∧ tB t l hx hy st k ≤ 1048576 := by
  cases k with
  | zero => show 0 ≤ (0 : Int) ∧ (0 : Int) ≤ _; omega
  | succ k => exact waitN_in _ _ _
theorem tRows_succ (t l : List (List Value)) (hx hy st : Int) (n : Nat) : tRows t l hx hy st (n + 1) = tRows t l hx hy st n ++ [tRow t l hx hy st n] := by simp [tRows, List.range_succ]
theorem tRows_len (t l : List (List Value)) (hx hy st : Int) (n : Nat) : (tRows t l hx hy st n).length = n := by simp [tRows]
theorem times_of {hx hy cap st en : Int} {l t : List (List Value)} (h : wrongE hx hy cap st en l t = 0) : timesE hx hy cap st en l t = cond (inTime t l hx hy st en) 0 9 := by unfold timesE; rw [decide_eq_true h]; rfl
theorem late_of {hx hy cap st en : Int} {l t : List (List Value)} (h : wrongE hx hy cap st en l t = 0) (hl : inTime t l hx hy st en = false) : 9 = timesE hx hy cap st en l t ∧ 0 = timesN hx hy cap st en l t ∧ [] = timesR hx hy cap st en l t := by
  have : timesE hx hy cap st en l t = 9 := by rw [times_of h, hl]; rfl
  exact ⟨this.symm, by unfold timesN; rw [this]; rfl, by unfold timesR; rw [this]; rfl⟩
theorem due_of {hx hy cap st en : Int} {l t : List (List Value)} (h : wrongE hx hy cap st en l t = 0) (hl : inTime t l hx hy st en = true) : 0 = timesE hx hy cap st en l t ∧ tEnd t l hx hy st = timesN hx hy cap st en l t ∧ tRows t l hx hy st l.length = timesR hx hy cap st en l t := by
  have : timesE hx hy cap st en l t = 0 := by rw [times_of h, hl]; rfl
  exact ⟨this.symm, by unfold timesN; rw [this]; rfl, by unfold timesR; rw [this]; rfl⟩
theorem wrong_of {hx hy cap st en : Int} {l t : List (List Value)} (h : ¬ wrongE hx hy cap st en l t = 0) : wrongE hx hy cap st en l t = timesE hx hy cap st en l t ∧ 0 = timesN hx hy cap st en l t ∧ [] = timesR hx hy cap st en l t := by
  have e : timesE hx hy cap st en l t = wrongE hx hy cap st en l t := by unfold timesE; rw [decide_eq_false h]; rfl
  have : ¬ timesE hx hy cap st en l t = 0 := by rw [e]; exact h
  exact ⟨e.symm, by unfold timesN; rw [decide_eq_false this]; rfl, by unfold timesR; rw [decide_eq_false this]; rfl⟩
theorem inTime_no {t l : List (List Value)} {hx hy st en : Int} {i : Nat} (hi : i < l.length) (h : tOk t l hx hy st i = false) : inTime t l hx hy st en = false := by
  unfold inTime
  have : (List.range l.length).all (tOk t l hx hy st) = false := by
    rw [List.all_eq_false]; exact ⟨i, List.mem_range.2 hi, by simp [h]⟩
  rw [this]; rfl
theorem inTime_all {t l : List (List Value)} {hx hy st en : Int} (h : ∀ i, i < l.length → tOk t l hx hy st i = true) : inTime t l hx hy st en = decide (tEnd t l hx hy st ≤ en) := by
  unfold inTime
  have : (List.range l.length).all (tOk t l hx hy st) = true := List.all_eq_true.2 fun i hi => h i (List.mem_range.1 hi)
  rw [this]; rfl
theorem sumD_append (i j : Nat) : ∀ xs ys, sumD i j (xs ++ ys) = sumD i j xs + sumD i j ys
  | [], ys => by simp [sumD]
  | x :: l, ys => by simp only [List.cons_append, sumD, sumD_append i j l ys]; omega
theorem sumD_snoc (i j : Nat) {xs : List (List Value)} {k : Nat} (h : k < xs.length) : sumD i j (xs.take (k + 1)) = sumD i j (xs.take k) + (geti (xs.getD k []) j - geti (xs.getD k []) i) := by
  rw [take_snoc (d := []) h, sumD_append]; simp [sumD]
theorem W_in (x : Int) : -9223372036854775808 ≤ W x ∧ W x ≤ 9223372036854775807 := by
  obtain ⟨j, _, h1, h2⟩ := wrE x
  exact ⟨h1, h2⟩
theorem tk_put {x : List Value} (h : Wk TK x) : [Value.int .i64 (geti x 0), Value.int .i64 (geti x 1), Value.int .i64 (geti x 2)] = x := by
  have h0 := geti_eq h (j := 0) (K := .i64) rfl
  have h1 := geti_eq h (j := 1) (K := .i64) rfl
  have h2 := geti_eq h (j := 2) (K := .i64) rfl
  have hl : x.length = 3 := by simpa [TK] using h.length
  match x, hl with
  | [a, b, c], _ => simp only [List.getElem?_cons_zero, List.getElem?_cons_succ, Option.some.injEq] at h0 h1 h2; rw [← h0, ← h1, ← h2]
set_option maxHeartbeats 4000000 in
theorem okWrp : CtrOk Tryd.prog 44 kWrp := good_of okG19 mixed (fun ((hx, hy, cap, st, en, _), l, t, _) => wrL l t) 100 fun ((hx, hy, cap, st, en, _), l, t, _) hf hn => by
  refine ⟨rfl, Eq.mpr (tWrp hx hy cap st en l t) ?_⟩
  have hml : (l.length : Int) ≤ 9223372036854775807 := len63 hf.2.1.2
  have hmt : (t.length : Int) ≤ 9223372036854775807 := len63 hf.2.2.1.2
  (simp only [eq_self_iff_true, true_and, and_true, false_and, and_false, Bool.or_not_self, Bool.not_or_self, Bool.cond_self, cond_true, cond_false, Bool.cond_true_right, Bool.cond_true_left, Bool.cond_false_right, Bool.cond_false_left, Bool.or_true, Bool.true_or, Bool.or_false, Bool.false_or, Bool.and_true, Bool.true_and, Bool.and_false, Bool.false_and, Bool.not_not, forall_eq, ← Bool.decide_and, ← Bool.decide_or, ← decide_not, cDecF, cDecT, cDecFl, Decidable.not_not, Bool.not_true, Bool.not_false, Bool.false_eq_true, imp_false, not_true_eq_false, not_false_eq_true, forall_const, true_implies, false_implies, implies_true, decide_true, decide_false]; try simp only [cDec, eq_self_iff_true, true_and, and_true, false_and, and_false, Bool.or_not_self, Bool.not_or_self, Bool.cond_self, cond_true, cond_false, Bool.cond_true_right, Bool.cond_true_left, Bool.cond_false_right, Bool.cond_false_left, Bool.or_true, Bool.true_or, Bool.or_false, Bool.false_or, Bool.and_true, Bool.true_and, Bool.and_false, Bool.false_and, Bool.not_not, forall_eq, ← Bool.decide_and, ← Bool.decide_or, ← decide_not, cDecF, cDecT, cDecFl, Decidable.not_not, Bool.not_true, Bool.not_false, Bool.false_eq_true, imp_false, not_true_eq_false, not_false_eq_true, forall_const, true_implies, false_implies, implies_true, decide_true, decide_false])
  have hb := wrong_bd hx hy cap st en l t
  refine ⟨fun h => ⟨wrong_2 fun g => h g.1, hb⟩, fun hv => ⟨0, ⟨by omega, by omega, rfl⟩, ⟨rfl, by omega, by omega⟩, ?_⟩⟩
  rintro k ⟨k0, k1, kh⟩
  have e : (k + 1).toNat = k.toNat + 1 := by omega
  refine ⟨fun hlt => ⟨⟨k0, hlt⟩, fun hc => ⟨wrong_2 fun g => hc (reqsOk_at g.2 (by omega)), hb⟩, fun hc => ⟨k + 1, ⟨by omega, by omega, ?_⟩, by omega, wr64 _ (by omega), by omega, by omega⟩⟩, fun hge => ?_⟩
  · rw [e, reqsOk_snoc (by omega), kh]; exact decide_eq_true hc
  rw [List.take_of_length_le (by omega)] at kh
  refine ⟨fun hc => ⟨wrong_8 hv kh fun g => hc g.1, hb⟩, fun hc => ⟨0, ⟨by omega, by omega, rfl⟩, ⟨rfl, by omega, by omega⟩, ?_⟩⟩
  rintro j ⟨j0, j1, jh⟩
  have e2 : (j + 1).toNat = j.toNat + 1 := by omega
  have bad : j < (l.length : Int) → inR t (geti (l.getD j.toNat []) 0) (geti (l.getD j.toNat []) 1) = false → 8 = wrongE hx hy cap st en l t := fun hlt hi => wrong_8 hv kh fun g => by
    have := stopsOk_at g.2 (show j.toNat < l.length by omega)
    rw [hi] at this; cases this
  have good : j < (l.length : Int) → inR t (geti (l.getD j.toNat []) 0) (geti (l.getD j.toNat []) 1) = true → ∃ s : Int, (0 ≤ s ∧ s ≤ (l.length : Int) ∧ stopsOk (l.take s.toNat) t = true) ∧ ((l.length : Int) - s).toNat < ((l.length : Int) - j).toNat ∧ IntKind.i64.wrap (j + 1) = s ∧ 0 ≤ s ∧ s ≤ 9223372036854775807 := fun hlt hi =>
    ⟨j + 1, ⟨by omega, by omega, by rw [e2, stopsOk_snoc (by omega), jh, hi]; rfl⟩, by omega, wr64 _ (by omega), by omega, by omega⟩
  have fin : ¬ j < (l.length : Int) → 0 = wrongE hx hy cap st en l t := fun hge => by
    rw [List.take_of_length_le (by omega)] at jh
    exact (wrong_iff.2 ⟨hv, kh, hc, jh⟩).symm
  refine ⟨fun hlt => ?_, fun hge2 => ⟨fin hge2, hb⟩⟩
  (repeat' (first | apply And.intro | intro _))
  all_goals first
    | omega
    | exact bad hlt (inR_no (by omega))
    | exact good hlt (inR_yes (by omega))
theorem okG20 : PCok Tryd.prog G20 := addPC_ok okG19 okWrp
set_option maxHeartbeats 4000000 in
theorem okTmp : CtrOk Tryd.prog 22 kTmp := good_of okG20 mixed (fun ((hx, hy, cap, st, en, _), l, t, _) => tmL t l hx hy st) 100 fun ((hx, hy, cap, st, en, _), l, t, _) hf hn => by
  refine ⟨rfl, Eq.mpr (tTmp hx hy cap st en l t) ?_⟩
  have hml : (l.length : Int) ≤ 9223372036854775807 := len63 hf.2.1.2
  (simp only [eq_self_iff_true, true_and, and_true, false_and, and_false, Bool.or_not_self, Bool.not_or_self, Bool.cond_self, cond_true, cond_false, Bool.cond_true_right, Bool.cond_true_left, Bool.cond_false_right, Bool.cond_false_left, Bool.or_true, Bool.true_or, Bool.or_false, Bool.false_or, Bool.and_true, Bool.true_and, Bool.and_false, Bool.false_and, Bool.not_not, forall_eq, ← Bool.decide_and, ← Bool.decide_or, ← decide_not, cDecF, cDecT, cDecFl, Decidable.not_not, Bool.not_true, Bool.not_false, Bool.false_eq_true, imp_false, not_true_eq_false, not_false_eq_true, forall_const, true_implies, false_implies, implies_true, decide_true, decide_false]; try simp only [cDec, eq_self_iff_true, true_and, and_true, false_and, and_false, Bool.or_not_self, Bool.not_or_self, Bool.cond_self, cond_true, cond_false, Bool.cond_true_right, Bool.cond_true_left, Bool.cond_false_right, Bool.cond_false_left, Bool.or_true, Bool.true_or, Bool.or_false, Bool.false_or, Bool.and_true, Bool.true_and, Bool.and_false, Bool.false_and, Bool.not_not, forall_eq, ← Bool.decide_and, ← Bool.decide_or, ← decide_not, cDecF, cDecT, cDecFl, Decidable.not_not, Bool.not_true, Bool.not_false, Bool.false_eq_true, imp_false, not_true_eq_false, not_false_eq_true, forall_const, true_implies, false_implies, implies_true, decide_true, decide_false])
  have hb := timesE_bd hx hy cap st en l t
  refine ⟨fun h => ?_, fun h => ?_⟩
  · obtain ⟨h1, h2, h3⟩ := wrong_of h
    exact ⟨⟨by omega, h1⟩, h3⟩
  have G := good_of_wrong h
  have lt16 := G.len
  have b0 := G.st0
  have b1 := G.st1
  have b2 := G.en1
  refine ⟨0, ⟨by omega, by omega, fun i hi => by simp at hi⟩, ⟨⟨rfl, by omega, by omega⟩, ⟨⟨rfl, Int.le_refl 0, by show (0 : Int) ≤ 1100000; decide⟩, ⟨rfl, Int.le_refl 0, by show (0 : Int) ≤ 1048576; decide⟩, ⟨rfl, b0, ?_⟩, rfl, rfl⟩, rfl⟩, ?_⟩
  · show st ≤ 1100000
    omega
  rintro k ⟨k0, k1, kh⟩
  have e : (k + 1).toNat = k.toNat + 1 := by omega
  have ew : IntKind.i64.wrap (k + 1) = k + 1 := wr64 _ (by omega)
  have hn := tN_in G k.toNat (by omega)
  have hrl : lenI (tRows t l hx hy st k.toNat) ≤ 2932031007402 := by rw [lenI_eq, tRows_len]; omega
  have hlate : (inTime t l hx hy st en = false) → ((0 = timesN hx hy cap st en l t ∧ 0 ≤ timesN hx hy cap st en l t ∧ timesN hx hy cap st en l t ≤ 1048576) ∧ 9 = timesE hx hy cap st en l t ∧ 0 ≤ timesE hx hy cap st en l t ∧ timesE hx hy cap st en l t ≤ 9) ∧ [] = timesR hx hy cap st en l t := fun hl => by
    obtain ⟨h1, h2, h3⟩ := late_of h hl
    exact ⟨⟨by omega, h1, hb⟩, h3⟩
  refine ⟨fun hlt => ?_, fun hge => ?_⟩
  rotate_left
  · have hkl : k.toNat = l.length := by omega
    rw [hkl] at kh ⊢
    have hall := inTime_all (en := en) kh
    refine ⟨fun hen => hlate (by rw [hall]; exact decide_eq_false (by unfold tEnd; omega)), fun hen => ?_⟩
    obtain ⟨h1, h2, h3⟩ := due_of h (by rw [hall]; exact decide_eq_true (by unfold tEnd; omega))
    have hn2 := tN_in G l.length (Nat.le_refl _)
    have hd2 := dist_in (tX t l hx hy st l.length) (tY t l hx hy st l.length) hx hy
    have h2' : tN t l hx hy st l.length + dist (tX t l hx hy st l.length) (tY t l hx hy st l.length) hx hy = timesN hx hy cap st en l t := h2
    exact ⟨⟨by omega, h1, hb⟩, h3⟩
  have hin := G.inr k.toNat (by omega)
  have hir := inR_iff.1 hin
  have hsv := sv_in G hin
  have ha := tA_in G (k.toNat + 1) (by omega)
  have hbb := tB_in t l hx hy st (k.toNat + 1)
  have hnn := tN_in G (k.toNat + 1) (by omega)
  have eA : tA t l hx hy st (k.toNat + 1) = tN t l hx hy st k.toNat + dist (tX t l hx hy st k.toNat) (tY t l hx hy st k.toNat) (pX t (geti (l.getD k.toNat []) 0) (geti (l.getD k.toNat []) 1)) (pY t (geti (l.getD k.toNat []) 0) (geti (l.getD k.toNat []) 1)) := rfl
  have eB : tB t l hx hy st (k.toNat + 1) = waitN (wE t (geti (l.getD k.toNat []) 0) (geti (l.getD k.toNat []) 1)) (wL t (geti (l.getD k.toNat []) 0) (geti (l.getD k.toNat []) 1)) (tA t l hx hy st (k.toNat + 1)) := rfl
  have eN : tN t l hx hy st (k.toNat + 1) = tB t l hx hy st (k.toNat + 1) + sv t (geti (l.getD k.toNat []) 0) (geti (l.getD k.toNat []) 1) := rfl
  have eX : tX t l hx hy st (k.toNat + 1) = pX t (geti (l.getD k.toNat []) 0) (geti (l.getD k.toNat []) 1) := rfl
  have eY : tY t l hx hy st (k.toNat + 1) = pY t (geti (l.getD k.toNat []) 0) (geti (l.getD k.toNat []) 1) := rfl
  have eO : tOk t l hx hy st k.toNat = decide (Wait (wE t (geti (l.getD k.toNat []) 0) (geti (l.getD k.toNat []) 1)) (wL t (geti (l.getD k.toNat []) 0) (geti (l.getD k.toNat []) 1)) (tA t l hx hy st (k.toNat + 1))) := rfl
  have hR := tRows_succ t l hx hy st k.toNat
  have hRow : tRow t l hx hy st k.toNat = [.int .i64 (tA t l hx hy st (k.toNat + 1)), .int .i64 (tB t l hx hy st (k.toNat + 1)), .int .i64 (tN t l hx hy st (k.toNat + 1))] := rfl
  rw [hRow] at hR
  have eX0 : geti (l.getD k.toNat []) 1 = 0 → pX t (geti (l.getD k.toNat []) 0) (geti (l.getD k.toNat []) 1) = geti (t.getD (geti (l.getD k.toNat []) 0).toNat []) 0 ∧ pY t (geti (l.getD k.toNat []) 0) (geti (l.getD k.toNat []) 1) = geti (t.getD (geti (l.getD k.toNat []) 0).toNat []) 1 ∧
      wE t (geti (l.getD k.toNat []) 0) (geti (l.getD k.toNat []) 1) = geti (t.getD (geti (l.getD k.toNat []) 0).toNat []) 4 ∧ wL t (geti (l.getD k.toNat []) 0) (geti (l.getD k.toNat []) 1) = geti (t.getD (geti (l.getD k.toNat []) 0).toNat []) 5 := fun hk => ⟨part_k0 hin hk 0 2, part_k0 hin hk 1 3, part_k0 hin hk 4 6, part_k0 hin hk 5 7⟩
  have eX1 : ¬ geti (l.getD k.toNat []) 1 = 0 → pX t (geti (l.getD k.toNat []) 0) (geti (l.getD k.toNat []) 1) = geti (t.getD (geti (l.getD k.toNat []) 0).toNat []) 2 ∧ pY t (geti (l.getD k.toNat []) 0) (geti (l.getD k.toNat []) 1) = geti (t.getD (geti (l.getD k.toNat []) 0).toNat []) 3 ∧
      wE t (geti (l.getD k.toNat []) 0) (geti (l.getD k.toNat []) 1) = geti (t.getD (geti (l.getD k.toNat []) 0).toNat []) 6 ∧ wL t (geti (l.getD k.toNat []) 0) (geti (l.getD k.toNat []) 1) = geti (t.getD (geti (l.getD k.toNat []) 0).toNat []) 7 := fun hk => ⟨part_k1 hin hk 0 2, part_k1 hin hk 1 3, part_k1 hin hk 4 6, part_k1 hin hk 5 7⟩
  have late2 : ¬ Wait (wE t (geti (l.getD k.toNat []) 0) (geti (l.getD k.toNat []) 1)) (wL t (geti (l.getD k.toNat []) 0) (geti (l.getD k.toNat []) 1)) (tA t l hx hy st (k.toNat + 1)) → inTime t l hx hy st en = false := fun hw => inTime_no (i := k.toNat) (by omega) (by rw [eO]; exact decide_eq_false hw)
  have next : Wait (wE t (geti (l.getD k.toNat []) 0) (geti (l.getD k.toNat []) 1)) (wL t (geti (l.getD k.toNat []) 0) (geti (l.getD k.toNat []) 1)) (tA t l hx hy st (k.toNat + 1)) → TInv t l hx hy st (k + 1) := fun hw => ⟨by omega, by omega, fun i hi => by
    by_cases hij : i < k.toNat
    · exact kh i hij
    · rw [show i = k.toNat by omega, eO]; exact decide_eq_true hw⟩
  have ewN : IntKind.i64.wrap (tB t l hx hy st (k.toNat + 1) + geti (t.getD (geti (l.getD k.toNat []) 0).toNat []) 9) = tN t l hx hy st (k.toNat + 1) := by
    rw [← hsv.2.2, ← eN]; exact wr64 _ (by omega)

  have fin : ∀ x0 x1 w0 w1, pX t (geti (l.getD k.toNat []) 0) (geti (l.getD k.toNat []) 1) = x0 → pY t (geti (l.getD k.toNat []) 0) (geti (l.getD k.toNat []) 1) = x1 → wE t (geti (l.getD k.toNat []) 0) (geti (l.getD k.toNat []) 1) = w0 → wL t (geti (l.getD k.toNat []) 0) (geti (l.getD k.toNat []) 1) = w1 →
      (¬ Wait w0 w1 (tN t l hx hy st k.toNat + dist (tX t l hx hy st k.toNat) (tY t l hx hy st k.toNat) x0 x1) → ((0 = timesN hx hy cap st en l t ∧ 0 ≤ timesN hx hy cap st en l t ∧ timesN hx hy cap st en l t ≤ 1048576) ∧ 9 = timesE hx hy cap st en l t ∧ 0 ≤ timesE hx hy cap st en l t ∧ timesE hx hy cap st en l t ≤ 9) ∧ [] = timesR hx hy cap st en l t) ∧
      (Wait w0 w1 (tN t l hx hy st k.toNat + dist (tX t l hx hy st k.toNat) (tY t l hx hy st k.toNat) x0 x1) → lenI (tRows t l hx hy st k.toNat) ≤ 2932031007402 ∧ ∃ s : Int, TInv t l hx hy st s ∧ ((l.length : Int) - s).toNat < ((l.length : Int) - k).toNat ∧ (IntKind.i64.wrap (k + 1) = s ∧ 0 ≤ s ∧ s ≤ 9223372036854775807) ∧
        ((tN t l hx hy st k.toNat + dist (tX t l hx hy st k.toNat) (tY t l hx hy st k.toNat) x0 x1 = tA t l hx hy st s.toNat ∧ 0 ≤ tA t l hx hy st s.toNat ∧ tA t l hx hy st s.toNat ≤ 1100000) ∧
          waitN w0 w1 (tN t l hx hy st k.toNat + dist (tX t l hx hy st k.toNat) (tY t l hx hy st k.toNat) x0 x1) = tB t l hx hy st s.toNat ∧
          (IntKind.i64.wrap (waitN w0 w1 (tN t l hx hy st k.toNat + dist (tX t l hx hy st k.toNat) (tY t l hx hy st k.toNat) x0 x1) + geti (t.getD (geti (l.getD k.toNat []) 0).toNat []) 9) = tN t l hx hy st s.toNat ∧ 0 ≤ tN t l hx hy st s.toNat ∧ tN t l hx hy st s.toNat ≤ 1100000) ∧
          x0 = tX t l hx hy st s.toNat ∧ x1 = tY t l hx hy st s.toNat) ∧
        tRows t l hx hy st k.toNat ++ [[Value.int .i64 (tN t l hx hy st k.toNat + dist (tX t l hx hy st k.toNat) (tY t l hx hy st k.toNat) x0 x1), Value.int .i64 (waitN w0 w1 (tN t l hx hy st k.toNat + dist (tX t l hx hy st k.toNat) (tY t l hx hy st k.toNat) x0 x1)),
          Value.int .i64 (IntKind.i64.wrap (waitN w0 w1 (tN t l hx hy st k.toNat + dist (tX t l hx hy st k.toNat) (tY t l hx hy st k.toNat) x0 x1) + geti (t.getD (geti (l.getD k.toNat []) 0).toNat []) 9))]] = tRows t l hx hy st s.toNat) := by
    rintro x0 x1 w0 w1 rfl rfl rfl rfl
    rw [← eA, ← eB, ewN, ← eX, ← eY]
    refine ⟨fun hw => hlate (late2 hw), fun hw => ⟨hrl, k + 1, next hw, by omega, ⟨ew, by omega, by omega⟩, ?_, ?_⟩⟩
    · rw [e]; exact ⟨⟨rfl, ha⟩, rfl, ⟨rfl, by omega, by omega⟩, rfl, rfl⟩
    · rw [e, hR]
  refine ⟨⟨k0, hlt⟩, fun hx => ?_, fun hx => ⟨⟨hir.1, hir.2.1⟩, fun hk => ?_, fun hk => ⟨fun hk1 => ?_, fun hk1 => ?_⟩⟩⟩
  · exfalso; omega
  · obtain ⟨p1, p2, p3, p4⟩ := eX0 hk
    exact fin _ _ _ _ p1 p2 p3 p4
  · obtain ⟨p1, p2, p3, p4⟩ := eX1 hk
    exact fin _ _ _ _ p1 p2 p3 p4
  · exfalso; omega
theorem okG21 : PCok Tryd.prog G21 := addPC_ok okG20 okTmp
theorem a2 (x : Int) : x + 1 + 1 = x + 2 := by omega
theorem a3 (x : Int) : x + 2 + 1 = x + 3 := by omega
theorem a4 (x : Int) : x + 3 + 1 = x + 4 := by omega
theorem a5 (x : Int) : x + 4 + 1 = x + 5 := by omega
theorem a6 (x : Int) : x + 5 + 1 = x + 6 := by omega
theorem a7 (x : Int) : x + 6 + 1 = x + 7 := by omega
theorem a8 (x : Int) : x + 7 + 1 = x + 8 := by omega
theorem nx_in (bs : List (List Value)) (a n : Int) (h : 1 ≤ n) : 0 ≤ nx bs a n ∧ nx bs a n < n := by
  unfold nx
  cases decide (lenI bs = 0) <;> exact ⟨Int.emod_nonneg _ (by omega), Int.emod_lt_of_pos _ (by omega)⟩
theorem dReqs_succ (bs : List (List Value)) (w a : Int) (k : Nat) : dReqs bs w a (k + 1) = dReqs bs w a k ++ [dReq bs w (a + 8 * (k : Int)) k] := by simp [dReqs, List.range_succ]
theorem dReqs_len (bs : List (List Value)) (w a : Int) (k : Nat) : (dReqs bs w a k).length = k := by simp [dReqs]
theorem rK_in (bs : List (List Value)) (a : Int) (out : List (List Value)) : 0 ≤ rK bs a out ∧ rK bs a out ≤ out.length := by
  have := nx_in bs (a + 1) 3 (by decide)
  unfold rK; rw [lenI_eq]; omega
theorem rL_len (out : List (List Value)) (r k : Int) (h : 0 ≤ k ∧ k ≤ out.length) : (rL out r k).length = out.length + 1 := by
  simp only [rL, List.length_append, List.length_cons, List.length_take, List.length_drop]; omega
theorem rIns_len (l : List (List Value)) (r j : Int) : (rIns l r j).length = l.length + 1 := by
  simp only [rIns, List.length_append, List.length_cons, List.length_take, List.length_drop]; omega
theorem dRoute_len (bs : List (List Value)) (a : Int) : ∀ r, (dRoute bs a r).length = 2 * r
  | 0 => rfl
  | r + 1 => by
    simp only [dRoute]
    rw [rIns_len, rL_len _ _ _ (rK_in _ _ _), dRoute_len bs a r]; omega
set_option maxHeartbeats 4000000 in
theorem okNx : CtrOk Tryd.prog 51 kNx := good_ofM okG21 mixed (fun ((bs, N, w, a, _), n, _) => noLoops) 100 fun ((bs, N, w, a, _), n, _) hf hn => by
  refine ⟨rfl, Eq.mpr (tNx bs N w a n) ?_⟩
  obtain ⟨h0, h1, h2, h3⟩ := of_decide_eq_true hn.1
  (simp only [eq_self_iff_true, true_and, and_true, false_and, and_false, Bool.or_not_self, Bool.not_or_self, Bool.cond_self, cond_true, cond_false, Bool.cond_true_right, Bool.cond_true_left, Bool.cond_false_right, Bool.cond_false_left, Bool.or_true, Bool.true_or, Bool.or_false, Bool.false_or, Bool.and_true, Bool.true_and, Bool.and_false, Bool.false_and, Bool.not_not, forall_eq, ← Bool.decide_and, ← Bool.decide_or, ← decide_not, cDecF, cDecT, cDecFl, Decidable.not_not, Bool.not_true, Bool.not_false, Bool.false_eq_true, imp_false, not_true_eq_false, not_false_eq_true, forall_const, true_implies, false_implies, implies_true, decide_true, decide_false]; try simp only [cDec, eq_self_iff_true, true_and, and_true, false_and, and_false, Bool.or_not_self, Bool.not_or_self, Bool.cond_self, cond_true, cond_false, Bool.cond_true_right, Bool.cond_true_left, Bool.cond_false_right, Bool.cond_false_left, Bool.or_true, Bool.true_or, Bool.or_false, Bool.false_or, Bool.and_true, Bool.true_and, Bool.and_false, Bool.false_and, Bool.not_not, forall_eq, ← Bool.decide_and, ← Bool.decide_or, ← decide_not, cDecF, cDecT, cDecFl, Decidable.not_not, Bool.not_true, Bool.not_false, Bool.false_eq_true, imp_false, not_true_eq_false, not_false_eq_true, forall_const, true_implies, false_implies, implies_true, decide_true, decide_false])
  have hb := nx_in bs (a + 1) n h2
  refine ⟨fun h => ⟨by omega, ⟨?_, by omega, by omega⟩, by omega, by omega⟩, fun h => ?_⟩
  · unfold nx; rw [lenI_eq, decide_eq_true h, cond_true, Int.tmod_eq_emod_of_nonneg (by omega)]
  · have hp : (0 : Int) < bs.length := by omega
    have ht : (a + 1).tmod bs.length = (a + 1) % bs.length := Int.tmod_eq_emod_of_nonneg (by omega)
    have hr : 0 ≤ (a + 1) % bs.length ∧ (a + 1) % bs.length < bs.length := ⟨Int.emod_nonneg _ (by omega), Int.emod_lt_of_pos _ hp⟩
    rw [ht]
    have b0 := geti_bd (hf.1.1.1 _ (getD_in (d := []) (show ((a + 1) % bs.length).toNat < bs.length by omega))) (j := 0) (K := .u8) rfl
    have q0 : kmin IntKind.u8 = 0 := rfl
    rw [q0] at b0
    have b1 : 0 ≤ geti (bs.getD ((a + 1) % bs.length).toNat []) 0 := b0.1
    have hq : 0 ≤ (a + 1) / bs.length := Int.ediv_nonneg (by omega) (by omega)
    refine ⟨h, hr, h, by omega, ⟨?_, by omega, by omega⟩, by omega, by omega⟩
    rw [Int.tmod_eq_emod_of_nonneg (by omega)]
    unfold nx
    rw [lenI_eq, decide_eq_false h]; rfl
theorem okG22 : PCok Tryd.prog G22 := addPC_ok okG21 okNx
set_option maxHeartbeats 4000000 in
theorem okRqs : CtrOk Tryd.prog 24 kRqs := good_ofM okG22 mixed (fun ((bs, N, w, a, _), n, _) => rqdL bs N w a n) 100 fun ((bs, N, w, a, _), n, _) hf hn => by
  refine ⟨rfl, Eq.mpr (tRqs bs N w a n) ?_⟩
  obtain ⟨h0, h1, h2, h3⟩ := of_decide_eq_true hn.1
  (simp only [eq_self_iff_true, true_and, and_true, false_and, and_false, Bool.or_not_self, Bool.not_or_self, Bool.cond_self, cond_true, cond_false, Bool.cond_true_right, Bool.cond_true_left, Bool.cond_false_right, Bool.cond_false_left, Bool.or_true, Bool.true_or, Bool.or_false, Bool.false_or, Bool.and_true, Bool.true_and, Bool.and_false, Bool.false_and, Bool.not_not, forall_eq, ← Bool.decide_and, ← Bool.decide_or, ← decide_not, cDecF, cDecT, cDecFl, Decidable.not_not, Bool.not_true, Bool.not_false, Bool.false_eq_true, imp_false, not_true_eq_false, not_false_eq_true, forall_const, true_implies, false_implies, implies_true, decide_true, decide_false]; try simp only [cDec, eq_self_iff_true, true_and, and_true, false_and, and_false, Bool.or_not_self, Bool.not_or_self, Bool.cond_self, cond_true, cond_false, Bool.cond_true_right, Bool.cond_true_left, Bool.cond_false_right, Bool.cond_false_left, Bool.or_true, Bool.true_or, Bool.or_false, Bool.false_or, Bool.and_true, Bool.true_and, Bool.and_false, Bool.false_and, Bool.not_not, forall_eq, ← Bool.decide_and, ← Bool.decide_or, ← decide_not, cDecF, cDecT, cDecFl, Decidable.not_not, Bool.not_true, Bool.not_false, Bool.false_eq_true, imp_false, not_true_eq_false, not_false_eq_true, forall_const, true_implies, false_implies, implies_true, decide_true, decide_false])
  refine ⟨0, ⟨by omega, by omega⟩, ⟨⟨rfl, by omega, by omega⟩, by omega, by simp [dReqs]⟩, ?_⟩
  rintro k ⟨k0, k1⟩
  have e : (k + 1).toNat = k.toNat + 1 := by omega
  have hkk : ((k.toNat : Nat) : Int) = k := by omega
  have hs := dReqs_succ bs w a k.toNat
  rw [hkk] at hs
  have hlen : lenI (dReqs bs w a k.toNat) ≤ 879609302220 := by rw [lenI_eq, dReqs_len]; omega
  have w0 : w % 4 = 0 → (400 : Int) = wideN w := fun h => by unfold wideN; rw [h]; rfl
  have w1 : w % 4 = 1 → (200 : Int) = wideN w := fun h => by unfold wideN; rw [h]; rfl
  have w2 : w % 4 = 2 → (90 : Int) = wideN w := fun h => by unfold wideN; rw [h]; rfl
  have w3 : w % 4 = 3 → (40 : Int) = wideN w := fun h => by unfold wideN; rw [h]; rfl
  simp only [a2, a3, a4, a5, a6, a7, a8]
  refine ⟨fun hlt => ?_, fun hge => ⟨by omega, by rw [show k.toNat = n.toNat by omega]⟩⟩
  have fin : ∀ v : Int, v = wideN w → ∃ s : Int, (0 ≤ s ∧ s ≤ n) ∧ (n - s).toNat < (n - k).toNat ∧ (k + 1 = s ∧ 0 ≤ s ∧ s ≤ 10) ∧ a + 8 * k + 8 = a + 8 * s ∧
      dReqs bs w a k.toNat ++ [[Value.int .i64 (500 + nx bs (a + 8 * k + 3) 20), Value.int .i64 (500 + nx bs (a + 8 * k + 4) 20), Value.int .i64 (500 + nx bs (a + 8 * k + 5) 20), Value.int .i64 (500 + nx bs (a + 8 * k + 6) 20),
        Value.int .i64 (25 * k + nx bs (a + 8 * k + 1) 40), Value.int .i64 (25 * k + nx bs (a + 8 * k + 1) 40 + v), Value.int .i64 (25 * k + nx bs (a + 8 * k + 1) 40 + nx bs (a + 8 * k + 2) 60),
        Value.int .i64 (25 * k + nx bs (a + 8 * k + 1) 40 + nx bs (a + 8 * k + 2) 60 + v + 30), Value.int .i64 (1 + nx bs (a + 8 * k + 7) 9), Value.int .i64 (nx bs (a + 8 * k + 8) 4)]] = dReqs bs w a s.toNat := by
    rintro v rfl
    exact ⟨k + 1, ⟨by omega, by omega⟩, by omega, ⟨rfl, by omega, by omega⟩, by omega, by rw [e, hs]; rfl⟩
  have hw4 : 0 ≤ w % 4 ∧ w % 4 < 4 := by omega
  refine ⟨hw4, ⟨⟨fun h => ?_, fun h => ?_⟩, fun h => ?_⟩, fun h => ?_⟩
  · exact ⟨by omega, by omega, by omega, by omega, by omega, by omega, by omega, by omega, hlen, fin _ (w0 h)⟩
  · exact ⟨by omega, by omega, by omega, by omega, by omega, by omega, by omega, by omega, hlen, fin _ (w1 h)⟩
  · exact ⟨by omega, by omega, by omega, by omega, by omega, by omega, by omega, by omega, hlen, fin _ (w2 h)⟩
  · exact ⟨by omega, by omega, by omega, by omega, by omega, by omega, by omega, by omega, hlen, fin _ (w3 h)⟩
theorem okG23 : PCok Tryd.prog G23 := addPC_ok okG22 okRqs
set_option maxHeartbeats 4000000 in
theorem okRou : CtrOk Tryd.prog 26 kRou := good_ofM okG23 mixed (fun ((bs, N, w, a, _), f, n, _) => rtdL bs N w a n) 100 fun ((bs, N, w, a, _), f, n, _) hf hn => by
  refine ⟨rfl, Eq.mpr (tRou bs N w a f n) ?_⟩
  obtain ⟨hf0, h0, h1, h2, h3⟩ := of_decide_eq_true hn.1
  subst hf0
  (simp only [eq_self_iff_true, true_and, and_true, false_and, and_false, Bool.or_not_self, Bool.not_or_self, Bool.cond_self, cond_true, cond_false, Bool.cond_true_right, Bool.cond_true_left, Bool.cond_false_right, Bool.cond_false_left, Bool.or_true, Bool.true_or, Bool.or_false, Bool.false_or, Bool.and_true, Bool.true_and, Bool.and_false, Bool.false_and, Bool.not_not, forall_eq, ← Bool.decide_and, ← Bool.decide_or, ← decide_not, cDecF, cDecT, cDecFl, Decidable.not_not, Bool.not_true, Bool.not_false, Bool.false_eq_true, imp_false, not_true_eq_false, not_false_eq_true, forall_const, true_implies, false_implies, implies_true, decide_true, decide_false]; try simp only [cDec, eq_self_iff_true, true_and, and_true, false_and, and_false, Bool.or_not_self, Bool.not_or_self, Bool.cond_self, cond_true, cond_false, Bool.cond_true_right, Bool.cond_true_left, Bool.cond_false_right, Bool.cond_false_left, Bool.or_true, Bool.true_or, Bool.or_false, Bool.false_or, Bool.and_true, Bool.true_and, Bool.and_false, Bool.false_and, Bool.not_not, forall_eq, ← Bool.decide_and, ← Bool.decide_or, ← decide_not, cDecF, cDecT, cDecFl, Decidable.not_not, Bool.not_true, Bool.not_false, Bool.false_eq_true, imp_false, not_true_eq_false, not_false_eq_true, forall_const, true_implies, false_implies, implies_true, decide_true, decide_false])
  refine ⟨0, ⟨by omega, by omega⟩, ⟨⟨rfl, by omega, by omega⟩, by omega, by simp [dRoute]⟩, ?_⟩
  rintro k ⟨k0, k1⟩
  have e : (k + 1).toNat = k.toNat + 1 := by omega
  have hkk : ((k.toNat : Nat) : Int) = k := by omega
  refine ⟨fun hlt => ?_, fun hge => ⟨by omega, by rw [show k.toNat = n.toNat by omega]⟩⟩
  have hlen := dRoute_len bs a k.toNat
  have hs : dRoute bs a (k.toNat + 1) = rIns (rL (dRoute bs a k.toNat) k (rK bs (a + 2 * k) (dRoute bs a k.toNat))) k (rJ bs (a + 2 * k) (rK bs (a + 2 * k) (dRoute bs a k.toNat)) (dRoute bs a k.toNat)) := by
    simp only [dRoute]; rw [hkk]
  have hK := rK_in bs (a + 2 * k) (dRoute bs a k.toNat)
  have eK : ((dRoute bs a k.toNat).length : Int) - min ((dRoute bs a k.toNat).length : Int) (nx bs (a + 2 * k + 1) 3) = rK bs (a + 2 * k) (dRoute bs a k.toNat) := by unfold rK; rw [lenI_eq]
  rw [eK]
  generalize dRoute bs a k.toNat = out at *
  generalize rK bs (a + 2 * k) out = K at *
  have T1 : List.take (K - 0).toNat (List.drop 0 out) = out.take K.toNat := by simp
  have T2 : List.take ((out.length : Int) - K).toNat (List.drop (0 + K.toNat) out) = out.drop K.toNat := by
    rw [List.take_of_length_le (by simp; omega)]; simp
  rw [T1, T2]
  have hL : [] ++ out.take K.toNat ++ [[Value.int .i64 k, Value.int .i64 0]] ++ out.drop K.toNat = rL out k K := by simp [rL, pr]
  rw [hL]
  have hLl := rL_len out k K hK
  have ew1 : IntKind.i64.wrap (((rL out k K).length : Int) - K) = out.length + 1 - K := (wr64 _ (by omega)).trans (by omega)
  have ew2 : IntKind.i64.wrap (K + 1) = K + 1 := wr64 _ (by omega)
  rw [ew1, ew2]
  simp only [a2]
  have hx := nx_in bs (a + 2 * k + 2) (out.length + 1 - K) (by omega)
  have eJ : rJ bs (a + 2 * k) K out = K + 1 + nx bs (a + 2 * k + 2) (out.length + 1 - K) := by unfold rJ; rw [lenI_eq]
  have ew3 : IntKind.i64.wrap (K + 1 + nx bs (a + 2 * k + 2) (out.length + 1 - K)) = rJ bs (a + 2 * k) K out := (wr64 _ (by omega)).trans eJ.symm
  rw [ew3]
  have hJ : 0 ≤ rJ bs (a + 2 * k) K out ∧ rJ bs (a + 2 * k) K out ≤ (rL out k K).length := by rw [eJ]; omega
  generalize rJ bs (a + 2 * k) K out = J at *
  have U1 : List.take (J - 0).toNat (List.drop 0 (rL out k K)) = (rL out k K).take J.toNat := by simp
  have U2 : List.take (((rL out k K).length : Int) - J).toNat (List.drop (0 + J.toNat) (rL out k K)) = (rL out k K).drop J.toNat := by
    rw [List.take_of_length_le (by simp; omega)]; simp
  rw [U1, U2]
  (repeat' apply And.intro)
  all_goals first
    | omega
    | (simp only [lenI_eq, List.length_append, List.length_cons, List.length_nil, List.length_take, List.length_drop]; omega)
    | (refine ⟨k + 1, ⟨by omega, by omega⟩, by omega, ⟨rfl, by omega, by omega⟩, by omega, ?_⟩
       rw [e, hs]; simp [rIns, pr])
theorem okG24 : PCok Tryd.prog G24 := addPC_ok okG23 okRou
set_option maxHeartbeats 4000000 in
theorem okPrt : CtrOk Tryd.prog 11 kPrt := good_of okG24 mixed (fun ((bs, N, w, a, _), _) => noLoops) 100 fun ((bs, N, w, a, _), _) hf hn => by
  refine ⟨rfl, Eq.mpr (tPrt bs N w a) ?_⟩
  (simp only [eq_self_iff_true, true_and, and_true, false_and, and_false, Bool.or_not_self, Bool.not_or_self, Bool.cond_self, cond_true, cond_false, Bool.cond_true_right, Bool.cond_true_left, Bool.cond_false_right, Bool.cond_false_left, Bool.or_true, Bool.true_or, Bool.or_false, Bool.false_or, Bool.and_true, Bool.true_and, Bool.and_false, Bool.false_and, Bool.not_not, forall_eq, ← Bool.decide_and, ← Bool.decide_or, ← decide_not, cDecF, cDecT, cDecFl, Decidable.not_not, Bool.not_true, Bool.not_false, Bool.false_eq_true, imp_false, not_true_eq_false, not_false_eq_true, forall_const, true_implies, false_implies, implies_true, decide_true, decide_false]; try simp only [cDec, eq_self_iff_true, true_and, and_true, false_and, and_false, Bool.or_not_self, Bool.not_or_self, Bool.cond_self, cond_true, cond_false, Bool.cond_true_right, Bool.cond_true_left, Bool.cond_false_right, Bool.cond_false_left, Bool.or_true, Bool.true_or, Bool.or_false, Bool.false_or, Bool.and_true, Bool.true_and, Bool.and_false, Bool.false_and, Bool.not_not, forall_eq, ← Bool.decide_and, ← Bool.decide_or, ← decide_not, cDecF, cDecT, cDecFl, Decidable.not_not, Bool.not_true, Bool.not_false, Bool.false_eq_true, imp_false, not_true_eq_false, not_false_eq_true, forall_const, true_implies, false_implies, implies_true, decide_true, decide_false])
  have z : (0 : Int) + 8 * (N % 7) = 8 * (N % 7) := by omega
  rw [z]
  simp only [a2, a3, a4, a5]
  have hN : 0 ≤ N % 7 ∧ N % 7 < 7 := ⟨Int.emod_nonneg _ (by decide), Int.emod_lt_of_pos _ (by decide)⟩
  exact ⟨by omega, by omega, by omega, by omega, by omega, by omega, by omega, ⟨rfl, rfl, rfl, rfl, rfl⟩, rfl, rfl⟩
theorem okG25 : PCok Tryd.prog G25 := addPC_ok okG24 okPrt
end Go.Proofs.YtfhjnececgoadaaDoor
