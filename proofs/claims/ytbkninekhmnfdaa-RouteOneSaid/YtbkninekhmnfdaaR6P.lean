/- The contracts hold. No condition. -/
import Derived.Test.YtbkninekhmnfdaaR6T
import Derived.Test.YtbkninekhmnfdaaV6N
namespace Go.Proofs.Ytbkninekhmnfdaa
open Go.Eng
set_option linter.unusedSimpArgs false
theorem okG0 : PCok Try.prog G0 := noPC_ok
theorem cnt_append (r k : Int) : ∀ xs ys, cnt r k (xs ++ ys) = cnt r k xs + cnt r k ys
  | [], ys => by simp [cnt]
  | x :: l, ys => by simp only [List.cons_append, cnt, cnt_append r k l ys]; omega
theorem cnt_bd (r k : Int) : ∀ xs, 0 ≤ cnt r k xs ∧ cnt r k xs ≤ xs.length
  | [] => by simp [cnt]
  | x :: l => by
    have := cnt_bd r k l
    simp only [cnt, List.length_cons]
    cases isS r k x <;> simp <;> omega
theorem cnt_snoc (r k : Int) {xs : List (List Value)} {j : Nat} (h : j < xs.length) : cnt r k (xs.take (j + 1)) = cnt r k (xs.take j) + cond (isS r k (xs.getD j [])) 1 0 := by
  rw [take_snoc (d := []) h, cnt_append]; simp [cnt]
theorem isS_iff {r k : Int} {x : List Value} : isS r k x = true ↔ geti x 0 = r ∧ geti x 1 = k := by simp [isS]
theorem isS_no {r k : Int} {x : List Value} (h : geti x 0 ≠ r ∨ geti x 1 ≠ k) : isS r k x = false := by
  cases hx : isS r k x with
  | false => rfl
  | true => have := isS_iff.1 hx; rcases h with h | h
            · exact absurd this.1 h
            · exact absurd this.2 h
theorem cnt_pos {r k : Int} : ∀ {xs : List (List Value)}, 0 < cnt r k xs → ∃ i, i < xs.length ∧ geti (xs.getD i []) 0 = r ∧ geti (xs.getD i []) 1 = k
  | [], h => by simp [cnt] at h
  | x :: l, h => by
    cases hx : isS r k x with
    | true => exact ⟨0, by simp, by simpa using isS_iff.1 hx⟩
    | false =>
      simp only [cnt, hx, cond_false] at h
      obtain ⟨i, h1, h2⟩ := cnt_pos (r := r) (k := k) (xs := l) (by omega)
      exact ⟨i + 1, by simp; omega, by simpa using h2⟩
theorem cnt_mono (r k : Int) (xs : List (List Value)) (i : Nat) : cnt r k (xs.take i) ≤ cnt r k xs := by
  have := cnt_append r k (xs.take i) (xs.drop i)
  rw [List.take_append_drop] at this
  have := (cnt_bd r k (xs.drop i)).1
  omega
theorem okAt_iff {xs : List (List Value)} {i : Nat} : okAt xs i = true ↔ 0 ≤ geti (xs.getD i []) 0 ∧ (geti (xs.getD i []) 1 = 0 ∨ geti (xs.getD i []) 1 = 1) ∧ cnt (geti (xs.getD i []) 0) 0 xs = 1 ∧ cnt (geti (xs.getD i []) 0) 1 xs = 1 ∧
    (geti (xs.getD i []) 1 = 1 → cnt (geti (xs.getD i []) 0) 0 (xs.take i) = 1) := by
  simp [okAt, Decidable.imp_iff_not_or]
theorem okB_iff {xs : List (List Value)} : okB xs = true ↔ ∀ i, i < xs.length → okAt xs i = true := by
  simp [okB, List.all_eq_true]
theorem ok_step {xs : List (List Value)} (h : okB xs = true) : ∀ i, i < xs.length → stepOk xs i := by
  intro i hi
  obtain ⟨h1, h2, h3, h4, h5⟩ := okAt_iff.1 (okB_iff.1 h i hi)
  generalize hr : geti (xs.getD i []) 0 = r at h1 h3 h4 h5
  refine ⟨by rw [hr]; exact h1, ?_⟩
  rw [hr]
  have s0 := cnt_snoc r 0 hi
  have s1 := cnt_snoc r 1 hi
  have m0 := cnt_mono r 0 xs (i + 1)
  have m1 := cnt_mono r 1 xs (i + 1)
  have b0 := cnt_bd r 0 (xs.take i)
  have b1 := cnt_bd r 1 (xs.take i)
  rcases h2 with h2 | h2
  · left
    rw [isS_iff.2 ⟨hr, h2⟩, cond_true] at s0
    refine ⟨h2, by omega, ?_⟩
    rcases Int.lt_or_le 0 (cnt r 1 (xs.take i)) with hlt | hle
    · exfalso
      obtain ⟨j, hj, hj0, hj1⟩ := cnt_pos hlt
      have hj' : j < i := by simp at hj; omega
      have hg : (xs.take i).getD j [] = xs.getD j [] := by simp [List.getD, List.getElem?_take, hj']
      rw [hg] at hj0 hj1
      obtain ⟨_, _, _, _, g5⟩ := okAt_iff.1 (okB_iff.1 h j (by omega))
      have := g5 hj1
      rw [hj0] at this
      have hm := cnt_mono r 0 (xs.take i) j
      rw [List.take_take, Nat.min_eq_left (by omega)] at hm
      omega
    · omega
  · right
    rw [isS_iff.2 ⟨hr, h2⟩, cond_true] at s1
    exact ⟨h2, h5 h2, by omega⟩
theorem ok_eq {xs : List (List Value)} (h : okB xs = true) (r : Int) : cnt r 0 xs = cnt r 1 xs := by
  have key : ∀ k, (k = 0 ∨ k = 1) → 0 < cnt r k xs → cnt r 0 xs = 1 ∧ cnt r 1 xs = 1 := fun k hk h0 => by
    obtain ⟨i, hi, h1, h2⟩ := cnt_pos h0
    obtain ⟨_, _, h3, h4, _⟩ := okAt_iff.1 (okB_iff.1 h i hi)
    rw [h1] at h3 h4
    exact ⟨h3, h4⟩
  have b0 := cnt_bd r 0 xs
  have b1 := cnt_bd r 1 xs
  rcases Int.lt_or_le 0 (cnt r 0 xs) with h0 | h0
  · have := key 0 (.inl rfl) h0; omega
  · rcases Int.lt_or_le 0 (cnt r 1 xs) with h1 | h1
    · have := key 1 (.inr rfl) h1; omega
    · omega
theorem step_le {xs : List (List Value)} {n : Nat} (hn : n ≤ xs.length) (h : ∀ i, i < n → stepOk xs i) (r : Int) : cnt r 0 (xs.take n) ≤ 1 ∧ cnt r 1 (xs.take n) ≤ cnt r 0 (xs.take n) := by
  induction n with
  | zero => simp [cnt]
  | succ n ih =>
    obtain ⟨i1, i2⟩ := ih (by omega) fun i hi => h i (by omega)
    obtain ⟨g1, g2⟩ := h n (by omega)
    rw [cnt_snoc r 0 (by omega), cnt_snoc r 1 (by omega)]
    by_cases hr : geti (xs.getD n []) 0 = r
    · rw [hr] at g2
      rcases g2 with ⟨k1, k2, k3⟩ | ⟨k1, k2, k3⟩
      · have e0 : isS r 0 (xs.getD n []) = true := isS_iff.2 ⟨hr, k1⟩
        have e1 : isS r 1 (xs.getD n []) = false := isS_no (.inr (by omega))
        rw [e0, e1]; simp; omega
      · have e0 : isS r 0 (xs.getD n []) = false := isS_no (.inr (by omega))
        have e1 : isS r 1 (xs.getD n []) = true := isS_iff.2 ⟨hr, k1⟩
        rw [e0, e1]; simp; omega
    · have e0 : isS r 0 (xs.getD n []) = false := isS_no (.inl hr)
      have e1 : isS r 1 (xs.getD n []) = false := isS_no (.inl hr)
      rw [e0, e1]; simp; omega
theorem ok_of {xs : List (List Value)} (h : ∀ i, i < xs.length → stepOk xs i) (he : ∀ r, cnt r 0 xs = cnt r 1 xs) : okB xs = true := by
  rw [okB_iff]
  intro i hi
  rw [okAt_iff]
  obtain ⟨h1, h2⟩ := h i hi
  have hl := step_le (Nat.le_refl _) h (geti (xs.getD i []) 0)
  rw [List.take_length] at hl
  have heq := he (geti (xs.getD i []) 0)
  have m0 := cnt_mono (geti (xs.getD i []) 0) 0 xs (i + 1)
  have m1 := cnt_mono (geti (xs.getD i []) 0) 1 xs (i + 1)
  rw [cnt_snoc _ 0 hi] at m0
  rw [cnt_snoc _ 1 hi] at m1
  have b0 := cnt_bd (geti (xs.getD i []) 0) 0 (xs.take i)
  rcases h2 with ⟨k1, k2, k3⟩ | ⟨k1, k2, k3⟩
  · rw [isS_iff.2 ⟨rfl, k1⟩, cond_true] at m0
    exact ⟨h1, .inl k1, by omega, by omega, fun e => by omega⟩
  · rw [isS_iff.2 ⟨rfl, k1⟩, cond_true] at m1
    exact ⟨h1, .inr k1, by omega, by omega, fun _ => k2⟩
theorem mget_mset (m : List (Int × List Value)) (r r' : Int) (v z : List Value) : mget (mset m r v) r' z = if r' = r then v else mget m r' z := by
  induction m with
  | nil =>
    by_cases h : r' = r
    · subst h; simp [mset, mget]
    · have h' : ¬ r = r' := fun e => h e.symm
      simp [mset, mget, h, h']
  | cons x l ih =>
    by_cases hx : x.1 = r
    · by_cases h : r' = r
      · subst h; simp [mset, mget, hx]
      · have h' : ¬ r = r' := fun e => h e.symm
        have h2 : ¬ x.1 = r' := fun e => h' (hx.symm.trans e)
        simp [mset, mget, hx, h, h', h2]
    · by_cases h2 : x.1 = r'
      · have h : ¬ r' = r := fun e => hx (h2.trans e)
        simp [mset, mget, hx, h2, h]
      · simp only [mset, hx, decide_false, cond_false, mget, h2, ih]
theorem mset_keys (m : List (Int × List Value)) (r : Int) (v : List Value) : (∃ x ∈ m, x.1 = r) ∧ (mset m r v).map (·.1) = m.map (·.1) ∨ (∀ x ∈ m, x.1 ≠ r) ∧ (mset m r v).map (·.1) = m.map (·.1) ++ [r] := by
  induction m with
  | nil => right; simp [mset]
  | cons x l ih =>
    by_cases hx : x.1 = r
    · left; exact ⟨⟨x, .head _, hx⟩, by simp [mset, hx]⟩
    · rcases ih with ⟨⟨y, hy, e⟩, h2⟩ | ⟨h1, h2⟩
      · left; exact ⟨⟨y, .tail _ hy, e⟩, by simp [mset, hx, h2]⟩
      · right
        refine ⟨fun y hy => ?_, by simp [mset, hx, h2]⟩
        rcases List.mem_cons.1 hy with rfl | hy
        · exact hx
        · exact h1 y hy
theorem mset_nd {m : List (Int × List Value)} {r : Int} {v : List Value} (h : (m.map (·.1)).Nodup) : ((mset m r v).map (·.1)).Nodup := by
  rcases mset_keys m r v with ⟨_, h2⟩ | ⟨h1, h2⟩
  · rw [h2]; exact h
  · rw [h2, List.nodup_append]
    refine ⟨h, by simp, fun a ha b hb => ?_⟩
    obtain ⟨x, hx, rfl⟩ := List.mem_map.1 ha
    rw [List.mem_singleton.1 hb]; exact h1 x hx
theorem mget_mem {m : List (Int × List Value)} (h : (m.map (·.1)).Nodup) {x : Int × List Value} (hx : x ∈ m) (z : List Value) : mget m x.1 z = x.2 := by
  induction m with
  | nil => cases hx
  | cons y l ih =>
    simp only [List.map_cons, List.nodup_cons] at h
    rcases List.mem_cons.1 hx with rfl | hx
    · simp [mget]
    · have : ¬ y.1 = x.1 := fun e => h.1 (by rw [e]; exact List.mem_map_of_mem hx)
      simp [mget, this, ih h.2 hx]
theorem mget_or (m : List (Int × List Value)) (r : Int) (z : List Value) : mget m r z = z ∨ ∃ j, j < m.length ∧ (m.getD j (0, [])).1 = r ∧ mget m r z = (m.getD j (0, [])).2 := by
  induction m with
  | nil => left; rfl
  | cons x l ih =>
    by_cases hx : x.1 = r
    · right; exact ⟨0, by simp, by simpa using hx, by simp [mget, hx]⟩
    · rcases ih with h | ⟨j, h1, h2, h3⟩
      · left; simp [mget, hx, h]
      · right; exact ⟨j + 1, by simp; omega, by simpa using h2, by simp [mget, hx]; exact h3⟩
theorem MInv.step {xs : List (List Value)} {m : List (Int × List Value)} {j : Nat} (h : MInv (xs.take j) m) (hj : j < xs.length) (c0 c1 : Int)
    (h0 : c0 = cnt (geti (xs.getD j []) 0) 0 (xs.take (j + 1))) (h1 : c1 = cnt (geti (xs.getD j []) 0) 1 (xs.take (j + 1))) : MInv (xs.take (j + 1)) (mset m (geti (xs.getD j []) 0) (pr c0 c1)) := by
  have has : ∀ r, mget (mset m (geti (xs.getD j []) 0) (pr c0 c1)) r (pr 0 0) = pr (cnt r 0 (xs.take (j + 1))) (cnt r 1 (xs.take (j + 1))) := by
    intro r
    rw [mget_mset]
    by_cases hr : r = geti (xs.getD j []) 0
    · rw [if_pos hr, h0, h1, hr]
    · rw [if_neg hr, h.has r, cnt_snoc r 0 hj, cnt_snoc r 1 hj]
      have e : ∀ k, isS r k (xs.getD j []) = false := fun k => isS_no (.inl fun e => hr e.symm)
      rw [e 0, e 1]; simp
  refine ⟨fun x hx => ?_, mset_nd h.nd, has⟩
  rw [← has x.1, mget_mem (mset_nd h.nd) hx]
theorem nd_le : ∀ (n : Nat) (l : List Nat), l.Nodup → (∀ i ∈ l, i < n) → l.length ≤ n
  | 0, l, _, h => by
    cases l with
    | nil => simp
    | cons a l => exact absurd (h a (.head _)) (by omega)
  | n + 1, l, hn, h => by
    have h1 := nd_le n (l.erase n) (hn.erase n) fun i hi => by
      have h2 := (hn.mem_erase_iff).1 hi
      have := h i h2.2
      have := h2.1
      omega
    rw [List.length_erase] at h1
    split at h1 <;> omega
theorem walk (m : List (Int × List Value)) (e0 c : Int) (he : e0 = 8 ∨ e0 = 0) (h8 : e0 = 8 → c = 8) (hb : (∃ j, j < m.length ∧ bad m j) → c = 8) (hn : e0 = 0 → (∀ j, j < m.length → ¬ bad m j) → c = 0) :
    ∃ s : WkS, WkI m e0 s ∧ ((e0 = s.e ∧ 0 ≤ s.e ∧ s.e ≤ 8) ∧ [] = s.seen) ∧ ∀ z : WkS, WkI m e0 z → (∀ j : Nat, j < m.length → z.seen.contains j = false → j < m.length ∧
      (¬ geti (m.getD j (0, [])).snd 0 = geti (m.getD j (0, [])).snd 1 → ∃ s : WkS, WkI m e0 s ∧ m.length + 1 - s.seen.length < m.length + 1 - z.seen.length ∧ (8 = s.e ∧ 0 ≤ s.e ∧ s.e ≤ 8) ∧ j :: z.seen = s.seen) ∧
      (geti (m.getD j (0, [])).snd 0 = geti (m.getD j (0, [])).snd 1 → ∃ s : WkS, WkI m e0 s ∧ m.length + 1 - s.seen.length < m.length + 1 - z.seen.length ∧ z.e = s.e ∧ j :: z.seen = s.seen)) ∧
      ((∀ j : Nat, j < m.length → z.seen.contains j = true) → z.e = c) := by
  refine ⟨⟨[], e0⟩, ⟨by simp, by simp, ?_⟩, ⟨⟨rfl, by dsimp only; omega, by dsimp only; omega⟩, rfl⟩, ?_⟩
  · rcases he with rfl | rfl
    · exact .inl ⟨rfl, .inl rfl⟩
    · exact .inr ⟨rfl, rfl, by simp⟩
  intro z hz
  have grow : ∀ j, j < m.length → z.seen.contains j = false → (∀ i ∈ j :: z.seen, i < m.length) ∧ (j :: z.seen).Nodup ∧ m.length + 1 - (j :: z.seen).length < m.length + 1 - z.seen.length := by
    intro j hj hc
    have hc' : j ∉ z.seen := by simpa using hc
    have hnd : (j :: z.seen).Nodup := List.nodup_cons.2 ⟨hc', hz.nd⟩
    have hlt : ∀ i ∈ j :: z.seen, i < m.length := by
      intro i hi
      rcases List.mem_cons.1 hi with rfl | hi
      · exact hj
      · exact hz.lt i hi
    have hsub := nd_le _ _ hnd hlt
    simp only [List.length_cons] at hsub
    exact ⟨hlt, hnd, by simp only [List.length_cons]; omega⟩
  refine ⟨fun j hj hc => ⟨hj, fun hne => ?_, fun heq => ?_⟩, fun hall => ?_⟩
  · obtain ⟨g1, g2, g3⟩ := grow j hj hc
    exact ⟨⟨j :: z.seen, 8⟩, ⟨g1, g2, .inl ⟨rfl, .inr ⟨j, .head _, hne⟩⟩⟩, g3, ⟨rfl, by simp, by simp⟩, rfl⟩
  · obtain ⟨g1, g2, g3⟩ := grow j hj hc
    refine ⟨⟨j :: z.seen, z.e⟩, ⟨g1, g2, ?_⟩, g3, rfl, rfl⟩
    rcases hz.e with ⟨a1, a2 | ⟨i, hi, hbi⟩⟩ | ⟨a1, a2, a3⟩
    · exact .inl ⟨a1, .inl a2⟩
    · exact .inl ⟨a1, .inr ⟨i, .tail _ hi, hbi⟩⟩
    · refine .inr ⟨a1, a2, fun i hi => ?_⟩
      rcases List.mem_cons.1 hi with rfl | hi
      · exact fun hb' => hb' heq
      · exact a3 i hi
  · rcases hz.e with ⟨a1, a2 | ⟨i, hi, hbi⟩⟩ | ⟨a1, a2, a3⟩
    · rw [a1, h8 a2]
    · rw [a1, hb ⟨i, hz.lt i hi, hbi⟩]
    · rw [a1, hn a2 fun j hj => a3 j (by simpa using hall j hj)]
theorem checkE_bd (xs : List (List Value)) : 0 ≤ checkE xs ∧ checkE xs ≤ 11 := by
  unfold checkE; cases decide (16 < lenI xs) <;> cases okB xs <;> simp
theorem checkE_11 {xs : List (List Value)} (h : 16 < (xs.length : Int)) : checkE xs = 11 := by
  unfold checkE; rw [lenI_eq, decide_eq_true h]; rfl
theorem checkE_ok {xs : List (List Value)} (h : ¬ 16 < (xs.length : Int)) : (okB xs = true → checkE xs = 0) ∧ (¬ okB xs = true → checkE xs = 8) := by
  unfold checkE; rw [lenI_eq, decide_eq_false h]
  exact ⟨fun h => by rw [h]; rfl, fun h => by rw [Bool.eq_false_iff.2 h]; rfl⟩
set_option maxHeartbeats 4000000 in
theorem okCnt : CtrOk Try.prog 27 kCnt := good_of okG0 mixed (fun (xs, (r, k, _), _) => cntL r k xs) 100 fun (xs, (r, k, _), _) hf hn => by
  refine ⟨rfl, Eq.mpr (tCnt xs r k) ?_⟩
  have hm : (xs.length : Int) ≤ 9223372036854775807 := len63 hf.1.2
  (simp only [eq_self_iff_true, true_and, and_true, false_and, and_false, Bool.or_not_self, Bool.not_or_self, Bool.cond_self, cond_true, cond_false, Bool.cond_true_right, Bool.cond_true_left, Bool.cond_false_right, Bool.cond_false_left, Bool.or_true, Bool.true_or, Bool.or_false, Bool.false_or, Bool.and_true, Bool.true_and, Bool.and_false, Bool.false_and, Bool.not_not, forall_eq, ← Bool.decide_and, ← Bool.decide_or, ← decide_not, cDecF, cDecT, cDecFl, Decidable.not_not, Bool.not_true, Bool.not_false, Bool.false_eq_true, imp_false, not_true_eq_false, not_false_eq_true, forall_const, true_implies, false_implies, implies_true, decide_true, decide_false]; try simp only [cDec, eq_self_iff_true, true_and, and_true, false_and, and_false, Bool.or_not_self, Bool.not_or_self, Bool.cond_self, cond_true, cond_false, Bool.cond_true_right, Bool.cond_true_left, Bool.cond_false_right, Bool.cond_false_left, Bool.or_true, Bool.true_or, Bool.or_false, Bool.false_or, Bool.and_true, Bool.true_and, Bool.and_false, Bool.false_and, Bool.not_not, forall_eq, ← Bool.decide_and, ← Bool.decide_or, ← decide_not, cDecF, cDecT, cDecFl, Decidable.not_not, Bool.not_true, Bool.not_false, Bool.false_eq_true, imp_false, not_true_eq_false, not_false_eq_true, forall_const, true_implies, false_implies, implies_true, decide_true, decide_false])
  have hb := cnt_bd r k
  refine ⟨0, ⟨by omega, by omega⟩, ⟨⟨rfl, by omega, by omega⟩, by simp [cnt], by simp [cnt], by simp [cnt]⟩, ?_⟩
  intro j hj
  refine ⟨fun hlt => ⟨⟨by omega, hlt⟩, ?_⟩, fun hge => by rw [show j.toNat = xs.length by omega, List.take_length]⟩
  have e : (j + 1).toNat = j.toNat + 1 := by omega
  have ew : IntKind.i64.wrap (j + 1) = j + 1 := wr64 _ (by omega)
  have hs := cnt_snoc r k (xs := xs) (j := j.toNat) (by omega)
  have b1 := hb (xs.take j.toNat)
  have b2 := hb (xs.take (j.toNat + 1))
  have l1 : ((xs.take j.toNat).length : Int) ≤ xs.length := by simp; omega
  have l2 : ((xs.take (j.toNat + 1)).length : Int) ≤ xs.length := by simp; omega
  rw [ew]
  refine bif_intro (fun h => ?_) (fun h => ?_)
  · have h1 : isS r k (xs.getD j.toNat []) = true := by simpa [isS] using h
    rw [h1, cond_true] at hs
    have ew2 : IntKind.i64.wrap (cnt r k (xs.take j.toNat) + 1) = cnt r k (xs.take j.toNat) + 1 := wr64 _ (by omega)
    rw [ew2]
    exact ⟨j + 1, by omega, by omega, by omega, by rw [e]; omega, by rw [e]; omega, by rw [e]; omega⟩
  · have h1 : isS r k (xs.getD j.toNat []) = false := by
      cases hx : isS r k (xs.getD j.toNat []) with
      | false => rfl
      | true => have := isS_iff.1 hx; rw [this.1, this.2] at h; simp at h
    rw [h1, cond_false] at hs
    exact ⟨j + 1, by omega, by omega, by omega, by rw [e]; omega⟩
theorem okG1 : PCok Try.prog G1 := addPC_ok okG0 okCnt
set_option maxHeartbeats 4000000 in
theorem okRck : CtrOk Try.prog 11 kRck := good_of okG1 mixed (fun (xs, _) => rckL xs) 100 fun (xs, _) hf hn => by
  refine ⟨rfl, Eq.mpr (tRck xs) ?_⟩
  have hm : (xs.length : Int) ≤ 9223372036854775807 := len63 hf.1.2
  (simp only [eq_self_iff_true, true_and, and_true, false_and, and_false, Bool.or_not_self, Bool.not_or_self, Bool.cond_self, cond_true, cond_false, Bool.cond_true_right, Bool.cond_true_left, Bool.cond_false_right, Bool.cond_false_left, Bool.or_true, Bool.true_or, Bool.or_false, Bool.false_or, Bool.and_true, Bool.true_and, Bool.and_false, Bool.false_and, Bool.not_not, forall_eq, ← Bool.decide_and, ← Bool.decide_or, ← decide_not, cDecF, cDecT, cDecFl, Decidable.not_not, Bool.not_true, Bool.not_false, Bool.false_eq_true, imp_false, not_true_eq_false, not_false_eq_true, forall_const, true_implies, false_implies, implies_true, decide_true, decide_false]; try simp only [cDec, eq_self_iff_true, true_and, and_true, false_and, and_false, Bool.or_not_self, Bool.not_or_self, Bool.cond_self, cond_true, cond_false, Bool.cond_true_right, Bool.cond_true_left, Bool.cond_false_right, Bool.cond_false_left, Bool.or_true, Bool.true_or, Bool.or_false, Bool.false_or, Bool.and_true, Bool.true_and, Bool.and_false, Bool.false_and, Bool.not_not, forall_eq, ← Bool.decide_and, ← Bool.decide_or, ← decide_not, cDecF, cDecT, cDecFl, Decidable.not_not, Bool.not_true, Bool.not_false, Bool.false_eq_true, imp_false, not_true_eq_false, not_false_eq_true, forall_const, true_implies, false_implies, implies_true, decide_true, decide_false])
  have hbd := checkE_bd xs
  refine ⟨fun h => ⟨(checkE_11 h).symm, hbd⟩, fun h16 => ?_⟩
  obtain ⟨c0, c8⟩ := checkE_ok h16
  refine ⟨0, ⟨by omega, by omega, fun i hi => by omega⟩, by omega, ?_⟩
  rintro j ⟨j0, j1, hok⟩
  have ew : j < (xs.length : Int) → IntKind.i64.wrap (j + 1) = j + 1 := fun _ => wr64 _ (by omega)
  have e1 : (xs.drop 0).take (j - 0).toNat = xs.take j.toNat := by simp
  rw [e1]
  refine ⟨fun hlt => ⟨⟨j0, hlt⟩, fun hbad => ?_, fun hg => ⟨by omega, fun hbad => ?_, fun hg2 => ?_⟩⟩, fun hge => ?_⟩
  · refine ⟨(c8 fun hk => ?_).symm, hbd⟩
    have := okAt_iff.1 (okB_iff.1 hk j.toNat (by omega))
    omega
  · refine ⟨(c8 fun hk => ?_).symm, hbd⟩
    have := okAt_iff.1 (okB_iff.1 hk j.toNat (by omega))
    exact hbad.2 (this.2.2.2.2 hbad.1)
  · rw [ew hlt]
    refine ⟨j + 1, ⟨by omega, by omega, fun i hi => ?_⟩, by omega, rfl, by omega, by omega⟩
    by_cases hij : i < j.toNat
    · exact hok i hij
    · have : i = j.toNat := by omega
      subst this
      exact okAt_iff.2 ⟨by omega, by omega, by omega, by omega, fun e => by
        rcases Decidable.em (cnt (geti (xs.getD j.toNat []) 0) 0 (xs.take j.toNat) = 1) with h | h
        · exact h
        · exact absurd ⟨e, h⟩ hg2⟩
  · exact ⟨(c0 (okB_iff.2 fun i hi => hok i (by omega))).symm, hbd⟩
theorem okG2 : PCok Try.prog G2 := addPC_ok okG1 okRck
set_option maxHeartbeats 4000000 in
theorem okCk : CtrOk Try.prog 10 kCk := good_of okG2 mixed (fun (xs, _) => ckL xs) 100 fun (xs, _) hf hn => by
  refine ⟨rfl, Eq.mpr (tCk xs) ?_⟩
  have hm : (xs.length : Int) ≤ 9223372036854775807 := len63 hf.1.2
  (simp only [eq_self_iff_true, true_and, and_true, false_and, and_false, Bool.or_not_self, Bool.not_or_self, Bool.cond_self, cond_true, cond_false, Bool.cond_true_right, Bool.cond_true_left, Bool.cond_false_right, Bool.cond_false_left, Bool.or_true, Bool.true_or, Bool.or_false, Bool.false_or, Bool.and_true, Bool.true_and, Bool.and_false, Bool.false_and, Bool.not_not, forall_eq, ← Bool.decide_and, ← Bool.decide_or, ← decide_not, cDecF, cDecT, cDecFl, Decidable.not_not, Bool.not_true, Bool.not_false, Bool.false_eq_true, imp_false, not_true_eq_false, not_false_eq_true, forall_const, true_implies, false_implies, implies_true, decide_true, decide_false]; try simp only [cDec, eq_self_iff_true, true_and, and_true, false_and, and_false, Bool.or_not_self, Bool.not_or_self, Bool.cond_self, cond_true, cond_false, Bool.cond_true_right, Bool.cond_true_left, Bool.cond_false_right, Bool.cond_false_left, Bool.or_true, Bool.true_or, Bool.or_false, Bool.false_or, Bool.and_true, Bool.true_and, Bool.and_false, Bool.false_and, Bool.not_not, forall_eq, ← Bool.decide_and, ← Bool.decide_or, ← decide_not, cDecF, cDecT, cDecFl, Decidable.not_not, Bool.not_true, Bool.not_false, Bool.false_eq_true, imp_false, not_true_eq_false, not_false_eq_true, forall_const, true_implies, false_implies, implies_true, decide_true, decide_false])
  have hbd := checkE_bd xs
  refine ⟨fun h => ⟨(checkE_11 h).symm, hbd⟩, fun h16 => ?_⟩
  obtain ⟨c0, c8⟩ := checkE_ok h16
  refine ⟨⟨0, []⟩, ⟨by simp, by simp, fun i hi => by simp at hi, ⟨by simp, by simp, fun r => rfl⟩⟩, ⟨⟨rfl, by simp, by simp⟩, rfl⟩, ?_⟩
  rintro ⟨j, m⟩ hI
  have j0 := hI.j0
  have j1 := hI.j1
  have hok := hI.ok
  have hmi := hI.mi
  dsimp only at j0 j1 hok hmi ⊢
  refine ⟨fun hlt => ⟨⟨j0, hlt⟩, fun hneg => ?_, fun hge => ?_⟩, fun hge => ?_⟩
  · have c := c8 fun hk => by have := (ok_step hk j.toNat (by omega)).1; omega
    rw [c]
    exact walk m 8 8 (.inl rfl) (fun _ => rfl) (fun _ => rfl) (fun h => by cases h)
  · have hg := hmi.has (geti (xs.getD j.toNat []) 0)
    have ew : IntKind.i64.wrap (j + 1) = j + 1 := wr64 _ (by omega)
    have e : (j + 1).toNat = j.toNat + 1 := by omega
    have g0 : geti (mget m (geti (xs.getD j.toNat []) 0) [Value.int .i64 0, Value.int .i64 0]) 0 = cnt (geti (xs.getD j.toNat []) 0) 0 (xs.take j.toNat) := by
      show geti (mget m (geti (xs.getD j.toNat []) 0) (pr 0 0)) 0 = _
      rw [hg]; rfl
    have g1 : geti (mget m (geti (xs.getD j.toNat []) 0) [Value.int .i64 0, Value.int .i64 0]) 1 = cnt (geti (xs.getD j.toNat []) 0) 1 (xs.take j.toNat) := by
      show geti (mget m (geti (xs.getD j.toNat []) 0) (pr 0 0)) 1 = _
      rw [hg]; rfl
    rw [g0, g1, ew]
    have s0 := cnt_snoc (geti (xs.getD j.toNat []) 0) 0 (xs := xs) (j := j.toNat) (by omega)
    have s1 := cnt_snoc (geti (xs.getD j.toNat []) 0) 1 (xs := xs) (j := j.toNat) (by omega)
    have next : ∀ v0 v1 : Int, stepOk xs j.toNat → v0 = cnt (geti (xs.getD j.toNat []) 0) 0 (xs.take (j.toNat + 1)) → v1 = cnt (geti (xs.getD j.toNat []) 0) 1 (xs.take (j.toNat + 1)) →
        ∃ s : CkS, CkI xs s ∧ ((xs.length : Int) - s.j).toNat < ((xs.length : Int) - j).toNat ∧ (j + 1 = s.j ∧ 0 ≤ s.j ∧ s.j ≤ 9223372036854775807) ∧ mset m (geti (xs.getD j.toNat []) 0) [Value.int .i64 v0, Value.int .i64 v1] = s.m := by
      intro v0 v1 hst hv0 hv1
      refine ⟨⟨j + 1, mset m (geti (xs.getD j.toNat []) 0) (pr v0 v1)⟩, ⟨by dsimp only; omega, by dsimp only; omega, fun i hi => ?_, ?_⟩, by dsimp only; omega, ⟨rfl, by dsimp only; omega, by dsimp only; omega⟩, rfl⟩
      · dsimp only at hi
        by_cases hij : i < j.toNat
        · exact hok i hij
        · have : i = j.toNat := by omega
          subst this; exact hst
      · dsimp only
        rw [e]
        exact hmi.step (by omega) v0 v1 hv0 hv1
    refine bif_intro (fun h => ?_) (fun h => bif_intro (fun h2 => ?_) (fun h2 => ?_))
    · simp only [Bool.and_eq_true, decide_eq_true_eq, beq_iff_eq] at h
      obtain ⟨k0, q0, q1⟩ := h
      rw [isS_iff.2 ⟨rfl, k0⟩, cond_true] at s0
      rw [show isS (geti (xs.getD j.toNat []) 0) 1 (xs.getD j.toNat []) = false from isS_no (.inr (by omega)), cond_false] at s1
      have w1 : IntKind.i64.wrap (cnt (geti (xs.getD j.toNat []) 0) 0 (xs.take j.toNat) + 1) = cnt (geti (xs.getD j.toNat []) 0) 0 (xs.take j.toNat) + 1 := wr64 _ (by omega)
      rw [w1]
      exact next _ _ ⟨by omega, .inl ⟨k0, q0, q1⟩⟩ (by omega) (by omega)
    · simp only [Bool.and_eq_true, decide_eq_true_eq, beq_iff_eq] at h2
      obtain ⟨k0, q0, q1⟩ := h2
      rw [isS_iff.2 ⟨rfl, k0⟩, cond_true] at s1
      rw [show isS (geti (xs.getD j.toNat []) 0) 0 (xs.getD j.toNat []) = false from isS_no (.inr (by omega)), cond_false] at s0
      have w1 : IntKind.i64.wrap (cnt (geti (xs.getD j.toNat []) 0) 1 (xs.take j.toNat) + 1) = cnt (geti (xs.getD j.toNat []) 0) 1 (xs.take j.toNat) + 1 := wr64 _ (by omega)
      rw [w1]
      exact next _ _ ⟨by omega, .inr ⟨k0, q0, q1⟩⟩ (by omega) (by omega)
    · have c := c8 fun hk => by
        obtain ⟨_, a | a⟩ := ok_step hk j.toNat (by omega)
        · rw [a.1, a.2.1, a.2.2] at h; simp at h
        · rw [a.1, a.2.1, a.2.2] at h2; simp at h2
      rw [c]
      exact walk m 8 8 (.inl rfl) (fun _ => rfl) (fun _ => rfl) (fun h => by cases h)
  · have hj : j.toNat = xs.length := by omega
    rw [hj, List.take_length] at hmi
    rw [hj] at hok
    refine walk m 0 (checkE xs) (.inr rfl) (fun h => by cases h) ?_ ?_
    · rintro ⟨i, hi, hb⟩
      refine c8 fun hk => hb ?_
      have hmem : m.getD i (0, []) ∈ m := by
        rw [List.getD, List.getElem?_eq_getElem hi]; exact List.getElem_mem hi
      rw [hmi.all _ hmem]
      exact ok_eq hk _
    · intro _ hnb
      refine c0 (ok_of hok fun r => ?_)
      have hr := hmi.has r
      rcases mget_or m r (pr 0 0) with hz | ⟨i, hi, h1, h2⟩
      · rw [hz] at hr
        have a := congrArg (fun l => geti l 0) hr
        have b := congrArg (fun l => geti l 1) hr
        simp [pr, geti] at a b
        omega
      · have := hnb i hi
        unfold bad at this
        rw [Decidable.not_not, ← h2, hr] at this
        exact this
theorem okG3 : PCok Try.prog G3 := addPC_ok okG2 okCk
theorem dB_intro {p : Prop} (h : p) : dB p = true := by unfold dB; exact @decide_eq_true p (Classical.propDecidable p) h
theorem dB_no {p : Prop} (h : ¬ p) : dB p = false := by unfold dB; exact @decide_eq_false p (Classical.propDecidable p) h
theorem dB_true {p : Prop} (h : dB p = true) : p := by unfold dB at h; exact @of_decide_eq_true p (Classical.propDecidable p) h
theorem sk_put {x : List Value} (h : Wk SK x) : [Value.int .i64 (geti x 0), Value.int .i64 (geti x 1)] = x := by
  have h0 := geti_eq h (j := 0) (K := .i64) rfl
  have h1 := geti_eq h (j := 1) (K := .i64) rfl
  have hl : x.length = 2 := by simpa [SK] using h.length
  match x, hl with
  | [a, b], _ => simp only [List.getElem?_cons_zero, List.getElem?_cons_succ, Option.some.injEq] at h0 h1; rw [← h0, ← h1]
theorem pk_put {x : List Value} (h : Wk PK x) : [Value.int .i64 (geti x 0)] = x := by
  have h0 := geti_eq h (j := 0) (K := .i64) rfl
  have hl : x.length = 1 := by simpa [PK] using h.length
  match x, hl with
  | [a], _ => simp only [List.getElem?_cons_zero, Option.some.injEq] at h0; rw [← h0]
theorem sk_eq {x y : List Value} (hx : Wk SK x) (hy : Wk SK y) (h0 : geti x 0 = geti y 0) (h1 : geti x 1 = geti y 1) : x = y := by rw [← sk_put hx, ← sk_put hy, h0, h1]
theorem pk_eq {x y : List Value} (hx : Wk PK x) (hy : Wk PK y) (h0 : geti x 0 = geti y 0) : x = y := by rw [← pk_put hx, ← pk_put hy, h0]
theorem rqs_snoc {xs : List (List Value)} {k : Nat} (h : k < xs.length) : rqs (xs.take (k + 1)) = rqs (xs.take k) ++ cond (decide (geti (xs.getD k []) 1 = 0)) [rq1 (xs.getD k [])] [] := by
  unfold rqs
  rw [take_snoc (d := []) h, List.filter_append, List.map_append]
  generalize xs.getD k [] = y
  by_cases hk : geti y 1 = 0 <;> simp [hk]
theorem rqs_len (xs : List (List Value)) : (rqs xs).length ≤ xs.length := by simp only [rqs, List.length_map]; exact List.length_filter_le _ _
theorem flt_snoc (r : Int) {xs : List (List Value)} {k : Nat} (h : k < xs.length) : flt r (xs.take (k + 1)) = flt r (xs.take k) ++ cond (decide (geti (xs.getD k []) 0 = r)) [] [xs.getD k []] := by
  unfold flt
  rw [take_snoc (d := []) h, List.filter_append]
  generalize xs.getD k [] = y
  by_cases hk : geti y 0 = r <;> simp [hk]
theorem flt_len (r : Int) (xs : List (List Value)) : (flt r xs).length ≤ xs.length := List.length_filter_le _ _
theorem hasR_snoc (r : Int) {xs : List (List Value)} {k : Nat} (h : k < xs.length) : hasR r (xs.take (k + 1)) = (hasR r (xs.take k) || decide (geti (xs.getD k []) 0 = r)) := by
  rw [take_snoc (d := []) h]; simp [hasR]
theorem hasR_at {r : Int} {xs : List (List Value)} {k : Nat} (h : k < xs.length) (hr : geti (xs.getD k []) 0 = r) : hasR r xs = true := by
  simp only [hasR, List.any_eq_true]; exact ⟨xs.getD k [], getD_in h, decide_eq_true hr⟩
theorem flt_no {r : Int} {xs : List (List Value)} (h : hasR r xs = false) : flt r xs = xs := by
  simp only [hasR, List.any_eq_false] at h
  simp only [flt, List.filter_eq_self]
  intro x hx
  have := h x hx
  simpa using this
theorem wOk_iff {xs : List (List Value)} {r i j : Int} : wOk xs r i j = true ↔ 0 ≤ i ∧ i ≤ j ∧ j ≤ (xs.length : Int) ∧ 0 ≤ r ∧ (xs.length : Int) + 2 ≤ 16 ∧ hasR r xs = false := by
  simp [wOk, lenI_eq]
theorem wOk_no {xs : List (List Value)} {r i j : Int} (h : ¬ (0 ≤ i ∧ i ≤ j ∧ j ≤ (xs.length : Int) ∧ 0 ≤ r ∧ (xs.length : Int) + 2 ≤ 16 ∧ hasR r xs = false)) : false = wOk xs r i j ∧ [] = wth xs r i j := by
  have : wOk xs r i j = false := Bool.eq_false_iff.2 fun e => h (wOk_iff.1 e)
  exact ⟨this.symm, by simp [wth, this]⟩
theorem wOk_yes {xs : List (List Value)} {r i j : Int} (h : 0 ≤ i ∧ i ≤ j ∧ j ≤ (xs.length : Int) ∧ 0 ≤ r ∧ (xs.length : Int) + 2 ≤ 16 ∧ hasR r xs = false) : wOk xs r i j = true ∧ wth xs r i j = wRow xs r i j := by
  have := wOk_iff.2 h
  exact ⟨this, by simp [wth, this]⟩
theorem tak_ext (xs : List (List Value)) (a m : Nat) : (xs.drop a).take (m + 1) = (xs.drop a).take m ++ xs[a + m]?.toList := by
  rw [List.take_add_one, List.getElem?_drop]
theorem get_list (xs : List (List Value)) (k : Nat) : cond (decide ((k : Int) < xs.length)) [xs.getD k []] [] = xs[k]?.toList := by
  by_cases h : k < xs.length
  · rw [decide_eq_true (by omega : (k : Int) < xs.length), cond_true, List.getElem?_eq_getElem h]; simp [List.getD, h]
  · rw [decide_eq_false (by omega : ¬ (k : Int) < xs.length), cond_false, List.getElem?_eq_none (by omega)]; rfl
theorem wpre_succ (xs : List (List Value)) (r : Int) (I J k : Nat) : wpre xs r I J (k + 1) = wpre xs r I J k ++ (cond (decide (k = I)) [pr r 0] [] ++ (cond (decide (k = J)) [pr r 1] [] ++ xs[k]?.toList)) := by
  show wpre xs r I J k ++ (cond (decide ((k : Int) = I)) [pr r 0] [] ++ (cond (decide ((k : Int) = J)) [pr r 1] [] ++ _)) = _
  rw [get_list, show decide ((k : Int) = I) = decide (k = I) from decide_eq_decide.2 (by omega), show decide ((k : Int) = J) = decide (k = J) from decide_eq_decide.2 (by omega)]
theorem wpre_A (xs : List (List Value)) (r : Int) (I J : Nat) (hJ : I ≤ J) : ∀ k, k ≤ I → wpre xs r I J k = xs.take k
  | 0, _ => by simp [wpre]
  | k + 1, h => by
    rw [wpre_succ, wpre_A xs r I J hJ k (by omega), decide_eq_false (by omega), decide_eq_false (by omega)]
    simp only [cond_false, List.nil_append]
    exact (by simpa using (tak_ext xs 0 k).symm)
theorem wpre_B (xs : List (List Value)) (r : Int) (I J : Nat) : ∀ m, I + 1 + m ≤ J → wpre xs r I J (I + 1 + m) = xs.take I ++ pr r 0 :: (xs.drop I).take (m + 1)
  | 0, h => by
    rw [Nat.add_zero, wpre_succ, wpre_A xs r I J (by omega) I (Nat.le_refl _), decide_eq_true rfl, decide_eq_false (by omega), tak_ext]
    simp
  | m + 1, h => by
    rw [show I + 1 + (m + 1) = (I + 1 + m) + 1 by omega, wpre_succ, wpre_B xs r I J m (by omega), decide_eq_false (by omega), decide_eq_false (by omega), tak_ext xs I (m + 1), show I + (m + 1) = I + 1 + m by omega]
    simp
theorem wpre_C (xs : List (List Value)) (r : Int) (I J : Nat) (hJ : I ≤ J) : ∀ m, wpre xs r I J (J + 1 + m) = xs.take I ++ pr r 0 :: ((xs.drop I).take (J - I) ++ pr r 1 :: (xs.drop J).take (m + 1))
  | 0 => by
    rw [Nat.add_zero, wpre_succ, tak_ext xs J 0]
    rcases Nat.eq_or_lt_of_le hJ with h | h
    · subst h
      rw [wpre_A xs r I I (Nat.le_refl _) I (Nat.le_refl _), decide_eq_true rfl]
      simp
    · have hb := wpre_B xs r I J (J - I - 1) (by omega)
      rw [show I + 1 + (J - I - 1) = J by omega, show J - I - 1 + 1 = J - I by omega] at hb
      rw [hb, decide_eq_false (by omega), decide_eq_true rfl]
      simp
  | m + 1 => by
    rw [show J + 1 + (m + 1) = (J + 1 + m) + 1 by omega, wpre_succ, wpre_C xs r I J hJ m, decide_eq_false (by omega), decide_eq_false (by omega), tak_ext xs J (m + 1), show J + (m + 1) = J + 1 + m by omega]
    simp
theorem wpre_full {xs : List (List Value)} {r i j : Int} (hi : 0 ≤ i) (hij : i ≤ j) (hj : j ≤ (xs.length : Int)) : wpre xs r i j (xs.length + 1) = wRow xs r i j := by
  obtain ⟨I, rfl⟩ := Int.eq_ofNat_of_zero_le hi
  obtain ⟨J, rfl⟩ := Int.eq_ofNat_of_zero_le (by omega : 0 ≤ j)
  have h := wpre_C xs r I J (by omega) (xs.length - J)
  rw [show J + 1 + (xs.length - J) = xs.length + 1 by omega] at h
  rw [h]
  unfold wRow
  rw [show ((J : Int) - I).toNat = J - I by omega, List.take_of_length_le (by simp : (xs.drop J).length ≤ xs.length - J + 1)]
  rfl
theorem wpre_len (xs : List (List Value)) (r i j : Int) : ∀ k, (wpre xs r i j k).length ≤ 3 * k
  | 0 => by simp [wpre]
  | k + 1 => by
    have := wpre_len xs r i j k
    simp only [wpre, List.length_append]
    cases decide ((k : Int) = i) <;> cases decide ((k : Int) = j) <;> cases decide ((k : Int) < xs.length) <;> simp <;> omega
theorem wRow_len {xs : List (List Value)} {r i j : Int} (hi : 0 ≤ i) (hij : i ≤ j) (hj : j ≤ (xs.length : Int)) : (wRow xs r i j).length = xs.length + 2 := by
  simp only [wRow, List.length_append, List.length_cons, List.length_take, List.length_drop]; omega
theorem wth_len (xs : List (List Value)) (r i j : Int) : (wth xs r i j).length ≤ xs.length + 2 := by
  cases h : wOk xs r i j with
  | false => simp [wth, h]
  | true => have := wOk_iff.1 h; rw [(wOk_yes this).2, wRow_len this.1 this.2.1 this.2.2.1]; exact Nat.le_refl _
theorem madeN_len (bs : List (List Value)) : ∀ k, (madeN bs k).length ≤ 2 * k
  | 0 => by simp [madeN]
  | k + 1 => by
    have := madeN_len bs k
    have h2 := wth_len (madeN bs k) k (min (byt bs (2 * k) % (lenI (madeN bs k) + 1)) (byt bs (2 * k + 1) % (lenI (madeN bs k) + 1))) (max (byt bs (2 * k) % (lenI (madeN bs k) + 1)) (byt bs (2 * k + 1) % (lenI (madeN bs k) + 1)))
    simp only [madeN]; omega
theorem idxD_bd (r k : Int) (xs : List (List Value)) : ∀ n, -1 ≤ idxD r k xs n ∧ idxD r k xs n ≤ xs.length
  | 0 => by simp [idxD]
  | n + 1 => by
    have := idxD_bd r k xs n
    simp only [idxD]
    cases isS r k (xs.getD (xs.length - (n + 1)) []) <;> simp <;> omega
theorem near_snoc {xs : List (List Value)} {k : Nat} (h : k < xs.length) (h2 : k < 30) : near (xs.take (k + 1)) = near (xs.take k) ++ [nearE (xs.getD k [])] := by
  unfold near
  rw [List.take_take, List.take_take, Nat.min_eq_right (by omega), Nat.min_eq_right (by omega), take_snoc (d := []) h]; simp
theorem near_len (xs : List (List Value)) : (near xs).length ≤ 30 := by simp [near]; omega
set_option maxHeartbeats 4000000 in
theorem okSm : CtrOk Try.prog 17 kSm := good_of okG3 mixed (fun (xs, ys, _) => sameL 17 xs ys) 100 fun (xs, ys, _) hf hn => by
  refine ⟨rfl, Eq.mpr (tSm xs ys) ?_⟩
  have hm : (xs.length : Int) ≤ 9223372036854775807 := len63 hf.1.2
  have hm2 : (ys.length : Int) ≤ 9223372036854775807 := len63 hf.2.1.2
  (simp only [eq_self_iff_true, true_and, and_true, false_and, and_false, Bool.or_not_self, Bool.not_or_self, Bool.cond_self, cond_true, cond_false, Bool.cond_true_right, Bool.cond_true_left, Bool.cond_false_right, Bool.cond_false_left, Bool.or_true, Bool.true_or, Bool.or_false, Bool.false_or, Bool.and_true, Bool.true_and, Bool.and_false, Bool.false_and, Bool.not_not, forall_eq, ← Bool.decide_and, ← Bool.decide_or, ← decide_not, cDecF, cDecT, cDecFl, Decidable.not_not, Bool.not_true, Bool.not_false, Bool.false_eq_true, imp_false, not_true_eq_false, not_false_eq_true, forall_const, true_implies, false_implies, implies_true, decide_true, decide_false]; try simp only [cDec, eq_self_iff_true, true_and, and_true, false_and, and_false, Bool.or_not_self, Bool.not_or_self, Bool.cond_self, cond_true, cond_false, Bool.cond_true_right, Bool.cond_true_left, Bool.cond_false_right, Bool.cond_false_left, Bool.or_true, Bool.true_or, Bool.or_false, Bool.false_or, Bool.and_true, Bool.true_and, Bool.and_false, Bool.false_and, Bool.not_not, forall_eq, ← Bool.decide_and, ← Bool.decide_or, ← decide_not, cDecF, cDecT, cDecFl, Decidable.not_not, Bool.not_true, Bool.not_false, Bool.false_eq_true, imp_false, not_true_eq_false, not_false_eq_true, forall_const, true_implies, false_implies, implies_true, decide_true, decide_false])
  refine ⟨fun h => (dB_no (fun e => h (by rw [e]))).symm, fun hlen => ?_⟩
  refine ⟨0, ⟨by omega, by omega, by simp⟩, ⟨rfl, by omega, by omega⟩, ?_⟩
  rintro k ⟨h0, h1, h2⟩
  refine ⟨fun hlt => ⟨⟨h0, hlt⟩, ⟨h0, by omega⟩, ?_⟩, fun hge => ?_⟩
  · have ha := hf.1.1 _ (getD_in (d := []) (show k.toNat < xs.length by omega))
    have hb := hf.2.1.1 _ (getD_in (d := []) (show k.toNat < ys.length by omega))
    have sa := take_snoc (d := []) (show k.toNat < xs.length by omega)
    have sb := take_snoc (d := []) (show k.toNat < ys.length by omega)
    have e : (k + 1).toNat = k.toNat + 1 := by omega
    have ew : IntKind.i64.wrap (k + 1) = k + 1 := wr64 _ (by omega)
    have fin : xs.getD k.toNat [] = ys.getD k.toNat [] → ∃ s : Int, (0 ≤ s ∧ s ≤ xs.length ∧ List.take s.toNat xs = List.take s.toNat ys) ∧ ((xs.length : Int) - s).toNat < ((xs.length : Int) - k).toNat ∧
        IntKind.i64.wrap (k + 1) = s ∧ 0 ≤ s ∧ s ≤ 9223372036854775807 := fun hd => by
      refine ⟨k + 1, ⟨by omega, by omega, ?_⟩, by omega, ew, by omega, by omega⟩
      rw [e, sa, sb, h2, hd]
    refine bif_intro (fun h => ?_) (fun h => fin ?_)
    · refine (dB_no (fun e' => ?_)).symm
      subst e'
      simp at h
    · simp only [Bool.not_eq_false', Bool.and_eq_true, beq_iff_eq] at h
      exact sk_eq ha hb h.1 h.2
  · refine (dB_intro ?_).symm
    have e1 : k.toNat = xs.length := by omega
    have e2 : k.toNat = ys.length := by omega
    rw [e1, List.take_length] at h2
    rw [h2, ← e1, e2, List.take_length]
theorem okG4 : PCok Try.prog G4 := addPC_ok okG3 okSm
set_option maxHeartbeats 4000000 in
theorem okIn : CtrOk Try.prog 12 kIn := good_of okG4 mixed (fun (xs, ys, _) => sameL 12 xs ys) 100 fun (xs, ys, _) hf hn => by
  refine ⟨rfl, Eq.mpr (tIn xs ys) ?_⟩
  have hm : (xs.length : Int) ≤ 9223372036854775807 := len63 hf.1.2
  have hm2 : (ys.length : Int) ≤ 9223372036854775807 := len63 hf.2.1.2
  (simp only [eq_self_iff_true, true_and, and_true, false_and, and_false, Bool.or_not_self, Bool.not_or_self, Bool.cond_self, cond_true, cond_false, Bool.cond_true_right, Bool.cond_true_left, Bool.cond_false_right, Bool.cond_false_left, Bool.or_true, Bool.true_or, Bool.or_false, Bool.false_or, Bool.and_true, Bool.true_and, Bool.and_false, Bool.false_and, Bool.not_not, forall_eq, ← Bool.decide_and, ← Bool.decide_or, ← decide_not, cDecF, cDecT, cDecFl, Decidable.not_not, Bool.not_true, Bool.not_false, Bool.false_eq_true, imp_false, not_true_eq_false, not_false_eq_true, forall_const, true_implies, false_implies, implies_true, decide_true, decide_false]; try simp only [cDec, eq_self_iff_true, true_and, and_true, false_and, and_false, Bool.or_not_self, Bool.not_or_self, Bool.cond_self, cond_true, cond_false, Bool.cond_true_right, Bool.cond_true_left, Bool.cond_false_right, Bool.cond_false_left, Bool.or_true, Bool.true_or, Bool.or_false, Bool.false_or, Bool.and_true, Bool.true_and, Bool.and_false, Bool.false_and, Bool.not_not, forall_eq, ← Bool.decide_and, ← Bool.decide_or, ← decide_not, cDecF, cDecT, cDecFl, Decidable.not_not, Bool.not_true, Bool.not_false, Bool.false_eq_true, imp_false, not_true_eq_false, not_false_eq_true, forall_const, true_implies, false_implies, implies_true, decide_true, decide_false])
  refine ⟨fun h => (dB_no (fun e => h (by rw [e]))).symm, fun hlen => ?_⟩
  refine ⟨0, ⟨by omega, by omega, by simp⟩, ⟨rfl, by omega, by omega⟩, ?_⟩
  rintro k ⟨h0, h1, h2⟩
  refine ⟨fun hlt => ⟨⟨h0, hlt⟩, ⟨h0, by omega⟩, ?_⟩, fun hge => ?_⟩
  · have ha := hf.1.1 _ (getD_in (d := []) (show k.toNat < xs.length by omega))
    have hb := hf.2.1.1 _ (getD_in (d := []) (show k.toNat < ys.length by omega))
    have sa := take_snoc (d := []) (show k.toNat < xs.length by omega)
    have sb := take_snoc (d := []) (show k.toNat < ys.length by omega)
    have e : (k + 1).toNat = k.toNat + 1 := by omega
    have ew : IntKind.i64.wrap (k + 1) = k + 1 := wr64 _ (by omega)
    have fin : xs.getD k.toNat [] = ys.getD k.toNat [] → ∃ s : Int, (0 ≤ s ∧ s ≤ xs.length ∧ List.take s.toNat xs = List.take s.toNat ys) ∧ ((xs.length : Int) - s).toNat < ((xs.length : Int) - k).toNat ∧
        IntKind.i64.wrap (k + 1) = s ∧ 0 ≤ s ∧ s ≤ 9223372036854775807 := fun hd => by
      refine ⟨k + 1, ⟨by omega, by omega, ?_⟩, by omega, ew, by omega, by omega⟩
      rw [e, sa, sb, h2, hd]
    refine ⟨fun h => (dB_no (fun e' => h (by rw [e']))).symm, fun h => fin (pk_eq ha hb h)⟩
  · refine (dB_intro ?_).symm
    have e1 : k.toNat = xs.length := by omega
    have e2 : k.toNat = ys.length := by omega
    rw [e1, List.take_length] at h2
    rw [h2, ← e1, e2, List.take_length]
theorem okG5 : PCok Try.prog G5 := addPC_ok okG4 okIn
set_option maxHeartbeats 4000000 in
theorem okRqp : CtrOk Try.prog 13 kRqp := good_of okG5 mixed (fun (xs, _) => rqL xs) 100 fun (xs, _) hf hn => by
  refine ⟨rfl, Eq.mpr (tRqp xs) ?_⟩
  have hm : (xs.length : Int) ≤ 9223372036854775807 := len63 hf.1.2
  (simp only [eq_self_iff_true, true_and, and_true, false_and, and_false, Bool.or_not_self, Bool.not_or_self, Bool.cond_self, cond_true, cond_false, Bool.cond_true_right, Bool.cond_true_left, Bool.cond_false_right, Bool.cond_false_left, Bool.or_true, Bool.true_or, Bool.or_false, Bool.false_or, Bool.and_true, Bool.true_and, Bool.and_false, Bool.false_and, Bool.not_not, forall_eq, ← Bool.decide_and, ← Bool.decide_or, ← decide_not, cDecF, cDecT, cDecFl, Decidable.not_not, Bool.not_true, Bool.not_false, Bool.false_eq_true, imp_false, not_true_eq_false, not_false_eq_true, forall_const, true_implies, false_implies, implies_true, decide_true, decide_false]; try simp only [cDec, eq_self_iff_true, true_and, and_true, false_and, and_false, Bool.or_not_self, Bool.not_or_self, Bool.cond_self, cond_true, cond_false, Bool.cond_true_right, Bool.cond_true_left, Bool.cond_false_right, Bool.cond_false_left, Bool.or_true, Bool.true_or, Bool.or_false, Bool.false_or, Bool.and_true, Bool.true_and, Bool.and_false, Bool.false_and, Bool.not_not, forall_eq, ← Bool.decide_and, ← Bool.decide_or, ← decide_not, cDecF, cDecT, cDecFl, Decidable.not_not, Bool.not_true, Bool.not_false, Bool.false_eq_true, imp_false, not_true_eq_false, not_false_eq_true, forall_const, true_implies, false_implies, implies_true, decide_true, decide_false])
  have rq0 : ¬ checkE xs = 0 → rq xs = [] := fun h => by simp [rq, h]
  have rq2 : checkE xs = 0 → rq xs = rqs xs := fun h => by simp [rq, h]
  refine ⟨fun h => (rq0 h).symm, fun h => ?_⟩
  have h16 : (xs.length : Int) ≤ 16 := by
    rcases Int.lt_or_le 16 (xs.length : Int) with g | g
    · rw [checkE_11 g] at h; cases h
    · exact g
  rw [rq2 h]
  refine ⟨0, ⟨by omega, by omega⟩, ⟨⟨rfl, by omega, by omega⟩, by simp [rqs]⟩, ?_⟩
  rintro k ⟨k0, k1⟩
  refine ⟨fun hlt => ⟨⟨k0, hlt⟩, ?_⟩, fun hge => by rw [List.take_of_length_le (by omega)]⟩
  have e : (k + 1).toNat = k.toNat + 1 := by omega
  have ew : IntKind.i64.wrap (k + 1) = k + 1 := wr64 _ (by omega)
  have hs := rqs_snoc (xs := xs) (k := k.toNat) (by omega)
  have hlen := rqs_len (xs.take k.toNat)
  have hl2 : lenI (rqs (xs.take k.toNat)) ≤ 8796093022208 := by rw [lenI_eq]; rw [List.length_take] at hlen; omega
  refine ⟨fun hk => ?_, fun hk => ⟨k + 1, ⟨by omega, by omega⟩, by omega, ⟨ew, by omega, by omega⟩, by rw [e, hs, decide_eq_false hk]; simp⟩⟩
  refine ⟨hl2, ⟨k + 1, ⟨by omega, by omega⟩, by omega, ⟨ew, by omega, by omega⟩, by rw [e, hs, decide_eq_true hk]; rfl⟩⟩
theorem okG6 : PCok Try.prog G6 := addPC_ok okG5 okRqp
set_option maxHeartbeats 4000000 in
theorem okRqr : CtrOk Try.prog 14 kRqr := good_of okG6 mixed (fun (xs, _) => rqL xs) 100 fun (xs, _) hf hn => by
  refine ⟨rfl, Eq.mpr (tRqr xs) ?_⟩
  have hm : (xs.length : Int) ≤ 9223372036854775807 := len63 hf.1.2
  (simp only [eq_self_iff_true, true_and, and_true, false_and, and_false, Bool.or_not_self, Bool.not_or_self, Bool.cond_self, cond_true, cond_false, Bool.cond_true_right, Bool.cond_true_left, Bool.cond_false_right, Bool.cond_false_left, Bool.or_true, Bool.true_or, Bool.or_false, Bool.false_or, Bool.and_true, Bool.true_and, Bool.and_false, Bool.false_and, Bool.not_not, forall_eq, ← Bool.decide_and, ← Bool.decide_or, ← decide_not, cDecF, cDecT, cDecFl, Decidable.not_not, Bool.not_true, Bool.not_false, Bool.false_eq_true, imp_false, not_true_eq_false, not_false_eq_true, forall_const, true_implies, false_implies, implies_true, decide_true, decide_false]; try simp only [cDec, eq_self_iff_true, true_and, and_true, false_and, and_false, Bool.or_not_self, Bool.not_or_self, Bool.cond_self, cond_true, cond_false, Bool.cond_true_right, Bool.cond_true_left, Bool.cond_false_right, Bool.cond_false_left, Bool.or_true, Bool.true_or, Bool.or_false, Bool.false_or, Bool.and_true, Bool.true_and, Bool.and_false, Bool.false_and, Bool.not_not, forall_eq, ← Bool.decide_and, ← Bool.decide_or, ← decide_not, cDecF, cDecT, cDecFl, Decidable.not_not, Bool.not_true, Bool.not_false, Bool.false_eq_true, imp_false, not_true_eq_false, not_false_eq_true, forall_const, true_implies, false_implies, implies_true, decide_true, decide_false])
  have rq0 : ¬ checkE xs = 0 → rq xs = [] := fun h => by simp [rq, h]
  have rq2 : checkE xs = 0 → rq xs = rqs xs := fun h => by simp [rq, h]
  refine ⟨fun h => (rq0 h).symm, fun h => ?_⟩
  have h16 : (xs.length : Int) ≤ 16 := by
    rcases Int.lt_or_le 16 (xs.length : Int) with g | g
    · rw [checkE_11 g] at h; cases h
    · exact g
  rw [rq2 h]
  refine ⟨0, ⟨by omega, by omega⟩, ⟨⟨rfl, by omega, by omega⟩, by simp [rqs]⟩, ?_⟩
  rintro k ⟨k0, k1⟩
  refine ⟨fun hlt => ⟨⟨k0, hlt⟩, ?_⟩, fun hge => by rw [List.take_of_length_le (by omega)]⟩
  have e : (k + 1).toNat = k.toNat + 1 := by omega
  have ew : IntKind.i64.wrap (k + 1) = k + 1 := wr64 _ (by omega)
  have hs := rqs_snoc (xs := xs) (k := k.toNat) (by omega)
  have hlen := rqs_len (xs.take k.toNat)
  have hl2 : lenI (rqs (xs.take k.toNat)) ≤ 8796093022208 := by rw [lenI_eq]; rw [List.length_take] at hlen; omega
  refine ⟨fun hk => ?_, fun hk => ⟨k + 1, ⟨by omega, by omega⟩, by omega, ⟨ew, by omega, by omega⟩, by rw [e, hs, decide_eq_false hk]; simp⟩⟩
  refine ⟨⟨k0, hlt⟩, hl2, ⟨k + 1, ⟨by omega, by omega⟩, by omega, ⟨ew, by omega, by omega⟩, by rw [e, hs, decide_eq_true hk]; rfl⟩⟩
theorem okG7 : PCok Try.prog G7 := addPC_ok okG6 okRqr
set_option maxHeartbeats 4000000 in
theorem okWr : CtrOk Try.prog 18 kWr := good_of okG7 mixed (fun (xs, r, i, j, _) => wrL xs r i j) 100 fun (xs, r, i, j, _) hf hn => by
  refine ⟨rfl, Eq.mpr (tWr xs r i j) ?_⟩
  have hl : lenI xs ≤ 1000000 := of_decide_eq_true hn.1
  rw [lenI_eq] at hl

  (simp only [eq_self_iff_true, true_and, and_true, false_and, and_false, Bool.or_not_self, Bool.not_or_self, Bool.cond_self, cond_true, cond_false, Bool.cond_true_right, Bool.cond_true_left, Bool.cond_false_right, Bool.cond_false_left, Bool.or_true, Bool.true_or, Bool.or_false, Bool.false_or, Bool.and_true, Bool.true_and, Bool.and_false, Bool.false_and, Bool.not_not, forall_eq, ← Bool.decide_and, ← Bool.decide_or, ← decide_not, cDecF, cDecT, cDecFl, Decidable.not_not, Bool.not_true, Bool.not_false, Bool.false_eq_true, imp_false, not_true_eq_false, not_false_eq_true, forall_const, true_implies, false_implies, implies_true, decide_true, decide_false]; try simp only [cDec, eq_self_iff_true, true_and, and_true, false_and, and_false, Bool.or_not_self, Bool.not_or_self, Bool.cond_self, cond_true, cond_false, Bool.cond_true_right, Bool.cond_true_left, Bool.cond_false_right, Bool.cond_false_left, Bool.or_true, Bool.true_or, Bool.or_false, Bool.false_or, Bool.and_true, Bool.true_and, Bool.and_false, Bool.false_and, Bool.not_not, forall_eq, ← Bool.decide_and, ← Bool.decide_or, ← decide_not, cDecF, cDecT, cDecFl, Decidable.not_not, Bool.not_true, Bool.not_false, Bool.false_eq_true, imp_false, not_true_eq_false, not_false_eq_true, forall_const, true_implies, false_implies, implies_true, decide_true, decide_false])
  have ew2 : IntKind.i64.wrap ((xs.length : Int) + 2) = xs.length + 2 := wr64 _ (by omega)
  rw [ew2]
  refine ⟨fun h => wOk_no (by omega), fun h => ?_⟩
  refine ⟨0, ⟨by omega, by omega, by simp [hasR]⟩, ⟨⟨rfl, by omega, by omega⟩, by simp [wpre]⟩, ?_⟩
  rintro k ⟨k0, k1, kh⟩
  have e : (k + 1).toNat = k.toNat + 1 := by omega
  have hkk : ((k.toNat : Nat) : Int) = k := by omega
  have ew : IntKind.i64.wrap (k + 1) = k + 1 := wr64 _ (by omega)
  have hp : wpre xs r i j (k.toNat + 1) = wpre xs r i j k.toNat ++ (cond (decide (k = i)) [pr r 0] [] ++ (cond (decide (k = j)) [pr r 1] [] ++ cond (decide (k < (xs.length : Int))) [xs.getD k.toNat []] [])) := by
    show _ ++ (cond (decide (((k.toNat : Nat) : Int) = i)) _ _ ++ (cond (decide (((k.toNat : Nat) : Int) = j)) _ _ ++ cond (decide (((k.toNat : Nat) : Int) < _)) _ _)) = _
    rw [hkk]
  have hwl := wpre_len xs r i j k.toNat
  have hput : k < (xs.length : Int) → [Value.int .i64 (geti (xs.getD k.toNat []) 0), Value.int .i64 (geti (xs.getD k.toNat []) 1)] = xs.getD k.toNat [] := fun hlt => sk_put (hf.1.1 _ (getD_in (d := []) (show k.toNat < xs.length by omega)))
  have hbad : k < (xs.length : Int) → geti (xs.getD k.toNat []) 0 = r → false = wOk xs r i j ∧ [] = wth xs r i j := fun h1 h2 => wOk_no fun g => by
    have := hasR_at (by omega) h2
    rw [g.2.2.2.2.2] at this; cases this
  have fin : ∀ Q, Q = wpre xs r i j (k.toNat + 1) → k ≤ (xs.length : Int) → (k < (xs.length : Int) → ¬ geti (xs.getD k.toNat []) 0 = r) → ∃ s : Int, (0 ≤ s ∧ s ≤ (xs.length : Int) + 1 ∧ hasR r (xs.take s.toNat) = false) ∧
      ((xs.length : Int) + 1 - s).toNat < ((xs.length : Int) + 1 - k).toNat ∧ (IntKind.i64.wrap (k + 1) = s ∧ 0 ≤ s ∧ s ≤ 9223372036854775807) ∧ Q = wpre xs r i j s.toNat := by
    rintro Q rfl h1 h2
    refine ⟨k + 1, ⟨by omega, by omega, ?_⟩, by omega, ⟨ew, by omega, by omega⟩, by rw [e]⟩
    rw [e]
    by_cases hlt : k < (xs.length : Int)
    · rw [hasR_snoc r (by omega), kh, decide_eq_false (h2 hlt)]; rfl
    · rw [List.take_of_length_le (by omega)] at kh ⊢; exact kh
  refine ⟨fun hle => ?_, fun hgt => ?_⟩
  · (repeat' (first | apply And.intro | intro _))
    all_goals first
      | omega
      | exact (hbad (by omega) ‹_›).1
      | exact (hbad (by omega) ‹_›).2
      | (simp only [lenI_eq, List.length_append, List.length_cons, List.length_nil]; omega)
      | (refine fin _ ?_ hle (fun hc => by first | assumption | (exfalso; omega))
         rw [hp]
         first | rw [decide_eq_true (by omega : k = i)] | rw [decide_eq_false (by omega : ¬ k = i)]
         first | rw [decide_eq_true (by omega : k = j)] | rw [decide_eq_false (by omega : ¬ k = j)]
         first | rw [decide_eq_true (by omega : k < (xs.length : Int)), hput (by omega)] | rw [decide_eq_false (by omega : ¬ k < (xs.length : Int))]
         simp [pr])
  · have hk : k.toNat = xs.length + 1 := by omega
    rw [hk, List.take_of_length_le (by omega)] at kh
    have g := wOk_yes (xs := xs) (r := r) (i := i) (j := j) ⟨by omega, by omega, by omega, by omega, by omega, kh⟩
    rw [hk, g.2, wpre_full (by omega) (by omega) (by omega)]
    exact ⟨g.1.symm, rfl⟩
theorem okG8 : PCok Try.prog G8 := addPC_ok okG7 okWr
set_option maxHeartbeats 4000000 in
theorem okMd : CtrOk Try.prog 8 kMd := good_of okG8 mixed (fun (bs, _) => mdL bs) 100 fun (bs, _) hf hn => by
  refine ⟨rfl, Eq.mpr (tMd bs) ?_⟩
  have hm : (bs.length : Int) ≤ 9223372036854775807 := len63 hf.1.2
  (simp only [eq_self_iff_true, true_and, and_true, false_and, and_false, Bool.or_not_self, Bool.not_or_self, Bool.cond_self, cond_true, cond_false, Bool.cond_true_right, Bool.cond_true_left, Bool.cond_false_right, Bool.cond_false_left, Bool.or_true, Bool.true_or, Bool.or_false, Bool.false_or, Bool.and_true, Bool.true_and, Bool.and_false, Bool.false_and, Bool.not_not, forall_eq, ← Bool.decide_and, ← Bool.decide_or, ← decide_not, cDecF, cDecT, cDecFl, Decidable.not_not, Bool.not_true, Bool.not_false, Bool.false_eq_true, imp_false, not_true_eq_false, not_false_eq_true, forall_const, true_implies, false_implies, implies_true, decide_true, decide_false]; try simp only [cDec, eq_self_iff_true, true_and, and_true, false_and, and_false, Bool.or_not_self, Bool.not_or_self, Bool.cond_self, cond_true, cond_false, Bool.cond_true_right, Bool.cond_true_left, Bool.cond_false_right, Bool.cond_false_left, Bool.or_true, Bool.true_or, Bool.or_false, Bool.false_or, Bool.and_true, Bool.true_and, Bool.and_false, Bool.false_and, Bool.not_not, forall_eq, ← Bool.decide_and, ← Bool.decide_or, ← decide_not, cDecF, cDecT, cDecFl, Decidable.not_not, Bool.not_true, Bool.not_false, Bool.false_eq_true, imp_false, not_true_eq_false, not_false_eq_true, forall_const, true_implies, false_implies, implies_true, decide_true, decide_false])
  refine ⟨0, ⟨by omega, by omega, by omega⟩, ⟨⟨rfl, by omega, by omega⟩, by simp [madeN]⟩, ?_⟩
  rintro k ⟨k0, k1, k2⟩
  have e : (k + 1).toNat = k.toNat + 1 := by omega
  have hkk : ((k.toNat : Nat) : Int) = k := by omega
  have ew1 : IntKind.i64.wrap (2 * k + 1) = 2 * k + 1 := wr64 _ (by omega)
  have ew2 : IntKind.i64.wrap (2 * k + 2) = 2 * (k + 1) := (wr64 _ (by omega)).trans (by omega)
  have hml := madeN_len bs k.toNat
  have ew3 : IntKind.i64.wrap (((madeN bs k.toNat).length : Int) + 1) = (madeN bs k.toNat).length + 1 := wr64 _ (by omega)
  rw [ew1, ew2, ew3]
  refine ⟨fun h => ?_, fun h => ?_⟩
  · have b0 := geti_bd (hf.1.1 _ (getD_in (d := []) (show (2 * k).toNat < bs.length by omega))) (j := 0) (K := .u8) rfl
    have b1 := geti_bd (hf.1.1 _ (getD_in (d := []) (show (2 * k + 1).toNat < bs.length by omega))) (j := 0) (K := .u8) rfl
    have q0 : kmin IntKind.u8 = 0 := rfl
    rw [q0] at b0 b1
    refine ⟨by omega, by omega, by omega, by omega, by rw [lenI_eq]; omega, k + 1, by omega, by omega, ⟨by omega, by omega, by omega⟩, ?_⟩
    rw [e, Int.tmod_eq_emod_of_nonneg b0.1, Int.tmod_eq_emod_of_nonneg b1.1]
    show _ = wth (madeN bs k.toNat) ((k.toNat : Nat) : Int) _ _
    rw [hkk, show 2 * k / 2 = k by omega, lenI_eq, show (2 * k).toNat = 2 * k.toNat by omega, show (2 * k + 1).toNat = 2 * k.toNat + 1 by omega]
    rfl
  · rw [made, show k.toNat = min (bs.length / 2) 6 by omega]
theorem okG9 : PCok Try.prog G9 := addPC_ok okG8 okMd
set_option maxHeartbeats 4000000 in
theorem okNr : CtrOk Try.prog 9 kNr := good_of okG9 mixed (fun (xs, _) => nrL xs) 100 fun (xs, _) hf hn => by
  refine ⟨rfl, Eq.mpr (tNr xs) ?_⟩
  have hm : (xs.length : Int) ≤ 9223372036854775807 := len63 hf.1.2
  (simp only [eq_self_iff_true, true_and, and_true, false_and, and_false, Bool.or_not_self, Bool.not_or_self, Bool.cond_self, cond_true, cond_false, Bool.cond_true_right, Bool.cond_true_left, Bool.cond_false_right, Bool.cond_false_left, Bool.or_true, Bool.true_or, Bool.or_false, Bool.false_or, Bool.and_true, Bool.true_and, Bool.and_false, Bool.false_and, Bool.not_not, forall_eq, ← Bool.decide_and, ← Bool.decide_or, ← decide_not, cDecF, cDecT, cDecFl, Decidable.not_not, Bool.not_true, Bool.not_false, Bool.false_eq_true, imp_false, not_true_eq_false, not_false_eq_true, forall_const, true_implies, false_implies, implies_true, decide_true, decide_false]; try simp only [cDec, eq_self_iff_true, true_and, and_true, false_and, and_false, Bool.or_not_self, Bool.not_or_self, Bool.cond_self, cond_true, cond_false, Bool.cond_true_right, Bool.cond_true_left, Bool.cond_false_right, Bool.cond_false_left, Bool.or_true, Bool.true_or, Bool.or_false, Bool.false_or, Bool.and_true, Bool.true_and, Bool.and_false, Bool.false_and, Bool.not_not, forall_eq, ← Bool.decide_and, ← Bool.decide_or, ← decide_not, cDecF, cDecT, cDecFl, Decidable.not_not, Bool.not_true, Bool.not_false, Bool.false_eq_true, imp_false, not_true_eq_false, not_false_eq_true, forall_const, true_implies, false_implies, implies_true, decide_true, decide_false])
  refine ⟨0, ⟨by omega, by omega, by omega⟩, ⟨⟨rfl, by omega, by omega⟩, by simp [near]⟩, ?_⟩
  rintro k ⟨k0, k1, k2⟩
  have e : (k + 1).toNat = k.toNat + 1 := by omega
  have ew : IntKind.i64.wrap (k + 1) = k + 1 := wr64 _ (by omega)
  have hnl := near_len (xs.take k.toNat)
  have hnl2 : lenI (near (xs.take k.toNat)) ≤ 4398046511104 := by rw [lenI_eq]; omega
  refine ⟨fun h => ⟨⟨k0, h.1⟩, ?_⟩, fun h => by
    unfold near
    rw [List.take_take]
    rcases Int.lt_or_le k 30 with g | g
    · rw [Nat.min_eq_right (by omega), List.take_of_length_le (by omega), List.take_of_length_le (by omega)]
    · rw [show k.toNat = 30 by omega, Nat.min_self]⟩
  have fin : ∀ x, x = nearE (xs.getD k.toNat []) → lenI (near (xs.take k.toNat)) ≤ 4398046511104 ∧ ∃ s : Int, (0 ≤ s ∧ s ≤ 30 ∧ s ≤ (xs.length : Int)) ∧ (30 - s).toNat < (30 - k).toNat ∧ (IntKind.i64.wrap (k + 1) = s ∧ 0 ≤ s ∧ s ≤ 9223372036854775807) ∧
      near (xs.take k.toNat) ++ [x] = near (xs.take s.toNat) := by
    rintro x rfl
    exact ⟨hnl2, k + 1, ⟨by omega, by omega, by omega⟩, by omega, ⟨ew, by omega, by omega⟩, by rw [e, near_snoc (by omega) (by omega)]⟩
  refine ⟨fun h0 => ⟨fun h1 => fin _ ?_, fun h1 => fin _ ?_⟩, fun h0 => ⟨fun h1 => fin _ ?_, fun h1 => fin _ ?_⟩⟩
  all_goals simp only [nearE, nearV, h0, h1, if_true, if_false]
theorem okG10 : PCok Try.prog G10 := addPC_ok okG9 okNr
set_option maxHeartbeats 4000000 in
theorem okWp : CtrOk Try.prog 16 kWp := good_of okG10 mixed (fun (xs, r, i, j, _) => ixL xs r) 100 fun (xs, r, i, j, _) hf hn => by
  refine ⟨rfl, Eq.mpr (tWp xs r i j) ?_⟩
  have hl : lenI xs ≤ 1000000 := of_decide_eq_true hn.1
  rw [lenI_eq] at hl

  (simp only [eq_self_iff_true, true_and, and_true, false_and, and_false, Bool.or_not_self, Bool.not_or_self, Bool.cond_self, cond_true, cond_false, Bool.cond_true_right, Bool.cond_true_left, Bool.cond_false_right, Bool.cond_false_left, Bool.or_true, Bool.true_or, Bool.or_false, Bool.false_or, Bool.and_true, Bool.true_and, Bool.and_false, Bool.false_and, Bool.not_not, forall_eq, ← Bool.decide_and, ← Bool.decide_or, ← decide_not, cDecF, cDecT, cDecFl, Decidable.not_not, Bool.not_true, Bool.not_false, Bool.false_eq_true, imp_false, not_true_eq_false, not_false_eq_true, forall_const, true_implies, false_implies, implies_true, decide_true, decide_false]; try simp only [cDec, eq_self_iff_true, true_and, and_true, false_and, and_false, Bool.or_not_self, Bool.not_or_self, Bool.cond_self, cond_true, cond_false, Bool.cond_true_right, Bool.cond_true_left, Bool.cond_false_right, Bool.cond_false_left, Bool.or_true, Bool.true_or, Bool.or_false, Bool.false_or, Bool.and_true, Bool.true_and, Bool.and_false, Bool.false_and, Bool.not_not, forall_eq, ← Bool.decide_and, ← Bool.decide_or, ← decide_not, cDecF, cDecT, cDecFl, Decidable.not_not, Bool.not_true, Bool.not_false, Bool.false_eq_true, imp_false, not_true_eq_false, not_false_eq_true, forall_const, true_implies, false_implies, implies_true, decide_true, decide_false])
  have ew2 : IntKind.i64.wrap ((xs.length : Int) + 2) = xs.length + 2 := wr64 _ (by omega)
  rw [ew2]
  refine ⟨0, ⟨by omega, by omega, by simp [hasR]⟩, ⟨rfl, by omega, by omega⟩, ?_⟩
  rintro k ⟨k0, k1, kh⟩
  have e : (k + 1).toNat = k.toNat + 1 := by omega
  have ew : k < (xs.length : Int) → IntKind.i64.wrap (k + 1) = k + 1 := fun _ => wr64 _ (by omega)
  refine ⟨fun hlt => ⟨⟨k0, hlt⟩, fun hr => wOk_no fun g => ?_, fun hr => ⟨k + 1, ⟨by omega, by omega, ?_⟩, by omega, ew hlt, by omega, by omega⟩⟩, fun hge => ⟨fun h => wOk_no (by omega), fun h => ?_⟩⟩
  · have := hasR_at (by omega) hr
    rw [g.2.2.2.2.2] at this; cases this
  · rw [e, hasR_snoc r (by omega), kh, decide_eq_false hr]; rfl
  · rw [List.take_of_length_le (by omega)] at kh
    have g := wOk_yes (xs := xs) (r := r) (i := i) (j := j) ⟨by omega, by omega, by omega, by omega, by omega, kh⟩
    rw [g.1, g.2]
    (repeat' apply And.intro)
    all_goals first
      | omega
      | rfl
      | (simp only [lenI_eq, List.length_append, List.length_cons, List.length_nil, List.length_take, List.length_drop]; omega)
      | (unfold wRow
         rw [List.take_of_length_le (by simp; omega : (List.drop (0 + j.toNat) xs).length ≤ ((xs.length : Int) - j).toNat)]
         simp [pr])
theorem okG11 : PCok Try.prog G11 := addPC_ok okG10 okWp
set_option maxHeartbeats 4000000 in
theorem okIx : CtrOk Try.prog 30 kIx := good_of okG11 mixed (fun (xs, (r, q, _), _) => inL r q xs) 100 fun (xs, (r, q, _), _) hf hn => by
  refine ⟨rfl, Eq.mpr (tIx xs r q) ?_⟩
  have hm : (xs.length : Int) ≤ 9223372036854775807 := len63 hf.1.2
  (simp only [eq_self_iff_true, true_and, and_true, false_and, and_false, Bool.or_not_self, Bool.not_or_self, Bool.cond_self, cond_true, cond_false, Bool.cond_true_right, Bool.cond_true_left, Bool.cond_false_right, Bool.cond_false_left, Bool.or_true, Bool.true_or, Bool.or_false, Bool.false_or, Bool.and_true, Bool.true_and, Bool.and_false, Bool.false_and, Bool.not_not, forall_eq, ← Bool.decide_and, ← Bool.decide_or, ← decide_not, cDecF, cDecT, cDecFl, Decidable.not_not, Bool.not_true, Bool.not_false, Bool.false_eq_true, imp_false, not_true_eq_false, not_false_eq_true, forall_const, true_implies, false_implies, implies_true, decide_true, decide_false]; try simp only [cDec, eq_self_iff_true, true_and, and_true, false_and, and_false, Bool.or_not_self, Bool.not_or_self, Bool.cond_self, cond_true, cond_false, Bool.cond_true_right, Bool.cond_true_left, Bool.cond_false_right, Bool.cond_false_left, Bool.or_true, Bool.true_or, Bool.or_false, Bool.false_or, Bool.and_true, Bool.true_and, Bool.and_false, Bool.false_and, Bool.not_not, forall_eq, ← Bool.decide_and, ← Bool.decide_or, ← decide_not, cDecF, cDecT, cDecFl, Decidable.not_not, Bool.not_true, Bool.not_false, Bool.false_eq_true, imp_false, not_true_eq_false, not_false_eq_true, forall_const, true_implies, false_implies, implies_true, decide_true, decide_false])
  refine ⟨0, ⟨by omega, by omega, by simp [idx]⟩, ⟨rfl, by omega, by omega⟩, ?_⟩
  rintro k ⟨k0, k1, kh⟩
  have e : (k + 1).toNat = k.toNat + 1 := by omega
  have ew : k < (xs.length : Int) → IntKind.i64.wrap (k + 1) = k + 1 := fun _ => wr64 _ (by omega)
  refine ⟨fun hlt => ⟨⟨k0, hlt⟩, ?_⟩, fun hge => ?_⟩
  · have hn1 : xs.length - k.toNat = (xs.length - k.toNat - 1) + 1 := by omega
    rw [hn1] at kh
    simp only [idxD] at kh
    rw [show xs.length - (xs.length - k.toNat - 1 + 1) = k.toNat by omega] at kh
    refine bif_intro (fun h => ?_) (fun h => ?_)
    · simp only [Bool.and_eq_true, beq_iff_eq] at h
      rw [isS_iff.2 ⟨h.1.symm, h.2.symm⟩, cond_true] at kh
      rw [← kh]; omega
    · have hs : isS r q (xs.getD k.toNat []) = false := isS_no (by
        rcases Decidable.em (geti (xs.getD k.toNat []) 0 = r) with h1 | h1
        · refine .inr fun h2 => ?_
          rw [h1, h2] at h; simp at h
        · exact .inl h1)
      rw [hs, cond_false] at kh
      exact ⟨k + 1, ⟨by omega, by omega, by rw [e, show xs.length - (k.toNat + 1) = xs.length - k.toNat - 1 by omega]; exact kh⟩, by omega, ew hlt, by omega, by omega⟩
  · rw [show xs.length - k.toNat = 0 by omega] at kh
    have : idxD r q xs 0 = -1 := rfl
    rw [this] at kh
    omega
theorem okG12 : PCok Try.prog G12 := addPC_ok okG11 okIx
set_option maxHeartbeats 4000000 in
theorem okAtp : CtrOk Try.prog 19 kAtp := good_of okG12 mixed (fun (xs, r, _) => noLoops) 100 fun (xs, r, _) hf hn => by
  refine ⟨rfl, Eq.mpr (tAtp xs r) ?_⟩
  (simp only [eq_self_iff_true, true_and, and_true, false_and, and_false, Bool.or_not_self, Bool.not_or_self, Bool.cond_self, cond_true, cond_false, Bool.cond_true_right, Bool.cond_true_left, Bool.cond_false_right, Bool.cond_false_left, Bool.or_true, Bool.true_or, Bool.or_false, Bool.false_or, Bool.and_true, Bool.true_and, Bool.and_false, Bool.false_and, Bool.not_not, forall_eq, ← Bool.decide_and, ← Bool.decide_or, ← decide_not, cDecF, cDecT, cDecFl, Decidable.not_not, Bool.not_true, Bool.not_false, Bool.false_eq_true, imp_false, not_true_eq_false, not_false_eq_true, forall_const, true_implies, false_implies, implies_true, decide_true, decide_false]; try simp only [cDec, eq_self_iff_true, true_and, and_true, false_and, and_false, Bool.or_not_self, Bool.not_or_self, Bool.cond_self, cond_true, cond_false, Bool.cond_true_right, Bool.cond_true_left, Bool.cond_false_right, Bool.cond_false_left, Bool.or_true, Bool.true_or, Bool.or_false, Bool.false_or, Bool.and_true, Bool.true_and, Bool.and_false, Bool.false_and, Bool.not_not, forall_eq, ← Bool.decide_and, ← Bool.decide_or, ← decide_not, cDecF, cDecT, cDecFl, Decidable.not_not, Bool.not_true, Bool.not_false, Bool.false_eq_true, imp_false, not_true_eq_false, not_false_eq_true, forall_const, true_implies, false_implies, implies_true, decide_true, decide_false])
theorem okG13 : PCok Try.prog G13 := addPC_ok okG12 okAtp
set_option maxHeartbeats 4000000 in
theorem okAtr : CtrOk Try.prog 20 kAtr := good_of okG13 mixed (fun (xs, r, _) => atL r xs) 100 fun (xs, r, _) hf hn => by
  refine ⟨rfl, Eq.mpr (tAtr xs r) ?_⟩
  have hm : (xs.length : Int) ≤ 9223372036854775807 := len63 hf.1.2
  (simp only [eq_self_iff_true, true_and, and_true, false_and, and_false, Bool.or_not_self, Bool.not_or_self, Bool.cond_self, cond_true, cond_false, Bool.cond_true_right, Bool.cond_true_left, Bool.cond_false_right, Bool.cond_false_left, Bool.or_true, Bool.true_or, Bool.or_false, Bool.false_or, Bool.and_true, Bool.true_and, Bool.and_false, Bool.false_and, Bool.not_not, forall_eq, ← Bool.decide_and, ← Bool.decide_or, ← decide_not, cDecF, cDecT, cDecFl, Decidable.not_not, Bool.not_true, Bool.not_false, Bool.false_eq_true, imp_false, not_true_eq_false, not_false_eq_true, forall_const, true_implies, false_implies, implies_true, decide_true, decide_false]; try simp only [cDec, eq_self_iff_true, true_and, and_true, false_and, and_false, Bool.or_not_self, Bool.not_or_self, Bool.cond_self, cond_true, cond_false, Bool.cond_true_right, Bool.cond_true_left, Bool.cond_false_right, Bool.cond_false_left, Bool.or_true, Bool.true_or, Bool.or_false, Bool.false_or, Bool.and_true, Bool.true_and, Bool.and_false, Bool.false_and, Bool.not_not, forall_eq, ← Bool.decide_and, ← Bool.decide_or, ← decide_not, cDecF, cDecT, cDecFl, Decidable.not_not, Bool.not_true, Bool.not_false, Bool.false_eq_true, imp_false, not_true_eq_false, not_false_eq_true, forall_const, true_implies, false_implies, implies_true, decide_true, decide_false])
  refine ⟨0, ⟨by omega, by omega⟩, ⟨by omega, ⟨rfl, by simp [idxD], by simp [idxD]⟩, rfl, by simp [idxD], by simp [idxD]⟩, ?_⟩
  rintro k ⟨k0, k1⟩
  have e : (k + 1).toNat = k.toNat + 1 := by omega
  have b0 := idxD_bd r 0 xs (k.toNat + 1)
  have b1 := idxD_bd r 1 xs (k.toNat + 1)
  refine ⟨fun hlt => ?_, fun hge => by unfold idx; rw [show k.toNat = xs.length by omega]; exact ⟨rfl, rfl⟩⟩
  have hi : ((xs.length : Int) - 1 - k).toNat = xs.length - (k.toNat + 1) := by omega
  have s0 : idxD r 0 xs (k.toNat + 1) = cond (isS r 0 (xs.getD ((xs.length : Int) - 1 - k).toNat [])) ((xs.length : Int) - 1 - k) (idxD r 0 xs k.toNat) := by
    rw [hi]; simp only [idxD]; rw [show ((xs.length - (k.toNat + 1) : Nat) : Int) = (xs.length : Int) - 1 - k by omega]
  have s1 : idxD r 1 xs (k.toNat + 1) = cond (isS r 1 (xs.getD ((xs.length : Int) - 1 - k).toNat [])) ((xs.length : Int) - 1 - k) (idxD r 1 xs k.toNat) := by
    rw [hi]; simp only [idxD]; rw [show ((xs.length - (k.toNat + 1) : Nat) : Int) = (xs.length : Int) - 1 - k by omega]
  have fin : ∀ a b, a = idxD r 0 xs (k.toNat + 1) → b = idxD r 1 xs (k.toNat + 1) → ∃ s : Int, (0 ≤ s ∧ s ≤ (xs.length : Int)) ∧ ((xs.length : Int) - s).toNat < ((xs.length : Int) - k).toNat ∧
      ((xs.length : Int) - 1 - k - 1 = (xs.length : Int) - 1 - s ∧ -1 ≤ (xs.length : Int) - 1 - s ∧ (xs.length : Int) - 1 - s ≤ 9223372036854775807) ∧ a = idxD r 0 xs s.toNat ∧ b = idxD r 1 xs s.toNat := by
    rintro a b rfl rfl
    exact ⟨k + 1, ⟨by omega, by omega⟩, by omega, ⟨by omega, by omega, by omega⟩, by rw [e], by rw [e]⟩
  have y0 : ∀ c, geti (xs.getD ((xs.length : Int) - 1 - k).toNat []) 0 = r ∧ geti (xs.getD ((xs.length : Int) - 1 - k).toNat []) 1 = c → isS r c (xs.getD ((xs.length : Int) - 1 - k).toNat []) = true := fun c h => isS_iff.2 h
  have n0 : ∀ c, ¬ (geti (xs.getD ((xs.length : Int) - 1 - k).toNat []) 0 = r ∧ geti (xs.getD ((xs.length : Int) - 1 - k).toNat []) 1 = c) → isS r c (xs.getD ((xs.length : Int) - 1 - k).toNat []) = false := fun c h => Bool.eq_false_iff.2 fun g => h (isS_iff.1 g)
  (repeat' (first | apply And.intro | intro _))
  all_goals first
    | omega
    | (refine fin _ _ ?_ ?_
       · first | rw [s0, y0 0 ‹_›]; rfl | rw [s0, n0 0 ‹_›]; rfl
       · first | rw [s1, y0 1 ‹_›]; rfl | rw [s1, n0 1 ‹_›]; rfl)
theorem okG14 : PCok Try.prog G14 := addPC_ok okG13 okAtr
set_option maxHeartbeats 4000000 in
theorem okCln : CtrOk Try.prog 32 kCln := good_of okG14 mixed (fun (xs, _) => noLoops) 100 fun (xs, _) hf hn => by
  refine ⟨rfl, Eq.mpr (tCln xs) ?_⟩
  have hl : lenI xs ≤ 1000000 := of_decide_eq_true hn.1
  rw [lenI_eq] at hl
  (simp only [eq_self_iff_true, true_and, and_true, false_and, and_false, Bool.or_not_self, Bool.not_or_self, Bool.cond_self, cond_true, cond_false, Bool.cond_true_right, Bool.cond_true_left, Bool.cond_false_right, Bool.cond_false_left, Bool.or_true, Bool.true_or, Bool.or_false, Bool.false_or, Bool.and_true, Bool.true_and, Bool.and_false, Bool.false_and, Bool.not_not, forall_eq, ← Bool.decide_and, ← Bool.decide_or, ← decide_not, cDecF, cDecT, cDecFl, Decidable.not_not, Bool.not_true, Bool.not_false, Bool.false_eq_true, imp_false, not_true_eq_false, not_false_eq_true, forall_const, true_implies, false_implies, implies_true, decide_true, decide_false]; try simp only [cDec, eq_self_iff_true, true_and, and_true, false_and, and_false, Bool.or_not_self, Bool.not_or_self, Bool.cond_self, cond_true, cond_false, Bool.cond_true_right, Bool.cond_true_left, Bool.cond_false_right, Bool.cond_false_left, Bool.or_true, Bool.true_or, Bool.or_false, Bool.false_or, Bool.and_true, Bool.true_and, Bool.and_false, Bool.false_and, Bool.not_not, forall_eq, ← Bool.decide_and, ← Bool.decide_or, ← decide_not, cDecF, cDecT, cDecFl, Decidable.not_not, Bool.not_true, Bool.not_false, Bool.false_eq_true, imp_false, not_true_eq_false, not_false_eq_true, forall_const, true_implies, false_implies, implies_true, decide_true, decide_false])
  exact ⟨spE (fun h => (List.eq_nil_of_length_eq_zero h).symm) (fun _ => trivial), by rw [lenI_eq]; omega, rfl⟩
theorem okG15 : PCok Try.prog G15 := addPC_ok okG14 okCln
set_option maxHeartbeats 4000000 in
theorem okWo : CtrOk Try.prog 21 kWo := good_of okG15 mixed (fun (xs, r, _) => woL xs r) 100 fun (xs, r, _) hf hn => by
  refine ⟨rfl, Eq.mpr (tWo xs r) ?_⟩
  have hl : lenI xs ≤ 1000000 := of_decide_eq_true hn.1
  rw [lenI_eq] at hl
  (simp only [eq_self_iff_true, true_and, and_true, false_and, and_false, Bool.or_not_self, Bool.not_or_self, Bool.cond_self, cond_true, cond_false, Bool.cond_true_right, Bool.cond_true_left, Bool.cond_false_right, Bool.cond_false_left, Bool.or_true, Bool.true_or, Bool.or_false, Bool.false_or, Bool.and_true, Bool.true_and, Bool.and_false, Bool.false_and, Bool.not_not, forall_eq, ← Bool.decide_and, ← Bool.decide_or, ← decide_not, cDecF, cDecT, cDecFl, Decidable.not_not, Bool.not_true, Bool.not_false, Bool.false_eq_true, imp_false, not_true_eq_false, not_false_eq_true, forall_const, true_implies, false_implies, implies_true, decide_true, decide_false]; try simp only [cDec, eq_self_iff_true, true_and, and_true, false_and, and_false, Bool.or_not_self, Bool.not_or_self, Bool.cond_self, cond_true, cond_false, Bool.cond_true_right, Bool.cond_true_left, Bool.cond_false_right, Bool.cond_false_left, Bool.or_true, Bool.true_or, Bool.or_false, Bool.false_or, Bool.and_true, Bool.true_and, Bool.and_false, Bool.false_and, Bool.not_not, forall_eq, ← Bool.decide_and, ← Bool.decide_or, ← decide_not, cDecF, cDecT, cDecFl, Decidable.not_not, Bool.not_true, Bool.not_false, Bool.false_eq_true, imp_false, not_true_eq_false, not_false_eq_true, forall_const, true_implies, false_implies, implies_true, decide_true, decide_false])
  have hC : ∀ (F : List (List Value)), F.length ≤ xs.length → (F ++ xs.drop F.length).length = xs.length := fun F h => by simp; omega

  refine ⟨by rw [lenI_eq]; omega, 0, ⟨by omega, by omega, by simp [hasR]⟩, ⟨rfl, by omega, by omega⟩, ?_⟩
  rintro k ⟨k0, k1, kh⟩
  have e : (k + 1).toNat = k.toNat + 1 := by omega
  have ew : k < (xs.length : Int) → IntKind.i64.wrap (k + 1) = k + 1 := fun _ => wr64 _ (by omega)
  refine ⟨fun hlt => ⟨⟨k0, hlt⟩, fun hr => ?_, fun hr => ⟨k + 1, ⟨by omega, by omega, by rw [e, hasR_snoc r (by omega), kh, decide_eq_false hr]; rfl⟩, by omega, ew hlt, by omega, by omega⟩⟩, fun hge => ?_⟩
  · have hf1 : flt r (xs.take (k.toNat + 1)) = xs.take k.toNat := by rw [flt_snoc r (by omega), decide_eq_true hr, flt_no kh]; simp
    have hl1 : (xs.take k.toNat).length = k.toNat := by simp; omega
    refine ⟨k + 1, ⟨by omega, by omega⟩, ⟨⟨ew hlt, by omega, by omega⟩, by rw [e, hf1, hl1]; omega, by rw [e, hf1, hl1, List.take_append_drop]⟩, ?_⟩
    rintro j ⟨j0, j1⟩
    have e2 : (j + 1).toNat = j.toNat + 1 := by omega
    have ew2 : j < (xs.length : Int) → IntKind.i64.wrap (j + 1) = j + 1 := fun _ => wr64 _ (by omega)
    have hFl : (flt r (xs.take j.toNat)).length ≤ j.toNat := by have := flt_len r (xs.take j.toNat); rw [List.length_take] at this; omega
    have hs := fun h => flt_snoc r (xs := xs) (k := j.toNat) h
    have hff : j.toNat = xs.length → flt r (xs.take j.toNat) = flt r xs := fun h => by rw [h, List.take_length]
    generalize hF : flt r (xs.take j.toNat) = F at hFl hs hff ⊢
    have hCl := hC F (by omega)
    have hg : j < (xs.length : Int) → (F ++ xs.drop F.length).getD j.toNat [] = xs.getD j.toNat [] := fun h => by
      rw [List.getD_eq_getElem?_getD, List.getD_eq_getElem?_getD, List.getElem?_append_right hFl, List.getElem?_drop, show F.length + (j.toNat - F.length) = j.toNat by omega]
    have hset : ∀ x, F.length < xs.length → (F ++ xs.drop F.length).set F.length x = (F ++ [x]) ++ xs.drop (F.length + 1) := fun x h => by
      rw [List.set_append_right _ _ (Nat.le_refl _), Nat.sub_self, List.drop_eq_getElem_cons h, List.set_cons_zero, List.append_assoc]; rfl
    refine ⟨fun hlt2 => ⟨⟨j0, by omega⟩, ?_⟩, fun hge2 => ?_⟩
    · have hlt3 : j < (xs.length : Int) := by omega
      rw [hg hlt3]
      have hw := hf.1.1 _ (getD_in (d := []) (show j.toNat < xs.length by omega))
      refine ⟨fun hr2 => ⟨⟨by omega, by omega⟩, j + 1, ⟨by omega, by omega⟩, by omega, ⟨ew2 hlt3, by omega, by omega⟩, ?_, ?_⟩, fun hr2 => ⟨j + 1, ⟨by omega, by omega⟩, by omega, ⟨ew2 hlt3, by omega, by omega⟩, ?_, ?_⟩⟩
      · have ew4 : IntKind.i64.wrap ((F.length : Int) + 1) = F.length + 1 := wr64 _ (by omega)
        rw [e2, hs (by omega), decide_eq_false hr2, ew4]; simp; omega
      · rw [e2, hs (by omega), decide_eq_false hr2, sk_put hw, Int.toNat_natCast, hset _ (by omega)]; simp
      · rw [e2, hs (by omega), decide_eq_true hr2]; simp
      · rw [e2, hs (by omega), decide_eq_true hr2]; simp
    · have hj : j.toNat = xs.length := by omega
      have hFx := hff hj
      subst hFx
      rw [hCl]
      have hz : fltz r xs = flt r xs ++ List.replicate (xs.length - (flt r xs).length) zS := rfl
      have ht : List.take (0 + ((flt r xs).length : Int).toNat) (flt r xs ++ xs.drop (flt r xs).length) = flt r xs := by rw [Nat.zero_add, Int.toNat_natCast, List.take_left']; rfl
      have hd : List.drop (0 + ((flt r xs).length : Int).toNat + ((xs.length : Int) - (flt r xs).length).toNat) (flt r xs ++ xs.drop (flt r xs).length) = [] := List.drop_eq_nil_of_le (by rw [hCl]; omega)
      rw [ht, hd, hz, show ((xs.length : Int) - (flt r xs).length).toNat = xs.length - (flt r xs).length by omega]
      refine ⟨⟨by omega, by omega, by omega⟩, ⟨by omega, ?_⟩, by omega, by simp [zS]⟩
      simp only [List.length_append, List.length_replicate, List.length_nil]; omega
  · rw [List.take_of_length_le (by omega)] at kh
    have := flt_no kh
    exact ⟨by rw [this], by simp [fltz, this]⟩
theorem okG16 : PCok Try.prog G16 := addPC_ok okG15 okWo
set_option maxHeartbeats 4000000 in
theorem okWor : CtrOk Try.prog 22 kWor := good_of okG16 mixed (fun (xs, r, _) => wrrL xs r) 100 fun (xs, r, _) hf hn => by
  refine ⟨rfl, Eq.mpr (tWor xs r) ?_⟩
  have hl : lenI xs ≤ 1000000 := of_decide_eq_true hn.1
  rw [lenI_eq] at hl
  (simp only [eq_self_iff_true, true_and, and_true, false_and, and_false, Bool.or_not_self, Bool.not_or_self, Bool.cond_self, cond_true, cond_false, Bool.cond_true_right, Bool.cond_true_left, Bool.cond_false_right, Bool.cond_false_left, Bool.or_true, Bool.true_or, Bool.or_false, Bool.false_or, Bool.and_true, Bool.true_and, Bool.and_false, Bool.false_and, Bool.not_not, forall_eq, ← Bool.decide_and, ← Bool.decide_or, ← decide_not, cDecF, cDecT, cDecFl, Decidable.not_not, Bool.not_true, Bool.not_false, Bool.false_eq_true, imp_false, not_true_eq_false, not_false_eq_true, forall_const, true_implies, false_implies, implies_true, decide_true, decide_false]; try simp only [cDec, eq_self_iff_true, true_and, and_true, false_and, and_false, Bool.or_not_self, Bool.not_or_self, Bool.cond_self, cond_true, cond_false, Bool.cond_true_right, Bool.cond_true_left, Bool.cond_false_right, Bool.cond_false_left, Bool.or_true, Bool.true_or, Bool.or_false, Bool.false_or, Bool.and_true, Bool.true_and, Bool.and_false, Bool.false_and, Bool.not_not, forall_eq, ← Bool.decide_and, ← Bool.decide_or, ← decide_not, cDecF, cDecT, cDecFl, Decidable.not_not, Bool.not_true, Bool.not_false, Bool.false_eq_true, imp_false, not_true_eq_false, not_false_eq_true, forall_const, true_implies, false_implies, implies_true, decide_true, decide_false])
  refine ⟨0, ⟨by omega, by omega⟩, ⟨⟨rfl, by omega, by omega⟩, by simp [flt]⟩, ?_⟩
  rintro k ⟨k0, k1⟩
  have e : (k + 1).toNat = k.toNat + 1 := by omega
  have ew : IntKind.i64.wrap (k + 1) = k + 1 := wr64 _ (by omega)
  have hfl := flt_len r (xs.take k.toNat)
  rw [List.length_take] at hfl
  refine ⟨fun hlt => ⟨⟨k0, hlt⟩, fun hr => ⟨⟨k0, hlt⟩, by rw [lenI_eq]; omega, k + 1, ⟨by omega, by omega⟩, by omega, ⟨ew, by omega, by omega⟩, ?_⟩, fun hr => ⟨k + 1, ⟨by omega, by omega⟩, by omega, ⟨ew, by omega, by omega⟩, ?_⟩⟩, fun hge => by rw [List.take_of_length_le (by omega)]⟩
  · rw [e, flt_snoc r (by omega), decide_eq_false hr, sk_put (hf.1.1 _ (getD_in (d := []) (show k.toNat < xs.length by omega)))]; rfl
  · rw [e, flt_snoc r (by omega), decide_eq_true hr]; simp
theorem okG17 : PCok Try.prog G17 := addPC_ok okG16 okWor
theorem okGK : PCok Try.prog GK := litPC_ok okG3
set_option maxHeartbeats 4000000 in
theorem okWk : CtrOk Try.prog 15 kWk := good_of okGK mixed (fun _ => noLoops) 400 fun _ hf hn => by
  refine ⟨rfl, Eq.mpr (tWk ) ?_⟩
  exact ⟨rfl, trivial⟩
theorem okG18 : PCok Try.prog G18 := addPC_ok okG17 okWk
end Go.Proofs.Ytbkninekhmnfdaa
