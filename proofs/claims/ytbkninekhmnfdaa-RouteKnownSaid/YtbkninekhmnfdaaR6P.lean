/- The contracts hold. No condition. -/
import Derived.Test.YtbkninekhmnfdaaR6T
import Derived.Test.YtbkninekhmnfdaaV3N
namespace Go.Proofs.Ytbkninekhmnfdaa
open Go.Eng
set_option linter.unusedSimpArgs false
theorem okG0 : PCok Try.prog G0 := noPC_ok
theorem cnt_append (r k : Int) : ∀ xs ys, cnt r k (xs ++ ys) = cnt r k xs + cnt r k ys
  | [], ys => by simp [cnt]
  | x :: l, ys => by simp only [List.cons_append, cnt, cnt_append r k l ys]; omega
theorem cnt_bd (r k : Int) : ∀ xs, 0 ≤ cnt r k xs ∧ cnt r k xs ≤ xs.length
  | [] => by simp [cnt]
  | x :: l => by
    have := cnt_bd r k l
    simp only [cnt, List.length_cons]
    cases isS r k x <;> simp <;> omega
theorem cnt_snoc (r k : Int) {xs : List (List Value)} {j : Nat} (h : j < xs.length) : cnt r k (xs.take (j + 1)) = cnt r k (xs.take j) + cond (isS r k (xs.getD j [])) 1 0 := by
  rw [take_snoc (d := []) h, cnt_append]; simp [cnt]
theorem isS_iff {r k : Int} {x : List Value} : isS r k x = true ↔ geti x 0 = r ∧ geti x 1 = k := by simp [isS]
theorem isS_no {r k : Int} {x : List Value} (h : geti x 0 ≠ r ∨ geti x 1 ≠ k) : isS r k x = false := by
  cases hx : isS r k x with
  | false => rfl
  | true => have := isS_iff.1 hx; rcases h with h | h
            · exact absurd this.1 h
            · exact absurd this.2 h
theorem cnt_pos {r k : Int} : ∀ {xs : List (List Value)}, 0 < cnt r k xs → ∃ i, i < xs.length ∧ geti (xs.getD i []) 0 = r ∧ geti (xs.getD i []) 1 = k
  | [], h => by simp [cnt] at h
  | x :: l, h => by
    cases hx : isS r k x with
    | true => exact ⟨0, by simp, by simpa using isS_iff.1 hx⟩
    | false =>
      simp only [cnt, hx, cond_false] at h
      obtain ⟨i, h1, h2⟩ := cnt_pos (r := r) (k := k) (xs := l) (by omega)
      exact ⟨i + 1, by simp; omega, by simpa using h2⟩
theorem cnt_mono (r k : Int) (xs : List (List Value)) (i : Nat) : cnt r k (xs.take i) ≤ cnt r k xs := by
  have := cnt_append r k (xs.take i) (xs.drop i)
  rw [List.take_append_drop] at this
  have := (cnt_bd r k (xs.drop i)).1
  omega
theorem okAt_iff {xs : List (List Value)} {i : Nat} : okAt xs i = true ↔ 0 ≤ geti (xs.getD i []) 0 ∧ (geti (xs.getD i []) 1 = 0 ∨ geti (xs.getD i []) 1 = 1) ∧ cnt (geti (xs.getD i []) 0) 0 xs = 1 ∧ cnt (geti (xs.getD i []) 0) 1 xs = 1 ∧
    (geti (xs.getD i []) 1 = 1 → cnt (geti (xs.getD i []) 0) 0 (xs.take i) = 1) := by
  simp [okAt, Decidable.imp_iff_not_or]
theorem okB_iff {xs : List (List Value)} : okB xs = true ↔ ∀ i, i < xs.length → okAt xs i = true := by
  simp [okB, List.all_eq_true]
theorem ok_step {xs : List (List Value)} (h : okB xs = true) : ∀ i, i < xs.length → stepOk xs i := by
  intro i hi
  obtain ⟨h1, h2, h3, h4, h5⟩ := okAt_iff.1 (okB_iff.1 h i hi)
  generalize hr : geti (xs.getD i []) 0 = r at h1 h3 h4 h5
  refine ⟨by rw [hr]; exact h1, ?_⟩
  rw [hr]
  have s0 := cnt_snoc r 0 hi
  have s1 := cnt_snoc r 1 hi
  have m0 := cnt_mono r 0 xs (i + 1)
  have m1 := cnt_mono r 1 xs (i + 1)
  have b0 := cnt_bd r 0 (xs.take i)
  have b1 := cnt_bd r 1 (xs.take i)
  rcases h2 with h2 | h2
  · left
    rw [isS_iff.2 ⟨hr, h2⟩, cond_true] at s0
    refine ⟨h2, by omega, ?_⟩
    rcases Int.lt_or_le 0 (cnt r 1 (xs.take i)) with hlt | hle
    · exfalso
      obtain ⟨j, hj, hj0, hj1⟩ := cnt_pos hlt
      have hj' : j < i := by simp at hj; omega
      have hg : (xs.take i).getD j [] = xs.getD j [] := by simp [List.getD, List.getElem?_take, hj']
      rw [hg] at hj0 hj1
      obtain ⟨_, _, _, _, g5⟩ := okAt_iff.1 (okB_iff.1 h j (by omega))
      have := g5 hj1
      rw [hj0] at this
      have hm := cnt_mono r 0 (xs.take i) j
      rw [List.take_take, Nat.min_eq_left (by omega)] at hm
      omega
    · omega
  · right
    rw [isS_iff.2 ⟨hr, h2⟩, cond_true] at s1
    exact ⟨h2, h5 h2, by omega⟩
theorem ok_eq {xs : List (List Value)} (h : okB xs = true) (r : Int) : cnt r 0 xs = cnt r 1 xs := by
  have key : ∀ k, (k = 0 ∨ k = 1) → 0 < cnt r k xs → cnt r 0 xs = 1 ∧ cnt r 1 xs = 1 := fun k hk h0 => by
    obtain ⟨i, hi, h1, h2⟩ := cnt_pos h0
    obtain ⟨_, _, h3, h4, _⟩ := okAt_iff.1 (okB_iff.1 h i hi)
    rw [h1] at h3 h4
    exact ⟨h3, h4⟩
  have b0 := cnt_bd r 0 xs
  have b1 := cnt_bd r 1 xs
  rcases Int.lt_or_le 0 (cnt r 0 xs) with h0 | h0
  · have := key 0 (.inl rfl) h0; omega
  · rcases Int.lt_or_le 0 (cnt r 1 xs) with h1 | h1
    · have := key 1 (.inr rfl) h1; omega
    · omega
theorem step_le {xs : List (List Value)} {n : Nat} (hn : n ≤ xs.length) (h : ∀ i, i < n → stepOk xs i) (r : Int) : cnt r 0 (xs.take n) ≤ 1 ∧ cnt r 1 (xs.take n) ≤ cnt r 0 (xs.take n) := by
  induction n with
  | zero => simp [cnt]
  | succ n ih =>
    obtain ⟨i1, i2⟩ := ih (by omega) fun i hi => h i (by omega)
    obtain ⟨g1, g2⟩ := h n (by omega)
    rw [cnt_snoc r 0 (by omega), cnt_snoc r 1 (by omega)]
    by_cases hr : geti (xs.getD n []) 0 = r
    · rw [hr] at g2
      rcases g2 with ⟨k1, k2, k3⟩ | ⟨k1, k2, k3⟩
      · have e0 : isS r 0 (xs.getD n []) = true := isS_iff.2 ⟨hr, k1⟩
        have e1 : isS r 1 (xs.getD n []) = false := isS_no (.inr (by omega))
        rw [e0, e1]; simp; omega
      · have e0 : isS r 0 (xs.getD n []) = false := isS_no (.inr (by omega))
        have e1 : isS r 1 (xs.getD n []) = true := isS_iff.2 ⟨hr, k1⟩
        rw [e0, e1]; simp; omega
    · have e0 : isS r 0 (xs.getD n []) = false := isS_no (.inl hr)
      have e1 : isS r 1 (xs.getD n []) = false := isS_no (.inl hr)
      rw [e0, e1]; simp; omega
theorem ok_of {xs : List (List Value)} (h : ∀ i, i < xs.length → stepOk xs i) (he : ∀ r, cnt r 0 xs = cnt r 1 xs) : okB xs = true := by
  rw [okB_iff]
  intro i hi
  rw [okAt_iff]
  obtain ⟨h1, h2⟩ := h i hi
  have hl := step_le (Nat.le_refl _) h (geti (xs.getD i []) 0)
  rw [List.take_length] at hl
  have heq := he (geti (xs.getD i []) 0)
  have m0 := cnt_mono (geti (xs.getD i []) 0) 0 xs (i + 1)
  have m1 := cnt_mono (geti (xs.getD i []) 0) 1 xs (i + 1)
  rw [cnt_snoc _ 0 hi] at m0
  rw [cnt_snoc _ 1 hi] at m1
  have b0 := cnt_bd (geti (xs.getD i []) 0) 0 (xs.take i)
  rcases h2 with ⟨k1, k2, k3⟩ | ⟨k1, k2, k3⟩
  · rw [isS_iff.2 ⟨rfl, k1⟩, cond_true] at m0
    exact ⟨h1, .inl k1, by omega, by omega, fun e => by omega⟩
  · rw [isS_iff.2 ⟨rfl, k1⟩, cond_true] at m1
    exact ⟨h1, .inr k1, by omega, by omega, fun _ => k2⟩
theorem mget_mset (m : List (Int × List Value)) (r r' : Int) (v z : List Value) : mget (mset m r v) r' z = if r' = r then v else mget m r' z := by
  induction m with
  | nil =>
    by_cases h : r' = r
    · subst h; simp [mset, mget]
    · have h' : ¬ r = r' := fun e => h e.symm
      simp [mset, mget, h, h']
  | cons x l ih =>
    by_cases hx : x.1 = r
    · by_cases h : r' = r
      · subst h; simp [mset, mget, hx]
      · have h' : ¬ r = r' := fun e => h e.symm
        have h2 : ¬ x.1 = r' := fun e => h' (hx.symm.trans e)
        simp [mset, mget, hx, h, h', h2]
    · by_cases h2 : x.1 = r'
      · have h : ¬ r' = r := fun e => hx (h2.trans e)
        simp [mset, mget, hx, h2, h]
      · simp only [mset, hx, decide_false, cond_false, mget, h2, ih]
theorem mset_keys (m : List (Int × List Value)) (r : Int) (v : List Value) : (∃ x ∈ m, x.1 = r) ∧ (mset m r v).map (·.1) = m.map (·.1) ∨ (∀ x ∈ m, x.1 ≠ r) ∧ (mset m r v).map (·.1) = m.map (·.1) ++ [r] := by
  induction m with
  | nil => right; simp [mset]
  | cons x l ih =>
    by_cases hx : x.1 = r
    · left; exact ⟨⟨x, .head _, hx⟩, by simp [mset, hx]⟩
    · rcases ih with ⟨⟨y, hy, e⟩, h2⟩ | ⟨h1, h2⟩
      · left; exact ⟨⟨y, .tail _ hy, e⟩, by simp [mset, hx, h2]⟩
      · right
        refine ⟨fun y hy => ?_, by simp [mset, hx, h2]⟩
        rcases List.mem_cons.1 hy with rfl | hy
        · exact hx
        · exact h1 y hy
theorem mset_nd {m : List (Int × List Value)} {r : Int} {v : List Value} (h : (m.map (·.1)).Nodup) : ((mset m r v).map (·.1)).Nodup := by
  rcases mset_keys m r v with ⟨_, h2⟩ | ⟨h1, h2⟩
  · rw [h2]; exact h
  · rw [h2, List.nodup_append]
    refine ⟨h, by simp, fun a ha b hb => ?_⟩
    obtain ⟨x, hx, rfl⟩ := List.mem_map.1 ha
    rw [List.mem_singleton.1 hb]; exact h1 x hx
theorem mget_mem {m : List (Int × List Value)} (h : (m.map (·.1)).Nodup) {x : Int × List Value} (hx : x ∈ m) (z : List Value) : mget m x.1 z = x.2 := by
  induction m with
  | nil => cases hx
  | cons y l ih =>
    simp only [List.map_cons, List.nodup_cons] at h
    rcases List.mem_cons.1 hx with rfl | hx
    · simp [mget]
    · have : ¬ y.1 = x.1 := fun e => h.1 (by rw [e]; exact List.mem_map_of_mem hx)
      simp [mget, this, ih h.2 hx]
theorem mget_or (m : List (Int × List Value)) (r : Int) (z : List Value) : mget m r z = z ∨ ∃ j, j < m.length ∧ (m.getD j (0, [])).1 = r ∧ mget m r z = (m.getD j (0, [])).2 := by
  induction m with
  | nil => left; rfl
  | cons x l ih =>
    by_cases hx : x.1 = r
    · right; exact ⟨0, by simp, by simpa using hx, by simp [mget, hx]⟩
    · rcases ih with h | ⟨j, h1, h2, h3⟩
      · left; simp [mget, hx, h]
      · right; exact ⟨j + 1, by simp; omega, by simpa using h2, by simp [mget, hx]; exact h3⟩
theorem MInv.step {xs : List (List Value)} {m : List (Int × List Value)} {j : Nat} (h : MInv (xs.take j) m) (hj : j < xs.length) (c0 c1 : Int)
    (h0 : c0 = cnt (geti (xs.getD j []) 0) 0 (xs.take (j + 1))) (h1 : c1 = cnt (geti (xs.getD j []) 0) 1 (xs.take (j + 1))) : MInv (xs.take (j + 1)) (mset m (geti (xs.getD j []) 0) (pr c0 c1)) := by
  have has : ∀ r, mget (mset m (geti (xs.getD j []) 0) (pr c0 c1)) r (pr 0 0) = pr (cnt r 0 (xs.take (j + 1))) (cnt r 1 (xs.take (j + 1))) := by
    intro r
    rw [mget_mset]
    by_cases hr : r = geti (xs.getD j []) 0
    · rw [if_pos hr, h0, h1, hr]
    · rw [if_neg hr, h.has r, cnt_snoc r 0 hj, cnt_snoc r 1 hj]
      have e : ∀ k, isS r k (xs.getD j []) = false := fun k => isS_no (.inl fun e => hr e.symm)
      rw [e 0, e 1]; simp
  refine ⟨fun x hx => ?_, mset_nd h.nd, has⟩
  rw [← has x.1, mget_mem (mset_nd h.nd) hx]
theorem nd_le : ∀ (n : Nat) (l : List Nat), l.Nodup → (∀ i ∈ l, i < n) → l.length ≤ n
  | 0, l, _, h => by
    cases l with
    | nil => simp
    | cons a l => exact absurd (h a (.head _)) (by omega)
  | n + 1, l, hn, h => by
    have h1 := nd_le n (l.erase n) (hn.erase n) fun i hi => by
      have h2 := (hn.mem_erase_iff).1 hi
      have := h i h2.2
      have := h2.1
      omega
    rw [List.length_erase] at h1
    split at h1 <;> omega
theorem walk (m : List (Int × List Value)) (e0 c : Int) (he : e0 = 8 ∨ e0 = 0) (h8 : e0 = 8 → c = 8) (hb : (∃ j, j < m.length ∧ bad m j) → c = 8) (hn : e0 = 0 → (∀ j, j < m.length → ¬ bad m j) → c = 0) :
    ∃ s : WkS, WkI m e0 s ∧ ((e0 = s.e ∧ 0 ≤ s.e ∧ s.e ≤ 8) ∧ [] = s.seen) ∧ ∀ z : WkS, WkI m e0 z → (∀ j : Nat, j < m.length → z.seen.contains j = false → j < m.length ∧
      (¬ geti (m.getD j (0, [])).snd 0 = geti (m.getD j (0, [])).snd 1 → ∃ s : WkS, WkI m e0 s ∧ m.length + 1 - s.seen.length < m.length + 1 - z.seen.length ∧ (8 = s.e ∧ 0 ≤ s.e ∧ s.e ≤ 8) ∧ j :: z.seen = s.seen) ∧
      (geti (m.getD j (0, [])).snd 0 = geti (m.getD j (0, [])).snd 1 → ∃ s : WkS, WkI m e0 s ∧ m.length + 1 - s.seen.length < m.length + 1 - z.seen.length ∧ z.e = s.e ∧ j :: z.seen = s.seen)) ∧
      ((∀ j : Nat, j < m.length → z.seen.contains j = true) → z.e = c) := by
  refine ⟨⟨[], e0⟩, ⟨by simp, by simp, ?_⟩, ⟨⟨rfl, by dsimp only; omega, by dsimp only; omega⟩, rfl⟩, ?_⟩
  · rcases he with rfl | rfl
    · exact .inl ⟨rfl, .inl rfl⟩
    · exact .inr ⟨rfl, rfl, by simp⟩
  intro z hz
  have grow : ∀ j, j < m.length → z.seen.contains j = false → (∀ i ∈ j :: z.seen, i < m.length) ∧ (j :: z.seen).Nodup ∧ m.length + 1 - (j :: z.seen).length < m.length + 1 - z.seen.length := by
    intro j hj hc
    have hc' : j ∉ z.seen := by simpa using hc
    have hnd : (j :: z.seen).Nodup := List.nodup_cons.2 ⟨hc', hz.nd⟩
    have hlt : ∀ i ∈ j :: z.seen, i < m.length := by
      intro i hi
      rcases List.mem_cons.1 hi with rfl | hi
      · exact hj
      · exact hz.lt i hi
    have hsub := nd_le _ _ hnd hlt
    simp only [List.length_cons] at hsub
    exact ⟨hlt, hnd, by simp only [List.length_cons]; omega⟩
  refine ⟨fun j hj hc => ⟨hj, fun hne => ?_, fun heq => ?_⟩, fun hall => ?_⟩
  · obtain ⟨g1, g2, g3⟩ := grow j hj hc
    exact ⟨⟨j :: z.seen, 8⟩, ⟨g1, g2, .inl ⟨rfl, .inr ⟨j, .head _, hne⟩⟩⟩, g3, ⟨rfl, by simp, by simp⟩, rfl⟩
  · obtain ⟨g1, g2, g3⟩ := grow j hj hc
    refine ⟨⟨j :: z.seen, z.e⟩, ⟨g1, g2, ?_⟩, g3, rfl, rfl⟩
    rcases hz.e with ⟨a1, a2 | ⟨i, hi, hbi⟩⟩ | ⟨a1, a2, a3⟩
    · exact .inl ⟨a1, .inl a2⟩
    · exact .inl ⟨a1, .inr ⟨i, .tail _ hi, hbi⟩⟩
    · refine .inr ⟨a1, a2, fun i hi => ?_⟩
      rcases List.mem_cons.1 hi with rfl | hi
      · exact fun hb' => hb' heq
      · exact a3 i hi
  · rcases hz.e with ⟨a1, a2 | ⟨i, hi, hbi⟩⟩ | ⟨a1, a2, a3⟩
    · rw [a1, h8 a2]
    · rw [a1, hb ⟨i, hz.lt i hi, hbi⟩]
    · rw [a1, hn a2 fun j hj => a3 j (by simpa using hall j hj)]
theorem checkE_bd (xs : List (List Value)) : 0 ≤ checkE xs ∧ checkE xs ≤ 11 := by
  unfold checkE; cases decide (16 < lenI xs) <;> cases okB xs <;> simp
theorem checkE_11 {xs : List (List Value)} (h : 16 < (xs.length : Int)) : checkE xs = 11 := by
  unfold checkE; rw [lenI_eq, decide_eq_true h]; rfl
theorem checkE_ok {xs : List (List Value)} (h : ¬ 16 < (xs.length : Int)) : (okB xs = true → checkE xs = 0) ∧ (¬ okB xs = true → checkE xs = 8) := by
  unfold checkE; rw [lenI_eq, decide_eq_false h]
  exact ⟨fun h => by rw [h]; rfl, fun h => by rw [Bool.eq_false_iff.2 h]; rfl⟩
set_option maxHeartbeats 4000000 in
theorem okCnt : CtrOk Try.prog 27 kCnt := good_of okG0 mixed (fun (xs, (r, k, _), _) => cntL r k xs) 100 fun (xs, (r, k, _), _) hf hn => by
  refine ⟨rfl, Eq.mpr (tCnt xs r k) ?_⟩
  have hm : (xs.length : Int) ≤ 9223372036854775807 := len63 hf.1.2
  (simp only [eq_self_iff_true, true_and, and_true, false_and, and_false, Bool.or_not_self, Bool.not_or_self, Bool.cond_self, cond_true, cond_false, Bool.cond_true_right, Bool.cond_true_left, Bool.cond_false_right, Bool.cond_false_left, Bool.or_true, Bool.true_or, Bool.or_false, Bool.false_or, Bool.and_true, Bool.true_and, Bool.and_false, Bool.false_and, Bool.not_not, forall_eq, ← Bool.decide_and, ← Bool.decide_or, ← decide_not, cDecF, cDecT, cDecFl, Decidable.not_not, Bool.not_true, Bool.not_false, Bool.false_eq_true, imp_false, not_true_eq_false, not_false_eq_true, forall_const, true_implies, false_implies, implies_true, decide_true, decide_false]; try simp only [cDec, eq_self_iff_true, true_and, and_true, false_and, and_false, Bool.or_not_self, Bool.not_or_self, Bool.cond_self, cond_true, cond_false, Bool.cond_true_right, Bool.cond_true_left, Bool.cond_false_right, Bool.cond_false_left, Bool.or_true, Bool.true_or, Bool.or_false, Bool.false_or, Bool.and_true, Bool.true_and, Bool.and_false, Bool.false_and, Bool.not_not, forall_eq, ← Bool.decide_and, ← Bool.decide_or, ← decide_not, cDecF, cDecT, cDecFl, Decidable.not_not, Bool.not_true, Bool.not_false, Bool.false_eq_true, imp_false, not_true_eq_false, not_false_eq_true, forall_const, true_implies, false_implies, implies_true, decide_true, decide_false])
  have hb := cnt_bd r k
  refine ⟨0, ⟨by omega, by omega⟩, ⟨⟨rfl, by omega, by omega⟩, by simp [cnt], by simp [cnt], by simp [cnt]⟩, ?_⟩
  intro j hj
  refine ⟨fun hlt => ⟨⟨by omega, hlt⟩, ?_⟩, fun hge => by rw [show j.toNat = xs.length by omega, List.take_length]⟩
  have e : (j + 1).toNat = j.toNat + 1 := by omega
  have ew : IntKind.i64.wrap (j + 1) = j + 1 := wr64 _ (by omega)
  have hs := cnt_snoc r k (xs := xs) (j := j.toNat) (by omega)
  have b1 := hb (xs.take j.toNat)
  have b2 := hb (xs.take (j.toNat + 1))
  have l1 : ((xs.take j.toNat).length : Int) ≤ xs.length := by simp; omega
  have l2 : ((xs.take (j.toNat + 1)).length : Int) ≤ xs.length := by simp; omega
  rw [ew]
  refine bif_intro (fun h => ?_) (fun h => ?_)
  · have h1 : isS r k (xs.getD j.toNat []) = true := by simpa [isS] using h
    rw [h1, cond_true] at hs
    have ew2 : IntKind.i64.wrap (cnt r k (xs.take j.toNat) + 1) = cnt r k (xs.take j.toNat) + 1 := wr64 _ (by omega)
    rw [ew2]
    exact ⟨j + 1, by omega, by omega, by omega, by rw [e]; omega, by rw [e]; omega, by rw [e]; omega⟩
  · have h1 : isS r k (xs.getD j.toNat []) = false := by
      cases hx : isS r k (xs.getD j.toNat []) with
      | false => rfl
      | true => have := isS_iff.1 hx; rw [this.1, this.2] at h; simp at h
    rw [h1, cond_false] at hs
    exact ⟨j + 1, by omega, by omega, by omega, by rw [e]; omega⟩
theorem okG1 : PCok Try.prog G1 := addPC_ok okG0 okCnt
set_option maxHeartbeats 4000000 in
theorem okRck : CtrOk Try.prog 11 kRck := good_of okG1 mixed (fun (xs, _) => rckL xs) 100 fun (xs, _) hf hn => by
  refine ⟨rfl, Eq.mpr (tRck xs) ?_⟩
  have hm : (xs.length : Int) ≤ 9223372036854775807 := len63 hf.1.2
  (simp only [eq_self_iff_true, true_and, and_true, false_and, and_false, Bool.or_not_self, Bool.not_or_self, Bool.cond_self, cond_true, cond_false, Bool.cond_true_right, Bool.cond_true_left, Bool.cond_false_right, Bool.cond_false_left, Bool.or_true, Bool.true_or, Bool.or_false, Bool.false_or, Bool.and_true, Bool.true_and, Bool.and_false, Bool.false_and, Bool.not_not, forall_eq, ← Bool.decide_and, ← Bool.decide_or, ← decide_not, cDecF, cDecT, cDecFl, Decidable.not_not, Bool.not_true, Bool.not_false, Bool.false_eq_true, imp_false, not_true_eq_false, not_false_eq_true, forall_const, true_implies, false_implies, implies_true, decide_true, decide_false]; try simp only [cDec, eq_self_iff_true, true_and, and_true, false_and, and_false, Bool.or_not_self, Bool.not_or_self, Bool.cond_self, cond_true, cond_false, Bool.cond_true_right, Bool.cond_true_left, Bool.cond_false_right, Bool.cond_false_left, Bool.or_true, Bool.true_or, Bool.or_false, Bool.false_or, Bool.and_true, Bool.true_and, Bool.and_false, Bool.false_and, Bool.not_not, forall_eq, ← Bool.decide_and, ← Bool.decide_or, ← decide_not, cDecF, cDecT, cDecFl, Decidable.not_not, Bool.not_true, Bool.not_false, Bool.false_eq_true, imp_false, not_true_eq_false, not_false_eq_true, forall_const, true_implies, false_implies, implies_true, decide_true, decide_false])
  have hbd := checkE_bd xs
  refine ⟨fun h => ⟨(checkE_11 h).symm, hbd⟩, fun h16 => ?_⟩
  obtain ⟨c0, c8⟩ := checkE_ok h16
  refine ⟨0, ⟨by omega, by omega, fun i hi => by omega⟩, by omega, ?_⟩
  rintro j ⟨j0, j1, hok⟩
  have ew : j < (xs.length : Int) → IntKind.i64.wrap (j + 1) = j + 1 := fun _ => wr64 _ (by omega)
  have e1 : (xs.drop 0).take (j - 0).toNat = xs.take j.toNat := by simp
  rw [e1]
  refine ⟨fun hlt => ⟨⟨j0, hlt⟩, fun hbad => ?_, fun hg => ⟨by omega, fun hbad => ?_, fun hg2 => ?_⟩⟩, fun hge => ?_⟩
  · refine ⟨(c8 fun hk => ?_).symm, hbd⟩
    have := okAt_iff.1 (okB_iff.1 hk j.toNat (by omega))
    omega
  · refine ⟨(c8 fun hk => ?_).symm, hbd⟩
    have := okAt_iff.1 (okB_iff.1 hk j.toNat (by omega))
    exact hbad.2 (this.2.2.2.2 hbad.1)
  · rw [ew hlt]
    refine ⟨j + 1, ⟨by omega, by omega, fun i hi => ?_⟩, by omega, rfl, by omega, by omega⟩
    by_cases hij : i < j.toNat
    · exact hok i hij
    · have : i = j.toNat := by omega
      subst this
      exact okAt_iff.2 ⟨by omega, by omega, by omega, by omega, fun e => by
        rcases Decidable.em (cnt (geti (xs.getD j.toNat []) 0) 0 (xs.take j.toNat) = 1) with h | h
        · exact h
        · exact absurd ⟨e, h⟩ hg2⟩
  · exact ⟨(c0 (okB_iff.2 fun i hi => hok i (by omega))).symm, hbd⟩
theorem okG2 : PCok Try.prog G2 := addPC_ok okG1 okRck
set_option maxHeartbeats 4000000 in
theorem okCk : CtrOk Try.prog 10 kCk := good_of okG2 mixed (fun (xs, _) => ckL xs) 100 fun (xs, _) hf hn => by
  refine ⟨rfl, Eq.mpr (tCk xs) ?_⟩
  have hm : (xs.length : Int) ≤ 9223372036854775807 := len63 hf.1.2
  (simp only [eq_self_iff_true, true_and, and_true, false_and, and_false, Bool.or_not_self, Bool.not_or_self, Bool.cond_self, cond_true, cond_false, Bool.cond_true_right, Bool.cond_true_left, Bool.cond_false_right, Bool.cond_false_left, Bool.or_true, Bool.true_or, Bool.or_false, Bool.false_or, Bool.and_true, Bool.true_and, Bool.and_false, Bool.false_and, Bool.not_not, forall_eq, ← Bool.decide_and, ← Bool.decide_or, ← decide_not, cDecF, cDecT, cDecFl, Decidable.not_not, Bool.not_true, Bool.not_false, Bool.false_eq_true, imp_false, not_true_eq_false, not_false_eq_true, forall_const, true_implies, false_implies, implies_true, decide_true, decide_false]; try simp only [cDec, eq_self_iff_true, true_and, and_true, false_and, and_false, Bool.or_not_self, Bool.not_or_self, Bool.cond_self, cond_true, cond_false, Bool.cond_true_right, Bool.cond_true_left, Bool.cond_false_right, Bool.cond_false_left, Bool.or_true, Bool.true_or, Bool.or_false, Bool.false_or, Bool.and_true, Bool.true_and, Bool.and_false, Bool.false_and, Bool.not_not, forall_eq, ← Bool.decide_and, ← Bool.decide_or, ← decide_not, cDecF, cDecT, cDecFl, Decidable.not_not, Bool.not_true, Bool.not_false, Bool.false_eq_true, imp_false, not_true_eq_false, not_false_eq_true, forall_const, true_implies, false_implies, implies_true, decide_true, decide_false])
  have hbd := checkE_bd xs
  refine ⟨fun h => ⟨(checkE_11 h).symm, hbd⟩, fun h16 => ?_⟩
  obtain ⟨c0, c8⟩ := checkE_ok h16
  refine ⟨⟨0, []⟩, ⟨by simp, by simp, fun i hi => by simp at hi, ⟨by simp, by simp, fun r => rfl⟩⟩, ⟨⟨rfl, by simp, by simp⟩, rfl⟩, ?_⟩
  rintro ⟨j, m⟩ hI
  have j0 := hI.j0
  have j1 := hI.j1
  have hok := hI.ok
  have hmi := hI.mi
  dsimp only at j0 j1 hok hmi ⊢
  refine ⟨fun hlt => ⟨⟨j0, hlt⟩, fun hneg => ?_, fun hge => ?_⟩, fun hge => ?_⟩
  · have c := c8 fun hk => by have := (ok_step hk j.toNat (by omega)).1; omega
    rw [c]
    exact walk m 8 8 (.inl rfl) (fun _ => rfl) (fun _ => rfl) (fun h => by cases h)
  · have hg := hmi.has (geti (xs.getD j.toNat []) 0)
    have ew : IntKind.i64.wrap (j + 1) = j + 1 := wr64 _ (by omega)
    have e : (j + 1).toNat = j.toNat + 1 := by omega
    have g0 : geti (mget m (geti (xs.getD j.toNat []) 0) [Value.int .i64 0, Value.int .i64 0]) 0 = cnt (geti (xs.getD j.toNat []) 0) 0 (xs.take j.toNat) := by
      show geti (mget m (geti (xs.getD j.toNat []) 0) (pr 0 0)) 0 = _
      rw [hg]; rfl
    have g1 : geti (mget m (geti (xs.getD j.toNat []) 0) [Value.int .i64 0, Value.int .i64 0]) 1 = cnt (geti (xs.getD j.toNat []) 0) 1 (xs.take j.toNat) := by
      show geti (mget m (geti (xs.getD j.toNat []) 0) (pr 0 0)) 1 = _
      rw [hg]; rfl
    rw [g0, g1, ew]
    have s0 := cnt_snoc (geti (xs.getD j.toNat []) 0) 0 (xs := xs) (j := j.toNat) (by omega)
    have s1 := cnt_snoc (geti (xs.getD j.toNat []) 0) 1 (xs := xs) (j := j.toNat) (by omega)
    have next : ∀ v0 v1 : Int, stepOk xs j.toNat → v0 = cnt (geti (xs.getD j.toNat []) 0) 0 (xs.take (j.toNat + 1)) → v1 = cnt (geti (xs.getD j.toNat []) 0) 1 (xs.take (j.toNat + 1)) →
        ∃ s : CkS, CkI xs s ∧ ((xs.length : Int) - s.j).toNat < ((xs.length : Int) - j).toNat ∧ (j + 1 = s.j ∧ 0 ≤ s.j ∧ s.j ≤ 9223372036854775807) ∧ mset m (geti (xs.getD j.toNat []) 0) [Value.int .i64 v0, Value.int .i64 v1] = s.m := by
      intro v0 v1 hst hv0 hv1
      refine ⟨⟨j + 1, mset m (geti (xs.getD j.toNat []) 0) (pr v0 v1)⟩, ⟨by dsimp only; omega, by dsimp only; omega, fun i hi => ?_, ?_⟩, by dsimp only; omega, ⟨rfl, by dsimp only; omega, by dsimp only; omega⟩, rfl⟩
      · dsimp only at hi
        by_cases hij : i < j.toNat
        · exact hok i hij
        · have : i = j.toNat := by omega
          subst this; exact hst
      · dsimp only
        rw [e]
        exact hmi.step (by omega) v0 v1 hv0 hv1
    refine bif_intro (fun h => ?_) (fun h => bif_intro (fun h2 => ?_) (fun h2 => ?_))
    · simp only [Bool.and_eq_true, decide_eq_true_eq, beq_iff_eq] at h
      obtain ⟨k0, q0, q1⟩ := h
      rw [isS_iff.2 ⟨rfl, k0⟩, cond_true] at s0
      rw [show isS (geti (xs.getD j.toNat []) 0) 1 (xs.getD j.toNat []) = false from isS_no (.inr (by omega)), cond_false] at s1
      have w1 : IntKind.i64.wrap (cnt (geti (xs.getD j.toNat []) 0) 0 (xs.take j.toNat) + 1) = cnt (geti (xs.getD j.toNat []) 0) 0 (xs.take j.toNat) + 1 := wr64 _ (by omega)
      rw [w1]
      exact next _ _ ⟨by omega, .inl ⟨k0, q0, q1⟩⟩ (by omega) (by omega)
    · simp only [Bool.and_eq_true, decide_eq_true_eq, beq_iff_eq] at h2
      obtain ⟨k0, q0, q1⟩ := h2
      rw [isS_iff.2 ⟨rfl, k0⟩, cond_true] at s1
      rw [show isS (geti (xs.getD j.toNat []) 0) 0 (xs.getD j.toNat []) = false from isS_no (.inr (by omega)), cond_false] at s0
      have w1 : IntKind.i64.wrap (cnt (geti (xs.getD j.toNat []) 0) 1 (xs.take j.toNat) + 1) = cnt (geti (xs.getD j.toNat []) 0) 1 (xs.take j.toNat) + 1 := wr64 _ (by omega)
      rw [w1]
      exact next _ _ ⟨by omega, .inr ⟨k0, q0, q1⟩⟩ (by omega) (by omega)
    · have c := c8 fun hk => by
        obtain ⟨_, a | a⟩ := ok_step hk j.toNat (by omega)
        · rw [a.1, a.2.1, a.2.2] at h; simp at h
        · rw [a.1, a.2.1, a.2.2] at h2; simp at h2
      rw [c]
      exact walk m 8 8 (.inl rfl) (fun _ => rfl) (fun _ => rfl) (fun h => by cases h)
  · have hj : j.toNat = xs.length := by omega
    rw [hj, List.take_length] at hmi
    rw [hj] at hok
    refine walk m 0 (checkE xs) (.inr rfl) (fun h => by cases h) ?_ ?_
    · rintro ⟨i, hi, hb⟩
      refine c8 fun hk => hb ?_
      have hmem : m.getD i (0, []) ∈ m := by
        rw [List.getD, List.getElem?_eq_getElem hi]; exact List.getElem_mem hi
      rw [hmi.all _ hmem]
      exact ok_eq hk _
    · intro _ hnb
      refine c0 (ok_of hok fun r => ?_)
      have hr := hmi.has r
      rcases mget_or m r (pr 0 0) with hz | ⟨i, hi, h1, h2⟩
      · rw [hz] at hr
        have a := congrArg (fun l => geti l 0) hr
        have b := congrArg (fun l => geti l 1) hr
        simp [pr, geti] at a b
        omega
      · have := hnb i hi
        unfold bad at this
        rw [Decidable.not_not, ← h2, hr] at this
        exact this
theorem okG3 : PCok Try.prog G3 := addPC_ok okG2 okCk
end Go.Proofs.Ytbkninekhmnfdaa
