/- The contracts hold. No condition. -/
import Derived.Test.YteklfbeeiahcpaaL9T
import Derived.Test.YteklfbeeiahcpaaV3N
namespace Go.Proofs.Yteklfbeeiahcpaa
open Go.Eng
set_option linter.unusedSimpArgs false
theorem okG0 : PCok Try.prog G0 := noPC_ok
theorem net_take (c : Int) : ∀ (xs : List (List Value)) (k : Nat), k < xs.length → net c (xs.take (k + 1)) = net c (xs.take k) + wv c (xs.getD k [])
  | [], k, h => by simp at h
  | x :: l, 0, _ => by simp [net]
  | x :: l, k + 1, h => by
    have := net_take c l k (by simpa using h)
    simp only [List.take_succ_cons, net, List.getD_cons_succ] at *
    omega
theorem payE_12 {N f t n : Int} (h : f < 0 ∨ N ≤ f ∨ t < 0 ∨ N ≤ t) : payE N f t n = 12 := by simp [payE, h]
theorem payE_2 {N f t n : Int} (h : ¬ (f < 0 ∨ N ≤ f ∨ t < 0 ∨ N ≤ t)) (k : f = t) : payE N f t n = 2 := by simp only [payE, if_neg h, if_pos k]
theorem payE_3 {N f t n : Int} (h : ¬ (f < 0 ∨ N ≤ f ∨ t < 0 ∨ N ≤ t)) (k : f ≠ t) (l : 16777216 < n) : payE N f t n = 3 := by simp only [payE, if_neg h, if_neg k, if_pos l]
theorem payE_0 {N f t n : Int} (h : ¬ (f < 0 ∨ N ≤ f ∨ t < 0 ∨ N ≤ t)) (k : f ≠ t) (l : ¬ 16777216 < n) : payE N f t n = 0 := by simp only [payE, if_neg h, if_neg k, if_neg l]
theorem W_def (x : Int) : ∃ j : Int, W x = x + 18446744073709551616 * j ∧ -9223372036854775808 ≤ W x ∧ W x ≤ 9223372036854775807 := wrE x
theorem len_ok {xs : List (List Value)} (h : xs.length ≤ maxLen) : (xs.length : Int) ≤ 9223372036854775807 := by
  have : maxLen = 9223372036854775807 := by decide
  omega
set_option maxHeartbeats 4000000 in
theorem okTot : CtrOk Try.prog 19 kTot := good_of okG0 mixed (fun (xs, ((c, _), _), _) => totL c xs) 100 fun (xs, ((c, _), _), _) hf hn => by
  refine ⟨rfl, Eq.mpr (tTot xs c) ?_⟩
  have hm := len_ok hf.1.2
  intro z3 h3
  have hW0 : W (0 : Int) = 0 := by decide
  refine ⟨0, ⟨by omega, by omega⟩, ⟨⟨rfl, by omega, by omega⟩, ⟨by simp [net, hW0], ?_⟩, rfl, trivial⟩, ?_⟩
  · have := W_def (net c (xs.take (0 : Int).toNat)); omega
  · intro k hk b hb
    subst hb
    refine bif_intro (fun h => ?_) (fun h => ?_)
    · simp only [decide_eq_true_eq] at h
      have hk2 : k < (xs.length : Int) := by omega
      have e : (k + 1).toNat = k.toNat + 1 := by omega
      have hnt := net_take c xs k.toNat (by omega)
      have h1 := W_def (net c (xs.take k.toNat))
      have h2 := W_def (net c (xs.take (k.toNat + 1)))
      unfold wv at hnt
      simp only [hk.1, hk2, decide_true, cond_true]
      repeat' (first | (refine introWx (by omega) ?_; intro _ _) | (refine introW64 ?_; intro _ _ _ _ _) | intro _ _ | (refine bif_intro (fun _ => ?_) (fun _ => ?_)))
      all_goals subst_vars
      all_goals refine ⟨k + 1, ?_⟩
      all_goals rw [e]
      all_goals simp only [true_eq_decide_iff, false_eq_decide_iff] at *
      all_goals (rename_i hx0; simp only [*, if_true, if_false] at hnt)
      all_goals obtain ⟨j1, h1⟩ := h1
      all_goals obtain ⟨j2, h2⟩ := h2
      all_goals (repeat' (first | apply And.intro | trivial | rfl | omega))
    · simp only [decide_eq_false_iff_not] at h
      have : k.toNat = xs.length := by omega
      rw [this, List.take_length]
      exact ⟨⟨rfl, trivial⟩, trivial⟩
theorem okG1 : PCok Try.prog G1 := addPC_ok okG0 okTot
set_option maxHeartbeats 4000000 in
theorem okBal : CtrOk Try.prog 14 kBal := good_of okG1 mixed (fun ((N, xs, _), c, _) => noLoops) 100 fun ((N, xs, _), c, _) hf hn => by
  refine ⟨rfl, Eq.mpr (tBal N c xs) ?_⟩
  intro z h
  exact ⟨⟨h, trivial⟩, trivial⟩
theorem okG2 : PCok Try.prog G2 := addPC_ok okG1 okBal
set_option maxHeartbeats 4000000 in
theorem okSum : CtrOk Try.prog 15 kSum := good_of okG2 mixed (fun ((N, xs, _), _) => sumL N xs) 100 fun ((N, xs, _), _) hf hn => by
  refine ⟨rfl, Eq.mpr (tSum N xs) ?_⟩
  have hN := of_decide_eq_true hn.1
  have hN2 : N ≤ 9223372036854775807 := hf.1.1.2
  have hW0 : W (0 : Int) = 0 := by decide
  refine ⟨0, ⟨by omega, by omega⟩, ⟨⟨rfl, by omega, by omega⟩, ⟨by simp [netN, hW0], ?_⟩, ⟨⟨rfl, trivial⟩, trivial, trivial⟩, rfl, trivial⟩, ?_⟩
  · have := W_def (netN xs (0 : Int).toNat); omega
  · intro k hk b hb
    subst hb
    refine bif_intro (fun h => ?_) (fun h => ?_)
    · simp only [decide_eq_true_eq] at h
      have e : (k + 1).toNat = k.toNat + 1 := by omega
      have e2 : ((k.toNat : Nat) : Int) = k := by omega
      repeat' (first | (refine introWx (by omega) ?_; intro _ _) | (refine introW64 ?_; intro _ _ _ _ _) | intro _ _ | (refine bif_intro (fun _ => ?_) (fun _ => ?_)))
      all_goals subst_vars
      all_goals refine ⟨k + 1, ?_⟩
      all_goals rw [e]
      all_goals simp only [netN, e2] at *
      have h1 := W_def (netN xs k.toNat)
      have h2 := W_def (net k xs)
      have h3 := W_def (netN xs k.toNat + net k xs)
      obtain ⟨j1, h1⟩ := h1
      obtain ⟨j2, h2⟩ := h2
      obtain ⟨j3, h3⟩ := h3
      all_goals (repeat' (first | apply And.intro | trivial | rfl | omega))
    · simp only [decide_eq_false_iff_not] at h
      have : k = N := by omega
      rw [this]
      exact ⟨⟨rfl, trivial⟩, trivial⟩
theorem okG3 : PCok Try.prog G3 := addPC_ok okG2 okSum
set_option maxHeartbeats 4000000 in
theorem okRof : CtrOk Try.prog 18 kRof := good_of okG3 mixed (fun ((N, xs, _), c, _) => rofL c xs) 100 fun ((N, xs, _), c, _) hf hn => by
  refine ⟨rfl, Eq.mpr (tRof N c xs) ?_⟩
  have hm := len_ok hf.1.2.1.2
  have hW0 : W (0 : Int) = 0 := by decide
  refine ⟨0, ⟨by omega, by omega⟩, ⟨⟨rfl, by omega, by omega⟩, ⟨by simp [net, hW0], ?_⟩, ⟨⟨rfl, trivial⟩, trivial, trivial⟩, rfl, trivial⟩, ?_⟩
  · have := W_def (net c (xs.take (0 : Int).toNat)); omega
  · intro k hk z7 h7 b hb
    subst hb
    refine bif_intro (fun h => ?_) (fun h => ?_)
    · simp only [decide_eq_true_eq] at h
      have hk2 : k < (xs.length : Int) := by omega
      have e : (k + 1).toNat = k.toNat + 1 := by omega
      have hnt := net_take c xs k.toNat (by omega)
      have h1 := W_def (net c (xs.take k.toNat))
      have h2 := W_def (net c (xs.take (k.toNat + 1)))
      unfold wv at hnt
      simp only [hk.1, hk2, decide_true, Bool.and_self, cond_true]
      repeat' (first | (refine introWx (by omega) ?_; intro _ _) | (refine introW64 ?_; intro _ _ _ _ _) | intro _ _ | (refine bif_intro (fun _ => ?_) (fun _ => ?_)))
      all_goals subst_vars
      all_goals refine ⟨k + 1, ?_⟩
      all_goals rw [e]
      all_goals simp only [true_eq_decide_iff, false_eq_decide_iff] at *
      all_goals (rename_i hx0; simp only [*, if_true, if_false] at hnt)
      all_goals obtain ⟨j1, h1⟩ := h1
      all_goals obtain ⟨j2, h2⟩ := h2
      all_goals (repeat' (first | apply And.intro | trivial | rfl | omega))
    · simp only [decide_eq_false_iff_not] at h
      have : k.toNat = xs.length := by omega
      rw [this, List.take_length]
      exact ⟨⟨rfl, trivial⟩, trivial⟩
theorem okG4 : PCok Try.prog G4 := addPC_ok okG3 okRof
set_option maxHeartbeats 4000000 in
theorem okPay : CtrOk Try.prog 11 kPay := good_ofM okG4 mixed (fun ((N, xs, _), f, t, n, _) => noLoops) 100 fun ((N, xs, _), f, t, n, _) hf hn => by
  refine ⟨rfl, Eq.mpr (tPay N f t n xs) ?_⟩
  have hl := of_decide_eq_true hn.1
  have nb : ∀ b : Bool, (!b || !!b) = true := by decide
  simp only [nb, cond_true, Bool.cond_self, Bool.cond_true_left, Bool.cond_false_left, Bool.cond_not, Bool.or_true, Bool.not_true, Bool.not_false]
  clear nb
  repeat' (first | (refine introWx (by omega) ?_; intro _ _) | (refine introW64 ?_; intro _ _ _ _ _) | intro _ _ | (refine bif_intro (fun _ => ?_) (fun _ => ?_)))
  all_goals subst_vars
  all_goals simp only [true_eq_decide_iff, false_eq_decide_iff, Bool.cond_true_left, decide_eq_true_eq, lenI_eq, Bool.or_eq_true, Bool.true_eq, Bool.false_eq, Bool.or_eq_false_iff, decide_eq_false_iff_not] at *
  all_goals first
    | (exfalso; omega)
    | (have hp := payE_12 (N := N) (f := f) (t := t) (n := n) (by omega); simp [payX, hp]; done)
    | (have hp := payE_2 (N := N) (f := f) (t := t) (n := n) (by omega) (by omega); simp [payX, hp]; done)
    | (have hp := payE_3 (N := N) (f := f) (t := t) (n := n) (by omega) (by omega) (by omega); simp [payX, hp]; done)
    | (have hp := payE_0 (N := N) (f := f) (t := t) (n := n) (by omega) (by omega) (by omega); simp [payX, hp, ent]; done)
    | (exfalso; simp_all; omega)
theorem okG5 : PCok Try.prog G5 := addPC_ok okG4 okPay
set_option maxHeartbeats 4000000 in
theorem okRpay : CtrOk Try.prog 12 kRpay := good_ofM okG5 mixed (fun ((N, xs, _), f, t, n, _) => noLoops) 100 fun ((N, xs, _), f, t, n, _) hf hn => by
  refine ⟨rfl, Eq.mpr (tRpay N f t n xs) ?_⟩
  have hl := of_decide_eq_true hn.1
  have nb : ∀ b : Bool, (!b || !!b) = true := by decide
  simp only [nb, cond_true, Bool.cond_self, Bool.cond_true_left, Bool.cond_false_left, Bool.cond_not, Bool.or_true, Bool.not_true, Bool.not_false]
  clear nb
  repeat' (first | (refine introWx (by omega) ?_; intro _ _) | (refine introW64 ?_; intro _ _ _ _ _) | intro _ _ | (refine bif_intro (fun _ => ?_) (fun _ => ?_)))
  all_goals subst_vars
  all_goals simp only [true_eq_decide_iff, false_eq_decide_iff, Bool.cond_true_left, decide_eq_true_eq, lenI_eq, Bool.or_eq_true, Bool.true_eq, Bool.false_eq, Bool.or_eq_false_iff, decide_eq_false_iff_not] at *
  all_goals first
    | (exfalso; omega)
    | (have hp := payE_12 (N := N) (f := f) (t := t) (n := n) (by omega); simp [payX, hp]; done)
    | (have hp := payE_2 (N := N) (f := f) (t := t) (n := n) (by omega) (by omega); simp [payX, hp]; done)
    | (have hp := payE_3 (N := N) (f := f) (t := t) (n := n) (by omega) (by omega) (by omega); simp [payX, hp]; done)
    | (have hp := payE_0 (N := N) (f := f) (t := t) (n := n) (by omega) (by omega) (by omega); simp [payX, hp, ent]; done)
    | (exfalso; simp_all; omega)
theorem okG6 : PCok Try.prog G6 := addPC_ok okG5 okRpay
def sumTo (f : Int → Int) : Nat → Int
  | 0 => 0
  | n + 1 => sumTo f n + f n
theorem sum_ind (t v : Int) : ∀ (n : Nat), sumTo (fun c => if t = c then v else 0) n = if 0 ≤ t ∧ t < n then v else 0
  | 0 => by simp only [sumTo]; rw [if_neg (by omega)]
  | n + 1 => by
    simp only [sumTo, sum_ind t v n]
    by_cases h1 : t = n
    · rw [if_neg (by omega), if_pos h1, if_pos (by omega)]; omega
    · rw [if_neg h1]
      by_cases h2 : 0 ≤ t ∧ t < n
      · rw [if_pos h2, if_pos (by omega)]; omega
      · rw [if_neg h2, if_neg (by omega)]; omega
theorem sum_sub (f g : Int → Int) : ∀ n, sumTo (fun c => f c - g c) n = sumTo f n - sumTo g n
  | 0 => by simp [sumTo]
  | n + 1 => by simp only [sumTo, sum_sub f g n]; omega
theorem sum_add (f g : Int → Int) : ∀ n, sumTo (fun c => f c + g c) n = sumTo f n + sumTo g n
  | 0 => by simp [sumTo]
  | n + 1 => by simp only [sumTo, sum_add f g n]; omega
theorem sum_zero : ∀ n, sumTo (fun _ => 0) n = 0
  | 0 => rfl
  | n + 1 => by simp [sumTo, sum_zero n]
theorem netN_sum (xs : List (List Value)) : ∀ n, netN xs n = sumTo (fun c => net c xs) n
  | 0 => rfl
  | n + 1 => by simp [netN, sumTo, netN_sum xs n]
theorem sum_net (n : Nat) : ∀ (xs : List (List Value)), Valid n xs → sumTo (fun c => net c xs) n = 0
  | [], _ => sum_zero n
  | x :: l, h => by
    have e : (fun c => net c (x :: l)) = fun c => wv c x + net c l := rfl
    rw [e, sum_add, sum_net n l fun y hy => h y (by simp [hy])]
    have hx := h x (by simp)
    unfold valE at hx
    have e2 : (fun c => wv c x) = fun c => (if geti x 1 = c then geti x 2 else 0) - (if geti x 0 = c then geti x 2 else 0) := rfl
    rw [e2, sum_sub, sum_ind, sum_ind, if_pos (by omega), if_pos (by omega)]
    omega
theorem netN_zero {N : Int} {xs : List (List Value)} (hN : 0 ≤ N) (h : Valid N xs) : netN xs N.toNat = 0 := by
  rw [netN_sum]
  refine sum_net _ xs ?_
  have : ((N.toNat : Nat) : Int) = N := by omega
  rw [this]; exact h
theorem dB_true {p : Prop} (h : dB p = true) : p := by unfold dB at h; exact @of_decide_eq_true p (Classical.propDecidable p) h
theorem dB_intro {p : Prop} (h : p) : dB p = true := by unfold dB; exact @decide_eq_true p (Classical.propDecidable p) h
theorem W0 : W 0 = 0 := by decide
set_option maxHeartbeats 4000000 in
theorem okAl : CtrOk Try.prog 13 kAl := good_of okG6 mixed (fun ((N, xs, _), (M, ys, _), _) => alL xs) 100 fun ((N, xs, _), (M, ys, _), _) hf hn => by
  refine ⟨rfl, Eq.mpr (tAl N M xs ys) ?_⟩
  obtain ⟨rfl, rfl, hV, hN0, hN8, hl⟩ := dB_true hn.1
  have hm := hf.1.2.1.2
  have hz : W (netN ys M.toNat) = 0 := by rw [netN_zero hN0 hV]; exact W0
  have hlI := lenI_eq ys
  simp only [hz, List.nil_append]
  refine ⟨?_, ?_⟩
  all_goals (repeat' (first | exact True.intro | (refine spN (fun _ => ?_) (fun h => (h rfl).elim)) | (refine spB (fun _ => ?_) (fun _ => ?_)) | (refine spN (fun _ => ?_) (fun _ => ?_)) | (refine spT rfl ?_) | (refine spF rfl ?_) | (refine coT rfl ?_) | (refine coF rfl ?_) | (refine coP (by omega) ?_) | (refine coA ?_) | (refine coO3 ?_) | (refine coO4 ?_) | (refine coO ?_) | (refine coO2 ?_) | (refine spE (fun _ => ?_) (fun _ => ?_)) | (refine spC (fun _ => ?_) (fun _ => ?_)) | (refine introWx (by omega) ?_; intro _ _) | intro _ _ | (refine bif_intro (fun _ => ?_) (fun _ => ?_))))
  all_goals (try (exfalso; first | omega | exact (‹¬True› trivial).elim))
  all_goals refine ⟨0, ⟨by omega, by omega⟩, ⟨⟨rfl, by omega, by omega⟩, by simp⟩, ?_⟩
  all_goals intro k hk
  all_goals (repeat' (first | exact True.intro | (refine spN (fun _ => ?_) (fun h => (h rfl).elim)) | (refine spB (fun _ => ?_) (fun _ => ?_)) | (refine spN (fun _ => ?_) (fun _ => ?_)) | (refine spT rfl ?_) | (refine spF rfl ?_) | (refine coT rfl ?_) | (refine coF rfl ?_) | (refine coP (by omega) ?_) | (refine coA ?_) | (refine coO3 ?_) | (refine coO4 ?_) | (refine coO ?_) | (refine coO2 ?_) | (refine spE (fun _ => ?_) (fun _ => ?_)) | (refine spC (fun _ => ?_) (fun _ => ?_)) | (refine introWx (by omega) ?_; intro _ _) | intro _ _ | (refine bif_intro (fun _ => ?_) (fun _ => ?_))))
  all_goals (try (exfalso; first | omega | exact (‹¬True› trivial).elim))
  all_goals first
    | (refine ⟨k + 1, ?_⟩; (repeat' (first | apply And.intro | trivial | rfl | omega)); done)
    | (refine ⟨-1, ⟨by omega, by omega⟩, ⟨⟨rfl, by omega, by omega⟩, by simp⟩, ?_⟩
       intro c hc
       (repeat' (first | exact True.intro | (refine spN (fun _ => ?_) (fun h => (h rfl).elim)) | (refine spB (fun _ => ?_) (fun _ => ?_)) | (refine spN (fun _ => ?_) (fun _ => ?_)) | (refine spT rfl ?_) | (refine spF rfl ?_) | (refine coT rfl ?_) | (refine coF rfl ?_) | (refine coP (by omega) ?_) | (refine coA ?_) | (refine coO3 ?_) | (refine coO4 ?_) | (refine coO ?_) | (refine coO2 ?_) | (refine spE (fun _ => ?_) (fun _ => ?_)) | (refine spC (fun _ => ?_) (fun _ => ?_)) | (refine introWx (by omega) ?_; intro _ _) | intro _ _ | (refine bif_intro (fun _ => ?_) (fun _ => ?_))))
       all_goals (try (exfalso; first | omega | exact (‹¬True› trivial).elim))
       all_goals first
         | (refine ⟨c + 1, ?_⟩; (repeat' (first | apply And.intro | trivial | rfl | omega)); done)
         | ((repeat' (first | apply And.intro | trivial | rfl | omega)); done))
theorem okG7 : PCok Try.prog G7 := addPC_ok okG6 okAl
set_option maxHeartbeats 4000000 in
theorem okWk : CtrOk Try.prog 9 kWk := good_of okGL mixed (fun _ => noLoops) 200 fun _ hf hn => by
  refine ⟨rfl, Eq.mpr (tWk ) ?_⟩
  exact ⟨trivial, rfl, trivial⟩
theorem okG8 : PCok Try.prog G8 := addPC_ok okG7 okWk
set_option maxHeartbeats 4000000 in
theorem okPd : CtrOk Try.prog 16 kPd := good_of okG8 mixed (fun (xs, _) => paidL xs) 100 fun (xs, _) hf hn => by
  refine ⟨rfl, Eq.mpr (tPd xs) ?_⟩
  have hm := len63 hf.1.2
  refine ⟨0, ⟨by omega, by omega, by omega⟩, ⟨⟨rfl, by omega, by omega⟩, by simp⟩, ?_⟩
  intro k hk
  by_cases hlt : k < 50 ∧ k < (xs.length : Int)
  · have hw := hf.1.1 _ (getD_in (d := []) (show k.toNat < xs.length by omega))
    have hs := take_snoc (d := []) (show k.toNat < xs.length by omega)
    have e : (k + 1).toNat = k.toNat + 1 := by omega
    generalize xs.getD k.toNat [] = a at *
    have g0 := geti_bd (j := 0) (K := .u8) hw rfl
    have g1 := geti_bd (j := 1) (K := .u8) hw rfl
    have g2 := geti_bd (j := 2) (K := .u64) hw rfl
    simp only [kmin, kmax] at g0 g1 g2
    have hp : payE 8 (geti a 0 % 8) ((geti a 0 % 8 + 1 + geti a 1 % 7) % 8) (geti a 2 % 16777217) = 0 := payE_0 (by omega) (by omega) (by omega)
    have hx : payX 8 (geti a 0 % 8) ((geti a 0 % 8 + 1 + geti a 1 % 7) % 8) (geti a 2 % 16777217) ((xs.take k.toNat).map paidE) = (xs.take (k + 1).toNat).map paidE := by
      rw [e, hs, List.map_append, payX, if_pos hp]; rfl
    have hL : lenI ((xs.take k.toNat).map paidE) ≤ 1000000 := by rw [lenI_eq, List.length_map, List.length_take]; omega
    (repeat' (first | exact True.intro | (refine spN (fun _ => ?_) (fun h => (h rfl).elim)) | (refine spB (fun _ => ?_) (fun _ => ?_)) | (refine spN (fun _ => ?_) (fun _ => ?_)) | (refine spT rfl ?_) | (refine spF rfl ?_) | (refine coT rfl ?_) | (refine coF rfl ?_) | (refine coP (by omega) ?_) | (refine coA ?_) | (refine coO3 ?_) | (refine coO4 ?_) | (refine coO ?_) | (refine coO2 ?_) | (refine spE (fun _ => ?_) (fun _ => ?_)) | (refine spC (fun _ => ?_) (fun _ => ?_)) | (refine introWx (by omega) ?_; intro _ _) | intro _ _ | (refine bif_intro (fun _ => ?_) (fun _ => ?_))))
    all_goals subst_vars
    all_goals (try (exfalso; first | omega | exact (‹¬True› trivial).elim))
    all_goals first
      | (exfalso; exact absurd hp ‹_›)
      | (refine ⟨k + 1, ?_, ?_, ?_, ?_, ?_, hx, ?_⟩; (repeat' (first | apply And.intro | trivial | rfl | omega)); done)
  · have hx : (xs.take k.toNat).map paidE = paidX xs := by
      unfold paidX
      congr 1
      rcases Int.lt_or_le k 50 with h | h
      · rw [List.take_of_length_le (by omega), List.take_of_length_le (by omega)]
      · rw [show k.toNat = 50 by omega]
    simp only [hx]
    (repeat' (first | exact True.intro | (refine spN (fun _ => ?_) (fun h => (h rfl).elim)) | (refine spB (fun _ => ?_) (fun _ => ?_)) | (refine spN (fun _ => ?_) (fun _ => ?_)) | (refine spT rfl ?_) | (refine spF rfl ?_) | (refine coT rfl ?_) | (refine coF rfl ?_) | (refine coP (by omega) ?_) | (refine coA ?_) | (refine coO3 ?_) | (refine coO4 ?_) | (refine coO ?_) | (refine coO2 ?_) | (refine spE (fun _ => ?_) (fun _ => ?_)) | (refine spC (fun _ => ?_) (fun _ => ?_)) | (refine introWx (by omega) ?_; intro _ _) | intro _ _ | (refine bif_intro (fun _ => ?_) (fun _ => ?_))))
    all_goals (try (exfalso; first | omega | exact (‹¬True› trivial).elim))
    all_goals ((repeat' (first | apply And.intro | trivial | rfl | omega)); done)
theorem okG9 : PCok Try.prog G9 := addPC_ok okG8 okPd
end Go.Proofs.Yteklfbeeiahcpaa
