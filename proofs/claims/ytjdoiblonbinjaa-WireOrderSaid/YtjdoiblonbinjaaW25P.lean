/- The contracts hold. No condition. -/
import Derived.Test.YtjdoiblonbinjaaW25T
import Derived.Test.YtjdoiblonbinjaaV3N
namespace Go.Proofs.Ytjdoiblonbinjaa
open Go.Eng
set_option linter.unusedSimpArgs false
theorem okG0 : PCok Try.prog G0 := noPC_ok
theorem dB_true {p : Prop} (h : dB p = true) : p := by unfold dB at h; exact @of_decide_eq_true p (Classical.propDecidable p) h
theorem dB_false {p : Prop} (h : dB p = false) : ¬ p := by unfold dB at h; exact @of_decide_eq_false p (Classical.propDecidable p) h
theorem dB_intro {p : Prop} (h : p) : dB p = true := by unfold dB; exact @decide_eq_true p (Classical.propDecidable p) h
theorem dB_no {p : Prop} (h : ¬ p) : dB p = false := by unfold dB; exact @decide_eq_false p (Classical.propDecidable p) h
theorem ba_beq (a b : ByteArray) : ((a == b) = true) ↔ a = b := by
  constructor
  · intro h
    have : a.data = b.data := by
      have h2 : (a.data == b.data) = true := h
      exact eq_of_beq h2
    cases a; cases b; simp_all
  · rintro rfl
    show (a.data == a.data) = true
    simp
theorem pk_of {a : List Value} (h : Wk PK a) : a = pk (geti a 0) (geti a 1) (gets a 2) := by
  have h0 := geti_eq (j := 0) (K := .i64) h rfl
  have h1 := geti_eq (j := 1) (K := .i64) h rfl
  have h2 := (gets_eq (j := 2) h rfl).1
  have hl : a.length = 3 := h.length
  apply List.ext_getElem?
  intro j
  match j with
  | 0 => exact h0
  | 1 => exact h1
  | 2 => exact h2
  | j + 3 => rw [List.getElem?_eq_none (by omega), List.getElem?_eq_none (by simp [pk])]
theorem pk_eq {a b : List Value} (ha : Wk PK a) (hb : Wk PK b) : (geti a 0 == geti b 0 && (geti a 1 == geti b 1 && gets a 2 == gets b 2)) = true ↔ a = b := by
  constructor
  · intro h
    simp only [Bool.and_eq_true, beq_iff_eq, ba_beq] at h
    rw [pk_of ha, pk_of hb, h.1, h.2.1, h.2.2]
  · rintro rfl
    simp [ba_beq]
theorem at0_yes {i : Int} {xs : List (List Value)} (h : inX i xs) : at0 i xs = xs.getD i.toNat [] := by simp [at0, dB_intro h]
theorem at0_no {i : Int} {xs : List (List Value)} (h : ¬ inX i xs) : at0 i xs = pk 0 0 .empty := by simp [at0, dB_no h]
theorem errI_yes {i : Int} {xs : List (List Value)} (h : inX i xs) : errI i xs = 0 := by simp [errI, dB_intro h]
theorem errI_no {i : Int} {xs : List (List Value)} (h : ¬ inX i xs) : errI i xs = 12 := by simp [errI, dB_no h]
theorem delX_yes {i : Int} {xs : List (List Value)} (h : inX i xs) : delX i xs = xs.eraseIdx i.toNat := by simp [delX, dB_intro h]
theorem delX_no {i : Int} {xs : List (List Value)} (h : ¬ inX i xs) : delX i xs = xs := by simp [delX, dB_no h]
theorem twX_yes {i : Int} {xs : List (List Value)} (h : inX i xs) : twX i xs = xs ++ [xs.getD i.toNat []] := by simp [twX, dB_intro h]
theorem twX_no {i : Int} {xs : List (List Value)} (h : ¬ inX i xs) : twX i xs = xs := by simp [twX, dB_no h]
theorem sendE_12 {N f t : Int} (h : f < -1 ∨ N ≤ f ∨ t < -1 ∨ N ≤ t) : sendE N f t = 12 := by simp [sendE, h]
theorem sendE_2 {N f t : Int} (h : ¬ (f < -1 ∨ N ≤ f ∨ t < -1 ∨ N ≤ t)) (k : f = t) : sendE N f t = 2 := by simp only [sendE, if_neg h, if_pos k]
theorem sendE_0 {N f t : Int} (h : ¬ (f < -1 ∨ N ≤ f ∨ t < -1 ∨ N ≤ t)) (k : f ≠ t) : sendE N f t = 0 := by simp only [sendE, if_neg h, if_neg k]
theorem erase_take {α : Type} (xs : List α) (i : Nat) : xs.take i ++ (xs.drop (i + 1)) = xs.eraseIdx i := by rw [List.eraseIdx_eq_take_drop_succ]
theorem pk_cells {a : List Value} (h : Wk PK a) : [Value.int .i64 (geti a 0), Value.int .i64 (geti a 1), Value.string (gets a 2)] = a := (pk_of h).symm
set_option maxHeartbeats 4000000 in
theorem okLen : CtrOk Try.prog 22 kLen := good_of okG0 mixed (fun ((N, xs, _), _) => noLoops) 100 fun ((N, xs, _), _) hf hn => by
  refine ⟨rfl, Eq.mpr (tLen N xs) ?_⟩
  (simp only [eq_self_iff_true, true_and, and_true, false_and, and_false, Bool.or_not_self, Bool.not_or_self, Bool.cond_self, cond_true, cond_false, Bool.cond_true_right, Bool.cond_true_left, Bool.cond_false_right, Bool.cond_false_left, Bool.or_true, Bool.true_or, Bool.or_false, Bool.false_or, Bool.and_true, Bool.true_and, Bool.and_false, Bool.false_and, Bool.not_not, forall_eq, ← Bool.decide_and, ← Bool.decide_or, ← decide_not, cDecF, cDecT, cDecFl, Decidable.not_not, Bool.not_true, Bool.not_false, Bool.false_eq_true, imp_false, not_true_eq_false, not_false_eq_true, forall_const, true_implies, false_implies, implies_true, decide_true, decide_false]; try simp only [cDec, eq_self_iff_true, true_and, and_true, false_and, and_false, Bool.or_not_self, Bool.not_or_self, Bool.cond_self, cond_true, cond_false, Bool.cond_true_right, Bool.cond_true_left, Bool.cond_false_right, Bool.cond_false_left, Bool.or_true, Bool.true_or, Bool.or_false, Bool.false_or, Bool.and_true, Bool.true_and, Bool.and_false, Bool.false_and, Bool.not_not, forall_eq, ← Bool.decide_and, ← Bool.decide_or, ← decide_not, cDecF, cDecT, cDecFl, Decidable.not_not, Bool.not_true, Bool.not_false, Bool.false_eq_true, imp_false, not_true_eq_false, not_false_eq_true, forall_const, true_implies, false_implies, implies_true, decide_true, decide_false])
theorem okG1 : PCok Try.prog G1 := addPC_ok okG0 okLen
set_option maxHeartbeats 4000000 in
theorem okCln : CtrOk Try.prog 27 kCln := good_of okG1 mixed (fun (xs, _) => noLoops) 100 fun (xs, _) hf hn => by
  refine ⟨rfl, Eq.mpr (tCln xs) ?_⟩
  have hl : lenI xs ≤ 1000000 := of_decide_eq_true hn.1
  have hl2 := lenI_eq xs
  (simp only [eq_self_iff_true, true_and, and_true, false_and, and_false, Bool.or_not_self, Bool.not_or_self, Bool.cond_self, cond_true, cond_false, Bool.cond_true_right, Bool.cond_true_left, Bool.cond_false_right, Bool.cond_false_left, Bool.or_true, Bool.true_or, Bool.or_false, Bool.false_or, Bool.and_true, Bool.true_and, Bool.and_false, Bool.false_and, Bool.not_not, forall_eq, ← Bool.decide_and, ← Bool.decide_or, ← decide_not, cDecF, cDecT, cDecFl, Decidable.not_not, Bool.not_true, Bool.not_false, Bool.false_eq_true, imp_false, not_true_eq_false, not_false_eq_true, forall_const, true_implies, false_implies, implies_true, decide_true, decide_false]; try simp only [cDec, eq_self_iff_true, true_and, and_true, false_and, and_false, Bool.or_not_self, Bool.not_or_self, Bool.cond_self, cond_true, cond_false, Bool.cond_true_right, Bool.cond_true_left, Bool.cond_false_right, Bool.cond_false_left, Bool.or_true, Bool.true_or, Bool.or_false, Bool.false_or, Bool.and_true, Bool.true_and, Bool.and_false, Bool.false_and, Bool.not_not, forall_eq, ← Bool.decide_and, ← Bool.decide_or, ← decide_not, cDecF, cDecT, cDecFl, Decidable.not_not, Bool.not_true, Bool.not_false, Bool.false_eq_true, imp_false, not_true_eq_false, not_false_eq_true, forall_const, true_implies, false_implies, implies_true, decide_true, decide_false])
  exact ⟨spE (fun h => (List.eq_nil_of_length_eq_zero h).symm) (fun _ => trivial), by omega, rfl⟩
theorem okG2 : PCok Try.prog G2 := addPC_ok okG1 okCln
set_option maxHeartbeats 4000000 in
theorem okAll : CtrOk Try.prog 20 kAll := good_of okG2 mixed (fun ((N, xs, _), _) => noLoops) 100 fun ((N, xs, _), _) hf hn => by
  refine ⟨rfl, Eq.mpr (tAll N xs) ?_⟩
  have hl : lenI xs ≤ 1000000 := of_decide_eq_true hn.1
  have hl2 := lenI_eq xs
  (simp only [eq_self_iff_true, true_and, and_true, false_and, and_false, Bool.or_not_self, Bool.not_or_self, Bool.cond_self, cond_true, cond_false, Bool.cond_true_right, Bool.cond_true_left, Bool.cond_false_right, Bool.cond_false_left, Bool.or_true, Bool.true_or, Bool.or_false, Bool.false_or, Bool.and_true, Bool.true_and, Bool.and_false, Bool.false_and, Bool.not_not, forall_eq, ← Bool.decide_and, ← Bool.decide_or, ← decide_not, cDecF, cDecT, cDecFl, Decidable.not_not, Bool.not_true, Bool.not_false, Bool.false_eq_true, imp_false, not_true_eq_false, not_false_eq_true, forall_const, true_implies, false_implies, implies_true, decide_true, decide_false]; try simp only [cDec, eq_self_iff_true, true_and, and_true, false_and, and_false, Bool.or_not_self, Bool.not_or_self, Bool.cond_self, cond_true, cond_false, Bool.cond_true_right, Bool.cond_true_left, Bool.cond_false_right, Bool.cond_false_left, Bool.or_true, Bool.true_or, Bool.or_false, Bool.false_or, Bool.and_true, Bool.true_and, Bool.and_false, Bool.false_and, Bool.not_not, forall_eq, ← Bool.decide_and, ← Bool.decide_or, ← decide_not, cDecF, cDecT, cDecFl, Decidable.not_not, Bool.not_true, Bool.not_false, Bool.false_eq_true, imp_false, not_true_eq_false, not_false_eq_true, forall_const, true_implies, false_implies, implies_true, decide_true, decide_false])
  exact hl
theorem okG3 : PCok Try.prog G3 := addPC_ok okG2 okAll
set_option maxHeartbeats 4000000 in
theorem okSame : CtrOk Try.prog 23 kSame := good_of okG3 mixed (fun (xs, ys, _) => sameL xs ys) 100 fun (xs, ys, _) hf hn => by
  refine ⟨rfl, Eq.mpr (tSame xs ys) ?_⟩
  have hm : (xs.length : Int) ≤ 9223372036854775807 := len63 hf.1.2
  have hm2 : (ys.length : Int) ≤ 9223372036854775807 := len63 hf.2.1.2
  (simp only [eq_self_iff_true, true_and, and_true, false_and, and_false, Bool.or_not_self, Bool.not_or_self, Bool.cond_self, cond_true, cond_false, Bool.cond_true_right, Bool.cond_true_left, Bool.cond_false_right, Bool.cond_false_left, Bool.or_true, Bool.true_or, Bool.or_false, Bool.false_or, Bool.and_true, Bool.true_and, Bool.and_false, Bool.false_and, Bool.not_not, forall_eq, ← Bool.decide_and, ← Bool.decide_or, ← decide_not, cDecF, cDecT, cDecFl, Decidable.not_not, Bool.not_true, Bool.not_false, Bool.false_eq_true, imp_false, not_true_eq_false, not_false_eq_true, forall_const, true_implies, false_implies, implies_true, decide_true, decide_false]; try simp only [cDec, eq_self_iff_true, true_and, and_true, false_and, and_false, Bool.or_not_self, Bool.not_or_self, Bool.cond_self, cond_true, cond_false, Bool.cond_true_right, Bool.cond_true_left, Bool.cond_false_right, Bool.cond_false_left, Bool.or_true, Bool.true_or, Bool.or_false, Bool.false_or, Bool.and_true, Bool.true_and, Bool.and_false, Bool.false_and, Bool.not_not, forall_eq, ← Bool.decide_and, ← Bool.decide_or, ← decide_not, cDecF, cDecT, cDecFl, Decidable.not_not, Bool.not_true, Bool.not_false, Bool.false_eq_true, imp_false, not_true_eq_false, not_false_eq_true, forall_const, true_implies, false_implies, implies_true, decide_true, decide_false])
  refine ⟨fun h => (dB_no (fun e => h (by rw [e]))).symm, fun hlen => ?_⟩
  refine ⟨0, ⟨by omega, by omega, by simp⟩, ⟨rfl, by omega, by omega⟩, ?_⟩
  rintro k ⟨h0, h1, h2⟩
  refine ⟨fun hlt => ⟨⟨h0, hlt⟩, ⟨h0, by omega⟩, ?_⟩, fun hge => ?_⟩
  · have ha := hf.1.1 _ (getD_in (d := []) (show k.toNat < xs.length by omega))
    have hb := hf.2.1.1 _ (getD_in (d := []) (show k.toNat < ys.length by omega))
    have sa := take_snoc (d := []) (show k.toNat < xs.length by omega)
    have sb := take_snoc (d := []) (show k.toNat < ys.length by omega)
    have e : (k + 1).toNat = k.toNat + 1 := by omega
    have ew : IntKind.i64.wrap (k + 1) = k + 1 := wr64 _ (by omega)
    have hd := pk_eq ha hb
    refine bif_intro (fun h => ?_) (fun h => ?_)
    · refine (dB_no (fun e' => ?_)).symm
      subst e'
      rw [hd.2 rfl] at h
      cases h
    · refine ⟨k + 1, ⟨by omega, by omega, ?_⟩, by omega, ew, by omega, by omega⟩
      rw [e, sa, sb, h2, hd.1 (by simpa using h)]
  · refine (dB_intro ?_).symm
    have e1 : k.toNat = xs.length := by omega
    have e2 : k.toNat = ys.length := by omega
    rw [e1, List.take_length] at h2
    rw [h2, ← e1, e2, List.take_length]
theorem okG4 : PCok Try.prog G4 := addPC_ok okG3 okSame
set_option maxHeartbeats 4000000 in
theorem okAt : CtrOk Try.prog 19 kAt := good_of okG4 mixed (fun ((N, xs, _), i, _) => noLoops) 100 fun ((N, xs, _), i, _) hf hn => by
  refine ⟨rfl, Eq.mpr (tAt N i xs) ?_⟩
  have hm : (xs.length : Int) ≤ 9223372036854775807 := len63 hf.1.2.1.2
  (simp only [eq_self_iff_true, true_and, and_true, false_and, and_false, Bool.or_not_self, Bool.not_or_self, Bool.cond_self, cond_true, cond_false, Bool.cond_true_right, Bool.cond_true_left, Bool.cond_false_right, Bool.cond_false_left, Bool.or_true, Bool.true_or, Bool.or_false, Bool.false_or, Bool.and_true, Bool.true_and, Bool.and_false, Bool.false_and, Bool.not_not, forall_eq, ← Bool.decide_and, ← Bool.decide_or, ← decide_not, cDecF, cDecT, cDecFl, Decidable.not_not, Bool.not_true, Bool.not_false, Bool.false_eq_true, imp_false, not_true_eq_false, not_false_eq_true, forall_const, true_implies, false_implies, implies_true, decide_true, decide_false]; try simp only [cDec, eq_self_iff_true, true_and, and_true, false_and, and_false, Bool.or_not_self, Bool.not_or_self, Bool.cond_self, cond_true, cond_false, Bool.cond_true_right, Bool.cond_true_left, Bool.cond_false_right, Bool.cond_false_left, Bool.or_true, Bool.true_or, Bool.or_false, Bool.false_or, Bool.and_true, Bool.true_and, Bool.and_false, Bool.false_and, Bool.not_not, forall_eq, ← Bool.decide_and, ← Bool.decide_or, ← decide_not, cDecF, cDecT, cDecFl, Decidable.not_not, Bool.not_true, Bool.not_false, Bool.false_eq_true, imp_false, not_true_eq_false, not_false_eq_true, forall_const, true_implies, false_implies, implies_true, decide_true, decide_false])
  refine ⟨fun h => ?_, fun h => ?_⟩
  · have hn : ¬ inX i xs := by unfold inX; omega
    rw [at0_no hn, dB_no hn]
    exact ⟨⟨⟨rfl, by decide, by decide⟩, ⟨rfl, by decide, by decide⟩, rfl, by decide⟩, rfl⟩
  · have hi : inX i xs := by unfold inX; omega
    rw [at0_yes hi, dB_intro hi]
    exact ⟨hi, ⟨rfl, rfl, rfl⟩, rfl⟩
theorem okG5 : PCok Try.prog G5 := addPC_ok okG4 okAt
set_option maxHeartbeats 4000000 in
theorem okOne : CtrOk Try.prog 26 kOne := good_of okG5 mixed (fun ((N, xs, _), i, _) => noLoops) 100 fun ((N, xs, _), i, _) hf hn => by
  refine ⟨rfl, Eq.mpr (tOne N i xs) ?_⟩
  have hN : 0 ≤ N := of_decide_eq_true hn.1
  (simp only [eq_self_iff_true, true_and, and_true, false_and, and_false, Bool.or_not_self, Bool.not_or_self, Bool.cond_self, cond_true, cond_false, Bool.cond_true_right, Bool.cond_true_left, Bool.cond_false_right, Bool.cond_false_left, Bool.or_true, Bool.true_or, Bool.or_false, Bool.false_or, Bool.and_true, Bool.true_and, Bool.and_false, Bool.false_and, Bool.not_not, forall_eq, ← Bool.decide_and, ← Bool.decide_or, ← decide_not, cDecF, cDecT, cDecFl, Decidable.not_not, Bool.not_true, Bool.not_false, Bool.false_eq_true, imp_false, not_true_eq_false, not_false_eq_true, forall_const, true_implies, false_implies, implies_true, decide_true, decide_false]; try simp only [cDec, eq_self_iff_true, true_and, and_true, false_and, and_false, Bool.or_not_self, Bool.not_or_self, Bool.cond_self, cond_true, cond_false, Bool.cond_true_right, Bool.cond_true_left, Bool.cond_false_right, Bool.cond_false_left, Bool.or_true, Bool.true_or, Bool.or_false, Bool.false_or, Bool.and_true, Bool.true_and, Bool.and_false, Bool.false_and, Bool.not_not, forall_eq, ← Bool.decide_and, ← Bool.decide_or, ← decide_not, cDecF, cDecT, cDecFl, Decidable.not_not, Bool.not_true, Bool.not_false, Bool.false_eq_true, imp_false, not_true_eq_false, not_false_eq_true, forall_const, true_implies, false_implies, implies_true, decide_true, decide_false])
  exact ⟨by omega, decide_eq_decide.2 (by omega)⟩
theorem okG6 : PCok Try.prog G6 := addPC_ok okG5 okOne
set_option maxHeartbeats 4000000 in
theorem okSend : CtrOk Try.prog 11 kSend := good_ofM okG6 mixed (fun ((N, xs, _), f, t, s, _) => noLoops) 100 fun ((N, xs, _), f, t, s, _) hf hn => by
  refine ⟨rfl, Eq.mpr (tSend N f t s xs) ?_⟩
  have hl : lenI xs ≤ 1000000 := of_decide_eq_true hn.1
  have hl2 := lenI_eq xs
  (simp only [eq_self_iff_true, true_and, and_true, false_and, and_false, Bool.or_not_self, Bool.not_or_self, Bool.cond_self, cond_true, cond_false, Bool.cond_true_right, Bool.cond_true_left, Bool.cond_false_right, Bool.cond_false_left, Bool.or_true, Bool.true_or, Bool.or_false, Bool.false_or, Bool.and_true, Bool.true_and, Bool.and_false, Bool.false_and, Bool.not_not, forall_eq, ← Bool.decide_and, ← Bool.decide_or, ← decide_not, cDecF, cDecT, cDecFl, Decidable.not_not, Bool.not_true, Bool.not_false, Bool.false_eq_true, imp_false, not_true_eq_false, not_false_eq_true, forall_const, true_implies, false_implies, implies_true, decide_true, decide_false]; try simp only [cDec, eq_self_iff_true, true_and, and_true, false_and, and_false, Bool.or_not_self, Bool.not_or_self, Bool.cond_self, cond_true, cond_false, Bool.cond_true_right, Bool.cond_true_left, Bool.cond_false_right, Bool.cond_false_left, Bool.or_true, Bool.true_or, Bool.or_false, Bool.false_or, Bool.and_true, Bool.true_and, Bool.and_false, Bool.false_and, Bool.not_not, forall_eq, ← Bool.decide_and, ← Bool.decide_or, ← decide_not, cDecF, cDecT, cDecFl, Decidable.not_not, Bool.not_true, Bool.not_false, Bool.false_eq_true, imp_false, not_true_eq_false, not_false_eq_true, forall_const, true_implies, false_implies, implies_true, decide_true, decide_false])
  refine ⟨fun h => ?_, fun h => ⟨fun h2 => ?_, fun h2 => ⟨fun h3 => ?_, fun h3 => ?_⟩⟩⟩
  · have e := sendE_12 (N := N) (f := f) (t := t) (by omega); rw [sendX, e]; simp
  · have e := sendE_12 (N := N) (f := f) (t := t) (by omega); rw [sendX, e]; simp
  · have e := sendE_2 (N := N) (f := f) (t := t) (by omega) h3; rw [sendX, e]; simp
  · have e := sendE_0 (N := N) (f := f) (t := t) (by omega) h3; rw [sendX, e]; exact ⟨by omega, by simp, rfl⟩
theorem okG7 : PCok Try.prog G7 := addPC_ok okG6 okSend
set_option maxHeartbeats 4000000 in
theorem okRsend : CtrOk Try.prog 12 kRsend := good_ofM okG7 mixed (fun ((N, xs, _), f, t, s, _) => noLoops) 100 fun ((N, xs, _), f, t, s, _) hf hn => by
  refine ⟨rfl, Eq.mpr (tRsend N f t s xs) ?_⟩
  have hl : lenI xs ≤ 1000000 := of_decide_eq_true hn.1
  have hN : 0 ≤ N := of_decide_eq_true hn.2.1
  (simp only [eq_self_iff_true, true_and, and_true, false_and, and_false, Bool.or_not_self, Bool.not_or_self, Bool.cond_self, cond_true, cond_false, Bool.cond_true_right, Bool.cond_true_left, Bool.cond_false_right, Bool.cond_false_left, Bool.or_true, Bool.true_or, Bool.or_false, Bool.false_or, Bool.and_true, Bool.true_and, Bool.and_false, Bool.false_and, Bool.not_not, forall_eq, ← Bool.decide_and, ← Bool.decide_or, ← decide_not, cDecF, cDecT, cDecFl, Decidable.not_not, Bool.not_true, Bool.not_false, Bool.false_eq_true, imp_false, not_true_eq_false, not_false_eq_true, forall_const, true_implies, false_implies, implies_true, decide_true, decide_false]; try simp only [cDec, eq_self_iff_true, true_and, and_true, false_and, and_false, Bool.or_not_self, Bool.not_or_self, Bool.cond_self, cond_true, cond_false, Bool.cond_true_right, Bool.cond_true_left, Bool.cond_false_right, Bool.cond_false_left, Bool.or_true, Bool.true_or, Bool.or_false, Bool.false_or, Bool.and_true, Bool.true_and, Bool.and_false, Bool.false_and, Bool.not_not, forall_eq, ← Bool.decide_and, ← Bool.decide_or, ← decide_not, cDecF, cDecT, cDecFl, Decidable.not_not, Bool.not_true, Bool.not_false, Bool.false_eq_true, imp_false, not_true_eq_false, not_false_eq_true, forall_const, true_implies, false_implies, implies_true, decide_true, decide_false])
  refine ⟨hN, .inl hN, fun h => ?_, fun h => ⟨fun h3 => ?_, fun h3 => ?_⟩⟩
  · have e := sendE_12 (N := N) (f := f) (t := t) (by omega); rw [sendX, e]; simp
  · have e := sendE_2 (N := N) (f := f) (t := t) (by omega) h3; rw [sendX, e]; simp
  · have e := sendE_0 (N := N) (f := f) (t := t) (by omega) h3; rw [sendX, e]; exact ⟨by omega, by simp, rfl⟩
theorem okG8 : PCok Try.prog G8 := addPC_ok okG7 okRsend
set_option maxHeartbeats 4000000 in
theorem okDel : CtrOk Try.prog 13 kDel := good_ofM okG8 mixed (fun ((N, xs, _), i, _) => noLoops) 100 fun ((N, xs, _), i, _) hf hn => by
  refine ⟨rfl, Eq.mpr (tDel N i xs) ?_⟩
  have hl : lenI xs ≤ 1000000 := of_decide_eq_true hn.1
  have hl2 := lenI_eq xs

  have hm : (xs.length : Int) ≤ 9223372036854775807 := len63 hf.1.2.1.2
  (simp only [eq_self_iff_true, true_and, and_true, false_and, and_false, Bool.or_not_self, Bool.not_or_self, Bool.cond_self, cond_true, cond_false, Bool.cond_true_right, Bool.cond_true_left, Bool.cond_false_right, Bool.cond_false_left, Bool.or_true, Bool.true_or, Bool.or_false, Bool.false_or, Bool.and_true, Bool.true_and, Bool.and_false, Bool.false_and, Bool.not_not, forall_eq, ← Bool.decide_and, ← Bool.decide_or, ← decide_not, cDecF, cDecT, cDecFl, Decidable.not_not, Bool.not_true, Bool.not_false, Bool.false_eq_true, imp_false, not_true_eq_false, not_false_eq_true, forall_const, true_implies, false_implies, implies_true, decide_true, decide_false]; try simp only [cDec, eq_self_iff_true, true_and, and_true, false_and, and_false, Bool.or_not_self, Bool.not_or_self, Bool.cond_self, cond_true, cond_false, Bool.cond_true_right, Bool.cond_true_left, Bool.cond_false_right, Bool.cond_false_left, Bool.or_true, Bool.true_or, Bool.or_false, Bool.false_or, Bool.and_true, Bool.true_and, Bool.and_false, Bool.false_and, Bool.not_not, forall_eq, ← Bool.decide_and, ← Bool.decide_or, ← decide_not, cDecF, cDecT, cDecFl, Decidable.not_not, Bool.not_true, Bool.not_false, Bool.false_eq_true, imp_false, not_true_eq_false, not_false_eq_true, forall_const, true_implies, false_implies, implies_true, decide_true, decide_false])
  refine bif_intro (fun h => ?_) (fun h => ?_)
  · have hn : ¬ inX i xs := dB_false (by simpa using h)
    rw [errI_no hn, delX_no hn]
    exact ⟨⟨rfl, by decide, by decide⟩, rfl⟩
  · have hi : inX i xs := dB_true (by simpa using h)
    have hi' := hi
    unfold inX at hi'
    have ew : IntKind.i64.wrap (i + 1) = i + 1 := wr64 _ (by omega)
    rw [errI_yes hi, delX_yes hi, ew]
    refine ⟨⟨by omega, by omega⟩, ⟨by omega, by omega, by omega⟩, ?_, ?_, ⟨rfl, by decide, by decide⟩, ?_⟩
    · rw [lenI_eq]; simp; omega
    · rw [lenI_eq]; simp; omega
    · rw [← erase_take]
      simp only [Int.sub_zero, List.drop_zero, Nat.zero_add]
      rw [show (i + 1).toNat = i.toNat + 1 by omega]
      congr 1
      exact List.take_of_length_le (by simp; omega)
theorem okG9 : PCok Try.prog G9 := addPC_ok okG8 okDel
set_option maxHeartbeats 4000000 in
theorem okRdel : CtrOk Try.prog 14 kRdel := good_ofM okG9 mixed (fun ((N, xs, _), i, _) => rdelL i xs) 100 fun ((N, xs, _), i, _) hf hn => by
  refine ⟨rfl, Eq.mpr (tRdel N i xs) ?_⟩
  have hl : lenI xs ≤ 1000000 := of_decide_eq_true hn.1
  have hl2 := lenI_eq xs

  have hm : (xs.length : Int) ≤ 9223372036854775807 := len63 hf.1.2.1.2
  (simp only [eq_self_iff_true, true_and, and_true, false_and, and_false, Bool.or_not_self, Bool.not_or_self, Bool.cond_self, cond_true, cond_false, Bool.cond_true_right, Bool.cond_true_left, Bool.cond_false_right, Bool.cond_false_left, Bool.or_true, Bool.true_or, Bool.or_false, Bool.false_or, Bool.and_true, Bool.true_and, Bool.and_false, Bool.false_and, Bool.not_not, forall_eq, ← Bool.decide_and, ← Bool.decide_or, ← decide_not, cDecF, cDecT, cDecFl, Decidable.not_not, Bool.not_true, Bool.not_false, Bool.false_eq_true, imp_false, not_true_eq_false, not_false_eq_true, forall_const, true_implies, false_implies, implies_true, decide_true, decide_false]; try simp only [cDec, eq_self_iff_true, true_and, and_true, false_and, and_false, Bool.or_not_self, Bool.not_or_self, Bool.cond_self, cond_true, cond_false, Bool.cond_true_right, Bool.cond_true_left, Bool.cond_false_right, Bool.cond_false_left, Bool.or_true, Bool.true_or, Bool.or_false, Bool.false_or, Bool.and_true, Bool.true_and, Bool.and_false, Bool.false_and, Bool.not_not, forall_eq, ← Bool.decide_and, ← Bool.decide_or, ← decide_not, cDecF, cDecT, cDecFl, Decidable.not_not, Bool.not_true, Bool.not_false, Bool.false_eq_true, imp_false, not_true_eq_false, not_false_eq_true, forall_const, true_implies, false_implies, implies_true, decide_true, decide_false])
  refine ⟨fun h => ?_, fun h => ?_⟩
  · have hn : ¬ inX i xs := by unfold inX; omega
    rw [at0_no hn, errI_no hn, delX_no hn]
    exact ⟨⟨⟨⟨rfl, by decide, by decide⟩, ⟨rfl, by decide, by decide⟩, rfl, by decide⟩, rfl, by decide, by decide⟩, rfl⟩
  · have hi : inX i xs := by unfold inX; omega
    have hi' := hi
    unfold inX at hi'
    refine ⟨0, ⟨by omega, by omega⟩, ⟨⟨rfl, by omega, by omega⟩, by simp [rest]⟩, ?_⟩
    intro k hk
    refine ⟨fun hlt => ?_, fun hge => ?_⟩
    · have ha := hf.1.2.1.1 _ (getD_in (d := []) (show k.toNat < xs.length by omega))
      have sa := take_snoc (d := []) (show k.toNat < xs.length by omega)
      have e : (k + 1).toNat = k.toNat + 1 := by omega
      have ew : IntKind.i64.wrap (k + 1) = k + 1 := wr64 _ (by omega)
      have hr : lenI (rest i xs k.toNat) ≤ 2199023255552 := by
        rw [lenI_eq]; unfold rest; split
        · have := List.length_eraseIdx_le (xs.take k.toNat) i.toNat; simp at *; omega
        · simp; omega
      rw [ew]
      refine ⟨fun hne => ⟨⟨by omega, hlt⟩, hr, k + 1, ⟨by omega, by omega⟩, by omega, ⟨rfl, by omega, by omega⟩, ?_⟩, fun heq => ⟨k + 1, ⟨by omega, by omega⟩, by omega, ⟨rfl, by omega, by omega⟩, ?_⟩⟩
      · rw [pk_cells ha, e]
        unfold rest
        by_cases hik : 0 ≤ i ∧ i < (k.toNat : Int)
        · rw [if_pos hik, if_pos (by omega), sa, List.eraseIdx_append_of_lt_length (by simp; omega)]
        · rw [if_neg hik, if_neg (by omega), sa]
      · subst heq
        unfold rest
        rw [if_neg (by omega), if_pos (by omega), e, sa, List.eraseIdx_append_of_length_le (by simp; omega)]
        simp [Nat.min_eq_left (show k.toNat ≤ xs.length by omega)]
    · have hk2 : k.toNat = xs.length := by omega
      rw [at0_yes hi, errI_yes hi, delX_yes hi, hk2]
      refine ⟨hi', ⟨⟨rfl, rfl, rfl⟩, rfl, by decide, by decide⟩, ?_⟩
      unfold rest
      rw [if_pos hi', List.take_length]
theorem okG10 : PCok Try.prog G10 := addPC_ok okG9 okRdel
set_option maxHeartbeats 4000000 in
theorem okDrop : CtrOk Try.prog 15 kDrop := good_ofM okG10 mixed (fun ((N, xs, _), i, _) => noLoops) 100 fun ((N, xs, _), i, _) hf hn => by
  refine ⟨rfl, Eq.mpr (tDrop N i xs) ?_⟩
  have hl : lenI xs ≤ 1000000 := of_decide_eq_true hn.1
  have hl2 := lenI_eq xs
  (simp only [eq_self_iff_true, true_and, and_true, false_and, and_false, Bool.or_not_self, Bool.not_or_self, Bool.cond_self, cond_true, cond_false, Bool.cond_true_right, Bool.cond_true_left, Bool.cond_false_right, Bool.cond_false_left, Bool.or_true, Bool.true_or, Bool.or_false, Bool.false_or, Bool.and_true, Bool.true_and, Bool.and_false, Bool.false_and, Bool.not_not, forall_eq, ← Bool.decide_and, ← Bool.decide_or, ← decide_not, cDecF, cDecT, cDecFl, Decidable.not_not, Bool.not_true, Bool.not_false, Bool.false_eq_true, imp_false, not_true_eq_false, not_false_eq_true, forall_const, true_implies, false_implies, implies_true, decide_true, decide_false]; try simp only [cDec, eq_self_iff_true, true_and, and_true, false_and, and_false, Bool.or_not_self, Bool.not_or_self, Bool.cond_self, cond_true, cond_false, Bool.cond_true_right, Bool.cond_true_left, Bool.cond_false_right, Bool.cond_false_left, Bool.or_true, Bool.true_or, Bool.or_false, Bool.false_or, Bool.and_true, Bool.true_and, Bool.and_false, Bool.false_and, Bool.not_not, forall_eq, ← Bool.decide_and, ← Bool.decide_or, ← decide_not, cDecF, cDecT, cDecFl, Decidable.not_not, Bool.not_true, Bool.not_false, Bool.false_eq_true, imp_false, not_true_eq_false, not_false_eq_true, forall_const, true_implies, false_implies, implies_true, decide_true, decide_false])
  exact hl
theorem okG11 : PCok Try.prog G11 := addPC_ok okG10 okDrop
set_option maxHeartbeats 4000000 in
theorem okTw : CtrOk Try.prog 16 kTw := good_ofM okG11 mixed (fun ((N, xs, _), i, _) => noLoops) 100 fun ((N, xs, _), i, _) hf hn => by
  refine ⟨rfl, Eq.mpr (tTw N i xs) ?_⟩
  have hl : lenI xs ≤ 1000000 := of_decide_eq_true hn.1
  have hl2 := lenI_eq xs

  have hm : (xs.length : Int) ≤ 9223372036854775807 := len63 hf.1.2.1.2
  (simp only [eq_self_iff_true, true_and, and_true, false_and, and_false, Bool.or_not_self, Bool.not_or_self, Bool.cond_self, cond_true, cond_false, Bool.cond_true_right, Bool.cond_true_left, Bool.cond_false_right, Bool.cond_false_left, Bool.or_true, Bool.true_or, Bool.or_false, Bool.false_or, Bool.and_true, Bool.true_and, Bool.and_false, Bool.false_and, Bool.not_not, forall_eq, ← Bool.decide_and, ← Bool.decide_or, ← decide_not, cDecF, cDecT, cDecFl, Decidable.not_not, Bool.not_true, Bool.not_false, Bool.false_eq_true, imp_false, not_true_eq_false, not_false_eq_true, forall_const, true_implies, false_implies, implies_true, decide_true, decide_false]; try simp only [cDec, eq_self_iff_true, true_and, and_true, false_and, and_false, Bool.or_not_self, Bool.not_or_self, Bool.cond_self, cond_true, cond_false, Bool.cond_true_right, Bool.cond_true_left, Bool.cond_false_right, Bool.cond_false_left, Bool.or_true, Bool.true_or, Bool.or_false, Bool.false_or, Bool.and_true, Bool.true_and, Bool.and_false, Bool.false_and, Bool.not_not, forall_eq, ← Bool.decide_and, ← Bool.decide_or, ← decide_not, cDecF, cDecT, cDecFl, Decidable.not_not, Bool.not_true, Bool.not_false, Bool.false_eq_true, imp_false, not_true_eq_false, not_false_eq_true, forall_const, true_implies, false_implies, implies_true, decide_true, decide_false])
  refine bif_intro (fun h => ?_) (fun h => ?_)
  · have hn : ¬ inX i xs := dB_false (by simpa using h)
    rw [errI_no hn, twX_no hn]
    exact ⟨⟨rfl, by decide, by decide⟩, rfl⟩
  · have hi : inX i xs := dB_true (by simpa using h)
    have ha := hf.1.2.1.1 _ (getD_in (d := []) (show i.toNat < xs.length by unfold inX at hi; omega))
    rw [errI_yes hi, twX_yes hi, at0_yes hi, pk_cells ha]
    exact ⟨by omega, ⟨rfl, by decide, by decide⟩, rfl⟩
theorem okG12 : PCok Try.prog G12 := addPC_ok okG11 okTw
set_option maxHeartbeats 4000000 in
theorem okRtw : CtrOk Try.prog 17 kRtw := good_ofM okG12 mixed (fun ((N, xs, _), i, _) => noLoops) 100 fun ((N, xs, _), i, _) hf hn => by
  refine ⟨rfl, Eq.mpr (tRtw N i xs) ?_⟩
  have hl : lenI xs ≤ 1000000 := of_decide_eq_true hn.1
  have hl2 := lenI_eq xs

  have hm : (xs.length : Int) ≤ 9223372036854775807 := len63 hf.1.2.1.2
  (simp only [eq_self_iff_true, true_and, and_true, false_and, and_false, Bool.or_not_self, Bool.not_or_self, Bool.cond_self, cond_true, cond_false, Bool.cond_true_right, Bool.cond_true_left, Bool.cond_false_right, Bool.cond_false_left, Bool.or_true, Bool.true_or, Bool.or_false, Bool.false_or, Bool.and_true, Bool.true_and, Bool.and_false, Bool.false_and, Bool.not_not, forall_eq, ← Bool.decide_and, ← Bool.decide_or, ← decide_not, cDecF, cDecT, cDecFl, Decidable.not_not, Bool.not_true, Bool.not_false, Bool.false_eq_true, imp_false, not_true_eq_false, not_false_eq_true, forall_const, true_implies, false_implies, implies_true, decide_true, decide_false]; try simp only [cDec, eq_self_iff_true, true_and, and_true, false_and, and_false, Bool.or_not_self, Bool.not_or_self, Bool.cond_self, cond_true, cond_false, Bool.cond_true_right, Bool.cond_true_left, Bool.cond_false_right, Bool.cond_false_left, Bool.or_true, Bool.true_or, Bool.or_false, Bool.false_or, Bool.and_true, Bool.true_and, Bool.and_false, Bool.false_and, Bool.not_not, forall_eq, ← Bool.decide_and, ← Bool.decide_or, ← decide_not, cDecF, cDecT, cDecFl, Decidable.not_not, Bool.not_true, Bool.not_false, Bool.false_eq_true, imp_false, not_true_eq_false, not_false_eq_true, forall_const, true_implies, false_implies, implies_true, decide_true, decide_false])
  refine ⟨fun h => ?_, fun h => ?_⟩
  · have hn : ¬ inX i xs := by unfold inX; omega
    rw [errI_no hn, twX_no hn]
    exact ⟨⟨rfl, by decide, by decide⟩, rfl⟩
  · have hi : inX i xs := by unfold inX; omega
    have ha := hf.1.2.1.1 _ (getD_in (d := []) (show i.toNat < xs.length by unfold inX at hi; omega))
    rw [errI_yes hi, twX_yes hi, pk_cells ha]
    exact ⟨hi, by omega, ⟨rfl, by decide, by decide⟩, rfl⟩
theorem okG13 : PCok Try.prog G13 := addPC_ok okG12 okRtw
set_option maxHeartbeats 4000000 in
theorem okWk : CtrOk Try.prog 9 kWk := good_of okGL mixed (fun _ => noLoops) 200 fun _ hf hn => by
  refine ⟨rfl, Eq.mpr (tWk ) ?_⟩
  exact ⟨trivial, rfl, trivial⟩
theorem okG14 : PCok Try.prog G14 := addPC_ok okG13 okWk
theorem cnt_bd (p : List Value) : ∀ xs, 0 ≤ cnt p xs ∧ cnt p xs ≤ xs.length
  | [] => by simp [cnt]
  | x :: l => by
    have := cnt_bd p l
    simp only [cnt, List.length_cons]
    cases dB (x = p) <;> simp <;> omega
theorem cnt_append (p : List Value) : ∀ xs ys, cnt p (xs ++ ys) = cnt p xs + cnt p ys
  | [], ys => by simp [cnt]
  | x :: l, ys => by simp only [List.cons_append, cnt, cnt_append p l ys]; omega
theorem cnt_one (p x : List Value) : cnt p [x] = cond (dB (x = p)) 1 0 := by simp [cnt]
theorem pk_eq3 {a : List Value} {f t : Int} {s : ByteArray} (ha : Wk PK a) : (geti a 0 == f && (geti a 1 == t && gets a 2 == s)) = true ↔ a = pk f t s := by
  constructor
  · intro h
    simp only [Bool.and_eq_true, beq_iff_eq, ba_beq] at h
    rw [pk_of ha, h.1, h.2.1, h.2.2]
  · intro h
    rw [h]
    simp [pk, geti, gets, ba_beq]
set_option maxHeartbeats 4000000 in
theorem okAl : CtrOk Try.prog 18 kAl := good_of okG14 mixed (fun ((N, xs, _), (M, ys, _), _) => alL xs) 100 fun ((N, xs, _), (M, ys, _), _) hf hn => by
  refine ⟨rfl, Eq.mpr (tAl N M xs ys) ?_⟩
  obtain ⟨rfl, hl⟩ := dB_true hn.1
  have hm : (ys.length : Int) ≤ 9223372036854775807 := len63 hf.1.2.1.2
  have hL : lenI ys ≤ 1000000 := by rw [lenI_eq]; omega
  have hT : dB True = true := dB_intro trivial
  (simp only [eq_self_iff_true, true_and, and_true, false_and, and_false, Bool.or_not_self, Bool.not_or_self, Bool.cond_self, cond_true, cond_false, Bool.cond_true_right, Bool.cond_true_left, Bool.cond_false_right, Bool.cond_false_left, Bool.or_true, Bool.true_or, Bool.or_false, Bool.false_or, Bool.and_true, Bool.true_and, Bool.and_false, Bool.false_and, Bool.not_not, forall_eq, ← Bool.decide_and, ← Bool.decide_or, ← decide_not, cDecF, cDecT, cDecFl, Decidable.not_not, Bool.not_true, Bool.not_false, Bool.false_eq_true, imp_false, not_true_eq_false, not_false_eq_true, forall_const, true_implies, false_implies, implies_true, decide_true, decide_false]; try simp only [cDec, eq_self_iff_true, true_and, and_true, false_and, and_false, Bool.or_not_self, Bool.not_or_self, Bool.cond_self, cond_true, cond_false, Bool.cond_true_right, Bool.cond_true_left, Bool.cond_false_right, Bool.cond_false_left, Bool.or_true, Bool.true_or, Bool.or_false, Bool.false_or, Bool.and_true, Bool.true_and, Bool.and_false, Bool.false_and, Bool.not_not, forall_eq, ← Bool.decide_and, ← Bool.decide_or, ← decide_not, cDecF, cDecT, cDecFl, Decidable.not_not, Bool.not_true, Bool.not_false, Bool.false_eq_true, imp_false, not_true_eq_false, not_false_eq_true, forall_const, true_implies, false_implies, implies_true, decide_true, decide_false])
  simp only [hT, Bool.not_true, cond_false]
  refine ⟨hL, -1, ⟨by omega, by omega⟩, ⟨rfl, by omega, by omega⟩, ?_⟩
  intro k hk hle
  have ew : IntKind.i64.wrap (k + 1) = k + 1 := wr64 _ (by omega)
  rw [ew]
  by_cases hi : inX k ys
  · have hd : (0 ≤ k ∧ k < (ys.length : Int)) := hi
    simp [dB_intro hi, at0_yes hi, ba_beq, hd.1, hd.2]
    (refine ⟨k + 1, ?_⟩; (repeat' apply And.intro) <;> omega)
  · have hd : ¬ (0 ≤ k ∧ k < (ys.length : Int)) := hi
    have hd2 : decide (0 ≤ k ∧ k < (ys.length : Int)) = false := decide_eq_false hd
    simp [dB_no hi, at0_no hi, hd2, pk, geti, gets, ba_beq]
    (refine ⟨rfl, k + 1, ?_⟩; (repeat' apply And.intro) <;> omega)
theorem okG15 : PCok Try.prog G15 := addPC_ok okG14 okAl
set_option maxHeartbeats 4000000 in
theorem okCnt : CtrOk Try.prog 21 kCnt := good_of okG15 mixed (fun (xs, (f, t, s, _), _) => cntL (pk f t s) xs) 100 fun (xs, (f, t, s, _), _) hf hn => by
  refine ⟨rfl, Eq.mpr (tCnt xs f t s) ?_⟩
  have hm : (xs.length : Int) ≤ 9223372036854775807 := len63 hf.1.2
  (simp only [eq_self_iff_true, true_and, and_true, false_and, and_false, Bool.or_not_self, Bool.not_or_self, Bool.cond_self, cond_true, cond_false, Bool.cond_true_right, Bool.cond_true_left, Bool.cond_false_right, Bool.cond_false_left, Bool.or_true, Bool.true_or, Bool.or_false, Bool.false_or, Bool.and_true, Bool.true_and, Bool.and_false, Bool.false_and, Bool.not_not, forall_eq, ← Bool.decide_and, ← Bool.decide_or, ← decide_not, cDecF, cDecT, cDecFl, Decidable.not_not, Bool.not_true, Bool.not_false, Bool.false_eq_true, imp_false, not_true_eq_false, not_false_eq_true, forall_const, true_implies, false_implies, implies_true, decide_true, decide_false]; try simp only [cDec, eq_self_iff_true, true_and, and_true, false_and, and_false, Bool.or_not_self, Bool.not_or_self, Bool.cond_self, cond_true, cond_false, Bool.cond_true_right, Bool.cond_true_left, Bool.cond_false_right, Bool.cond_false_left, Bool.or_true, Bool.true_or, Bool.or_false, Bool.false_or, Bool.and_true, Bool.true_and, Bool.and_false, Bool.false_and, Bool.not_not, forall_eq, ← Bool.decide_and, ← Bool.decide_or, ← decide_not, cDecF, cDecT, cDecFl, Decidable.not_not, Bool.not_true, Bool.not_false, Bool.false_eq_true, imp_false, not_true_eq_false, not_false_eq_true, forall_const, true_implies, false_implies, implies_true, decide_true, decide_false])
  refine ⟨0, ⟨by omega, by omega⟩, ⟨⟨rfl, by omega, by omega⟩, by simp [cnt], by simp [cnt], by simp [cnt]⟩, ?_⟩
  intro k hk
  refine ⟨fun hlt => ?_, fun hge => ?_⟩
  · have ha := hf.1.1 _ (getD_in (d := []) (show k.toNat < xs.length by omega))
    have sa := take_snoc (d := []) (show k.toNat < xs.length by omega)
    have e : (k + 1).toNat = k.toNat + 1 := by omega
    have ew : IntKind.i64.wrap (k + 1) = k + 1 := wr64 _ (by omega)
    have hb1 := cnt_bd (pk f t s) (xs.take k.toNat)
    have hb2 := cnt_bd (pk f t s) (xs.take (k + 1).toNat)
    have hll : ((xs.take k.toNat).length : Int) ≤ xs.length := by simp; omega
    have hll2 : ((xs.take (k + 1).toNat).length : Int) ≤ xs.length := by simp; omega
    have hs : cnt (pk f t s) (xs.take (k + 1).toNat) = cnt (pk f t s) (xs.take k.toNat) + cond (dB (xs.getD k.toNat [] = pk f t s)) 1 0 := by
      rw [e, sa, cnt_append, cnt_one]
    have hd := pk_eq3 (f := f) (t := t) (s := s) ha
    rw [ew]
    refine ⟨⟨by omega, hlt⟩, ?_⟩
    refine bif_intro (fun h => ?_) (fun h => ?_)
    · have := hd.1 h
      rw [dB_intro this, cond_true] at hs
      have ew2 : IntKind.i64.wrap (cnt (pk f t s) (xs.take k.toNat) + 1) = cnt (pk f t s) (xs.take k.toNat) + 1 := wr64 _ (by omega)
      rw [ew2]
      exact ⟨k + 1, ⟨by omega, by omega⟩, by omega, ⟨rfl, by omega, by omega⟩, by omega, by omega, by omega⟩
    · have : ¬ xs.getD k.toNat [] = pk f t s := fun e => by rw [hd.2 e] at h; cases h
      rw [dB_no this, cond_false] at hs
      exact ⟨k + 1, ⟨by omega, by omega⟩, by omega, ⟨rfl, by omega, by omega⟩, by omega⟩
  · have hk2 : k.toNat = xs.length := by omega
    rw [hk2, List.take_length]
theorem okG16 : PCok Try.prog G16 := addPC_ok okG15 okCnt
end Go.Proofs.Ytjdoiblonbinjaa
