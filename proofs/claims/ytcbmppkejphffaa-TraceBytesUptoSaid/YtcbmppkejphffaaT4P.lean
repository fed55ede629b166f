/- These contracts hold. No condition. -/
import Derived.Test.YtcbmppkejphffaaT4T
import Derived.Test.YtcbmppkejphffaaV6N
namespace Go.Proofs.Ytcbmppkejphffaa
open Go.Eng
set_option linter.unusedSimpArgs false
/- bound 100000000 -/
theorem byts_append : ∀ a b, byts (a ++ b) = byts a ++ byts b
  | [], b => rfl
  | x :: l, b => by simp only [List.cons_append, byts, byts_append l b, List.append_assoc]
theorem byts_snoc {l : List (List Value)} {k : Nat} (h : k < l.length) : byts (l.take (k + 1)) = byts (l.take k) ++ sawB (l.getD k []) := by
  rw [take_snoc (d := []) h, byts_append]; simp [byts]
theorem byts_le (l : List (List Value)) (k : Nat) : (byts (l.take k)).length ≤ (byts l).length := by
  have h := byts_append (l.take k) (l.drop k)
  rw [List.take_append_drop] at h
  rw [h, List.length_append]; omega
theorem bytesOf_len (xs : List (List Value)) : (bytesOf xs).size = xs.length := by simp [bytesOf, strOfNums, ByteArray.size]
theorem bytesOf_append (a b : List (List Value)) : bytesOf (a ++ b) = bytesOf a ++ bytesOf b := by
  apply ByteArray.ext
  simp [bytesOf, strOfNums, ByteArray.data_append]
theorem bytesOf_str (s : ByteArray) : bytesOf (strEl s) = s := by
  apply ByteArray.ext
  apply Array.toList_inj.1
  simp only [bytesOf, strOfNums_data, strEl, List.map_map]
  conv => rhs; rw [← List.map_id s.data.toList]
  apply List.map_congr_left
  intro b _
  show UInt8.ofNat ((b.toNat : Int)).toNat = b
  rw [Int.toNat_natCast]; simp
theorem strEl_len (s : ByteArray) : (strEl s).length = s.size := by unfold strEl; rw [List.length_map, Array.length_toList]; rfl
theorem e8_len (x : Int) : (e8 x).length = 8 := rfl
theorem sawB_len (x : List Value) : (sawB x).length = 40 + (gets x 2).size := by
  simp only [sawB, List.length_append, e8_len, strEl_len]; omega
set_option maxHeartbeats 4000000 in
theorem okTe8 : CtrOk Try.prog 25 kTe8 := good_of okG7 mixed (fun (x, _) => noLoops) 100 fun (x, _) hf hn => by
  refine ⟨rfl, Eq.mpr (tTe8 x) ?_⟩
  (simp only [eq_self_iff_true, true_and, and_true, false_and, and_false, Bool.or_not_self, Bool.not_or_self, Bool.cond_self, cond_true, cond_false, Bool.cond_true_right, Bool.cond_true_left, Bool.cond_false_right, Bool.cond_false_left, Bool.or_true, Bool.true_or, Bool.or_false, Bool.false_or, Bool.and_true, Bool.true_and, Bool.and_false, Bool.false_and, Bool.not_not, forall_eq, ← Bool.decide_and, ← Bool.decide_or, ← decide_not, cDecF, cDecT, cDecFl, Decidable.not_not, Bool.not_true, Bool.not_false, Bool.false_eq_true, imp_false, not_true_eq_false, not_false_eq_true, forall_const, true_implies, false_implies, implies_true, decide_true, decide_false]; try simp only [cDec, eq_self_iff_true, true_and, and_true, false_and, and_false, Bool.or_not_self, Bool.not_or_self, Bool.cond_self, cond_true, cond_false, Bool.cond_true_right, Bool.cond_true_left, Bool.cond_false_right, Bool.cond_false_left, Bool.or_true, Bool.true_or, Bool.or_false, Bool.false_or, Bool.and_true, Bool.true_and, Bool.and_false, Bool.false_and, Bool.not_not, forall_eq, ← Bool.decide_and, ← Bool.decide_or, ← decide_not, cDecF, cDecT, cDecFl, Decidable.not_not, Bool.not_true, Bool.not_false, Bool.false_eq_true, imp_false, not_true_eq_false, not_false_eq_true, forall_const, true_implies, false_implies, implies_true, decide_true, decide_false])
  rfl
theorem okG8 : PCok Try.prog G8 := addPC_ok okG7 okTe8
set_option maxHeartbeats 4000000 in
theorem okTbr : CtrOk Try.prog 19 kTbr := good_of okG8 mixed (fun (l, _) => byrL l) 100 fun (l, _) hf hn => by
  refine ⟨rfl, Eq.mpr (tTbr l) ?_⟩
  have hn := of_decide_eq_true hn.1
  rw [lenI_eq] at hn
  have hml : (l.length : Int) ≤ 9223372036854775807 := len63 hf.1.2

  (simp only [eq_self_iff_true, true_and, and_true, false_and, and_false, Bool.or_not_self, Bool.not_or_self, Bool.cond_self, cond_true, cond_false, Bool.cond_true_right, Bool.cond_true_left, Bool.cond_false_right, Bool.cond_false_left, Bool.or_true, Bool.true_or, Bool.or_false, Bool.false_or, Bool.and_true, Bool.true_and, Bool.and_false, Bool.false_and, Bool.not_not, forall_eq, ← Bool.decide_and, ← Bool.decide_or, ← decide_not, cDecF, cDecT, cDecFl, Decidable.not_not, Bool.not_true, Bool.not_false, Bool.false_eq_true, imp_false, not_true_eq_false, not_false_eq_true, forall_const, true_implies, false_implies, implies_true, decide_true, decide_false]; try simp only [cDec, eq_self_iff_true, true_and, and_true, false_and, and_false, Bool.or_not_self, Bool.not_or_self, Bool.cond_self, cond_true, cond_false, Bool.cond_true_right, Bool.cond_true_left, Bool.cond_false_right, Bool.cond_false_left, Bool.or_true, Bool.true_or, Bool.or_false, Bool.false_or, Bool.and_true, Bool.true_and, Bool.and_false, Bool.false_and, Bool.not_not, forall_eq, ← Bool.decide_and, ← Bool.decide_or, ← decide_not, cDecF, cDecT, cDecFl, Decidable.not_not, Bool.not_true, Bool.not_false, Bool.false_eq_true, imp_false, not_true_eq_false, not_false_eq_true, forall_const, true_implies, false_implies, implies_true, decide_true, decide_false])
  refine ⟨0, ⟨by omega, by omega⟩, ⟨⟨rfl, by omega, by omega⟩, by simp [byts, bytesOf, strOfNums], by simp [byts, bytesOf, strOfNums, ByteArray.size]⟩, ?_⟩
  rintro k ⟨k0, k1⟩
  have e : (k + 1).toNat = k.toNat + 1 := by omega
  refine ⟨fun hlt => ?_, fun hge => by rw [List.take_of_length_le (by omega)]⟩
  have hs := byts_snoc (show k.toNat < l.length by omega)
  have hle := byts_le l (k.toNat + 1)
  have hsl := sawB_len (l.getD k.toNat [])
  have h2 := congrArg List.length hs
  rw [List.length_append, hsl] at h2
  generalize hx : l.getD k.toNat [] = x at *
  generalize hP : byts (l.take k.toNat) = Q at *
  simp only [ByteArray.size_append, bytesOf_len, e8_len]
  refine ⟨⟨k0, hlt⟩, by omega, by omega, by omega, by omega, by omega, by omega, k + 1, ⟨by omega, by omega⟩, by omega, ⟨wr64 _ (by omega), by omega, by omega⟩, ?_⟩
  rw [e, hs]
  unfold sawB uW
  simp only [bytesOf_append, bytesOf_str, ByteArray.append_assoc]
theorem okG9 : PCok Try.prog G9 := addPC_ok okG8 okTbr
set_option maxHeartbeats 4000000 in
theorem okTby : CtrOk Try.prog 18 kTby := good_of okG9 mixed (fun (l, _) => byL l) 100 fun (l, _) hf hn => by
  refine ⟨rfl, Eq.mpr (tTby l) ?_⟩
  have hn := of_decide_eq_true hn.1
  rw [lenI_eq] at hn
  have hml : (l.length : Int) ≤ 9223372036854775807 := len63 hf.1.2

  (simp only [eq_self_iff_true, true_and, and_true, false_and, and_false, Bool.or_not_self, Bool.not_or_self, Bool.cond_self, cond_true, cond_false, Bool.cond_true_right, Bool.cond_true_left, Bool.cond_false_right, Bool.cond_false_left, Bool.or_true, Bool.true_or, Bool.or_false, Bool.false_or, Bool.and_true, Bool.true_and, Bool.and_false, Bool.false_and, Bool.not_not, forall_eq, ← Bool.decide_and, ← Bool.decide_or, ← decide_not, cDecF, cDecT, cDecFl, Decidable.not_not, Bool.not_true, Bool.not_false, Bool.false_eq_true, imp_false, not_true_eq_false, not_false_eq_true, forall_const, true_implies, false_implies, implies_true, decide_true, decide_false]; try simp only [cDec, eq_self_iff_true, true_and, and_true, false_and, and_false, Bool.or_not_self, Bool.not_or_self, Bool.cond_self, cond_true, cond_false, Bool.cond_true_right, Bool.cond_true_left, Bool.cond_false_right, Bool.cond_false_left, Bool.or_true, Bool.true_or, Bool.or_false, Bool.false_or, Bool.and_true, Bool.true_and, Bool.and_false, Bool.false_and, Bool.not_not, forall_eq, ← Bool.decide_and, ← Bool.decide_or, ← decide_not, cDecF, cDecT, cDecFl, Decidable.not_not, Bool.not_true, Bool.not_false, Bool.false_eq_true, imp_false, not_true_eq_false, not_false_eq_true, forall_const, true_implies, false_implies, implies_true, decide_true, decide_false])
  refine ⟨0, ⟨by omega, by omega⟩, ⟨⟨rfl, by omega, by omega⟩, by simp [byts]⟩, ?_⟩
  rintro k ⟨k0, k1⟩
  have e : (k + 1).toNat = k.toNat + 1 := by omega
  refine ⟨fun hlt => ?_, fun hge => by rw [List.take_of_length_le (by omega)]⟩
  have hs := byts_snoc (show k.toNat < l.length by omega)
  have hle := byts_le l (k.toNat + 1)
  have hsl := sawB_len (l.getD k.toNat [])
  have h2 := congrArg List.length hs
  rw [List.length_append, hsl] at h2
  generalize hx : l.getD k.toNat [] = x at *
  generalize hP : byts (l.take k.toNat) = Q at *
  simp only [lenI_eq, List.length_append, List.length_cons, List.length_nil, strEl_len]
  refine ⟨⟨k0, hlt⟩, ?_⟩
  (repeat' (first | (refine And.intro (by omega) ?_)))
  refine ⟨k + 1, ⟨by omega, by omega⟩, by omega, ⟨wr64 _ (by omega), by omega, by omega⟩, ?_⟩
  rw [e, hs]
  simp only [sawB, e8, b8, uW, List.append_assoc, List.nil_append]
theorem okG10 : PCok Try.prog G10 := addPC_ok okG9 okTby
end Go.Proofs.Ytcbmppkejphffaa
