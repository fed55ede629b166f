/- The law TraceApart, run by the engine, answers true: for all arguments. No condition. -/
import Derived.Test.YtcbmppkejphffaaT5BT
import Derived.Test.YtcbmppkejphffaaT5C
namespace Go.Proofs.Ytcbmppkejphffaa
open Go.Eng
set_option linter.unusedSimpArgs false
namespace traceApart
set_option maxRecDepth 100000 in
set_option maxHeartbeats 4000000 in
theorem fallI (x0 : List (List Value)) (b0 : ∀ x ∈ x0, Fa [.int .u8, .int .i64, .int .i64, .str, .int .i64, .int .u64] x) (c0 : x0.length ≤ maxLen) : ∃ ss, leSVs [.row 0] ss ∧ ∃ Λ n, fnS Try.prog G10 Λ n 6 ss [.ror [.int .u8, .int .i64, .int .i64, .str, .int .i64, .int .u64] x0 false] fun u _ => isYes u := by
  refine ⟨_, leSVs_refl _, taL x0, 400, Eq.mpr (tTA x0) ?_⟩
  (simp only [eq_self_iff_true, true_and, and_true, false_and, and_false, Bool.or_not_self, Bool.not_or_self, Bool.cond_self, cond_true, cond_false, Bool.cond_true_right, Bool.cond_true_left, Bool.cond_false_right, Bool.cond_false_left, Bool.or_true, Bool.true_or, Bool.or_false, Bool.false_or, Bool.and_true, Bool.true_and, Bool.and_false, Bool.false_and, Bool.not_not, forall_eq, ← Bool.decide_and, ← Bool.decide_or, ← decide_not, cDecF, cDecT, cDecFl, Decidable.not_not, Bool.not_true, Bool.not_false, Bool.false_eq_true, imp_false, not_true_eq_false, not_false_eq_true, forall_const, true_implies, false_implies, implies_true, decide_true, decide_false]; try simp only [cDec, eq_self_iff_true, true_and, and_true, false_and, and_false, Bool.or_not_self, Bool.not_or_self, Bool.cond_self, cond_true, cond_false, Bool.cond_true_right, Bool.cond_true_left, Bool.cond_false_right, Bool.cond_false_left, Bool.or_true, Bool.true_or, Bool.or_false, Bool.false_or, Bool.and_true, Bool.true_and, Bool.and_false, Bool.false_and, Bool.not_not, forall_eq, ← Bool.decide_and, ← Bool.decide_or, ← decide_not, cDecF, cDecT, cDecFl, Decidable.not_not, Bool.not_true, Bool.not_false, Bool.false_eq_true, imp_false, not_true_eq_false, not_false_eq_true, forall_const, true_implies, false_implies, implies_true, decide_true, decide_false])
  refine ⟨⟨0, List.replicate 8 [[]]⟩, ⟨by simp, by simp, by simp, by simp, fun x hx => by rw [List.eq_of_mem_replicate hx]; rfl, fun x hx l hl => by rw [List.eq_of_mem_replicate hx] at hl; simp at hl; subst hl; exact ⟨by simp, fun j h1 h2 => by simp at h2⟩⟩, ⟨⟨rfl, by simp, by simp⟩, rfl⟩, ?_⟩
  rintro ⟨i, css⟩ hI ⟨hi1, hi2⟩
  have i0 := hI.i0
  have h8 := hI.len
  have h1 := hI.one
  have h2 := hI.row
  dsimp only at i0 h1 h2 h8 hi1 hi2 ⊢
  have rok : ∀ c : Int, ((rowK css c).length : Int) ≤ i ∧ Srt (rowK css c) := fun c => rowK_all (P := fun l => (l.length : Int) ≤ i ∧ Srt l) ⟨by simpa using i0, fun j h1 h2 => by simp at h2⟩ h2 c
  refine ⟨0, ⟨by omega, by omega⟩, ⟨⟨rfl, by omega, by omega⟩, by simp [upR], by simp [upR], by simp [upR], by simp [upR], by simp [upR], by simp [upR], by simp [upR], by simp [upR]⟩, fun d hd => ⟨fun hd8 => ?_, fun hd8 => ?_⟩⟩
  · have ht : ∀ j : Int, j ≠ d → upR css d j = upR css (d + 1) j := fun j hj => by
      unfold upR
      rw [show decide (j < d) = decide (j < d + 1) from decide_eq_decide.2 (by omega)]
    have hs : ∀ j : Int, d = j → rowO css d = upR css (d + 1) j := fun j hj => by
      subst hj
      unfold upR rowO
      rw [decide_eq_true (by omega : d < d + 1), ← Bool.decide_and, decide_eq_true (by omega)]
    have nx : (0 ≤ d + 1 ∧ d + 1 ≤ 8) ∧ (8 - (d + 1)).toNat < (8 - d).toNat ∧ (IntKind.i64.wrap (d + 1) = d + 1 ∧ 0 ≤ d + 1 ∧ d + 1 ≤ 9223372036854775807) := ⟨⟨by omega, by omega⟩, by omega, wr64 _ (by omega), by omega, by omega⟩
    refine ⟨by have := (rok d).1; omega, ⟨by omega, by omega⟩, ?_⟩
    refine ⟨⟨⟨⟨⟨⟨⟨?_, ?_⟩, ?_⟩, ?_⟩, ?_⟩, ?_⟩, ?_⟩, ?_⟩
    all_goals
      intro e
      refine ⟨d + 1, nx.1, nx.2.1, nx.2.2, ?_⟩
      repeat' apply And.intro
      all_goals first | exact ht _ (by omega) | exact hs _ e
  · have hd' : d = 8 := by omega
    subst hd'
    have hU : ∀ j : Int, j < 8 → upR css 8 j = rowK css j := fun j hj => by unfold upR; rw [decide_eq_true hj]; rfl
    have hw : 0 ≤ geti (x0.getD i.toNat []) 0 % 8 ∧ geti (x0.getD i.toNat []) 0 % 8 < 8 := by omega
    generalize geti (x0.getD i.toNat []) 0 % 8 = c at hw ⊢
    generalize geti (x0.getD i.toNat []) 1 = k
    generalize geti (x0.getD i.toNat []) 2 = t
    generalize gets (x0.getD i.toNat []) 3 = b
    generalize geti (x0.getD i.toNat []) 4 = r
    generalize geti (x0.getD i.toNat []) 5 = n
    have hl := (rok c).1
    obtain ⟨S0, S1, S2, S3, S4⟩ := addS_apart (k := k) (b := b) (r := r) (n := n) (t := t) h8 h1 h2 hw
    generalize addC (tickT (rowK css c) t) css c k b r n = f at *
    generalize addS f css c (sawV k t b r n) = S at *
    have sok : ∀ c : Int, ((rowK S c).length : Int) ≤ i + 1 ∧ Srt (rowK S c) := fun c => rowK_all (P := fun l => (l.length : Int) ≤ i + 1 ∧ Srt l) ⟨by simp; omega, fun j h1 h2 => by simp at h2⟩ S2 c
    refine ⟨⟨i0, hi1⟩, ⟨i0, hi1⟩, by omega, 0, ⟨by omega, by omega⟩, ⟨rfl, by omega, by omega⟩, fun z hz => ⟨fun hz8 => ?_, fun hz8 => ⟨⟨i + 1, S⟩, ⟨by dsimp only; omega, by dsimp only; omega, by dsimp only; omega, S0, S1, S2⟩, by dsimp only; omega, ⟨wr64 _ (by omega), by dsimp only; omega, by dsimp only; omega⟩, rfl⟩⟩⟩
    have eQ : @Bool.rec (fun _ => List (List Value)) [] (rowK S z) (decide (0 ≤ z ∧ z < (S.length : Int))) = rowO S z := by
      unfold rowO; rw [← Bool.decide_and]; cases decide (0 ≤ z ∧ z < (S.length : Int)) <;> rfl
    simp only [eQ]
    have eO : rowO S z = rowK S z := by unfold rowO; rw [← Bool.decide_and, decide_eq_true (by omega)]; rfl
    have T : Tail (rowO S z) z := tail_ok (by rw [eO]; exact (sok z).2) (by rw [eO]; have := (sok z).1; omega) ⟨hz.1, hz8⟩
    have dR : ∀ a b : List (List Value), a = b → dB (a = b) = true := fun a b h => by unfold dB; exact @decide_eq_true _ (Classical.propDecidable _) h
    have go : ∀ j : Int, z = j → j < 8 → (z = c ∧ f = 0 → lenI (upR css 8 j) ≤ 1466015503701 ∧ (0 ≤ i ∧ i < (x0.length : Int)) ∧ lenI ([] ++ upR css 8 j) ≤ 1466015503701 ∧
        bif !dB (rowO S z = [] ++ upR css 8 j ++ [[Value.int IntKind.i64 k, Value.int IntKind.i64 t, Value.string b, Value.int IntKind.i64 r, Value.int IntKind.u64 n]]) then False else Tail (rowO S z) z) ∧
        (¬(z = c ∧ f = 0) → bif !dB (rowO S z = upR css 8 j) then False else Tail (rowO S z) z) := by
      intro j e hj
      subst e
      rw [hU z hj, lenI_eq, lenI_eq, List.nil_append]
      have hlz := (rok z).1
      refine ⟨fun hC => ⟨by omega, ⟨i0, hi1⟩, by omega, ?_⟩, fun hC => ?_⟩
      · obtain ⟨rfl, hf⟩ := hC
        rw [dR _ _ (S3 hf)]
        exact T
      · rw [dR _ _ (S4 z ⟨hz.1, hj⟩ hC)]
        exact T
    refine ⟨by have := (sok z).1; omega, ⟨hz.1, hz8⟩, ?_⟩
    exact ⟨⟨⟨⟨⟨⟨⟨fun e => go 0 e (by omega), fun e => go 1 e (by omega)⟩, fun e => go 2 e (by omega)⟩, fun e => go 3 e (by omega)⟩, fun e => go 4 e (by omega)⟩, fun e => go 5 e (by omega)⟩, fun e => go 6 e (by omega)⟩, fun e => go 7 e (by omega)⟩
def shapes : List (Bool × List Kd2) := [(false, [.sl [.int .u8, .int .i64, .int .i64, .str, .int .i64, .int .u64]])]
theorem fall (ss : List SV) (bs : List Blk) (h : ParsOk 0 shapes ss bs) : ∃ ss1, leSVs ss ss1 ∧ ∃ Λ n, fnS Try.prog G10 Λ n 6 ss1 bs fun u _ => isYes u := by
  obtain ⟨s0, r0, d0, e0, rfl, rfl, p0, h⟩ := ps_cons h
  obtain ⟨rfl, rfl⟩ := ps_nil h
  have q0 := par_one p0
  obtain ⟨x0, _, t0, he0, rfl, b0, c0, q0⟩ := fa_sl q0
  obtain ⟨rfl, rfl⟩ := fa_nil q0
  simp only [List.cons.injEq, and_true] at he0
  subst he0
  exact fallI x0 b0 c0
end traceApart
end Go.Proofs.Ytcbmppkejphffaa
