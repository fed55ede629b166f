/- The law TraceBytes, run by the engine, answers true: for all arguments. No condition. -/
import Derived.Test.YtcbmppkejphffaaT4YT
import Derived.Test.YtcbmppkejphffaaT4E
namespace Go.Proofs.Ytcbmppkejphffaa
open Go.Eng
set_option linter.unusedSimpArgs false
namespace traceBytes
set_option maxRecDepth 100000 in
set_option maxHeartbeats 4000000 in
theorem fallI (x0 : List (List Value)) (x1 : List (List Value)) (x2 : Int) (x3 : Int) (b0 : ∀ x ∈ x0, Fa [.int .i64, .int .i64, .str, .int .i64, .int .u64] x) (c0 : x0.length ≤ maxLen) (z0 : Szr 1048576 x0) (b1 : ∀ x ∈ x1, Fa [.int .i64, .int .i64, .str, .int .i64, .int .u64] x) (c1 : x1.length ≤ maxLen) (z1 : Szr 1048576 x1) (b2 : (0 : Int) ≤ x2 ∧ x2 ≤ 255) (b3 : (0 : Int) ≤ x3 ∧ x3 ≤ 18446744073709551615) : ∃ ss, leSVs [.row 0, .row 1, .i .u8 x2 (0) 255, .i .u64 x3 (0) 18446744073709551615] ss ∧ ∃ Λ n, fnS Try.prog G10 Λ n 5 ss [.ror [.int .i64, .int .i64, .str, .int .i64, .int .u64] x0 false, .ror [.int .i64, .int .i64, .str, .int .i64, .int .u64] x1 false] fun u _ => isYes u := by
  refine ⟨_, leSVs_refl _, tyL x0 x1, 400, Eq.mpr (tTY x0 x1 x2 x3) ?_⟩
  (simp only [eq_self_iff_true, true_and, and_true, false_and, and_false, Bool.or_not_self, Bool.not_or_self, Bool.cond_self, cond_true, cond_false, Bool.cond_true_right, Bool.cond_true_left, Bool.cond_false_right, Bool.cond_false_left, Bool.or_true, Bool.true_or, Bool.or_false, Bool.false_or, Bool.and_true, Bool.true_and, Bool.and_false, Bool.false_and, Bool.not_not, forall_eq, ← Bool.decide_and, ← Bool.decide_or, ← decide_not, cDecF, cDecT, cDecFl, Decidable.not_not, Bool.not_true, Bool.not_false, Bool.false_eq_true, imp_false, not_true_eq_false, not_false_eq_true, forall_const, true_implies, false_implies, implies_true, decide_true, decide_false]; try simp only [cDec, eq_self_iff_true, true_and, and_true, false_and, and_false, Bool.or_not_self, Bool.not_or_self, Bool.cond_self, cond_true, cond_false, Bool.cond_true_right, Bool.cond_true_left, Bool.cond_false_right, Bool.cond_false_left, Bool.or_true, Bool.true_or, Bool.or_false, Bool.false_or, Bool.and_true, Bool.true_and, Bool.and_false, Bool.false_and, Bool.not_not, forall_eq, ← Bool.decide_and, ← Bool.decide_or, ← decide_not, cDecF, cDecT, cDecFl, Decidable.not_not, Bool.not_true, Bool.not_false, Bool.false_eq_true, imp_false, not_true_eq_false, not_false_eq_true, forall_const, true_implies, false_implies, implies_true, decide_true, decide_false])
  have tk : ∀ xs : List (List Value), List.take (min (xs.length : Int) 20 - 0).toNat (List.drop 0 xs) = xs.take 20 := fun xs => by
    rw [List.drop_zero]
    by_cases h : xs.length ≤ 20
    · rw [List.take_of_length_le (by omega), List.take_of_length_le (by omega)]
    · congr 1; omega
  have hk : ∀ xs : List (List Value), (min (xs.length : Int) 20 - 0).toNat = (xs.take 20).length := fun xs => by simp; omega
  simp only [tk, List.nil_append, lenI_eq]
  simp only [hk]
  have w0 : ∀ x ∈ x0, Wk SW x := b0
  have w1 : ∀ x ∈ x1, Wk SW x := b1
  have T : TailY x0 x1 := tailY_ok w0 w1 z0 z1
  have la : (x0.take 20).length ≤ 20 := by simp; omega
  have lb : (x1.take 20).length ≤ 20 := by simp; omega
  refine ⟨⟨by omega, by omega⟩, ⟨by omega, by omega⟩, by omega, fun hpos => ⟨by omega, ?_⟩, fun _ => ⟨⟨0, x0.take 20⟩, oinv_id w0 z0, ⟨⟨rfl, by dsimp only; omega, by dsimp only; omega⟩, rfl⟩, T⟩⟩
  have hq : 0 ≤ x2.tmod ((x0.take 20).length : Int) ∧ x2.tmod ((x0.take 20).length : Int) < (x0.take 20).length := by
    rw [Int.tmod_eq_emod_of_nonneg b2.1]
    exact ⟨Int.emod_nonneg _ (by omega), Int.emod_lt_of_pos _ (by omega)⟩
  generalize x2.tmod ((x0.take 20).length : Int) = q at hq ⊢
  have hm : (x0.take 20).getD q.toNat [] ∈ x0.take 20 := by
    rw [List.getD_eq_getElem?_getD, List.getElem?_eq_getElem (by omega)]; exact List.getElem_mem _
  obtain ⟨r0, r1, r2, r3, r4⟩ := sw_rng (w0 _ (List.mem_of_mem_take hm))
  have hs := gets_small (z0 _ (List.mem_of_mem_take hm)) 2
  have hX := fun x y => xor_rng .i64 x y
  have hU := fun x y => xor_rng .u64 x y
  have hk : ∀ s : TY, s.k = 0 → (0 = s.k ∧ 0 ≤ s.k ∧ s.k ≤ 9223372036854775807) := fun s h => by omega
  refine ⟨hq, fun _ => ⟨_, oinv_set w0 z0 (hX _ _) r1 r3 r4 (by omega), ⟨hk _ rfl, rfl⟩, T⟩, fun _ => ⟨fun _ => ⟨_, oinv_set w0 z0 r0 (hX _ _) r3 r4 (by omega), ⟨hk _ rfl, rfl⟩, T⟩, fun _ => ⟨fun _ => ⟨_, oinv_set w0 z0 r0 r1 (hX _ _) r4 (by omega), ⟨hk _ rfl, rfl⟩, T⟩, fun _ => ⟨fun _ => ⟨_, oinv_set w0 z0 r0 r1 r3 (hU _ _) (by omega), ⟨hk _ rfl, rfl⟩, T⟩, fun _ => ⟨?_, _, oinv_set w0 z0 r0 r1 r3 r4 ?_, ⟨hk _ rfl, rfl⟩, T⟩⟩⟩⟩⟩
  · rw [bytesOf_len]
    simp only [List.length_cons, List.length_nil]
    omega
  · rw [ByteArray.size_append, bytesOf_len]
    simp only [List.length_cons, List.length_nil]
    omega
def shapes : List (Bool × List Kd2) := [(false, [.sl [.int .i64, .int .i64, .str, .int .i64, .int .u64]]), (false, [.sl [.int .i64, .int .i64, .str, .int .i64, .int .u64]]), (false, [.k (.int .u8)]), (false, [.k (.int .u64)])]
theorem fall (ss : List SV) (bs : List Blk) (h : ParsOk 0 shapes ss bs) (hz : Szb 1048576 bs) : ∃ ss1, leSVs ss ss1 ∧ ∃ Λ n, fnS Try.prog G10 Λ n 5 ss1 bs fun u _ => isYes u := by
  obtain ⟨s0, r0, d0, e0, rfl, rfl, p0, h⟩ := ps_cons h
  obtain ⟨s1, r1, d1, e1, rfl, rfl, p1, h⟩ := ps_cons h
  obtain ⟨s2, r2, d2, e2, rfl, rfl, p2, h⟩ := ps_cons h
  obtain ⟨s3, r3, d3, e3, rfl, rfl, p3, h⟩ := ps_cons h
  obtain ⟨rfl, rfl⟩ := ps_nil h
  have q0 := par_one p0
  obtain ⟨x0, _, t0, he0, rfl, b0, c0, q0⟩ := fa_sl q0
  obtain ⟨rfl, rfl⟩ := fa_nil q0
  simp only [List.cons.injEq, and_true] at he0
  subst he0
  have q1 := par_one p1
  obtain ⟨x1, _, t1, he1, rfl, b1, c1, q1⟩ := fa_sl q1
  obtain ⟨rfl, rfl⟩ := fa_nil q1
  simp only [List.cons.injEq, and_true] at he1
  subst he1
  have q2 := par_one p2
  obtain ⟨x2, _, he2, b2, q2⟩ := fa_int q2
  obtain ⟨rfl, rfl⟩ := fa_nil q2
  simp only [List.cons.injEq, and_true] at he2
  subst he2
  have q3 := par_one p3
  obtain ⟨x3, _, he3, b3, q3⟩ := fa_int q3
  obtain ⟨rfl, rfl⟩ := fa_nil q3
  simp only [List.cons.injEq, and_true] at he3
  subst he3
  exact fallI x0 x1 x2 x3 b0 c0 (hz [.int .i64, .int .i64, .str, .int .i64, .int .u64] x0 false (by simp)) b1 c1 (hz [.int .i64, .int .i64, .str, .int .i64, .int .u64] x1 false (by simp)) b2 b3
end traceBytes
end Go.Proofs.Ytcbmppkejphffaa
