/- The law LedgerOrder, run by the engine, answers true: for all arguments. No condition. -/
import Derived.Test.YteklfbeeiahcpaaL9OT
namespace Go.Proofs.Yteklfbeeiahcpaa
open Go.Eng
set_option linter.unusedSimpArgs false
namespace ledgerOrder
set_option maxHeartbeats 4000000 in
theorem fallI (x0 : List (List Value)) (x1 : Int) (b0 : ∀ x ∈ x0, Fa [.int .u8, .int .u8, .int .u64] x) (c0 : x0.length ≤ maxLen) (b1 : (0 : Int) ≤ x1 ∧ x1 ≤ 255) : ∃ ss, leSVs [.row 0, .i .u8 x1 (0) 255] ss ∧ ∃ Λ n, fnS Try.prog G9 Λ n 5 ss [.ror [.int .u8, .int .u8, .int .u64] x0 false] fun u _ => isYes u := by
  refine ⟨[.row 0, .i .u8 x1 0 255], by simp [leSVs, leSV], loL, 100, Eq.mpr (tLO x0 x1) ?_⟩
  have hm := len63 c0
  simp only [eq_self_iff_true, true_and, and_true, false_and, and_false, Bool.or_not_self, Bool.not_or_self, Bool.cond_self, cond_true, cond_false, Bool.cond_true_right, Bool.cond_true_left, Bool.cond_false_right, Bool.cond_false_left, Bool.or_true, Bool.true_or, Bool.or_false, Bool.false_or, Bool.and_true, Bool.true_and, Bool.and_false, Bool.false_and, Bool.not_not, forall_eq, ← Bool.decide_and, ← Bool.decide_or, ← decide_not, cDecF, cDecT, cDecFl, Decidable.not_not, Bool.not_true, Bool.not_false, Bool.false_eq_true, imp_false, not_true_eq_false, not_false_eq_true, forall_const, true_implies, false_implies, implies_true, decide_true, decide_false, Int.sub_zero, List.drop_zero, Nat.zero_add, List.nil_append]
  try simp only [cDec, eq_self_iff_true, true_and, and_true, false_and, and_false, Bool.or_not_self, Bool.not_or_self, Bool.cond_self, cond_true, cond_false, Bool.cond_true_right, Bool.cond_true_left, Bool.cond_false_right, Bool.cond_false_left, Bool.or_true, Bool.true_or, Bool.or_false, Bool.false_or, Bool.and_true, Bool.true_and, Bool.and_false, Bool.false_and, Bool.not_not, forall_eq, ← Bool.decide_and, ← Bool.decide_or, ← decide_not, cDecF, cDecT, cDecFl, Decidable.not_not, Bool.not_true, Bool.not_false, Bool.false_eq_true, imp_false, not_true_eq_false, not_false_eq_true, forall_const, true_implies, false_implies, implies_true, decide_true, decide_false]
  have e0 : IntKind.i64.wrap (((min (x0.length : Int) 50).toNat : Int) + 1) = (((min (x0.length : Int) 50).toNat : Int) + 1) := wr64 _ (by omega)
  have e1 : IntKind.i64.wrap (2 * ((min (x0.length : Int) 50).toNat : Int)) = (2 * ((min (x0.length : Int) 50).toNat : Int)) := wr64 _ (by omega)
  simp only [e0, e1]
  have hm1 : (min (x0.length : Int) 50).toNat ≤ x0.length ∧ (min (x0.length : Int) 50).toNat ≤ 50 := by omega
  clear e0 e1
  refine ⟨⟨by omega, by omega⟩, ?_⟩
  generalize (min (x0.length : Int) 50).toNat = m at *
  have hk : 0 ≤ x1.tmod (m + 1) ∧ x1.tmod (m + 1) ≤ m := ⟨Int.tmod_nonneg _ b1.1, by have := Int.tmod_lt_of_pos x1 (show (0 : Int) < m + 1 by omega); omega⟩
  generalize x1.tmod (m + 1) = kk at *
  obtain ⟨k, rfl⟩ := Int.eq_ofNat_of_zero_le hk.1
  simp only [Int.toNat_natCast, ← Int.toNat_sub, Int.toNat_sub]
  have hA : x0.take m = x0.take k ++ (x0.drop k).take (m - k) := by rw [← List.take_add]; congr 1; omega
  have hQ : ∀ c, net c (paidX ((x0.drop k).take (m - k) ++ x0.take k)) = net c (paidX (x0.take m)) := fun c => by
    rw [hA]
    rw [paidX_small _ (by simp; omega), paidX_small _ (by simp; omega), List.map_append, List.map_append, net_append, net_append]; omega
  have hl1 : lenI ((x0.drop k).take (m - k)) ≤ 4398046511104 := by rw [lenI_eq]; simp; omega
  have hl2 : lenI (x0.take k) ≤ 4398046511104 := by rw [lenI_eq]; simp; omega
  simp only [hQ, hl1, hl2]
  have hP := paidX_ok (x0.take m) (fun x hx => b0 x (List.mem_of_mem_take hx)) (by simp; omega)
  have hPl : (paidX (x0.take m)).length = m := by rw [paidX_small _ (by simp; omega)]; simp; omega
  generalize paidX (x0.take m) = P at *
  subst hPl
  have hlP : lenI P ≤ 2932031007402 := by rw [lenI_eq]; omega
  simp only [eq_self_iff_true, true_and, and_true, false_and, and_false, Bool.or_not_self, Bool.not_or_self, Bool.cond_self, cond_true, cond_false, Bool.cond_true_right, Bool.cond_true_left, Bool.cond_false_right, Bool.cond_false_left, Bool.or_true, Bool.true_or, Bool.or_false, Bool.false_or, Bool.and_true, Bool.true_and, Bool.and_false, Bool.false_and, Bool.not_not, forall_eq, ← Bool.decide_and, ← Bool.decide_or, ← decide_not, cDecF, cDecT, cDecFl, Decidable.not_not, Bool.not_true, Bool.not_false, Bool.false_eq_true, imp_false, not_true_eq_false, not_false_eq_true, forall_const, true_implies, false_implies, implies_true, decide_true, decide_false, hlP]
  refine ⟨by omega, ⟨by omega, by omega⟩, ⟨by omega, by omega⟩, ?_⟩
  refine ⟨?_, 0, ⟨by omega, by omega⟩, ⟨⟨rfl, by omega, by omega⟩, by omega, by simp [allX], by simp [backX]⟩, ?_⟩
  · refine spE (fun h => ?_) (fun _ => trivial)
    obtain rfl := List.eq_nil_of_length_eq_zero h
    refine ⟨rfl, 0, rfl, ⟨rfl, by omega, by omega⟩, ?_⟩
    simp [net, W0]
  · intro j hj
    obtain ⟨j, rfl⟩ := Int.eq_ofNat_of_zero_le hj.1
    simp only [Int.toNat_natCast, allX_len P (show j ≤ P.length by omega)]
    refine ⟨fun hlt => ?_, fun hge => ?_⟩
    · have hjl : j < P.length := by omega
      have hbl : (backX P j).length = P.length + j := by simp [backX]; omega
      obtain ⟨f, t, v, hx, h1, h2, h3, h4, h5, h6, h7⟩ := hP _ (getD_in (d := []) hjl)
      have hp : payE 8 t f v = 0 := payE_0 (by omega) (by omega) (by omega)
      have hX : payX 8 t f v (backX P j) = backX P (j + 1) := by
        rw [backX_succ P hjl, payX, if_pos hp, hx]; rfl
      rw [allX_get P hjl, allX_set P hjl, hx]
      have g0 : geti (ent f t v) 0 = f := rfl
      have g1 : geti (ent f t v) 1 = t := rfl
      have g2 : geti (ent f t v) 2 = v := rfl
      rw [g0, g1, g2, hX, hp, lenI_eq, hbl]
      refine ⟨⟨by omega, by omega⟩, ⟨by omega, by omega⟩, ⟨by omega, by omega⟩, by omega, rfl, ⟨by omega, by omega⟩, ((j + 1 : Nat) : Int), ⟨by omega, by omega⟩, by omega, ⟨by omega, by omega, by omega⟩, by omega, rfl, rfl⟩
    · obtain rfl : j = P.length := by omega
      have hbl : (backX P P.length).length = P.length + P.length := by simp [backX]
      simp only [net_backX, W0, true_and]
      rw [lenI_eq]
      refine ⟨?_, by omega, decide_eq_true (by omega)⟩
      refine spE (fun h => decide_eq_true (by omega)) (fun _ => trivial)
def shapes : List (Bool × List Kd2) := [(false, [.sl [.int .u8, .int .u8, .int .u64]]), (false, [.k (.int .u8)])]
theorem fall (ss : List SV) (bs : List Blk) (h : ParsOk 0 shapes ss bs) : ∃ ss1, leSVs ss ss1 ∧ ∃ Λ n, fnS Try.prog G9 Λ n 5 ss1 bs fun u _ => isYes u := by
  obtain ⟨s0, r0, d0, e0, rfl, rfl, p0, h⟩ := ps_cons h
  obtain ⟨s1, r1, d1, e1, rfl, rfl, p1, h⟩ := ps_cons h
  obtain ⟨rfl, rfl⟩ := ps_nil h
  have q0 := par_one p0
  obtain ⟨x0, _, t0, he0, rfl, b0, c0, q0⟩ := fa_sl q0
  obtain ⟨rfl, rfl⟩ := fa_nil q0
  simp only [List.cons.injEq, and_true] at he0
  subst he0
  have q1 := par_one p1
  obtain ⟨x1, _, he1, b1, q1⟩ := fa_int q1
  obtain ⟨rfl, rfl⟩ := fa_nil q1
  simp only [List.cons.injEq, and_true] at he1
  subst he1
  exact fallI x0 x1 b0 c0 b1
end ledgerOrder
end Go.Proofs.Yteklfbeeiahcpaa
