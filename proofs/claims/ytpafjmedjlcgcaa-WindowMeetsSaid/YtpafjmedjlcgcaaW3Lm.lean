/- WindowMeets answers true at every input. No condition. -/
import Derived.Test.YtpafjmedjlcgcaaW3Tm
import Derived.Test.YtpafjmedjlcgcaaW3P
import Derived.Test.YtpafjmedjlcgcaaEngM
namespace Go.Proofs.Ytpafjmedjlcgcaa
open Go.Eng
namespace windowMeets
theorem meet_sym {a b c d : Int} : (Meet a b c d ↔ Meet c d a b) ∧ meetE a b c d = meetE c d a b ∧ meetL a b c d = meetL c d a b := by
  simp only [Meet, meetE, meetL, May]
  omega
theorem meet_cases {a b c d : Int} (h : May a b) (k : May c d) : (max a c ≤ min b d ∧ Meet a b c d ∧ meetE a b c d = max a c ∧ meetL a b c d = min b d) ∨ (min b d < max a c ∧ ¬ Meet a b c d ∧ meetE a b c d = 0 ∧ meetL a b c d = 0) := by
  simp only [Meet, meetE, meetL, May] at *
  omega
theorem meet_ass {a b c d e f : Int} (h1 : May a b) (h2 : May c d) (h3 : May e f) :
    ((Meet a b c d ∧ Meet (meetE a b c d) (meetL a b c d) e f) ↔ (Meet c d e f ∧ Meet a b (meetE c d e f) (meetL c d e f))) ∧
    ((Meet a b c d ∧ Meet (meetE a b c d) (meetL a b c d) e f) → meetE (meetE a b c d) (meetL a b c d) e f = meetE a b (meetE c d e f) (meetL c d e f) ∧ meetL (meetE a b c d) (meetL a b c d) e f = meetL a b (meetE c d e f) (meetL c d e f)) := by
  rcases meet_cases h1 h2 with ⟨p, q, r, s⟩ | ⟨p, q, r, s⟩ <;> rcases meet_cases h2 h3 with ⟨p', q', r', s'⟩ | ⟨p', q', r', s'⟩ <;> rw [r, s, r', s']
  · have k1 : May (max a c) (min b d) := by simp only [May] at *; omega
    have k2 : May (max c e) (min d f) := by simp only [May] at *; omega
    rcases meet_cases k1 h3 with ⟨p2, q2, r2, s2⟩ | ⟨p2, q2, r2, s2⟩ <;> rcases meet_cases h1 k2 with ⟨p3, q3, r3, s3⟩ | ⟨p3, q3, r3, s3⟩ <;> rw [r2, s2, r3, s3]
    · exact ⟨⟨fun _ => ⟨q', q3⟩, fun _ => ⟨q, q2⟩⟩, fun _ => by omega⟩
    · omega
    · omega
    · exact ⟨⟨fun h => absurd h.2 q2, fun h => absurd h.2 q3⟩, fun h => absurd h.2 q2⟩
  · have k1 : May (max a c) (min b d) := by simp only [May] at *; omega
    have : ¬ Meet (max a c) (min b d) e f := by simp only [Meet]; omega
    exact ⟨⟨fun h => absurd h.2 this, fun h => absurd h.1 q'⟩, fun h => absurd h.2 this⟩
  · have : ¬ Meet a b (max c e) (min d f) := by simp only [Meet]; omega
    exact ⟨⟨fun h => absurd h.1 q, fun h => absurd h.2 this⟩, fun h => absurd h.1 q⟩
  · exact ⟨⟨fun h => absurd h.1 q, fun h => absurd h.1 q'⟩, fun h => absurd h.1 q⟩
theorem meet_has {a b c d k : Int} (h1 : May a b) (h2 : May c d) : (Has a b k ∧ Has c d k) ↔ (Meet a b c d ∧ Has (meetE a b c d) (meetL a b c d) k) := by
  simp only [Meet, meetE, meetL, May, Has] at *
  omega
theorem meet_own {a b : Int} (h1 : May a b) : Meet a b a b ∧ meetE a b a b = a ∧ meetL a b a b = b := by
  simp only [Meet, meetE, meetL, May] at *
  omega
set_option maxHeartbeats 4000000 in
set_option maxRecDepth 100000 in
theorem fallI (x0 x1 x2 x3 x4 x5 t : Int) (h0 : 0 ≤ x0 ∧ x0 ≤ 255) (h1 : 0 ≤ x1 ∧ x1 ≤ 255) (h2 : 0 ≤ x2 ∧ x2 ≤ 255) (h3 : 0 ≤ x3 ∧ x3 ≤ 255) (h4 : 0 ≤ x4 ∧ x4 ≤ 255) (h5 : 0 ≤ x5 ∧ x5 ≤ 255) :
    fnS Try.prog G13 meLoops 100 3 [.agg [U8 x0, U8 x1, U8 x2, U8 x3, U8 x4, U8 x5], U8 t] [] fun v _ => isYes v := by
  refine Eq.mpr (t3 x0 x1 x2 x3 x4 x5 t isYes) ?_
  intro z9 e9 z11 e11 z13 e13 z15 e15 z17 e17 z19 e19 z21 e21 a ea b eb z27 e27 z29 e29 z31 e31 z33 e33 z35 e35 z37 e37 z39 e39 c ec d ed z45 e45 z47 e47 z49 e49 z51 e51 z53 e53 z55 e55 z57 e57 e ee f ef
  have hw0 : May a b := by simp only [May]; omega
  have hw1 : May c d := by simp only [May]; omega
  have hw2 : May e f := by simp only [May]; omega
  clear eb ed ef ea ec ee e21 e39 e57 e9 e11 e13 e15 e17 e19 e27 e29 e31 e33 e35 e37 e45 e47 e49 e51 e53 e55 z9 z11 z13 z15 z17 z19 z21 z27 z29 z31 z33 z35 z37 z39 z45 z47 z49 z51 z53 z55 z57
  intro z63 e63 z65 e65 b67 e67 z69 e69 z71 e71 b73 e73 z75 e75 z77 e77 b79 e79 z81 e81 z83 e83 b85 e85 z87 e87 z89 e89 b91 e91
  have k0 := meet_sym (a := a) (b := b) (c := c) (d := d)
  have k2 := meet_ass hw0 hw1 hw2
  have k3 : (b67 && b85) = (b79 && b91) := by
    subst_vars
    simp only [← Bool.decide_and, decide_eq_decide]; exact k2.1
  have k4 : (b67 && b85) = true → z81 = z87 ∧ z83 = z89 := by
    subst_vars
    simp only [← Bool.decide_and, decide_eq_true_eq]; exact k2.2
  have k5 : b67 = b73 := by subst_vars; simp only [decide_eq_decide]; exact k0.1
  have k6 : z63 = z69 := by subst_vars; exact k0.2.1
  have k7 : z65 = z71 := by subst_vars; exact k0.2.2
  have k8 : ∀ k, (decide (Has a b k) && decide (Has c d k)) = (b67 && decide (Has z63 z65 k)) := fun k => by
    subst_vars; simp only [← Bool.decide_and, decide_eq_decide]; exact meet_has hw0 hw1
  clear e67 e73 e79 e85 e91 e63 e65 e69 e71 e75 e77 e81 e83 e87 e89 k0 k2
  subst k5 k6 k7
  repeat' (first | refine need1 ?_ | refine need2 ?_ | refine need3 ?_ | refine need4 ?_ | refine need5 ?_ | refine need6 ?_ | refine need7 ?_ | intro _)
  rename_i b93 e93 b95 e95 b97 e97 b99 e99 b101 e101 b103 e103 b105 e105 b107 e107 b109 e109 b111 e111 b113 e113
  have : b113 = false := by
    subst_vars
    cases b67 <;> cases b85 <;> cases b79 <;> cases b91 <;> simp at k3 k4 ⊢ <;> exact k4
  rw [this]
  clear e93 e95 e97 e99 e101 e103 e105 e107 e109 e111 e113 k3 k4 this
  simp only [cond_false]
  refine ⟨0, by omega, ⟨by omega, trivial⟩, ?_⟩
  intro k hk b118 e118
  refine bif_intro (fun hb => ?_) (fun hb => ?_)
  · have k9 := k8 k
    have hlt : k < 62 := by rw [e118] at hb; simpa using hb
    intro b120 e120
    repeat' (first | refine need1 ?_ | refine need2 ?_ | refine need3 ?_ | refine need4 ?_ | refine need5 ?_ | refine need6 ?_ | refine need7 ?_ | intro _)
    rename_i b122 e122 b124 e124 b126 e126 b128 e128 b130 e130 b132 e132 b134 e134 b136 e136
    have : b136 = false := by
      rw [← e120, ← e122, ← e126] at k9
      subst e136 e134 e132 e130 e128 e124
      clear e120 e122 e126 k8
      revert k9
      cases b120 <;> cases b122 <;> cases b67 <;> cases b126 <;> decide
    rw [this]
    simp only [cond_false]
    intro z hz
    have : meSpec.mu z < meSpec.mu k := by show (62 - z).toNat < (62 - k).toNat; omega
    exact ⟨z, by omega, this, ⟨rfl, by omega⟩, by simp, by simp⟩
  · intro z120 e120 z122 e122 b124 e124
    have k9 := meet_own hw0
    rw [k9.2.1] at e120
    rw [k9.2.2] at e122
    rw [decide_eq_true k9.1] at e124
    subst e120 e122 e124
    repeat' (first | refine need1 ?_ | refine need2 ?_ | refine need3 ?_ | refine need4 ?_ | refine need5 ?_ | refine need6 ?_ | refine need7 ?_ | intro _)
    subst_vars
    simp only [isYes, beq_self_eq_true, Bool.and_self, cond_true, Bool.cond_false_right, ← Bool.decide_and, decide_eq_decide, beq_iff_eq]
    simp only [Has]
    exact ⟨fun h => h.2, fun h => ⟨hw0, h⟩⟩
def shapes : List (Bool × List Kd2) := [(true, [.k (.int .u8), .k (.int .u8), .k (.int .u8), .k (.int .u8), .k (.int .u8), .k (.int .u8)]), (false, [.k (.int .u8)])]
theorem fall (ss : List SV) (h : ParsOk shapes ss) : fnS Try.prog G13 meLoops 100 3 ss [] fun u _ => isYes u := by
  obtain ⟨s0, r0, rfl, p0, h⟩ := ps_cons h
  obtain ⟨s1, r1, rfl, p1, h⟩ := ps_cons h
  obtain rfl := ps_nil h
  obtain ⟨l0, rfl, q0⟩ := par_agg p0
  obtain ⟨x0, _, rfl, b0, q0⟩ := fa_int q0
  obtain ⟨x1, _, rfl, b1, q0⟩ := fa_int q0
  obtain ⟨x2, _, rfl, b2, q0⟩ := fa_int q0
  obtain ⟨x3, _, rfl, b3, q0⟩ := fa_int q0
  obtain ⟨x4, _, rfl, b4, q0⟩ := fa_int q0
  obtain ⟨x5, _, rfl, b5, q0⟩ := fa_int q0
  obtain rfl := fa_nil q0
  have q1 := par_one p1
  obtain ⟨x6, _, he1, b6, q1⟩ := fa_int q1
  obtain rfl := fa_nil q1
  simp only [List.cons.injEq, and_true] at he1
  subst he1
  exact fallI x0 x1 x2 x3 x4 x5 x6 b0 b1 b2 b3 b4 b5
end windowMeets
end Go.Proofs.Ytpafjmedjlcgcaa
