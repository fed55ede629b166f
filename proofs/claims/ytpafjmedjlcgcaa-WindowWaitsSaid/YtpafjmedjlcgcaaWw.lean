/- WindowWaits answers true at every input: the plain law, on the engine's normal form. No condition. -/
import Derived.Test.YtpafjmedjlcgcaaT2
import Derived.Test.YtpafjmedjlcgcaaPc
import Derived.Test.YtpafjmedjlcgcaaEngM
namespace Go.Proofs.Ytpafjmedjlcgcaa
open Go.Eng
namespace windowWaits
theorem may_dec {a b : Int} (h : 0 ≤ a ∧ a ≤ b ∧ b ≤ 1048576) : mayB a b = true := by simp [mayB, h.1, h.2.1, h.2.2]
theorem wait_dec {a b : Int} (h : 0 ≤ a ∧ a ≤ b ∧ b ≤ 1048576) (t : Int) : waitB a b t = decide (t ≤ b) := by
  simp only [waitB, may_dec h, Bool.true_and, decide_eq_decide]; omega
theorem wait_val {a b : Int} (h : 0 ≤ a ∧ a ≤ b ∧ b ≤ 1048576) (t : Int) : (t ≤ b → waitN a b t = max t a) ∧ (¬ t ≤ b → waitN a b t = 0) := by
  simp only [waitN, wait_dec h]
  constructor <;> intro k <;> simp [k]
theorem has_dec {a b : Int} (h : 0 ≤ a ∧ a ≤ b ∧ b ≤ 1048576) (t : Int) : hasB a b t = decide (a ≤ t ∧ t ≤ b) := by
  simp [hasB, may_dec h]
theorem shift_dec {a b : Int} (h : 0 ≤ a ∧ a ≤ b ∧ b ≤ 1048576) (d : Int) : shiftB a b d = decide (-a ≤ d ∧ d ≤ 1048576 - b) := by
  simp [shiftB, may_dec h]
theorem shift_val {a b : Int} (h : 0 ≤ a ∧ a ≤ b ∧ b ≤ 1048576) (d : Int) :
    ((-a ≤ d ∧ d ≤ 1048576 - b) → shiftE a b d = a + d ∧ shiftL a b d = b + d) ∧ (¬ (-a ≤ d ∧ d ≤ 1048576 - b) → shiftE a b d = 0 ∧ shiftL a b d = 0) := by
  simp only [shiftE, shiftL, shift_dec h]
  constructor <;> intro k
  · rw [decide_eq_true k]; exact ⟨rfl, rfl⟩
  · rw [decide_eq_false k]; exact ⟨rfl, rfl⟩
theorem tm (x : Int) (h : 0 ≤ x) : 0 ≤ x.tmod 90 ∧ x.tmod 90 < 90 := ⟨Int.tmod_nonneg 90 h, Int.tmod_lt_of_pos x (by decide)⟩
set_option linter.unusedSimpArgs false in
set_option maxRecDepth 100000 in
set_option maxHeartbeats 8000000 in
theorem fallI (x0 x1 t0 t1 d : Int) (h0 : 0 ≤ x0 ∧ x0 ≤ 255) (h1 : 0 ≤ x1 ∧ x1 ≤ 255) (k0 : -128 ≤ t0 ∧ t0 ≤ 127) (k1 : -128 ≤ t1 ∧ t1 ≤ 127) (hd : -128 ≤ d ∧ d ≤ 127) :
    fnS Try.prog G3 noLoops 100 4 [.agg [.v (.int .u8 x0), .v (.int .u8 x1)], .agg [.v (.int .i8 t0), .v (.int .i8 t1)], .v (.int .i8 d)] [] fun v _ => v = .v (.bool true) := by
  refine Eq.mpr (t4 x0 x1 t0 t1 d fun v => v = .v (.bool true)) ?_
  have w0 := wr64 x0 (by omega)
  have w1 := wr64 x1 (by omega)
  have wd := wr64 d (by omega)
  simp only [w0, w1, wd]
  have m0 := tm x0 h0.1
  have m1 := tm x1 h1.1
  generalize x0.tmod 90 = a at *
  generalize x1.tmod 90 = b at *
  have wab := wr64 (a + b) (by omega)
  simp only [wab]
  have hL : 0 ≤ a ∧ a ≤ a + b ∧ a + b ≤ 1048576 := by omega
  obtain ⟨L, rfl⟩ : ∃ L, b = L - a := ⟨a + b, by omega⟩
  simp only [show a + (L - a) = L by omega] at *
  have he : ∃ e, (if t1 < t0 then t1 else t0) = e ∧ -128 ≤ e ∧ e ≤ 127 ∧ e ≤ t0 ∧ e ≤ t1 := by
    refine ⟨_, rfl, ?_⟩; split <;> omega
  have hl : ∃ l, (if t1 > t0 then t1 else t0) = l ∧ -128 ≤ l ∧ l ≤ 127 ∧ t0 ≤ l ∧ t1 ≤ l := by
    refine ⟨_, rfl, ?_⟩; split <;> omega
  obtain ⟨e, he, e1, e2, e3, e4⟩ := he
  obtain ⟨l, hl, l1, l2, l3, l4⟩ := hl
  simp only [he, hl]
  have we := wr64 e (by omega)
  have wl := wr64 l (by omega)
  have wde := wr64 (e + d) (by omega)
  have wn := wr64 (0 - d) (by omega)
  have wad := wr64 (a + d) (by omega)
  simp only [we, wl, wde, wn, wad, wait_dec hL, has_dec hL, shift_dec hL]
  have hwe := wait_val hL e
  have hwl := wait_val hL l
  have hsd := shift_val hL d
  generalize waitN a L e = n at *
  generalize waitN a L l = m at *
  generalize shiftE a L d = s at *
  generalize shiftL a L d = u at *
  have wn1 := wr64 (n - 1) (by omega)
  have wnd := wr64 (n + d) (by omega)
  simp only [wn1, wnd]
  by_cases hs : -a ≤ d ∧ d ≤ 1048576 - L
  · have hsu : 0 ≤ s ∧ s ≤ u ∧ u ≤ 1048576 := by have := hsd.1 hs; omega
    have hw3 := wait_val hsu (e + d)
    have hs3 := shift_val hsu (0 - d)
    simp only [wait_dec hsu, shift_dec hsu]
    generalize waitN s u (e + d) = n3 at *
    generalize shiftE s u (0 - d) = s3 at *
    generalize shiftL s u (0 - d) = u3 at *
    have hs' := hsd.1 hs
    clear hsd
    repeat' (first | (exfalso; omega) | rfl | (refine bif_intro (fun h => ?_) (fun h => ?_) <;> simp only [Bool.not_eq_true', Bool.not_eq_false', Bool.not_eq_eq_eq_not, Bool.not_true, Bool.not_false, decide_eq_true_eq, decide_eq_false_iff_not, beq_iff_eq, beq_eq_false_iff_ne, ne_eq, decide_eq_decide, not_true_eq_false, Bool.and_eq_true, Bool.and_eq_false_iff] at h))
    all_goals simp only [SV.v.injEq, Value.bool.injEq, beq_iff_eq]
    all_goals omega
  · have hs' := hsd.2 hs
    clear hsd
    repeat' (first | (exfalso; omega) | rfl | (refine bif_intro (fun h => ?_) (fun h => ?_) <;> simp only [Bool.not_eq_true', Bool.not_eq_false', Bool.not_eq_eq_eq_not, Bool.not_true, Bool.not_false, decide_eq_true_eq, decide_eq_false_iff_not, beq_iff_eq, beq_eq_false_iff_ne, ne_eq, decide_eq_decide, not_true_eq_false, Bool.and_eq_true, Bool.and_eq_false_iff] at h))
    all_goals simp only [SV.v.injEq, Value.bool.injEq, beq_iff_eq]
    all_goals omega
def shapes : List (Bool × List Kd2) := [(true, [.k (.int .u8), .k (.int .u8)]), (true, [.k (.int .i8), .k (.int .i8)]), (false, [.k (.int .i8)])]
theorem ps_cons {p : Bool × List Kd2} {ps : List (Bool × List Kd2)} {ss : List SV} (h : ParsOk (p :: ps) ss) : ∃ s r, ss = s :: r ∧ ParOk p s ∧ ParsOk ps r := by
  cases ss with
  | nil => exact h.elim
  | cons s r => exact ⟨s, r, rfl, h.1, h.2⟩
theorem ps_nil {ss : List SV} (h : ParsOk [] ss) : ss = [] := by
  cases ss with
  | nil => rfl
  | cons s r => exact h.elim
theorem fa_int {K : IntKind} {ks : List Kd2} {vs : List SV} (h : Fa2 (.k (.int K) :: ks) vs) : ∃ n r, vs = .v (.int K n) :: r ∧ (K.min ≤ n ∧ n ≤ K.max) ∧ Fa2 ks r := by
  cases vs with
  | nil => exact h.elim
  | cons s r =>
    obtain ⟨⟨n, rfl, hn⟩, hr⟩ := h
    exact ⟨n, r, rfl, hn, hr⟩
theorem fa_nil {vs : List SV} (h : Fa2 [] vs) : vs = [] := by
  cases vs with
  | nil => rfl
  | cons s r => exact h.elim
theorem fall (ss : List SV) (h : ParsOk shapes ss) : fnS Try.prog G3 noLoops 100 4 ss [] fun u _ => u = .v (.bool true) := by
  obtain ⟨s0, r0, rfl, p0, h⟩ := ps_cons h
  obtain ⟨s1, r1, rfl, p1, h⟩ := ps_cons h
  obtain ⟨s2, r2, rfl, p2, h⟩ := ps_cons h
  obtain rfl := ps_nil h
  obtain ⟨l0, rfl, p0⟩ := p0
  obtain ⟨l1, rfl, p1⟩ := p1
  obtain ⟨x0, _, rfl, b0, p0⟩ := fa_int p0
  obtain ⟨x1, _, rfl, b1, p0⟩ := fa_int p0
  obtain rfl := fa_nil p0
  obtain ⟨t0, _, rfl, b2, p1⟩ := fa_int p1
  obtain ⟨t1, _, rfl, b3, p1⟩ := fa_int p1
  obtain rfl := fa_nil p1
  obtain ⟨d, _, he, b4, p2⟩ := fa_int p2
  obtain rfl := fa_nil p2
  simp only [List.cons.injEq, and_true] at he
  subst he
  have r0 : IntKind.u8.min = 0 := by decide
  have r1 : IntKind.u8.max = 255 := by decide
  have r2 : IntKind.i8.min = -128 := by decide
  have r3 : IntKind.i8.max = 127 := by decide
  simp only [r0, r1, r2, r3] at b0 b1 b2 b3 b4
  exact fallI x0 x1 t0 t1 d b0 b1 b2 b3 b4
end windowWaits
end Go.Proofs.Ytpafjmedjlcgcaa
