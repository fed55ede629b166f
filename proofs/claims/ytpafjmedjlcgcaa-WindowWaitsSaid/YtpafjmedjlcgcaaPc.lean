/- Contracts of chapter 3's functions hold. No condition. -/
import Derived.Test.YtpafjmedjlcgcaaT
namespace Go.Proofs.Ytpafjmedjlcgcaa
open Go.Eng
set_option linter.unusedSimpArgs false
theorem mixed : Try.prog.follows .mixedOrders = true := by kernel_rfl
theorem pMay : Pure Try.prog noPC noLoops 100 25 kMay := pure_of fun ((a, b, _), _) => by
    intro _
    refine ⟨rfl, rfl, Eq.mpr (t25 a b fun u => u = bo (mayB a b)) ?_⟩
    simp only [bo, mayB]
    repeat' refine bif_intro (fun _ => ?_) (fun _ => ?_)
    all_goals simp only [SV.tup.injEq, SV.agg.injEq, SV.v.injEq, List.cons.injEq, Value.int.injEq, Value.bool.injEq, true_and, and_true, Bool.cond_eq_ite, Bool.and_eq_true, decide_eq_true_eq, decide_eq_false_iff_not, Bool.not_eq_eq_eq_not, Bool.not_true, Bool.not_false] at *
    all_goals (repeat' (first | apply And.intro | split))
    all_goals simp_all
    all_goals omega
theorem pMay15 : Pure Try.prog noPC noLoops 100 15 kMay := pure_of fun ((a, b, _), _) => by
    intro _
    refine ⟨rfl, rfl, Eq.mpr (t15 a b fun u => u = bo (mayB a b)) ?_⟩
    simp only [bo, mayB]
    repeat' refine bif_intro (fun _ => ?_) (fun _ => ?_)
    all_goals simp only [SV.tup.injEq, SV.agg.injEq, SV.v.injEq, List.cons.injEq, Value.int.injEq, Value.bool.injEq, true_and, and_true, Bool.cond_eq_ite, Bool.and_eq_true, decide_eq_true_eq, decide_eq_false_iff_not, Bool.not_eq_eq_eq_not, Bool.not_true, Bool.not_false] at *
    all_goals (repeat' (first | apply And.intro | split))
    all_goals simp_all
    all_goals omega
theorem okG1 : PCok Try.prog G1 := addPC_ok noPC_ok mixed pMay
theorem pMay14 : Pure Try.prog G1 noLoops 100 14 kMay := pure_of fun ((a, b, _), _) => by
    intro _
    exact ⟨rfl, rfl, Eq.mpr (t14 a b fun u => u = bo (mayB a b)) rfl⟩
theorem pMeet : Pure Try.prog G1 noLoops 100 9 kMeet := pure_of fun ((a, b, _), (c, d, _), _) => by
    intro _
    refine ⟨rfl, rfl, Eq.mpr (t9 a b c d fun u => u = .tup [win (meetE a b c d) (meetL a b c d), bo (meetB a b c d)]) ?_⟩
    simp only [bo, win, meetE, meetL, meetB]
    repeat' refine bif_intro (fun _ => ?_) (fun _ => ?_)
    all_goals simp only [SV.tup.injEq, SV.agg.injEq, SV.v.injEq, List.cons.injEq, Value.int.injEq, Value.bool.injEq, true_and, and_true, Bool.cond_eq_ite, Bool.and_eq_true, decide_eq_true_eq, decide_eq_false_iff_not, Bool.not_eq_eq_eq_not, Bool.not_true, Bool.not_false] at *
    all_goals (repeat' (first | apply And.intro | split))
    all_goals simp_all
    all_goals omega
theorem pMeet13 : Pure Try.prog noPC noLoops 100 13 kMeet := pure_of fun ((a, b, _), (c, d, _), _) => by
    intro _
    refine ⟨rfl, rfl, Eq.mpr (t13 a b c d fun u => u = .tup [win (meetE a b c d) (meetL a b c d), bo (meetB a b c d)]) ?_⟩
    simp only [bo, win, meetE, meetL, meetB, mayB]
    repeat' refine bif_intro (fun _ => ?_) (fun _ => ?_)
    all_goals simp only [SV.tup.injEq, SV.agg.injEq, SV.v.injEq, List.cons.injEq, Value.int.injEq, Value.bool.injEq, true_and, and_true, Bool.cond_eq_ite, Bool.and_eq_true, decide_eq_true_eq, decide_eq_false_iff_not, Bool.not_eq_eq_eq_not, Bool.not_true, Bool.not_false] at *
    all_goals (repeat' (first | apply And.intro | split))
    all_goals simp_all
    all_goals omega
theorem pHas : Pure Try.prog G1 noLoops 100 10 kHas := pure_of fun ((a, b, _), t, _) => by
    intro _
    refine ⟨rfl, rfl, Eq.mpr (t10 a b t fun u => u = bo (hasB a b t)) ?_⟩
    simp only [bo, hasB]
    repeat' refine bif_intro (fun _ => ?_) (fun _ => ?_)
    all_goals simp only [SV.tup.injEq, SV.agg.injEq, SV.v.injEq, List.cons.injEq, Value.int.injEq, Value.bool.injEq, true_and, and_true, Bool.cond_eq_ite, Bool.and_eq_true, decide_eq_true_eq, decide_eq_false_iff_not, Bool.not_eq_eq_eq_not, Bool.not_true, Bool.not_false] at *
    all_goals (repeat' (first | apply And.intro | split))
    all_goals simp_all
    all_goals omega
theorem pHas18 : Pure Try.prog noPC noLoops 100 18 kHas := pure_of fun ((a, b, _), t, _) => by
    intro _
    refine ⟨rfl, rfl, Eq.mpr (t18 a b t fun u => u = bo (hasB a b t)) ?_⟩
    simp only [bo, hasB, mayB]
    repeat' refine bif_intro (fun _ => ?_) (fun _ => ?_)
    all_goals simp only [SV.tup.injEq, SV.agg.injEq, SV.v.injEq, List.cons.injEq, Value.int.injEq, Value.bool.injEq, true_and, and_true, Bool.cond_eq_ite, Bool.and_eq_true, decide_eq_true_eq, decide_eq_false_iff_not, Bool.not_eq_eq_eq_not, Bool.not_true, Bool.not_false] at *
    all_goals (repeat' (first | apply And.intro | split))
    all_goals simp_all
    all_goals omega
theorem pWait : Pure Try.prog G1 noLoops 100 11 kWait := pure_of fun ((a, b, _), t, _) => by
    intro _
    refine ⟨rfl, rfl, Eq.mpr (t11 a b t fun u => u = .tup [i6 (waitN a b t), bo (waitB a b t)]) ?_⟩
    simp only [bo, i6, waitN, waitB]
    repeat' refine bif_intro (fun _ => ?_) (fun _ => ?_)
    all_goals simp only [SV.tup.injEq, SV.agg.injEq, SV.v.injEq, List.cons.injEq, Value.int.injEq, Value.bool.injEq, true_and, and_true, Bool.cond_eq_ite, Bool.and_eq_true, decide_eq_true_eq, decide_eq_false_iff_not, Bool.not_eq_eq_eq_not, Bool.not_true, Bool.not_false] at *
    all_goals (repeat' (first | apply And.intro | split))
    all_goals simp_all
    all_goals omega
theorem pWait16 : Pure Try.prog noPC noLoops 100 16 kWait := pure_of fun ((a, b, _), t, _) => by
    intro _
    refine ⟨rfl, rfl, Eq.mpr (t16 a b t fun u => u = .tup [i6 (waitN a b t), bo (waitB a b t)]) ?_⟩
    simp only [bo, i6, waitN, waitB, mayB]
    repeat' refine bif_intro (fun _ => ?_) (fun _ => ?_)
    all_goals simp only [SV.tup.injEq, SV.agg.injEq, SV.v.injEq, List.cons.injEq, Value.int.injEq, Value.bool.injEq, true_and, and_true, Bool.cond_eq_ite, Bool.and_eq_true, decide_eq_true_eq, decide_eq_false_iff_not, Bool.not_eq_eq_eq_not, Bool.not_true, Bool.not_false] at *
    all_goals (repeat' (first | apply And.intro | split))
    all_goals simp_all
    all_goals omega
theorem pShift : Pure Try.prog G1 noLoops 100 12 kShift := pure_of fun ((a, b, _), t, _) => by
    intro _
    refine ⟨rfl, rfl, Eq.mpr (t12 a b t fun u => u = .tup [win (shiftE a b t) (shiftL a b t), bo (shiftB a b t)]) ?_⟩
    simp only [bo, win, shiftE, shiftL, shiftB, mayB]
    have h1 := wr64 (0 - a)
    have h2 := wr64 (1048576 - b)
    have h3 := wr64 (a + t)
    have h4 := wr64 (b + t)
    generalize IntKind.i64.wrap (0 - a) = x1 at *
    generalize IntKind.i64.wrap (1048576 - b) = x2 at *
    generalize IntKind.i64.wrap (a + t) = x3 at *
    generalize IntKind.i64.wrap (b + t) = x4 at *
    repeat' refine bif_intro (fun _ => ?_) (fun _ => ?_)
    all_goals simp only [SV.tup.injEq, SV.agg.injEq, SV.v.injEq, List.cons.injEq, Value.int.injEq, Value.bool.injEq, true_and, and_true, Bool.cond_eq_ite, Bool.and_eq_true, decide_eq_true_eq, decide_eq_false_iff_not, Bool.not_eq_eq_eq_not, Bool.not_true, Bool.not_false] at *
    all_goals (repeat' (first | apply And.intro | split))
    all_goals simp_all
    all_goals omega
theorem pShift17 : Pure Try.prog noPC noLoops 100 17 kShift := pure_of fun ((a, b, _), t, _) => by
    intro _
    refine ⟨rfl, rfl, Eq.mpr (t17 a b t fun u => u = .tup [win (shiftE a b t) (shiftL a b t), bo (shiftB a b t)]) ?_⟩
    simp only [bo, win, shiftE, shiftL, shiftB, mayB]
    have h3 := wr64 (a + t)
    have h4 := wr64 (b + t)
    generalize IntKind.i64.wrap (a + t) = x3 at *
    generalize IntKind.i64.wrap (b + t) = x4 at *
    repeat' refine bif_intro (fun _ => ?_) (fun _ => ?_)
    all_goals simp only [SV.tup.injEq, SV.agg.injEq, SV.v.injEq, List.cons.injEq, Value.int.injEq, Value.bool.injEq, true_and, and_true, Bool.cond_eq_ite, Bool.and_eq_true, decide_eq_true_eq, decide_eq_false_iff_not, Bool.not_eq_eq_eq_not, Bool.not_true, Bool.not_false] at *
    all_goals (repeat' (first | apply And.intro | split))
    all_goals simp_all
    all_goals omega
theorem pSpan : Pure Try.prog noPC noLoops 100 8 kSpan := pure_of fun (a, b, _) => by
    intro _
    exact ⟨rfl, rfl, Eq.mpr (t8 a b fun u => u = win a b) rfl⟩
theorem okG2 : PCok Try.prog G2 := by
  unfold G2
  have h0 := okG1
  intro g k hg
  simp only [addPC] at hg
  split at hg
  · subst_vars; cases hg; exact pc_ok noPC_ok mixed pSpan
  split at hg
  · subst_vars; cases hg; exact pc_ok noPC_ok mixed pShift17
  split at hg
  · subst_vars; cases hg; exact pc_ok h0 mixed pShift
  split at hg
  · subst_vars; cases hg; exact pc_ok noPC_ok mixed pWait16
  split at hg
  · subst_vars; cases hg; exact pc_ok h0 mixed pWait
  split at hg
  · subst_vars; cases hg; exact pc_ok noPC_ok mixed pHas18
  split at hg
  · subst_vars; cases hg; exact pc_ok h0 mixed pHas
  split at hg
  · subst_vars; cases hg; exact pc_ok noPC_ok mixed pMeet13
  split at hg
  · subst_vars; cases hg; exact pc_ok h0 mixed pMeet
  split at hg
  · subst_vars; cases hg; exact pc_ok noPC_ok mixed pMay15
  split at hg
  · subst_vars; cases hg; exact pc_ok h0 mixed pMay14
  exact h0 g k hg
theorem pWorks : Pure Try.prog G2 noLoops 100 7 kWorks := pure_of fun _ => by
    intro _
    exact ⟨rfl, rfl, Eq.mpr (t7 fun u => u = bo true) rfl⟩
theorem okG3 : PCok Try.prog G3 := addPC_ok okG2 mixed pWorks
end Go.Proofs.Ytpafjmedjlcgcaa
