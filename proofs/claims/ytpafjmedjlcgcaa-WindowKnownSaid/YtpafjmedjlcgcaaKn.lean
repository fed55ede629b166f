/- The statement WindowKnown holds: the call answers true and leaves what was there as it was. No condition. -/
import Derived.Test.YtpafjmedjlcgcaaPc
import Derived.Test.YtpafjmedjlcgcaaEngL
namespace Go.Proofs.Ytpafjmedjlcgcaa
open Go.Eng Go.ChangeShapes Go.WideShapes Go.ChangeAt Go.RowKit
theorem own : ownKnob Try.prog.godebug = none := by kernel_rfl
theorem laid : laidOutB Try.prog = true := by kernel_rfl
namespace windowKnown
theorem walk (w : World) : Calls Try.prog 6 #[] w fun e w' => e = .returned (.bool true) ∧ Below w.heap.size w w' := by
  refine (fnS_pure okG2 mixed (Eq.mpr (t6 fun u => u = bo true) rfl) w DL.nil).mono ?_
  rintro e w' ⟨y, v, h', ρ', rfl, hy, rfl, _, hb⟩
  simp only [bo, DV] at hy
  subst hy
  exact ⟨rfl, hb⟩
set_option maxRecDepth 100000 in
theorem lifted (os : Os) (started : os.Started) (H : Type) (enc : TypeId × Value → H) :
    ReturnsInHanded {} Try.checked os 6 .any (Rows.windowKnownSpec.pre6 enc Try.prog Try.f6 Rows.windowKnownRow.domain false) (Rows.windowKnownSpec.post enc Try.prog Try.f6 false true false false) := by
  refine returnsInHanded_of_change (C := Try.checked) own started (by kernel_rfl) Try.func6
    (ChangeSpec.witness6 (enc := enc) (C := Try.checked) false ⟨#[], #[], []⟩ 8 (by kernel_rfl) (by kernel_rfl) (by kernel_rfl) (by kernel_rfl)) ?_
  intro W base args ds gs before hval0 hW hcnd _
  have hW' := hW
  obtain ⟨p, q, hA, hV, rfl, hfz, hnd⟩ := hW
  rw [Try.params6] at hA
  obtain ⟨ha, rfl, _⟩ := trodAll_none hA
  obtain ⟨rfl, rfl⟩ := trodVars_none hV
  have he : args = #[] := by simpa using ha
  subst he
  refine (walk W).mono fun e W' ⟨he, hb⟩ => ?_
  subst he
  exact ⟨_, rfl, law_post (tb := 4) laid (by kernel_rfl) (by kernel_rfl) Try.underlying4 rfl rfl rfl rfl hW' hb⟩
theorem over : Rows.windowKnownRow.holds Try.pinned (OpenSpec.ofChange Rows.windowKnownSpec) :=
  OpenClaim.holds_of_wide 6 Try.f6 rfl rfl rfl rfl rfl rfl rfl ⟨rfl, rfl, rfl, rfl, rfl⟩ rfl rfl rfl rfl rfl (by kernel_rfl) Try.func6 (by kernel_rfl)
    (of_decide_eq_true (by kernel_rfl)) (by unfold Func.isWrapper; first | (rw [if_pos (by decide +kernel)]; kernel_rfl) | (rw [if_neg (by decide +kernel)]; exact ⟨rfl, rfl⟩))
    (fun os started H enc _ => lifted os started H enc)
theorem proved : Rows.WindowKnownSaid := over
#print axioms proved
end windowKnown
end Go.Proofs.Ytpafjmedjlcgcaa
