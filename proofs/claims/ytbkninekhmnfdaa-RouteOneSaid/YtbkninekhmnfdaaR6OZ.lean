/- The statement RouteOne holds: for every input the call answers true and leaves what was there as it was. No condition. -/
import Derived.Test.YtbkninekhmnfdaaR6O
import Derived.Test.YtbkninekhmnfdaaV6M
namespace Go.Proofs.Ytbkninekhmnfdaa
open Go.Eng Go.ChangeShapes Go.WideShapes Go.ChangeAt Go.RowKit
namespace routeOne
theorem own : ownKnob Try.prog.godebug = none := by kernel_rfl
theorem laid : laidOutB Try.prog = true := by kernel_rfl
theorem shapes_ok : Try.f4.params.toList.mapM (parT Try.prog) = some shapes := by kernel_rfl
set_option maxRecDepth 100000 in
theorem walk (W : World) {H : Type} {enc : TypeId × Value → H} {base : Nat} {args : Array Value} {ds : List (DataW H)} {ps : List MemPlace}
    (hok : ∀ (j : Nat) t v, Try.f4.params.toList[j]? = some t → args[j]? = some v → Value.okWide Try.prog W .any base t v) (h : DataW.TrodAll enc Try.prog W 0 (fun _ => true) true Try.f4.params.toList args.toList ds ps) :
    Calls Try.prog 4 args W fun e w' => e = .returned (.bool true) ∧ Below W.heap.size W w' :=
  law_call okG18 mixed fall (fun _ h => by cases h) shapes_ok hok h
set_option maxRecDepth 100000 in
theorem lifted (os : Os) (started : os.Started) (H : Type) (enc : TypeId × Value → H) :
    ReturnsInHanded {} Try.checked os 4 .any (Rows.routeOneSpec.pre6 enc Try.prog Try.f4 Rows.routeOneRow.domain false) (Rows.routeOneSpec.post enc Try.prog Try.f4 false true false false) := by
  refine returnsInHanded_of_change (C := Try.checked) own started (by kernel_rfl) Try.func4
    (ChangeSpec.witness6 (enc := enc) (C := Try.checked) false ⟨#[], #[.slice none 0 0], []⟩ 8 (by kernel_rfl) (by kernel_rfl) (by kernel_rfl) (by kernel_rfl)) ?_
  intro W base args ds gs before hval0 hW hcnd _
  have hW' := hW
  obtain ⟨p, q, hA, hV, rfl, hfz, hnd⟩ := hW
  obtain ⟨rfl, rfl⟩ := trodVars_none hV
  refine (walk W (fun j t v ht hv => hval0 j t v (by simpa using ht) hv) hA).mono fun e W' ⟨he, hb⟩ => ?_
  subst he
  have hlen : ∃ d0, ds = [d0] := by
    have h2 := hA
    rw [show Try.f4.params.toList = [23] from by kernel_rfl] at h2
    obtain ⟨v0, vs0, d0, ds0, p0, q0, _, rfl, _, _, h3⟩ := trodAll_cons h2
    obtain ⟨_, rfl, _⟩ := trodAll_nil h3
    exact ⟨_, rfl⟩
  obtain ⟨d0, rfl⟩ := hlen
  exact ⟨_, rfl, law_post (tb := 4) laid (by kernel_rfl) (by kernel_rfl) Try.underlying4 rfl rfl rfl rfl hW' hb⟩
theorem over : Rows.routeOneRow.holds Try.pinned (OpenSpec.ofChange Rows.routeOneSpec) :=
  OpenClaim.holds_of_wide 4 Try.f4 rfl rfl rfl rfl rfl rfl rfl ⟨rfl, rfl, rfl, rfl, rfl⟩ rfl rfl rfl rfl rfl (by kernel_rfl) Try.func4 (by kernel_rfl)
    (of_decide_eq_true (by kernel_rfl)) (by unfold Func.isWrapper; first | (rw [if_pos (by decide +kernel)]; kernel_rfl) | (rw [if_neg (by decide +kernel)]; exact ⟨rfl, rfl⟩))
    (fun os started H enc _ => lifted os started H enc)
theorem proved : Rows.RouteOneSaid := over
#print axioms proved
end routeOne
end Go.Proofs.Ytbkninekhmnfdaa
