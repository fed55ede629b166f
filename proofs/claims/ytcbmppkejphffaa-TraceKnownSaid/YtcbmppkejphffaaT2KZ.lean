/- The statement TraceKnown holds: for every input the call answers true and leaves what was there as it was. No condition. -/
import Derived.Test.YtcbmppkejphffaaT2K
import Derived.Test.YtcbmppkejphffaaV5M
namespace Go.Proofs.Ytcbmppkejphffaa
open Go.Eng Go.ChangeShapes Go.WideShapes Go.ChangeAt Go.RowKit
namespace traceKnown
theorem own : ownKnob Try.prog.godebug = none := by kernel_rfl
theorem laid : laidOutB Try.prog = true := by kernel_rfl
theorem shapes_ok : Try.f7.params.toList.mapM (parT Try.prog) = some shapes := by kernel_rfl
set_option maxRecDepth 100000 in
theorem walk (W : World) {H : Type} {enc : TypeId × Value → H} {base : Nat} {args : Array Value} {ds : List (DataW H)} {ps : List MemPlace}
    (hok : ∀ (j : Nat) t v, Try.f7.params.toList[j]? = some t → args[j]? = some v → Value.okWide Try.prog W .any base t v) (h : DataW.TrodAll enc Try.prog W 0 (fun _ => true) true Try.f7.params.toList args.toList ds ps) :
    Calls Try.prog 7 args W fun e w' => e = .returned (.bool true) ∧ Below W.heap.size W w' :=
  law_call okGV mixed fall (fun _ h => by cases h) shapes_ok hok h
set_option maxRecDepth 100000 in
theorem lifted (os : Os) (started : os.Started) (H : Type) (enc : TypeId × Value → H) :
    ReturnsInHanded {} Try.checked os 7 .any (Rows.traceKnownSpec.pre6 enc Try.prog Try.f7 Rows.traceKnownRow.domain false) (Rows.traceKnownSpec.post enc Try.prog Try.f7 false true false false) := by
  refine returnsInHanded_of_change (C := Try.checked) own started (by kernel_rfl) Try.func7
    (ChangeSpec.witness6 (enc := enc) (C := Try.checked) false ⟨#[], #[], []⟩ 8 (by kernel_rfl) (by kernel_rfl) (by kernel_rfl) (by kernel_rfl)) ?_
  intro W base args ds gs before hval0 hW hcnd _
  have hW' := hW
  obtain ⟨p, q, hA, hV, rfl, hfz, hnd⟩ := hW
  obtain ⟨rfl, rfl⟩ := trodVars_none hV
  refine (walk W (fun j t v ht hv => hval0 j t v (by simp at ht) hv) hA).mono fun e W' ⟨he, hb⟩ => ?_
  subst he
  have hlen : ∃ _x : Unit, ds = [] := by
    have h2 := hA
    rw [show Try.f7.params.toList = [] from by kernel_rfl] at h2
    obtain ⟨_, rfl, _⟩ := trodAll_nil h2
    exact ⟨(), rfl⟩
  obtain ⟨_, rfl⟩ := hlen
  exact ⟨_, rfl, law_post (tb := 4) laid (by kernel_rfl) (by kernel_rfl) Try.underlying4 rfl rfl rfl rfl hW' hb⟩
theorem over : Rows.traceKnownRow.holds Try.pinned (OpenSpec.ofChange Rows.traceKnownSpec) :=
  OpenClaim.holds_of_wide 7 Try.f7 rfl rfl rfl rfl rfl rfl rfl ⟨rfl, rfl, rfl, rfl, rfl⟩ rfl rfl rfl rfl rfl (by kernel_rfl) Try.func7 (by kernel_rfl)
    (of_decide_eq_true (by kernel_rfl)) (by unfold Func.isWrapper; first | (rw [if_pos (by decide +kernel)]; kernel_rfl) | (rw [if_neg (by decide +kernel)]; exact ⟨rfl, rfl⟩))
    (fun os started H enc _ => lifted os started H enc)
theorem proved : Rows.TraceKnownSaid := over
#print axioms proved
end traceKnown
end Go.Proofs.Ytcbmppkejphffaa
