/- The statement TraceBytes holds: for every input that reads with a bulk of at most 1048576 the call answers true and leaves what was there as it was. No other condition. -/
import Derived.Test.YtcbmppkejphffaaT4Y
import Derived.Test.YtcbmppkejphffaaV6Q
namespace Go.Proofs.Ytcbmppkejphffaa
open Go.Eng Go.ChangeShapes Go.WideShapes Go.ChangeAt Go.RowKit
namespace traceBytes
theorem own : ownKnob Try.prog.godebug = none := by kernel_rfl
theorem laid : laidOutB Try.prog = true := by kernel_rfl
theorem part_le {H : Type} {d : DataW H} {l : List (DataW H)} (h : d ∈ l) : Rows.uptoBulk d ≤ Rows.uptoBulkAll l := by
  induction l with
  | nil => cases h
  | cons x r ih =>
    simp only [Rows.uptoBulkAll]
    rcases List.mem_cons.1 h with e | e
    · subst e; omega
    · have := ih e; omega
theorem bulk {H : Type} : Bulk 1048576 (fun d : DataW H => Rows.uptoBulk d ≤ 1048576) where
  str := fun b h => by simp only [Rows.uptoBulk] at h; omega
  sl := fun e s h d hd => by have := part_le hd; simp only [Rows.uptoBulk] at h; omega
  agg := fun l h d hd => by have := part_le hd; simp only [Rows.uptoBulk] at h; omega
theorem shapes_ok : Try.f5.params.toList.mapM (parT Try.prog) = some shapes := by kernel_rfl
set_option maxRecDepth 100000 in
theorem walk (W : World) {H : Type} {enc : TypeId × Value → H} {base : Nat} {args : Array Value} {ds : List (DataW H)} {ps : List MemPlace}
    (hok : ∀ (j : Nat) t v, Try.f5.params.toList[j]? = some t → args[j]? = some v → Value.okWide Try.prog W .any base t v) (h : DataW.TrodAll enc Try.prog W 0 (fun _ => true) true Try.f5.params.toList args.toList ds ps) (hq : ∀ d ∈ ds, Rows.uptoBulk d ≤ 1048576) :
    Calls Try.prog 5 args W fun e w' => e = .returned (.bool true) ∧ Below W.heap.size W w' :=
  lawB_call bulk okG10 mixed fall (fun _ h => by cases h) shapes_ok hok h hq
set_option maxRecDepth 100000 in
theorem lifted (os : Os) (started : os.Started) (H : Type) (enc : TypeId × Value → H) (Fi : Stop.Interp) :
    ReturnsInHanded {} Try.checked os 5 .any ((Rows.OpenSpec.upto Rows.traceBytesSpec).pre6 enc Try.prog Try.f5 Rows.traceBytesUptoRow.domain false) (((Rows.OpenSpec.upto Rows.traceBytesSpec).at Fi).post enc Try.prog Try.f5 false true false false) := by
  refine returnsInHanded_of_cond (C := Try.checked) (s := Rows.OpenSpec.upto Rows.traceBytesSpec) (k := Rows.uptoSmall) rfl own started (by kernel_rfl) Try.func5
    (OpenSpec.witness (enc := enc) (C := Try.checked) (s := Rows.OpenSpec.upto Rows.traceBytesSpec) (k := Rows.uptoSmall) rfl false ⟨#[], #[.slice none 0 0, .slice none 0 0, .int .u8 0, .int .u64 0], []⟩ 8 (by kernel_rfl) (by kernel_rfl) (by kernel_rfl)
      (x := ([.nil, .nil, .lit (.int .u8 0), .lit (.int .u64 0)], [], [])) (by kernel_rfl) rfl (by kernel_rfl)) ?_
  intro W base args ds gs before hval0 hW _ hk _
  have hW' := hW
  obtain ⟨p, q, hA, hV, rfl, hfz, hnd⟩ := hW
  obtain ⟨rfl, rfl⟩ := trodVars_none hV
  have hkk : Rows.uptoBulkAll (ds ++ []) ≤ 1048576 := of_decide_eq_true hk
  rw [List.append_nil] at hkk
  refine (walk W (fun j t v ht hv => hval0 j t v (by simpa using ht) hv) hA (fun d hd => Nat.le_trans (part_le hd) hkk)).mono fun e W' ⟨he, hb⟩ => ?_
  subst he
  have hlen : ∃ d0 d1 d2 d3, ds = [d0, d1, d2, d3] := by
    have h2 := hA
    rw [show Try.f5.params.toList = [38, 38, 5, 31] from by kernel_rfl] at h2
    obtain ⟨v0, vs0, d0, ds0, p0, q0, _, rfl, _, _, h3⟩ := trodAll_cons h2
    obtain ⟨v1, vs1, d1, ds1, p1, q1, _, rfl, _, _, h4⟩ := trodAll_cons h3
    obtain ⟨v2, vs2, d2, ds2, p2, q2, _, rfl, _, _, h5⟩ := trodAll_cons h4
    obtain ⟨v3, vs3, d3, ds3, p3, q3, _, rfl, _, _, h6⟩ := trodAll_cons h5
    obtain ⟨_, rfl, _⟩ := trodAll_nil h6
    exact ⟨_, _, _, _, rfl⟩
  obtain ⟨d0, d1, d2, d3, rfl⟩ := hlen
  exact ⟨_, rfl, law_post (tb := 4) laid (by kernel_rfl) (by kernel_rfl) Try.underlying4 rfl rfl rfl rfl hW' hb⟩
theorem over : Rows.traceBytesUptoRow.holds Try.pinned (Rows.OpenSpec.upto Rows.traceBytesSpec) :=
  OpenClaim.holds_of_cond 5 Try.f5 rfl rfl rfl rfl rfl rfl rfl ⟨rfl, rfl, rfl, rfl, rfl⟩ rfl rfl rfl rfl rfl (by kernel_rfl) Try.func5 (by kernel_rfl)
    (of_decide_eq_true (by kernel_rfl)) (by unfold Func.isWrapper; first | (rw [if_pos (by decide +kernel)]; kernel_rfl) | (rw [if_neg (by decide +kernel)]; exact ⟨rfl, rfl⟩))
    (fun os started H enc _ Fi => lifted os started H enc Fi)
theorem proved : Rows.TraceBytesUptoSaid := over
#print axioms proved
end traceBytes
end Go.Proofs.Ytcbmppkejphffaa
