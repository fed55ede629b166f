/- errors.As as a contract of the engine's, at this program's errors. No condition. -/
import Derived.Test.YtafmknblnamegaaDoorF5Aw
import Derived.Test.YtafmknblnamegaaDoorV8P
namespace Go.Proofs.YtafmknblnamegaaDoor
open Go.RowKit Go.Eng

def kAs : Ctr := fun args h _ => match args with
  | [.v .nilIface, _] => some ⟨[], .v (.bool false), []⟩
  | [.er p u true i, .ifc t (.ptr j 0)] => cond p (some ⟨[p], .v (.bool false), []⟩) (cond (decide (u = 87) && decide (t = 93)) (match h[j]? with
    | some (.cells 85 [_]) => some ⟨[!p], .v (.bool true), [(j, .cells 85 [.rowp i 0 0])]⟩
    | _ => none) none)
  | [.ifc u (.agg [.ptr i o]), .ifc t (.ptr j 0)] => cond (decide (u = 87) && decide (t = 93)) (match h[j]? with
    | some (.cells 85 [_]) => some ⟨[], .v (.bool true), [(j, .cells 85 [.ptr i o])]⟩
    | _ => none) none
  | _ => none

theorem as_calls {E : Env} {ρ : Rho} {h : List Blk} {w : World} (D : DH E ρ h w) {j : Nat} {c x : SV} (hj : h[j]? = some (.cells 85 [c])) {e : Addr} (hx : DV ρ x (.pointer (some e))) {p : Eng.Loc} (hp : ρ j = some p) :
    Calls Tryd.prog 33 #[.iface 87 (.agg #[.pointer (some e)]), .iface 93 (.pointer (some ⟨p.block, 0, none⟩))] w fun r w' => ∃ y ρ', r = .returned y ∧ Ext ρ ρ' ∧ DV ρ' (.v (.bool true)) y ∧ DH E ρ' (applyEff [(j, .cells 85 [x])] h) w' := by
  obtain ⟨p', vs, hp', hb, hl⟩ := D.ok j _ hj
  rw [hp] at hp'; cases hp'
  obtain ⟨hg1, hg2⟩ := D.glob _ rfl
  have hg := (cell?_at (o := 0) (D.old 0 hg2)).trans hg1
  obtain ⟨old, rfl⟩ : ∃ old, vs = #[old] := by
    have := hl.length
    rcases vs with ⟨l⟩
    match l, this with
    | [o], _ => exact ⟨o, rfl⟩
  have ht : w.cell? ⟨p.block, 0, none⟩ = some old := by simp [World.cell?, hb]
  have hf : w.frozen? ⟨p.block, 0, none⟩ = false := by simp [World.frozen?, hb]
  refine (as_wrap e ⟨p.block, 0, none⟩ old w hg ht hf).mono ?_
  rintro r w' ⟨rfl, rfl⟩
  have hB : Below w.heap.size w (((((w.alloc (.cells #[.pointer (some ⟨p.block, 0, none⟩)] 93)).alloc (.cells #[.pointer (some ⟨1, 93, none⟩), .pointer (some ⟨w.heap.size, 0, none⟩), .int .u64 150] 106)).alloc (.cells #[.pointer (some ⟨1, 93, none⟩), .pointer (some ⟨w.heap.size, 0, none⟩), .int .u64 150] 106)).alloc (.cells #[.pointer (some e)] 87)).alloc (.cells #[.pointer (some e)] 85)) :=
    (((((Below.refl _ w).alloc (Nat.le_refl _) _).alloc (by simp) _).alloc (by simp; omega) _).alloc (by simp; omega) _).alloc (by simp; omega) _
  generalize (((((w.alloc (.cells #[.pointer (some ⟨p.block, 0, none⟩)] 93)).alloc (.cells #[.pointer (some ⟨1, 93, none⟩), .pointer (some ⟨w.heap.size, 0, none⟩), .int .u64 150] 106)).alloc (.cells #[.pointer (some ⟨1, 93, none⟩), .pointer (some ⟨w.heap.size, 0, none⟩), .int .u64 150] 106)).alloc (.cells #[.pointer (some e)] 87)).alloc (.cells #[.pointer (some e)] 85)) = w4 at hB
  have hlt := (Array.getElem?_eq_some_iff.1 hb).1
  have hb4 : w4.heap[p.block]? = some (.cells #[old] 85 (0, 0)) := by rw [hB.block _ hlt]; exact hb
  rw [setCell_eq_setRow w4 p.block 0 _ 85 (0, 0) _ hb4]
  refine ⟨_, ρ, rfl, Ext.refl _, by simp [DV], ?_⟩
  exact (D.below hB).write hj hp (by simpa using DL.cons hx DL.nil)

theorem okAs : CtrOk Tryd.prog 33 kAs := by
  intro E ρ h hr w args vs nx r D hsub hfree hd hk hneed
  unfold kAs at hk
  split at hk
  · cases hk
    simp only [DL, DV] at hd
    obtain ⟨y1, t1, rfl, rfl, y2, t2, rfl, _, rfl⟩ := hd
    exact (as_nil y2 w).mono fun e w' ⟨h1, h2⟩ => by subst h1; subst h2; exact ⟨_, ρ, rfl, Ext.refl _, by simp [DV], D⟩
  · rename_i p u i t j
    cases p with
    | true =>
      cases hk
      simp only [DL, DV] at hd
      obtain ⟨y1, t1, rfl, ⟨hy1, _⟩, y2, t2, rfl, _, rfl⟩ := hd
      have e1 : y1 = Value.nilIface := hy1 trivial
      subst e1
      exact (as_nil y2 w).mono fun e w' ⟨h1, h2⟩ => by subst h1; subst h2; exact ⟨_, ρ, rfl, Ext.refl _, by simp [DV], D⟩
    | false =>
    replace hk : (bif decide (u = 87) && decide (t = 93) then (match hr[j]? with
      | some (.cells 85 [_]) => some (Res.mk [!false] (.v (.bool true)) [(j, .cells 85 [.rowp i 0 0])])
      | _ => none) else none) = some r := hk
    replace hk := cond_some2 hk
    obtain ⟨hc, hk⟩ := hk
    simp only [Bool.and_eq_true, decide_eq_true_eq] at hc
    obtain ⟨rfl, rfl⟩ := hc
    split at hk
    · rename_i c hj
      cases hk
      have hj' : h[j]? = some (.cells 85 [c]) := by
        rcases hsub.2 j _ hj with h1 | h1
        · exact h1
        · cases h1
      simp only [DL, DV] at hd
      obtain ⟨y1, t1, rfl, ⟨_, hy1⟩, y2, t2, rfl, ⟨z, rfl, q, hq, rfl⟩, rfl⟩ := hd
      obtain ⟨l, g, off, n, c', hl, hv, hn, rfl⟩ := hy1 trivial
      exact as_calls D hj' (x := .rowp i 0 0) (by simp only [DV]; exact ⟨l, g, off, n, c', hl, hv, hn, by simp⟩) hq
    · cases hk
  · rename_i u i o t j
    replace hk := cond_some2 hk
    obtain ⟨hc, hk⟩ := hk
    simp only [Bool.and_eq_true, decide_eq_true_eq] at hc
    obtain ⟨rfl, rfl⟩ := hc
    split at hk
    · rename_i c hj
      cases hk
      have hj' : h[j]? = some (.cells 85 [c]) := by
        rcases hsub.2 j _ hj with h1 | h1
        · exact h1
        · cases h1
      simp only [DL, DV] at hd
      obtain ⟨y1, t1, rfl, ⟨z1, rfl, la, rfl, yp, tp, hla, ⟨l, hl, rfl⟩, rfl⟩, y2, t2, rfl, ⟨z, rfl, q, hq, rfl⟩, rfl⟩ := hd
      obtain ⟨la⟩ := la
      simp only at hla
      subst hla
      exact as_calls D hj' (x := .ptr i o) (by simp only [DV]; exact ⟨l, hl, rfl⟩) hq
    · cases hk
  · cases hk
end Go.Proofs.YtafmknblnamegaaDoor
