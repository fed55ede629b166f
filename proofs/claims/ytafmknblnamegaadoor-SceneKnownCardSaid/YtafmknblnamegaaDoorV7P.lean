/- The engine: errors as arguments of contracts. No condition. -/
import Derived.Test.YtafmknblnamegaaDoorV7O
namespace Go.Eng

theorem cond_some2 {α : Type} {b : Bool} {x : Option α} {y : α} (h : (bif b then x else none) = some y) : b = true ∧ x = some y := by
  cases b
  · cases h
  · exact ⟨rfl, h⟩

/-- An error: none, or a fault that lies in a slot. -/
def Par.er (t : TypeId) (ag : Bool) (kd : List Kd) : Par (Bool × List (List Value)) where
  get h s := match s with
    | .er p u a i => cond (decide (u = t) && decide (a = ag)) (match slotXs h i with
      | some (kd', xs) => cond (kdEq kd' kd) (some (p, xs)) none
      | none => none) none
    | _ => none
  put n x := (.er x.1 t ag n, [.ror kd x.2 false])
  fact x := (∀ v ∈ x.2, Wk kd v) ∧ x.2.length ≤ maxLen
  ok h s x hg E ρ w y D hd := by
    split at hg
    · rename_i p u a i
      replace hg := cond_some2 hg
      obtain ⟨hc, hg⟩ := hg
      simp only [Bool.and_eq_true, decide_eq_true_eq] at hc
      obtain ⟨rfl, rfl⟩ := hc
      split at hg
      · rename_i kd' xs hs
        replace hg := cond_some2 hg
        obtain ⟨hk', hg⟩ := hg
        cases hg
        have hkd : kd' = kd := of_decide_eq_true hk'
        subst hkd
        obtain ⟨q, hq, hqb, hk, a', c, e, h1, h2, h3, h4⟩ := slot_reads D hs
        refine ⟨⟨h3, h2⟩, fun ρ0 h0 D0 => ?_⟩
        have := D0.addRo (b := .ror kd' xs false) (l := ⟨kd'.length, q.val⟩) ⟨_, upd_same _ _, rfl, hk, a', c, e, h1, (fun h => by cases h), h2, h3, by
          rcases h4 with h4 | ⟨g, off, ha, hc⟩
          · exact .inl h4
          · rcases Nat.eq_zero_or_pos xs.length with h0 | h0
            · exact .inl (List.eq_nil_of_length_eq_zero h0)
            · refine .inr ⟨g, off, ha, envOf_fixed.2 ?_, hc⟩
              have hfl := flatten_length (fun x hx => (h3 x hx).length)
              have hpos : 0 < xs.flatten.length := by rw [hfl]; exact Nat.mul_pos h0 hk
              have h5 := hc 0 _ (List.getElem?_eq_getElem hpos)
              exact World.block_lt_of_cell? w ⟨g, off + 0, none⟩ h5⟩ (fun _ _ _ h => h)
        refine ⟨_, this.1, ?_, this.2⟩
        simp only [DV] at hd ⊢
        refine ⟨hd.1, fun hp => ?_⟩
        obtain ⟨l, g, off, n, c', hl, hv, hn, hy⟩ := hd.2 hp
        rw [hq] at hl; cases hl
        exact ⟨_, g, off, n, c', upd_same _ _, hv, hn, hy⟩
      · cases hg
    · cases hg

/-- An interface's value. -/
def Par.ifc {α : Type} (t : TypeId) (q : Par α) : Par α where
  get h s := match s with
    | .ifc u x => cond (decide (u = t)) (q.get h x) none
    | _ => none
  put n x := (.ifc t (q.put n x).1, (q.put n x).2)
  fact := q.fact
  ok h s x hg E ρ w y D hd := by
    split at hg
    · rename_i u s'
      replace hg := cond_some2 hg
      obtain ⟨hc, hg⟩ := hg
      have hc := of_decide_eq_true hc
      subst hc
      simp only [DV] at hd
      obtain ⟨z, rfl, hz⟩ := hd
      obtain ⟨h1, h2⟩ := q.ok h s' x hg E ρ w z D hz
      refine ⟨h1, fun ρ0 h0 D0 => ?_⟩
      obtain ⟨ρ1, x1, d1, D1⟩ := h2 ρ0 h0 D0
      exact ⟨ρ1, x1, by simp only [DV]; exact ⟨z, rfl, d1⟩, D1⟩
    · cases hg

/-- An interface's value, its memory turned. -/
def ParM.ifc {α : Type} (t : TypeId) (q : ParM α) : ParM α where
  get h s := match s with
    | .ifc u x => cond (decide (u = t)) (q.get h x) none
    | _ => none
  put n x := (.ifc t (q.put n x).1, (q.put n x).2)
  fact := q.fact
  ok h s x sl hg E ρ w y D hd := by
    split at hg
    · rename_i u s'
      replace hg := cond_some2 hg
      obtain ⟨hc, hg⟩ := hg
      have hc := of_decide_eq_true hc
      subst hc
      simp only [DV] at hd
      obtain ⟨z, rfl, hz⟩ := hd
      obtain ⟨h1, h2⟩ := q.ok h s' x sl hg E ρ w z D hz
      refine ⟨h1, fun ρ0 h0 sl0 I0 => ?_⟩
      obtain ⟨ρ1, x1, d1, I1⟩ := h2 ρ0 h0 sl0 I0
      exact ⟨ρ1, x1, by simp only [DV]; exact ⟨z, rfl, d1⟩, I1⟩
    · cases hg

/-- No slice at all. -/
def Par.nilsl : Par Unit := .leaf (fun s => match s with
  | .v (.slice none 0 0) => some ()
  | _ => none) (fun _ => .v (.slice none 0 0)) (fun _ => True) fun s x h ρ y hd => by
    split at h
    · simp only [DV] at hd
      subst hd
      exact ⟨trivial, fun ρ' => by simp [DV]⟩
    · cases h
def ParM.nilsl : ParM Unit := .of Par.nilsl fun _ _ => rfl

/-- A slice of so many cells of its own. -/
def ParM.sl {α : Type} (el : TypeId) (m : Nat) (q : ParML α) : ParM α where
  get h s := match s with
    | .sl i o n c => match h[i]? with
      | some (.cells e cs) => cond (Nat.beq o 0 && (Nat.beq n m && (Nat.beq c m && decide (e = el)))) ((q.get h cs).map fun x => (x.1, x.2 ++ [i])) none
      | _ => none
    | _ => none
  put n x := (.sl (n + (q.put n x).2.length) 0 m m, (q.put n x).2 ++ [.cells el (q.put n x).1])
  fact := q.fact
  ok h s x sl hg E ρ w y D hd := by
    split at hg
    · rename_i i o n c
      split at hg
      · rename_i e cs hi
        replace hg := cond_none hg
        obtain ⟨ho, hg⟩ := hg
        simp only [Bool.and_eq_true, decide_eq_true_eq] at ho
        obtain ⟨ho, hn, hc, rfl⟩ := ho
        replace ho := Nat.eq_of_beq_eq_true ho
        replace hn := Nat.eq_of_beq_eq_true hn
        replace hc := Nat.eq_of_beq_eq_true hc
        subst ho hn hc
        obtain ⟨⟨x', sl'⟩, hq, he⟩ := Option.map_eq_some_iff.1 hg
        cases he
        simp only [DV] at hd
        obtain ⟨p, hp, hle, rfl⟩ := hd
        obtain ⟨p', vs, hp', hw, hl⟩ := D.ok i _ hi
        rw [hp] at hp'; cases hp'
        obtain ⟨h1, h2⟩ := q.ok h cs x' sl' hq E ρ w _ D hl
        refine ⟨h1, fun ρ0 h0 sl0 I => ?_⟩
        obtain ⟨ρ1, x1, d1, I1⟩ := h2 ρ0 h0 sl0 I
        have hx := upd_ext (l := p) (I1.fresh _ (Nat.le_refl _))
        have := I1.add (b := .cells e (q.put h0.length x').1) (l := p) hi ⟨by simp, by simp⟩ hp (.inl rfl) ⟨p, vs, upd_same _ _, hw, DL.mono hx _ _ d1⟩ (by
          rintro n ⟨r, hr, hs⟩
          rw [upd_same] at hr; cases hr
          exact ⟨p, hp, hs⟩)
        rw [List.length_append] at this
        refine ⟨_, x1.trans this.1, ?_, by rw [← List.append_assoc, ← List.append_assoc]; exact this.2⟩
        simp only [DV]; exact ⟨p, upd_same _ _, hle, rfl⟩
      · cases hg
    · cases hg

/-- A growing slice whose elements hold slices of their own. -/
def ParM.rr (el : TypeId) (kf : List Kf) : ParM (List (List (List (List Value)))) where
  get h s := match s with
    | .row i => match famAt h i with
      | some (el', g, kf', css, none) => cond (decide (el' = el) && kfEq kf' kf) (some (css, [g, i])) none
      | _ => none
    | _ => none
  put n css := (.row (n + 1), [.fam kf css none, .rr el n])
  fact css := (∀ x ∈ css, x.length = kf.length ∧ ∀ o e kd, kf[o]? = some (.sl e kd) → (∀ y ∈ x.getD o [], Wk kd y) ∧ (x.getD o []).length ≤ maxLen) ∧ css.length ≤ maxLen
  ok h s css sl hg E ρ w y D hd := by
    split at hg
    · rename_i i
      split at hg
      · rename_i el' g kf' css' hf
        obtain ⟨hc, e⟩ := cond_some hg
        cases e
        simp only [Bool.and_eq_true, decide_eq_true_eq] at hc
        obtain ⟨rfl, hk⟩ := hc
        have := kfEq_eq hk
        subst this
        obtain ⟨h1, h2⟩ := famAt_iff hf
        obtain ⟨p, q, hp, hq, hpb, hqb, hpos, ys, hqv, F, hO⟩ := fam_own D hf
        simp only [DV] at hd
        obtain ⟨p', a, n, c, hp', rfl, e⟩ := hd
        rw [hp] at hp'; cases hp'
        obtain ⟨a2, c2, e2, _, hm, _⟩ := hO.len
        have hin : ∀ x ∈ css, x.length = kf'.length ∧ ∀ o e kd, kf'[o]? = some (.sl e kd) → (∀ y ∈ x.getD o [], Wk kd y) ∧ (x.getD o []).length ≤ maxLen := fun x hx => ⟨F.els x hx, fun o e kd ho => by
          obtain ⟨k, hk, rfl⟩ := List.getElem_of_mem hx
          have hl := F.els _ hx
          have ho' : o < kf'.length := (List.getElem?_eq_some_iff.1 ho).1
          have hy : k * kf'.length + o < ys.toList.length := by
            rw [F.len]
            have : (k + 1) * kf'.length ≤ css.length * kf'.length := Nat.mul_le_mul_right _ hk
            rw [Nat.add_mul] at this; omega
          have ex : css.getD k [] = css[k] := by simp [List.getD, List.getElem?_eq_getElem hk]
          have hc := F.cell k o (.sl e kd) (css[k].getD o []) ys.toList[k * kf'.length + o] hk ho (by rw [ex, List.getElem?_eq_getElem (by omega)]; simp [List.getD, List.getElem?_eq_getElem (show o < css[k].length by omega)]) (List.getElem?_eq_getElem hy)
          obtain ⟨w1, w2⟩ := hc.2.2 (by simp)
          obtain ⟨_, _, _, _, hm2, _⟩ := w2.len
          exact ⟨w1, hm2⟩⟩
        refine ⟨⟨hin, hm⟩, fun ρ0 h0 sl0 I => ?_⟩
        obtain ⟨x1, I1⟩ := I.add (b := .fam kf' css none) (l := q) h2 ⟨by simp, by simp⟩ hq (.inl rfl) ⟨q, upd_same _ _, hqb, ys, hqv, F⟩ (by
          rintro n ⟨r, hr, hs⟩
          rw [upd_same] at hr; cases hr
          exact ⟨q, hq, hs⟩)
        have hlen : (h0 ++ [Blk.fam kf' css none]).length = h0.length + 1 := by simp
        have hx := upd_ext (l := p) (I1.fresh _ (Nat.le_refl _))
        obtain ⟨x2, I2⟩ := I1.add (b := .rr el' h0.length) (l := p) h1 ⟨by simp, by simp⟩ hp (.inl rfl) ⟨p, q, upd_same _ _, hx _ _ (upd_same _ _), hpb.trans hqb.symm, by omega, ys, css.length, hqv, by rw [hpb]; exact hO⟩ (by
          rintro n ⟨r, hr, hs⟩
          rw [upd_same] at hr; cases hr
          exact ⟨p, hp, hs⟩)
        rw [hlen] at I2 x2
        refine ⟨_, x1.trans x2, ?_, by simpa using I2⟩
        simp only [DV]; exact ⟨p, a, n, c, upd_same _ _, rfl, e⟩
      · cases hg
    · cases hg
end Go.Eng
