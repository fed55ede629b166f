/- The engine: errors as arguments of contracts. No condition. -/
import Derived.Test.YtafmknblnamegaaDoorV8O
namespace Go.Eng

theorem cond_some2 {α : Type} {b : Bool} {x : Option α} {y : α} (h : (bif b then x else none) = some y) : b = true ∧ x = some y := by
  cases b
  · cases h
  · exact ⟨rfl, h⟩

/-- An error: none, or a fault that lies in a slot. -/
def Par.er (t : TypeId) (ag : Bool) (kd : List Kd) : Par (Bool × List (List Value)) where
  get h s := match s with
    | .er p u a i => cond (decide (u = t) && decide (a = ag)) (match slotXs h i with
      | some (kd', xs) => cond (kdEq kd' kd) (some (p, xs)) none
      | none => none) none
    | _ => none
  put n x := (.er x.1 t ag n, [.ror kd x.2 false])
  fact x := (∀ v ∈ x.2, Wk kd v) ∧ x.2.length ≤ maxLen
  ok h s x hg E ρ w y D hd := by
    split at hg
    · rename_i p u a i
      replace hg := cond_some2 hg
      obtain ⟨hc, hg⟩ := hg
      simp only [Bool.and_eq_true, decide_eq_true_eq] at hc
      obtain ⟨rfl, rfl⟩ := hc
      split at hg
      · rename_i kd' xs hs
        replace hg := cond_some2 hg
        obtain ⟨hk', hg⟩ := hg
        cases hg
        have hkd : kd' = kd := of_decide_eq_true hk'
        subst hkd
        obtain ⟨q, hq, hqb, hk, a', c, e, h1, h2, h3, h4⟩ := slot_reads D hs
        refine ⟨⟨h3, h2⟩, fun ρ0 h0 D0 => ?_⟩
        have := D0.addRo (b := .ror kd' xs false) (l := ⟨kd'.length, q.val⟩) ⟨_, upd_same _ _, rfl, hk, a', c, e, h1, (fun h => by cases h), h2, h3, by
          rcases h4 with h4 | ⟨g, off, ha, hc⟩
          · exact .inl h4
          · rcases Nat.eq_zero_or_pos xs.length with h0 | h0
            · exact .inl (List.eq_nil_of_length_eq_zero h0)
            · refine .inr ⟨g, off, ha, envOf_fixed.2 ?_, hc⟩
              have hfl := flatten_length (fun x hx => (h3 x hx).length)
              have hpos : 0 < xs.flatten.length := by rw [hfl]; exact Nat.mul_pos h0 hk
              have h5 := hc 0 _ (List.getElem?_eq_getElem hpos)
              exact World.block_lt_of_cell? w ⟨g, off + 0, none⟩ h5⟩ (fun _ _ _ h => h)
        refine ⟨_, this.1, ?_, this.2⟩
        simp only [DV] at hd ⊢
        refine ⟨hd.1, fun hp => ?_⟩
        obtain ⟨l, g, off, n, c', hl, hv, hn, hy⟩ := hd.2 hp
        rw [hq] at hl; cases hl
        exact ⟨_, g, off, n, c', upd_same _ _, hv, hn, hy⟩
      · cases hg
    · cases hg

/-- An interface's value. -/
def Par.ifc {α : Type} (t : TypeId) (q : Par α) : Par α where
  get h s := match s with
    | .ifc u x => cond (decide (u = t)) (q.get h x) none
    | _ => none
  put n x := (.ifc t (q.put n x).1, (q.put n x).2)
  fact := q.fact
  ok h s x hg E ρ w y D hd := by
    split at hg
    · rename_i u s'
      replace hg := cond_some2 hg
      obtain ⟨hc, hg⟩ := hg
      have hc := of_decide_eq_true hc
      subst hc
      simp only [DV] at hd
      obtain ⟨z, rfl, hz⟩ := hd
      obtain ⟨h1, h2⟩ := q.ok h s' x hg E ρ w z D hz
      refine ⟨h1, fun ρ0 h0 D0 => ?_⟩
      obtain ⟨ρ1, x1, d1, D1⟩ := h2 ρ0 h0 D0
      exact ⟨ρ1, x1, by simp only [DV]; exact ⟨z, rfl, d1⟩, D1⟩
    · cases hg

/-- An interface's value, its memory turned. -/
def ParM.ifc {α : Type} (t : TypeId) (q : ParM α) : ParM α where
  get h s := match s with
    | .ifc u x => cond (decide (u = t)) (q.get h x) none
    | _ => none
  put n x := (.ifc t (q.put n x).1, (q.put n x).2)
  fact := q.fact
  ok h s x sl hg E ρ w y D hd := by
    split at hg
    · rename_i u s'
      replace hg := cond_some2 hg
      obtain ⟨hc, hg⟩ := hg
      have hc := of_decide_eq_true hc
      subst hc
      simp only [DV] at hd
      obtain ⟨z, rfl, hz⟩ := hd
      obtain ⟨h1, h2⟩ := q.ok h s' x sl hg E ρ w z D hz
      refine ⟨h1, fun ρ0 h0 sl0 I0 => ?_⟩
      obtain ⟨ρ1, x1, d1, I1⟩ := h2 ρ0 h0 sl0 I0
      exact ⟨ρ1, x1, by simp only [DV]; exact ⟨z, rfl, d1⟩, I1⟩
    · cases hg

/-- No slice at all. -/
def Par.nilsl : Par Unit := .leaf (fun s => match s with
  | .v (.slice none 0 0) => some ()
  | _ => none) (fun _ => .v (.slice none 0 0)) (fun _ => True) fun s x h ρ y hd => by
    split at h
    · simp only [DV] at hd
      subst hd
      exact ⟨trivial, fun ρ' => by simp [DV]⟩
    · cases h
def ParM.nilsl : ParM Unit := .of Par.nilsl fun _ _ => rfl

/-- A slice of so many cells of its own. -/
def ParM.sl {α : Type} (el : TypeId) (m : Nat) (q : ParML α) : ParM α where
  get h s := match s with
    | .sl i o n c => match h[i]? with
      | some (.cells e cs) => cond (Nat.beq o 0 && (Nat.beq n m && (Nat.beq c m && decide (e = el)))) ((q.get h cs).map fun x => (x.1, x.2 ++ [i])) none
      | _ => none
    | _ => none
  put n x := (.sl (n + (q.put n x).2.length) 0 m m, (q.put n x).2 ++ [.cells el (q.put n x).1])
  fact := q.fact
  ok h s x sl hg E ρ w y D hd := by
    split at hg
    · rename_i i o n c
      split at hg
      · rename_i e cs hi
        replace hg := cond_none hg
        obtain ⟨ho, hg⟩ := hg
        simp only [Bool.and_eq_true, decide_eq_true_eq] at ho
        obtain ⟨ho, hn, hc, rfl⟩ := ho
        replace ho := Nat.eq_of_beq_eq_true ho
        replace hn := Nat.eq_of_beq_eq_true hn
        replace hc := Nat.eq_of_beq_eq_true hc
        subst ho hn hc
        obtain ⟨⟨x', sl'⟩, hq, he⟩ := Option.map_eq_some_iff.1 hg
        cases he
        simp only [DV] at hd
        obtain ⟨p, hp, hle, rfl⟩ := hd
        obtain ⟨p', vs, hp', hw, hl⟩ := D.ok i _ hi
        rw [hp] at hp'; cases hp'
        obtain ⟨h1, h2⟩ := q.ok h cs x' sl' hq E ρ w _ D hl
        refine ⟨h1, fun ρ0 h0 sl0 I => ?_⟩
        obtain ⟨ρ1, x1, d1, I1⟩ := h2 ρ0 h0 sl0 I
        have hx := upd_ext (l := p) (I1.fresh _ (Nat.le_refl _))
        have := I1.add (b := .cells e (q.put h0.length x').1) (l := p) hi ⟨by simp, by simp⟩ hp (.inl rfl) ⟨p, vs, upd_same _ _, hw, DL.mono hx _ _ d1⟩ (by
          rintro n ⟨r, hr, hs⟩
          rw [upd_same] at hr; cases hr
          exact ⟨p, hp, hs⟩)
        rw [List.length_append] at this
        refine ⟨_, x1.trans this.1, ?_, by rw [← List.append_assoc, ← List.append_assoc]; exact this.2⟩
        simp only [DV]; exact ⟨p, upd_same _ _, hle, rfl⟩
      · cases hg
    · cases hg

/-- A growing slice whose elements hold slices of their own. -/
def ParM.rr (el : TypeId) (kf : List Kf) : ParM (List (List (List (List Value)))) where
  get h s := match s with
    | .row i => match famAt h i with
      | some (el', g, kf', css, none) => cond (decide (el' = el) && kfEq kf' kf) (some (css, [g, i])) none
      | _ => none
    | _ => none
  put n css := (.row (n + 1), [.fam kf css none, .rr el n])
  fact css := (∀ x ∈ css, x.length = kf.length ∧ ∀ o e kd, kf[o]? = some (.sl e kd) → (∀ y ∈ x.getD o [], Wk kd y) ∧ (x.getD o []).length ≤ maxLen) ∧ css.length ≤ maxLen
  ok h s css sl hg E ρ w y D hd := by
    split at hg
    · rename_i i
      split at hg
      · rename_i el' g kf' css' hf
        obtain ⟨hc, e⟩ := cond_some hg
        cases e
        simp only [Bool.and_eq_true, decide_eq_true_eq] at hc
        obtain ⟨rfl, hk⟩ := hc
        have := kfEq_eq hk
        subst this
        obtain ⟨h1, h2⟩ := famAt_iff hf
        obtain ⟨p, q, hp, hq, hpb, hqb, hpos, ys, hqv, F, hO⟩ := fam_own D hf
        simp only [DV] at hd
        obtain ⟨p', a, n, c, hp', rfl, e⟩ := hd
        rw [hp] at hp'; cases hp'
        obtain ⟨a2, c2, e2, _, hm, _⟩ := hO.len
        have hin : ∀ x ∈ css, x.length = kf'.length ∧ ∀ o e kd, kf'[o]? = some (.sl e kd) → (∀ y ∈ x.getD o [], Wk kd y) ∧ (x.getD o []).length ≤ maxLen := fun x hx => ⟨F.els x hx, fun o e kd ho => by
          obtain ⟨k, hk, rfl⟩ := List.getElem_of_mem hx
          have hl := F.els _ hx
          have ho' : o < kf'.length := (List.getElem?_eq_some_iff.1 ho).1
          have hy : k * kf'.length + o < ys.toList.length := by
            rw [F.len]
            have : (k + 1) * kf'.length ≤ css.length * kf'.length := Nat.mul_le_mul_right _ hk
            rw [Nat.add_mul] at this; omega
          have ex : css.getD k [] = css[k] := by simp [List.getD, List.getElem?_eq_getElem hk]
          have hc := F.cell k o (.sl e kd) (css[k].getD o []) ys.toList[k * kf'.length + o] hk ho (by rw [ex, List.getElem?_eq_getElem (by omega)]; simp [List.getD, List.getElem?_eq_getElem (show o < css[k].length by omega)]) (List.getElem?_eq_getElem hy)
          obtain ⟨w1, w2⟩ := hc.2.2 (by simp)
          obtain ⟨_, _, _, _, hm2, _⟩ := w2.len
          exact ⟨w1, hm2⟩⟩
        refine ⟨⟨hin, hm⟩, fun ρ0 h0 sl0 I => ?_⟩
        obtain ⟨x1, I1⟩ := I.add (b := .fam kf' css none) (l := q) h2 ⟨by simp, by simp⟩ hq (.inl rfl) ⟨q, upd_same _ _, hqb, ys, hqv, F⟩ (by
          rintro n ⟨r, hr, hs⟩
          rw [upd_same] at hr; cases hr
          exact ⟨q, hq, hs⟩)
        have hlen : (h0 ++ [Blk.fam kf' css none]).length = h0.length + 1 := by simp
        have hx := upd_ext (l := p) (I1.fresh _ (Nat.le_refl _))
        obtain ⟨x2, I2⟩ := I1.add (b := .rr el' h0.length) (l := p) h1 ⟨by simp, by simp⟩ hp (.inl rfl) ⟨p, q, upd_same _ _, hx _ _ (upd_same _ _), hpb.trans hqb.symm, by omega, ys, css.length, hqv, by rw [hpb]; exact hO⟩ (by
          rintro n ⟨r, hr, hs⟩
          rw [upd_same] at hr; cases hr
          exact ⟨p, hp, hs⟩)
        rw [hlen] at I2 x2
        refine ⟨_, x1.trans x2, ?_, by simpa using I2⟩
        simp only [DV]; exact ⟨p, a, n, c, upd_same _ _, rfl, e⟩
      · cases hg
    · cases hg

/-! ### Slices whose elements hold slices, read alone -/
theorem ro_of_reads {w : World} {kd : List Kd} {y : Value} {xs : List (List Value)} (hk : 0 < kd.length) (h : Reads w kd y xs) : isRo (envOf w) kd xs false y := by
  obtain ⟨a, c, e, h1, h2, h3, h4⟩ := h
  refine ⟨a, c, e, h1, (fun h => by cases h), h2, h3, ?_⟩
  rcases h4 with h4 | ⟨g, off, ha, hc⟩
  · exact .inl h4
  · rcases Nat.eq_zero_or_pos xs.length with h0 | h0
    · exact .inl (List.eq_nil_of_length_eq_zero h0)
    · refine .inr ⟨g, off, ha, envOf_fixed.2 ?_, hc⟩
      have hfl := flatten_length (fun x hx => (h3 x hx).length)
      have hpos : 0 < xs.flatten.length := by rw [hfl]; exact Nat.mul_pos h0 hk
      have h5 := hc 0 _ (List.getElem?_eq_getElem hpos)
      exact World.block_lt_of_cell? w ⟨g, off + 0, none⟩ h5
theorem RdP.ro {w : World} {sz : Nat} {v : Value} {n : Nat} {ys : List Value} (h0 : 0 < sz) (h : RdP w sz v n ys) : RoP (envOf w) sz v n ys := by
  obtain ⟨hl, a, c, e, h1, h2, h3⟩ := h
  refine ⟨hl, a, c, e, h1, h2, ?_⟩
  rcases Nat.eq_zero_or_pos n with hn | hn
  · exact .inl hn
  · obtain ⟨b, off, ha, hc⟩ := h3 hn
    refine .inr ⟨b, off, ha, envOf_fixed.2 ?_, hc⟩
    have hpos : 0 < ys.length := by rw [hl]; exact Nat.mul_pos hn h0
    have h5 := hc 0 _ (List.getElem?_eq_getElem hpos)
    exact World.block_lt_of_cell? w ⟨b, off + 0, none⟩ h5
theorem rof_add {w : World} {ρ0 : Rho} {h0 : List Blk} (D0 : DH (envOf w) ρ0 h0 w) {kf : List Kf} {css : List (List (List (List Value)))} {y : Value} {ys : List Value} (F : RofY (envOf w) kf css ys) (R : RdP w kf.length y css.length ys) :
    ∃ ρ1, Ext ρ0 ρ1 ∧ DV ρ1 (.row (h0.length + 1)) y ∧ DH (envOf w) ρ1 (h0 ++ [.rfm kf css, .rof h0.length]) w := by
  have A := D0.addRo (b := .rfm kf css) (l := ⟨kf.length, .tuple ys.toArray⟩) ⟨_, upd_same _ _, rfl, ys.toArray, rfl, by simpa using F⟩ (fun _ _ _ h => h)
  have hl : (h0 ++ [Blk.rfm kf css]).length = h0.length + 1 := by simp
  have hx := upd_ext (l := ⟨kf.length, y⟩) (A.2.fresh _ (Nat.le_refl _))
  have B := A.2.addRo (b := .rof h0.length) (l := ⟨kf.length, y⟩) ⟨_, _, upd_same _ _, hx _ _ (upd_same _ _), rfl, F.pos, ys.toArray, css.length, rfl, by simpa using R.ro F.pos⟩ (fun _ _ _ h => h)
  refine ⟨_, A.1.trans B.1, ?_, by simpa [List.append_assoc] using B.2⟩
  obtain ⟨_, a, c, e, _⟩ := R
  simp only [DV]
  exact ⟨_, a, _, c, by rw [← hl]; exact upd_same _ _, rfl, e⟩
theorem FamY.rof {w : World} {kf : List Kf} {css : List (List (List (List Value)))} {ys : List Value} (F : FamY w kf css none ys) : RofY (envOf w) kf css ys := by
  refine ⟨F.pos, F.len, F.els, fun k o q c y h1 h2 h3 h4 => ?_⟩
  have hc := F.cell k o q c y h1 h2 h3 h4
  cases q with
  | k q => exact hc
  | sl el kd =>
    obtain ⟨hw, ho⟩ := hc.2.2 (by simp)
    exact ⟨hc.2.1, ro_of_reads hc.2.1 (reads_of_own hw ho)⟩
/-- What lies in the cells that are others. -/
def excC (h : List Blk) (kf : List Kf) : List (Nat × Nat × SV) → Option (List (Nat × Nat × List (List Value)))
  | [] => some []
  | (k, o, s) :: l => match kf[o]? with
    | some (.sl _ kd) => (viewS kd s h).bind fun xs => (excC h kf l).bind fun r => some ((k, o, xs) :: r)
    | _ => none
def derC (css : List (List (List (List Value)))) : List (Nat × Nat × List (List Value)) → List (List (List (List Value)))
  | [] => css
  | e :: l => (derC css l).set e.1 (((derC css l).getD e.1 []).set e.2.1 e.2.2)
theorem derC_len (css : List (List (List (List Value)))) : ∀ l, (derC css l).length = css.length
  | [] => rfl
  | e :: l => by unfold derC; rw [List.length_set, derC_len css l]
theorem getD_set' {α : Type} {l : List α} {c j : Nat} {v d : α} : (l.set c v).getD j d = if j = c ∧ c < l.length then v else l.getD j d := by
  rw [List.getD_eq_getElem?_getD, List.getElem?_set]
  by_cases h : j = c
  · subst h
    by_cases h2 : j < l.length
    · simp [h2]
    · simp [h2, List.getD_eq_getElem?_getD]
  · rw [if_neg (Ne.symm h), if_neg (fun hh => h hh.1), List.getD_eq_getElem?_getD]
theorem derC_els {n : Nat} {css : List (List (List (List Value)))} (h : ∀ x ∈ css, x.length = n) : ∀ l, ∀ x ∈ derC css l, x.length = n
  | [], x, hx => h x hx
  | e :: l, x, hx => by
    unfold derC at hx
    rcases List.mem_or_eq_of_mem_set hx with hx | rfl
    · exact derC_els h l x hx
    · rw [List.length_set]
      by_cases hk : e.1 < (derC css l).length
      · rw [List.getD_eq_getElem?_getD, List.getElem?_eq_getElem hk]; exact derC_els h l _ (List.getElem_mem _)
      · rw [List.set_eq_of_length_le (by omega)] at hx
        have := derC_els h l _ hx
        rwa [List.length_set] at this
/-- A cell is of those that are others, or it is as it was. -/
theorem derC_cell {css : List (List (List (List Value)))} : ∀ (l : List (Nat × Nat × List (List Value))) (k o : Nat) (c : List (List Value)), k < css.length → ((derC css l).getD k [])[o]? = some c → (∃ e ∈ l, e.1 = k ∧ e.2.1 = o ∧ e.2.2 = c) ∨ ((∀ e ∈ l, ¬ (e.1 = k ∧ e.2.1 = o)) ∧ (css.getD k [])[o]? = some c)
  | [], k, o, c, _, h => .inr ⟨fun e he => (by cases he), h⟩
  | e :: l, k, o, c, hk, h => by
    unfold derC at h
    rw [getD_set', derC_len] at h
    by_cases hek : k = e.1 ∧ e.1 < css.length
    · rw [if_pos hek] at h
      rw [List.getElem?_set] at h
      by_cases heo : e.2.1 = o
      · rw [if_pos heo] at h
        split at h
        · cases h; exact .inl ⟨e, by simp, hek.1.symm, heo, rfl⟩
        · cases h
      · rw [if_neg heo, ← hek.1] at h
        rcases derC_cell l k o c hk h with ⟨e', h1, h2⟩ | ⟨h1, h2⟩
        · exact .inl ⟨e', by simp [h1], h2⟩
        · refine .inr ⟨fun e' he' => ?_, h2⟩
          rcases List.mem_cons.1 he' with rfl | he'
          · exact fun hh => heo hh.2
          · exact h1 e' he'
    · rw [if_neg hek] at h
      rcases derC_cell l k o c hk h with ⟨e', h1, h2⟩ | ⟨h1, h2⟩
      · exact .inl ⟨e', by simp [h1], h2⟩
      · refine .inr ⟨fun e' he' => ?_, h2⟩
        rcases List.mem_cons.1 he' with rfl | he'
        · exact fun hh => hek ⟨hh.1.symm, by rw [hh.1]; exact hk⟩
        · exact h1 e' he'

theorem excC_mem {h : List Blk} {kf : List Kf} : ∀ {exc : List (Nat × Nat × SV)} {l : List (Nat × Nat × List (List Value))}, excC h kf exc = some l →
    (∀ e' ∈ l, ∃ e ∈ exc, e.1 = e'.1 ∧ e.2.1 = e'.2.1 ∧ ∃ el kd, kf[e.2.1]? = some (.sl el kd) ∧ viewS kd e.2.2 h = some e'.2.2) ∧ ∀ e ∈ exc, ∃ e' ∈ l, e.1 = e'.1 ∧ e.2.1 = e'.2.1
  | [], l, hl => by
    cases hl
    exact ⟨fun e he => (by cases he), fun e he => (by cases he)⟩
  | e :: exc, l, hl => by
    unfold excC at hl
    split at hl
    · rename_i el kd hk
      simp only [Option.bind_eq_some_iff, Option.some.injEq] at hl
      obtain ⟨xs, hx, r, hr, rfl⟩ := hl
      obtain ⟨h1, h2⟩ := excC_mem hr
      refine ⟨fun e' he' => ?_, fun e' he' => ?_⟩
      · rcases List.mem_cons.1 he' with rfl | he'
        · exact ⟨e, by simp, rfl, rfl, el, kd, hk, hx⟩
        · obtain ⟨e0, h3, h4⟩ := h1 e' he'; exact ⟨e0, by simp [h3], h4⟩
      · rcases List.mem_cons.1 he' with rfl | he'
        · exact ⟨_, List.mem_cons_self .., rfl, rfl⟩
        · obtain ⟨e0, h3, h4⟩ := h2 e' he'; exact ⟨e0, by simp [h3], h4⟩
    · cases hl
theorem DerY.rof {E : Env} {ρ : Rho} {h : List Blk} {w : World} (D : DH E ρ h w) {kf : List Kf} {exc : List (Nat × Nat × SV)} {l : List (Nat × Nat × List (List Value))} {css : List (List (List (List Value)))} {ys zs : List Value} (Y : DerY ρ kf exc ys zs) (F : FamY w kf css none zs) (hl : excC h kf exc = some l) : RofY (envOf w) kf (derC css l) ys := by
  obtain ⟨m1, m2⟩ := excC_mem hl
  refine ⟨F.pos, by rw [derC_len]; exact Y.len.trans F.len, derC_els F.els l, fun k o q c y h1 h2 h3 h4 => ?_⟩
  rw [derC_len] at h1
  have ho := (List.getElem?_eq_some_iff.1 h2).1
  have hle : (k + 1) * kf.length ≤ css.length * kf.length := Nat.mul_le_mul_right _ h1
  rw [Nat.add_mul, Nat.one_mul] at hle
  have hel : (css.getD k []).length = kf.length := F.els _ (by rw [List.getD_eq_getElem?_getD, List.getElem?_eq_getElem h1]; exact List.getElem_mem _)
  obtain ⟨z, hz⟩ : ∃ z, zs[k * kf.length + o]? = some z := ⟨_, List.getElem?_eq_getElem (by rw [F.len]; omega)⟩
  obtain ⟨c0, hc0⟩ : ∃ c0, (css.getD k [])[o]? = some c0 := ⟨_, List.getElem?_eq_getElem (by omega)⟩
  have hbase := F.cell k o q c0 z h1 h2 hc0 hz
  rcases derC_cell l k o c h1 h3 with ⟨e', he', e1, e2, e3⟩ | ⟨hno, hc⟩
  · obtain ⟨e, he, f1, f2, el, kd, hk, hv⟩ := m1 e' he'
    obtain ⟨y', hy', hd⟩ := Y.exc e he
    rw [f1, f2, e1, e2, h4] at hy'
    cases hy'
    rw [f2, e2, h2] at hk
    cases hk
    rw [e3] at hv
    exact ⟨hbase.2.1, ro_of_reads hbase.2.1 (view_ok D hv hd)⟩
  · have hs : ys[k * kf.length + o]? = zs[k * kf.length + o]? := Y.same _ fun e he hh => by
      obtain ⟨e', he', f1, f2⟩ := m2 e he
      have g1 := flat_ix (k := e.1) (Y.lt e he)
      have g2 := flat_ix (k := k) ho
      have i1 : e.2.1 = o := by rw [← g1.1, ← g2.1, hh]
      have i2 : e.1 = k := by rw [← g1.2, ← g2.2, hh]
      exact hno e' he' ⟨by rw [← f1, i2], by rw [← f2, i1]⟩
    rw [h4] at hs
    exact F.rof.cell k o q c y h1 h2 hc hs.symm
theorem rof_fact {E : Env} {kf : List Kf} {css : List (List (List (List Value)))} {ys : List Value} (F : RofY E kf css ys) : ∀ x ∈ css, x.length = kf.length ∧ ∀ o e kd, kf[o]? = some (.sl e kd) → (∀ y ∈ x.getD o [], Wk kd y) ∧ (x.getD o []).length ≤ maxLen := fun x hx => ⟨F.els x hx, fun o e kd ho => by
  obtain ⟨k, hk, rfl⟩ := List.getElem_of_mem hx
  have hl := F.els _ hx
  have ho' : o < kf.length := (List.getElem?_eq_some_iff.1 ho).1
  have hy : k * kf.length + o < ys.length := by
    rw [F.len]
    have : (k + 1) * kf.length ≤ css.length * kf.length := Nat.mul_le_mul_right _ hk
    rw [Nat.add_mul] at this; omega
  have ex : css.getD k [] = css[k] := by simp [List.getD, List.getElem?_eq_getElem hk]
  have hc := F.cell k o (.sl e kd) (css[k].getD o []) ys[k * kf.length + o] hk ho (by rw [ex, List.getElem?_eq_getElem (by omega)]; simp [List.getD, List.getElem?_eq_getElem (show o < css[k].length by omega)]) (List.getElem?_eq_getElem hy)
  obtain ⟨_, _, _, _, _, _, h5, h6, _⟩ := hc
  exact ⟨h6, h5⟩⟩
def rofGet (kf : List Kf) (h : List Blk) (s : SV) : Option (List (List (List (List Value)))) := match s with
  | .row i => match famAt h i with
    | some (_, _, kf', css, none) => cond (kfEq kf' kf) (some css) none
    | _ => match rfmAt h i with
      | some (_, kf', css) => cond (kfEq kf' kf) (some css) none
      | none => match derAt h i with
        | some (_, _, _, g0, kf', exc) => cond (kfEq kf' kf) (match h[g0]? with
          | some (.fam kf2 css none) => cond (kfEq kf2 kf) ((excC h kf exc).map (derC css)) none
          | _ => none) none
        | none => none
  | .v (.slice none 0 0) => cond (Nat.ble 1 kf.length) (some []) none
  | _ => none
theorem rofGet_ok {kf : List Kf} {h : List Blk} {s : SV} {css : List (List (List (List Value)))} (hg : rofGet kf h s = some css) {E : Env} {ρ : Rho} {w : World} {y : Value} (D : DH E ρ h w) (hd : DV ρ s y) :
    ∃ ys, RofY (envOf w) kf css ys ∧ RdP w kf.length y css.length ys := by
  unfold rofGet at hg
  split at hg
  · rename_i i
    simp only [DV] at hd
    obtain ⟨p0, a, n, c, hp0, rfl, _⟩ := hd
    split at hg
    · rename_i el g kf' css' hf
      obtain ⟨hk, hg⟩ := cond_some2 hg
      cases hg
      have := kfEq_eq hk
      subst this
      obtain ⟨p, q, hp, hq, hpb, hqb, hpos, ys, hqv, F, hO⟩ := fam_own D hf
      rw [hp] at hp0; cases hp0
      exact ⟨_, F.rof, hO.rd⟩
    · split at hg
      · rename_i g kf' css' hf
        obtain ⟨hk, hg⟩ := cond_some2 hg
        cases hg
        have := kfEq_eq hk
        subst this
        obtain ⟨p, q, hp, hq, hpb, hqb, ys, hqv, F, R⟩ := rfm_rd D hf
        rw [hp] at hp0; cases hp0
        exact ⟨_, F.base fun n hn => ⟨envOf_fixed.2 (fixed_lt D hn), D.old n hn⟩, R⟩
      · split at hg
        · rename_i el g n' g0 kf' exc hf
          obtain ⟨hk, hg⟩ := cond_some2 hg
          have := kfEq_eq hk
          subst this
          split at hg
          · rename_i kf2 css' hg0
            obtain ⟨hk2, hg⟩ := cond_some2 hg
            have := kfEq_eq hk2
            subst this
            obtain ⟨l, hl, rfl⟩ := Option.map_eq_some_iff.1 hg
            obtain ⟨h1, h2, p, q, q0, hp, hq, hq0, hpb, hqb, hq0b, hpos, ys, zs, hv, hv0, hlen, Y, hO⟩ := der_own D hf
            rw [hp] at hp0; cases hp0
            obtain ⟨q', k1, _, zs', k2, F⟩ := D.ok g0 _ hg0
            rw [hq0] at k1; cases k1
            rw [hv0] at k2; cases k2
            have hn : n' = (derC css' l).length := by
              rw [derC_len]
              have a := hlen
              rw [Y.len, F.len] at a
              exact (Nat.eq_of_mul_eq_mul_right F.pos a).symm
            rw [← hn]
            exact ⟨_, Y.rof D F hl, hO.rd⟩
          · cases hg
        · cases hg
  · obtain ⟨hk, hg⟩ := cond_some2 hg
    cases hg
    have hk := Nat.le_of_ble_eq_true hk
    simp only [DV] at hd
    subst hd
    exact ⟨[], ⟨hk, by simp, fun x hx => (by cases hx), fun k o q c y hh => by simp at hh⟩, by simp, none, 0, rfl, Nat.le_refl _, Nat.zero_le _, fun hh => by simp at hh⟩
  · cases hg
/-- A slice whose elements hold slices, read alone. -/
def Par.rof (kf : List Kf) : Par (List (List (List (List Value)))) where
  get h s := rofGet kf h s
  put n css := (.row (n + 1), [.rfm kf css, .rof n])
  fact css := (∀ x ∈ css, x.length = kf.length ∧ ∀ o e kd, kf[o]? = some (.sl e kd) → (∀ y ∈ x.getD o [], Wk kd y) ∧ (x.getD o []).length ≤ maxLen) ∧ css.length ≤ maxLen
  ok h s css hg E ρ w y D hd := by
    obtain ⟨ys, F, R⟩ := rofGet_ok hg D hd
    obtain ⟨_, _, _, _, _, hm, _⟩ := id R
    exact ⟨⟨rof_fact F, hm⟩, fun ρ0 h0 D0 => rof_add D0 F R⟩

/-- A slice of which the length alone matters. -/
def Par.opq : Par Nat where
  get h s := lenGet h s
  put n m := (.row n, [.opq m])
  fact m := m ≤ maxLen
  ok h s m hg E ρ w y D hd := by
    obtain ⟨a, c, e, h1, h2⟩ := lenGet_ok hg D hd
    refine ⟨h2, fun ρ0 h0 D0 => ?_⟩
    have A := D0.addRo (b := .opq m) (l := ⟨0, y⟩) ⟨_, a, c, upd_same _ _, e, h1, h2⟩ (fun _ _ _ h => h)
    exact ⟨_, A.1, by simp only [DV]; exact ⟨_, a, m, c, upd_same _ _, rfl, e⟩, A.2⟩
end Go.Eng
