/- The engine: slices that share cells with a family, and families that are read alone. No condition. -/
import Derived.Test.YtafmknblnamegaaDoorV8W
namespace Go.Eng
open Go.RowKit (Below)

section
variable {P : Program} {E : Env} {ρ : Rho} {w : World} {hp : List Blk}

/-- A slice of n elements of so many cells, that may be read. -/
def RdP (w : World) (sz : Nat) (v : Value) (n : Nat) (ys : List Value) : Prop :=
  ys.length = n * sz ∧ ∃ a c, v = .slice a n c ∧ n ≤ c ∧ n ≤ maxLen ∧ (0 < n → ∃ b off, a = some ⟨b, off, none⟩ ∧ ∀ j u, ys[j]? = some u → w.cell? ⟨b, off + j, none⟩ = some u)
theorem OwnP.rd {e : TypeId} {sz : Nat} {v : Value} {n : Nat} {xs : List Value} (h : OwnP w e sz v n xs) : RdP w sz v n xs := by
  obtain ⟨a, c, e1, h1, h2, _⟩ := h.len
  refine ⟨h.1, a, c, e1, h1, h2, fun hn => ?_⟩
  obtain ⟨g, off, c', e2, hc⟩ := h.cell hn
  rw [e1] at e2; cases e2
  exact ⟨g, off, rfl, hc⟩
theorem RoP.rd {sz : Nat} {v : Value} {n : Nat} {ys : List Value} (h : RoP E sz v n ys) (D : DH E ρ hp w) : RdP w sz v n ys := by
  obtain ⟨h0, a, c, e1, h1, h2, h3⟩ := h
  refine ⟨h0, a, c, e1, h1, h2, fun hn => ?_⟩
  rcases h3 with h3 | ⟨b, off, h4, h5, h6⟩
  · omega
  · refine ⟨b, off, h4, fun j u hj => ?_⟩
    have := h6 j u hj
    simp only [World.cell?, D.old b h5] at this ⊢
    exact this

/-- The cells that a slice has: those of which slot, of which kinds, of how many elements. -/
def tupAt (h : List Blk) (i : Nat) : Option (Nat × List Kf × Nat) := match h[i]? with
  | some (.rr _ g) => match h[g]? with
    | some (.der n _ kf _) => some (g, kf, n)
    | some (.rfm kf css) => some (g, kf, css.length)
    | _ => none
  | some (.rof g) => match h[g]? with
    | some (.rfm kf css) => some (g, kf, css.length)
    | _ => none
  | _ => none
theorem tup_rd (D : DH E ρ hp w) {i g n : Nat} {kf : List Kf} (h : tupAt hp i = some (g, kf, n)) :
    ∃ p q, ρ i = some p ∧ ρ g = some q ∧ p.block = kf.length ∧ q.block = kf.length ∧ 0 < kf.length ∧ ∃ ys : Array Value, q.val = .tuple ys ∧ RdP w kf.length p.val n ys.toList := by
  unfold tupAt at h
  split at h
  · rename_i el g' hi
    obtain ⟨p, q, h1, h2, h3, h4, ys, m, h5, h6⟩ := D.ok i _ hi
    split at h
    · rename_i n' g0 kf' exc hg
      cases h
      obtain ⟨q', q0, k1, k2, k3, k4, k5, zs, zs0, k6, k7, k8, _⟩ := D.ok g _ hg
      rw [h2] at k1; cases k1
      rw [h5] at k6; cases k6
      have hn : m = n := by
        have a := h6.1
        rw [h3, k3, k8] at a
        exact (Nat.eq_of_mul_eq_mul_right k5 a).symm
      subst hn
      rw [h3, k3] at h6
      exact ⟨p, q, h1, h2, h3.trans k3, k3, k5, ys, h5, h6.rd⟩
    · rename_i kf' css hg
      cases h
      obtain ⟨q', k1, k3, zs, k6, F⟩ := D.ok g _ hg
      rw [h2] at k1; cases k1
      rw [h5] at k6; cases k6
      have hn : m = css.length := by
        have a := h6.1
        rw [h3, k3, F.len] at a
        exact (Nat.eq_of_mul_eq_mul_right F.pos a).symm
      subst hn
      rw [h3, k3] at h6
      exact ⟨p, q, h1, h2, h3.trans k3, k3, F.pos, ys, h5, h6.rd⟩
    · cases h
  · rename_i g' hi
    obtain ⟨p, q, h1, h2, h3, h4, ys, m, h5, h6⟩ := D.ok i _ hi
    split at h
    · rename_i kf' css hg
      cases h
      obtain ⟨q', k1, k3, zs, k6, F⟩ := D.ok g _ hg
      rw [h2] at k1; cases k1
      rw [h5] at k6; cases k6
      have hn : m = css.length := by
        have a := h6.1
        rw [h3, k3, F.len] at a
        exact (Nat.eq_of_mul_eq_mul_right F.pos a).symm
      subst hn
      rw [h3, k3] at h6
      exact ⟨p, q, h1, h2, h3.trans k3, k3, F.pos, ys, h5, h6.rd D⟩
    · cases h
  · cases h

variable {o : Oper} {e : Operand → SV} {ev : Operand → Value} {nx : Nat} {r : Res}

/-- What the builtin len answers of a slice. -/
theorem len_went {c : Call} {x : Operand} {t el : TypeId} (ho : o.op = .call c) (hc : c.callee = .builtin .len) (ha : c.args.toList = [x]) (ht : c.argTypes.toList = [t]) (hu : P.underlying t = some (.slice el)) (D : DH E ρ hp w)
    {a : Option Addr} {n m : Nat} (he : ev x = .slice a n m) (hn : n ≤ maxLen) : Went P E ρ hp w o ev ⟨[], .i .i64 (n : Int) 0 9223372036854775807, []⟩ := by
  have hM : maxLen = 9223372036854775807 := by decide
  refine went_pure D (y := .int .i64 n) ?_ (by simp only [DV]; exact ⟨trivial, by omega, by omega⟩)
  refine builtin_run ho hc ?_
  rw [toList_one ha]
  have e2 : c.argTypes = #[t] := toList_one ht
  simp only [builtin, List.map_toArray, List.map_cons, List.map_nil, Sem.run_bind, e2]
  rw [he]
  have := len_slice_run (P := P) hu a n m w
  simp only [Builtin.len_] at this ⊢
  rw [this]
  rfl
def lenV (P : Program) (t : TypeId) (s : SV) (h : List Blk) : Option Res := match P.underlying t with
  | some (.slice _) => match s with
    | .row i => match tupAt h i with
      | some (_, _, n) => ret (.i .i64 (n : Int) 0 9223372036854775807)
      | none => match h[i]? with
        | some (.opq n) => ret (.i .i64 (n : Int) 0 9223372036854775807)
        | _ => none
    | _ => none
  | _ => none
theorem ok_lenV {c : Call} {x : Operand} {t : TypeId} (ho : o.op = .call c) (hc : c.callee = .builtin .len) (ha : c.args.toList = [x]) (ht : c.argTypes.toList = [t]) (h : lenV P t (e x) hp = some r) (EV : ∀ x, DV ρ (e x) (ev x)) (D : DH E ρ hp w) : Went P E ρ hp w o ev r := by
  have hv := EV x
  unfold lenV at h
  split at h
  · rename_i el hu
    split at h
    · rename_i i hx
      rw [hx] at hv
      simp only [DV] at hv
      obtain ⟨p, a, n, m, hp', hv, hs⟩ := hv
      split at h
      · rename_i g kf n' hf
        cases h
        obtain ⟨p2, q, h1, hq, hpb, hqb, hpos, ys, hqv, h0, a2, c2, e2, _, hm, _⟩ := tup_rd D hf
        rw [hp'] at h1; cases h1
        exact len_went ho hc ha ht hu D (hv.trans e2) hm
      · split at h
        · rename_i n' hi
          cases h
          obtain ⟨p2, a2, c2, h1, e2, _, hm⟩ := D.ok i _ hi
          rw [hp'] at h1; cases h1
          exact len_went ho hc ha ht hu D (hv.trans e2) hm
        · cases h
    · cases h
  · cases h

theorem ok_idxV {t : TypeId} {x ix : Operand} {k : IntKind} {n : Int} {el : TypeId} {sz i g m : Nat} {kf : List Kf} {ps : List Bool} (ho : o.op = .indexAddr t x ix) (hix : ev ix = .int k n)
    (hu : P.underlying t = some (.slice el)) (hsz : szOf P el = some sz) (hk : sz = kf.length) (hf : tupAt hp i = some (g, kf, m)) (hb : 0 ≤ n ∧ n < (m : Int)) (hx : e x = .row i)
    (EV : ∀ x, DV ρ (e x) (ev x)) (D : DH E ρ hp w) : Went P E ρ hp w o ev ⟨ps, .rowp i n.toNat 0, []⟩ := by
  have hv := EV x
  rw [hx] at hv
  obtain ⟨p, q, hp', hq, hpb, hqb, hpos, ys, hqv, h0, a2, c2, e1, hle, hm, hcell⟩ := tup_rd D hf
  subst hk
  simp only [DV] at hv
  obtain ⟨p2, a, n2, c, h1, h2, _⟩ := hv
  rw [hp'] at h1; cases h1
  obtain ⟨b, off, rfl, _⟩ := hcell (by omega)
  rw [e1] at h2
  refine went_pure D (y := .pointer (some ⟨b, off + n.toNat * kf.length, none⟩)) ?_ ?_
  · simp [execOp, ho, Instr.indexAt, h2, hix, asIntOf, run_underlying hu, hb, szOf_run hsz, addr_add]
  · simp only [DV]
    exact ⟨p, b, off, _, _, hp', e1, by omega, by rw [hpb]; simp⟩

/-- A slice whose cells are those of a family, but for some. -/
def derAt (h : List Blk) (i : Nat) : Option (TypeId × Nat × Nat × Nat × List Kf × List (Nat × Nat × SV)) := match h[i]? with
  | some (.rr el g) => match h[g]? with
    | some (.der n g0 kf exc) => some (el, g, n, g0, kf, exc)
    | _ => none
  | _ => none
theorem der_own (D : DH E ρ hp w) {i g n g0 : Nat} {el : TypeId} {kf : List Kf} {exc : List (Nat × Nat × SV)} (h : derAt hp i = some (el, g, n, g0, kf, exc)) :
    hp[i]? = some (.rr el g) ∧ hp[g]? = some (.der n g0 kf exc) ∧ ∃ p q q0, ρ i = some p ∧ ρ g = some q ∧ ρ g0 = some q0 ∧ p.block = kf.length ∧ q.block = kf.length ∧ q0.block = kf.length ∧ 0 < kf.length ∧
      ∃ ys zs : Array Value, q.val = .tuple ys ∧ q0.val = .tuple zs ∧ ys.toList.length = n * kf.length ∧ DerY ρ kf exc ys.toList zs.toList ∧ OwnP w el kf.length p.val n ys.toList := by
  unfold derAt at h
  split at h
  · rename_i el' g' hi
    split at h
    · rename_i n' g0' kf' exc' hg
      cases h
      obtain ⟨p, q, h1, h2, h3, h4, ys, m, h5, h6⟩ := D.ok i _ hi
      obtain ⟨q', q0, k1, k2, k3, k4, k5, zs, zs0, k6, k7, k8, k9⟩ := D.ok g _ hg
      rw [h2] at k1; cases k1
      rw [h5] at k6; cases k6
      have hn : m = n := by
        have a := h6.1
        rw [h3, k3, k8] at a
        exact (Nat.eq_of_mul_eq_mul_right k5 a).symm
      subst hn
      rw [h3, k3] at h6
      exact ⟨hi, hg, p, q, q0, h1, h2, k2, h3.trans k3, k3, k4, k5, ys, zs0, h5, k7, k8, k9, h6⟩
    · cases h
  · cases h
def loadD (P : Program) (t : TypeId) (i k of : Nat) (h : List Blk) (nx : Nat) : Option Res := match derAt h i, szOf P t with
  | some (_, _, _, g0, kf, exc), some 1 => match exc.find? (fun e => Nat.beq e.2.1 of) with
    | some e => (loadFrom P t [e.2.2] 0).bind fun s => some ⟨[decide (e.1 = k)], s, []⟩
    | none => match kf[of]? with
      | some (.sl _ kd) => (loadFrom P t [.row nx] 0).bind fun s => some ⟨[], s, [(nx, .ali g0 k of kd)]⟩
      | _ => none
  | _, _ => none
theorem ok_loadD {t : TypeId} {a : Operand} {i k of : Nat} (ho : o.op = .load t a) (ha : e a = .rowp i k of) (h : loadD P t i k of hp nx = some r) (hneed : allNeed r.need) (EV : ∀ x, DV ρ (e x) (ev x)) (D : DH E ρ hp w) (f : Free hp nx) : Went P E ρ hp w o ev r := by
  unfold loadD at h
  split at h
  · rename_i el g n g0 kf exc hf hn
    obtain ⟨h1, h2, p, q, q0, hp', hq, hq0, hpb, hqb, hq0b, hpos, ys, zs, hv, hv0, hlen, Y, hO⟩ := der_own D hf
    have hva := EV a
    rw [ha] at hva
    simp only [DV] at hva
    obtain ⟨p2, b, off, m, c, h3, h4, hk, h5⟩ := hva
    rw [hp'] at h3; cases h3
    obtain ⟨b', off', c', e1, hcell⟩ := hO.cell (by
      rcases hO.2 with ⟨_, e1, e2⟩ | ⟨_, _, _, _, e1, _⟩
      · rw [h4] at e1; simp only [Value.slice.injEq] at e1; omega
      · rw [h4] at e1; simp only [Value.slice.injEq] at e1; omega)
    rw [h4] at e1; cases e1
    have fin : ∀ (s : SV) (y0 : Value) (ρ' : Rho) (hp2 : List Blk) (s' : SV) (ps : List Bool) (ef : List (Nat × Blk)), ys.toList[k * kf.length + of]? = some y0 → DV ρ' s y0 → Ext ρ ρ' → DH E ρ' (applyEff ef hp) w → loadFrom P t [s] 0 = some s' → r = ⟨ps, s', ef⟩ → Went P E ρ hp w o ev r := by
      rintro s y0 ρ' hp2 s' ps ef hy hd hx D' hs rfl
      obtain ⟨y, hy, hdv⟩ := loadFrom_cells (P := P) (w := w) (b := b) (z := off + (k * kf.length + of)) (o := 0) hs (vs := [y0]) (fun j u hu => by
        cases j with
        | zero => simp only [List.getElem?_cons_zero, Option.some.injEq] at hu; subst hu; exact hcell _ _ hy
        | succ j => simp at hu) (DL.cons hd DL.nil)
      refine ⟨y, w, ρ', .inl ?_, hx, hdv, D'⟩
      rw [hpb] at h5
      rw [Nat.add_zero, ← Nat.add_assoc] at hy
      simp [execOp, ho, Instr.loadAt, h5, sureAddr_run, hy]
    split at h
    · rename_i x hx
      simp only [Option.bind_eq_some_iff, Option.some.injEq] at h
      obtain ⟨s', hs, rfl⟩ := h
      have hxm := List.mem_of_find?_eq_some hx
      have hxo := List.find?_some hx
      have hxo := Nat.eq_of_beq_eq_true hxo
      have hxk : x.1 = k := of_decide_eq_true hneed.1
      obtain ⟨y0, hy, hd⟩ := Y.exc x hxm
      rw [hxk, hxo] at hy
      exact fin _ y0 ρ hp s' _ [] hy hd (Ext.refl _) D hs rfl
    · rename_i hx
      split at h
      · rename_i e' kd hko
        simp only [Option.bind_eq_some_iff, Option.some.injEq] at h
        obtain ⟨s', hs, rfl⟩ := h
        have hof := (List.getElem?_eq_some_iff.1 hko).1
        have hno : ∀ x ∈ exc, x.1 * kf.length + x.2.1 ≠ k * kf.length + of := fun x hxm hh => by
          have h1 := flat_ix (k := x.1) (Y.lt x hxm)
          have h2 := flat_ix (k := k) hof
          have : x.2.1 = of := by rw [← h1.1, ← h2.1, hh]
          have hne := List.find?_eq_none.1 hx x hxm
          exact hne (by rw [this]; exact Nat.beq_refl of)
        have hsm := Y.same _ hno
        have hkn : (k + 1) * kf.length ≤ n * kf.length := Nat.mul_le_mul_right _ (by
          rcases hO.2 with ⟨_, e1, e2⟩ | ⟨_, _, _, _, e1, _⟩
          · rw [h4] at e1; simp only [Value.slice.injEq] at e1; omega
          · rw [h4] at e1; simp only [Value.slice.injEq] at e1; omega)
        rw [Nat.add_mul, Nat.one_mul] at hkn
        obtain ⟨y0, hy⟩ : ∃ y, ys.toList[k * kf.length + of]? = some y := ⟨_, List.getElem?_eq_getElem (by omega)⟩
        rw [hy] at hsm
        obtain ⟨a0, n0, c0, he⟩ := Y.slc _ y0 (by rw [(flat_ix hof).1]; simp [isSl, hko]) hsm.symm
        have D1 := D.newAli (kd := kd) (o := of) (k := k) (g := g0) (f.to1 (m := 1) (by omega)) hq0 hv0 (by rw [hq0b]; exact hsm.symm)
        have hxx := upd_ext (l := ⟨kd.length, y0⟩) ((f.to1 (m := 1) (by omega)).none D)
        exact fin (.row nx) y0 _ hp s' [] [(nx, .ali g0 k of kd)] hy (by simp only [DV]; exact ⟨_, a0, n0, c0, upd_same _ _, rfl, he⟩) hxx D1 hs rfl
      · cases h
  · cases h

/-- The family that a slice's cells come from, and where they are others. -/
def baseAt (h : List Blk) (i : Nat) : Option (TypeId × Nat × Nat × List Kf × List (Nat × Nat × SV)) := match h[i]? with
  | some (.rr el g) => match h[g]? with
    | some (.der n g0 kf exc) => some (el, n, g0, kf, exc)
    | some (.fam kf css none) => some (el, css.length, g, kf, [])
    | _ => none
  | _ => none
theorem FamY.slc {kf : List Kf} {css : List (List (List (List Value)))} {lent : Option Nat} {ys : List Value} (F : FamY w kf css lent ys) (j : Nat) (y : Value) (hs : isSl kf (j % kf.length) = true) (hy : ys[j]? = some y) : ∃ a n c, y = .slice a n c := by
  have hlt := (List.getElem?_eq_some_iff.1 hy).1
  rw [F.len] at hlt
  have hpos := F.pos
  have hm := Nat.mod_lt j hpos
  have hk : j / kf.length < css.length := by rw [Nat.div_lt_iff_lt_mul hpos]; exact hlt
  have hel := F.els (css.getD (j / kf.length) []) (by rw [List.getD_eq_getElem?_getD, List.getElem?_eq_getElem hk]; exact List.getElem_mem _)
  have e : j / kf.length * kf.length + j % kf.length = j := by rw [Nat.mul_comm]; exact Nat.div_add_mod j _
  unfold isSl at hs
  split at hs
  · rename_i el kd hq
    obtain ⟨c, hc⟩ : ∃ c, (css.getD (j / kf.length) [])[j % kf.length]? = some c := ⟨_, List.getElem?_eq_getElem (by omega)⟩
    exact (F.cell (j / kf.length) (j % kf.length) _ c y hk hq hc (by rw [e]; exact hy)).1
  · cases hs
theorem base_own (D : DH E ρ hp w) {i n g0 : Nat} {el : TypeId} {kf : List Kf} {exc : List (Nat × Nat × SV)} (h : baseAt hp i = some (el, n, g0, kf, exc)) :
    ∃ g p q0, hp[i]? = some (.rr el g) ∧ ρ i = some p ∧ ρ g0 = some q0 ∧ p.block = kf.length ∧ q0.block = kf.length ∧ 0 < kf.length ∧
      ∃ ys zs : Array Value, q0.val = .tuple zs ∧ ys.toList.length = n * kf.length ∧ DerY ρ kf exc ys.toList zs.toList ∧ OwnP w el kf.length p.val n ys.toList := by
  have h0 := h
  unfold baseAt at h
  split at h
  · rename_i el' g' hi
    split at h
    · rename_i n' g0' kf' exc' hg
      cases h
      have hd : derAt hp i = some (el, g', n, g0, kf, exc) := by unfold derAt; rw [hi]; simp only [hg]
      obtain ⟨h1, h2, p, q, q0, hp', hq, hq0, hpb, hqb, hq0b, hpos, ys, zs, hv, hv0, hlen, Y, hO⟩ := der_own D hd
      exact ⟨g', p, q0, h1, hp', hq0, hpb, hq0b, hpos, ys, zs, hv0, hlen, Y, hO⟩
    · rename_i kf' css hg
      cases h
      have hf : famAt hp i = some (el, g0, kf, css, none) := by unfold famAt; rw [hi]; simp only [hg]
      obtain ⟨p, q, hp', hq, hpb, hqb, hpos, ys, hv, F, hO⟩ := fam_own D hf
      exact ⟨g0, p, q, hi, hp', hq, hpb, hqb, hpos, ys, ys, hv, F.len, ⟨rfl, fun e he => (by cases he), fun _ _ => rfl, fun e he => (by cases he), fun j y hs hy => F.slc j y hs hy⟩, hO⟩
    · cases h
  · cases h
/-- One of the cells that are others is this now, or it is one more. -/
def setEx (k of : Nat) (x : SV) (exc : List (Nat × Nat × SV)) : List (Nat × Nat × SV) := cond (exc.any fun e => Nat.beq e.2.1 of) (exc.map fun e => cond (Nat.beq e.2.1 of) (k, of, x) e) ((k, of, x) :: exc)
theorem setEx_mem {k of : Nat} {x : SV} {exc : List (Nat × Nat × SV)} {e : Nat × Nat × SV} : e ∈ setEx k of x exc ↔ e = (k, of, x) ∨ (e ∈ exc ∧ Nat.beq e.2.1 of = false) := by
  unfold setEx
  cases ha : exc.any fun e => Nat.beq e.2.1 of with
  | true =>
    rw [cond_true, List.mem_map]
    constructor
    · rintro ⟨d, hd, rfl⟩
      cases hb : Nat.beq d.2.1 of with
      | true => exact .inl rfl
      | false => exact .inr ⟨hd, hb⟩
    · rintro (rfl | ⟨h1, h2⟩)
      · obtain ⟨d, hd, hb⟩ := List.any_eq_true.1 ha
        exact ⟨d, hd, by rw [hb]; rfl⟩
      · exact ⟨e, h1, by rw [h2]; rfl⟩
  | false =>
    rw [cond_false, List.mem_cons]
    refine ⟨fun h => h.imp id fun h => ⟨h, ?_⟩, fun h => h.imp id fun h => h.1⟩
    have := List.any_eq_false.1 ha e h
    cases hb : Nat.beq e.2.1 of with
    | false => rfl
    | true => rw [hb] at this; exact absurd rfl this
def storeD (P : Program) (t : TypeId) (i k of : Nat) (x : SV) (h : List Blk) (nx : Nat) : Option Res := match baseAt h i, szOf P t, cellsSV x with
  | some (el, n, g0, kf, exc), some 1, some [x1] => cond (decide (of < kf.length) && (isSl kf of && oneSV x1))
      (some ⟨(exc.filter fun e => Nat.beq e.2.1 of).map fun e => decide (e.1 = k), .v undef, [(nx, .der n g0 kf (setEx k of x1 exc)), (i, .rr el nx)]⟩) none
  | _, _, _ => none
theorem allNeed_mem {l : List Bool} (h : allNeed l) : ∀ b ∈ l, b = true := by
  induction l with
  | nil => intro b hb; cases hb
  | cons a l ih =>
    intro b hb
    rcases List.mem_cons.1 hb with rfl | hb
    · exact h.1
    · exact ih h.2 b hb
theorem ok_storeD {t : TypeId} {a x : Operand} {i k of : Nat} (ho : o.op = .store t a x) (ha : e a = .rowp i k of) (h : storeD P t i k of (e x) hp nx = some r) (hneed : allNeed r.need) (EV : ∀ x, DV ρ (e x) (ev x)) (D : DH E ρ hp w) (f : Free hp nx) : Went P E ρ hp w o ev r := by
  unfold storeD at h
  split at h
  · rename_i el n g0 kf exc x1 hf hn hxs
    obtain ⟨hc, rfl⟩ := cond_some h
    simp only [Bool.and_eq_true, decide_eq_true_eq] at hc
    obtain ⟨hof, hsl, hone⟩ := hc
    obtain ⟨g, p, q0, h1, hp', hq0, hpb, hq0b, hpos, ys, zs, hv0, hlen, Y, hO⟩ := base_own D hf
    have hva := EV a
    rw [ha] at hva
    simp only [DV] at hva
    obtain ⟨p2, b, off, m, c, h3, h4, hk, h5⟩ := hva
    rw [hp'] at h3; cases h3
    have hmk : m = n := by
      rcases hO.2 with ⟨_, e1, e2⟩ | ⟨_, _, _, _, e1, _⟩
      · rw [h4] at e1; simp only [Value.slice.injEq] at e1; omega
      · rw [h4] at e1; simp only [Value.slice.injEq] at e1; omega
    subst hmk
    have hdl := cellsSV_DV hxs (EV x)
    have hdl0 := hdl
    simp only [DL] at hdl0
    obtain ⟨y1, tl, hcells, hd1, rfl⟩ := hdl0
    have hkle : (k + 1) * kf.length ≤ m * kf.length := Nat.mul_le_mul_right _ hk
    rw [Nat.add_mul, Nat.one_mul] at hkle
    have hall := allNeed_mem hneed
    obtain ⟨cur, vs, hg0, hst, hO', hsb⟩ := hO.write (P := P) h4 (by omega) (zs := (ev x).cells.toList) (pos := k * kf.length + of) (by rw [hcells]; simp only [List.length_cons, List.length_nil]; omega) (DL_all_one (by simp [hone]) hdl)
    have hpos2 : k * kf.length + of + (ev x).cells.toList.length ≤ ys.toList.length := by rw [hcells, hlen]; simp only [List.length_cons, List.length_nil]; omega
    have hl1 : (ev x).cells.toList.length = 1 := by rw [hcells]; rfl
    have hget : ∀ j, (ys.toList.take (k * kf.length + of) ++ (ev x).cells.toList ++ ys.toList.drop (k * kf.length + of + (ev x).cells.toList.length))[j]? = if j = k * kf.length + of then some y1 else ys.toList[j]? := fun j => by
      rw [splice_get ys.toList _ _ hpos2, hl1]
      by_cases hj : j = k * kf.length + of
      · subst hj
        rw [if_pos rfl, if_pos ⟨Nat.le_refl _, by omega⟩, hcells]; simp
      · rw [if_neg hj, if_neg (by omega)]
    generalize hY : ys.toList.take (k * kf.length + of) ++ (ev x).cells.toList ++ ys.toList.drop (k * kf.length + of + (ev x).cells.toList.length) = ys' at hget hO'
    have hlen' : ys'.length = ys.toList.length := by
      rw [← hY, List.length_append, List.length_append, List.length_take, List.length_drop]; omega
    have Y' : DerY ρ kf (setEx k of x1 exc) ys' zs.toList := by
      refine ⟨hlen'.trans Y.len, fun e he => ?_, fun j hj => ?_, fun e he => ?_, Y.slc⟩
      · rcases setEx_mem.1 he with rfl | he
        · exact hof
        · exact Y.lt e he.1
      · have hjp : j ≠ k * kf.length + of := fun e => hj (k, of, x1) (setEx_mem.2 (.inl rfl)) e.symm
        rw [hget, if_neg hjp]
        refine Y.same j fun e he hh => ?_
        cases hb : Nat.beq e.2.1 of with
        | true =>
          have h1 := Nat.eq_of_beq_eq_true hb
          have h2 : e.1 = k := of_decide_eq_true (hall _ (List.mem_map.2 ⟨e, List.mem_filter.2 ⟨he, hb⟩, rfl⟩))
          exact hjp (by rw [← hh, h1, h2])
        | false => exact hj e (setEx_mem.2 (.inr ⟨he, hb⟩)) hh
      · rcases setEx_mem.1 he with rfl | he
        · exact ⟨y1, by rw [hget, if_pos rfl], hd1⟩
        · obtain ⟨he, hb⟩ := he
          obtain ⟨y, hy, hd⟩ := Y.exc e he
          refine ⟨y, ?_, hd⟩
          rw [hget, if_neg fun hh => ?_]
          · exact hy
          · have h1 := flat_ix (k := e.1) (Y.lt e he)
            have h2 := flat_ix (k := k) hof
            have : e.2.1 = of := by rw [← h1.1, ← h2.1, hh]
            rw [this] at hb
            simp at hb
    have f1 : Free1 hp nx 1 := f.to1 (by omega)
    have x1' := upd_ext (l := ⟨kf.length, .tuple ys'.toArray⟩) (f1.none D)
    have D2 : DH E (upd ρ nx ⟨kf.length, .tuple ys'.toArray⟩) (putB nx (.der m g0 kf (setEx k of x1 exc)) hp) w :=
      D.newB f1 (Same.refl w) (fun _ _ => .inl rfl) ⟨_, q0, upd_same _ _, x1' _ _ hq0, rfl, hq0b, hpos, ys'.toArray, zs, rfl, hv0, by simpa using hlen'.trans hlen, by simpa using Y'.len, Y'.lt, by simpa using Y'.same, fun e he => by
        obtain ⟨y, hy, hd⟩ := Y'.exc e he
        exact ⟨y, by simpa using hy, DV.mono x1' _ _ hd⟩, Y'.slc⟩ fun n hn => hn.elim
    have hilt := (List.getElem?_eq_some_iff.1 h1).1
    have hinx : i ≠ nx := by
      rintro rfl
      rcases f with f | f
      · omega
      · have := f 0 (by omega)
        rw [Nat.add_zero, h1] at this; cases this
    have hi2 : (putB nx (.der m g0 kf (setEx k of x1 exc)) hp)[i]? = some (.rr el g) := by
      rw [putB_get f1.le, if_neg hinx]; exact h1
    have hsz : (ev x).cells.size = 1 := by rw [← Array.length_toList]; exact hl1
    have hrun : (storeVar t ⟨b, off + (k * kf.length + of), none⟩ (ev x)).run P w = .ok () (w.setRow b vs) := by
      simp only [storeVar, Sem.run_bind, szOf_run hn, Result.andThen_ok, hsz, ne_eq, not_true, if_false]
      exact hst
    have htk : takes ρ i (.rr el g) b := ⟨p, hp', hsb⟩
    have htk2 := takes.mono x1' htk
    have hOw := D2.own i _ b hi2 htk2
    refine ⟨undef, w.setRow b vs, _, .inr ⟨?_, rfl⟩, x1', by simp [DV], ?_⟩
    · simp only [execOp, ho, Instr.storeAt, h5, Sem.run_bind, sureAddr_run, Result.andThen_ok, hpb, Nat.add_assoc, hrun]
      rfl
    · refine D2.put i (.rr el nx) (Nat.le_of_lt (List.getElem?_eq_some_iff.1 hi2).1) (Ext.refl _) (fun _ _ h => h) ⟨rfl, rfl, rfl, by simp, Stat.of_other hg0 (fun _ => by simp) fun j hj => setRow_other w b j _ hj⟩
        (fun j hj => setRow_other w _ j _ (fun e => hOw.1 (e ▸ hj))) (fun j c' j' hj hc' ht => setRow_other w _ j' _ (fun e => by subst e; exact D2.apart j i c' _ _ hj hc' hi2 ht htk2)) ?_ ?_
      · exact ⟨p, _, x1' _ _ hp', upd_same _ _, hpb, by omega, _, m, rfl, by rw [hpb]; simpa using hO'⟩
      · rintro n' ⟨p3, hp3, hb3⟩
        rw [x1' _ _ hp'] at hp3; cases hp3
        rw [hsb] at hb3; cases hb3
        exact ⟨hOw.1, by simpa using hOw.2, fun j c' hj hc' ht => D2.apart j i c' _ _ hj hc' hi2 ht htk2⟩
  · cases h

/-! ### Families that are read alone -/
def rfmAt (h : List Blk) (i : Nat) : Option (Nat × List Kf × List (List (List (List Value)))) := match h[i]? with
  | some (.rr _ g) => match h[g]? with
    | some (.rfm kf css) => some (g, kf, css)
    | _ => none
  | some (.rof g) => match h[g]? with
    | some (.rfm kf css) => some (g, kf, css)
    | _ => none
  | _ => none
theorem rfm_rd (D : DH E ρ hp w) {i g : Nat} {kf : List Kf} {css : List (List (List (List Value)))} (h : rfmAt hp i = some (g, kf, css)) :
    ∃ p q, ρ i = some p ∧ ρ g = some q ∧ p.block = kf.length ∧ q.block = kf.length ∧ ∃ ys : Array Value, q.val = .tuple ys ∧ RofY E kf css ys.toList ∧ RdP w kf.length p.val css.length ys.toList := by
  have ht : tupAt hp i = some (g, kf, css.length) := by
    unfold rfmAt at h
    unfold tupAt
    split at h
    · split at h
      · rename_i hg; cases h; simp only [hg]
      · cases h
    · split at h
      · rename_i hg; cases h; simp only [hg]
      · cases h
    · cases h
  have hg : hp[g]? = some (.rfm kf css) := by
    unfold rfmAt at h
    split at h
    · split at h
      · rename_i hg; cases h; exact hg
      · cases h
    · split at h
      · rename_i hg; cases h; exact hg
      · cases h
    · cases h
  obtain ⟨p, q, hp', hq, hpb, hqb, hpos, ys, hv, R⟩ := tup_rd D ht
  obtain ⟨q', k1, _, ys', k2, F⟩ := D.ok g _ hg
  rw [hq] at k1; cases k1
  rw [hv] at k2; cases k2
  exact ⟨p, q, hp', hq, hpb, hqb, ys, hv, F, R⟩
/-- The cells of an element, and the slots for those that are slices. -/
def rfmCells (row : List (List (List Value))) : List Kf → Nat → Nat → List SV × List (Nat × Blk)
  | [], _, _ => ([], [])
  | .k q :: r, o, nx => match rfmCells row r (o + 1) nx with
    | (s, ef) => (kdS q ((row.getD o []).getD 0 []) 0 :: s, ef)
  | .sl _ kd :: r, o, nx => match rfmCells row r (o + 1) (nx + 1) with
    | (s, ef) => (.row nx :: s, (nx, .ror kd (row.getD o []) false) :: ef)
theorem DH.newRor {m : Nat} (D : DH E ρ hp w) {nx : Nat} {kd : List Kd} {xs : List (List Value)} {full : Bool} (f : Free1 hp nx (m + 1)) {y : Value} (hk : 0 < kd.length) (h : isRo E kd xs full y) :
    DH E (upd ρ nx ⟨kd.length, y⟩) (putB nx (.ror kd xs full) hp) w :=
  D.newB f (Same.refl w) (fun _ _ => .inl rfl) ⟨_, upd_same _ _, rfl, hk, h⟩ fun n hn => hn.elim
theorem rfmCells_ok {k : Nat} {kf : List Kf} {css : List (List (List (List Value)))} {ys : List Value} (F : RofY E kf css ys) (hk : k < css.length) :
    ∀ (ks : List Kf) (o nx m : Nat) (ρ : Rho) (hp : List Blk), DH E ρ hp w → (∀ j x, ks[j]? = some x → kf[o + j]? = some x) → (rfmCells (css.getD k []) ks o nx).2.length ≤ m → Free1 hp nx m →
      ∃ ρ', Ext ρ ρ' ∧ DL ρ' (rfmCells (css.getD k []) ks o nx).1 ((ys.drop (k * kf.length + o)).take ks.length) ∧ DH E ρ' (applyEff (rfmCells (css.getD k []) ks o nx).2 hp) w
  | [], o, nx, m, ρ, hp, D, _, _, _ => ⟨ρ, Ext.refl _, by simpa [rfmCells] using DL.nil, D⟩
  | x :: ks, o, nx, m, ρ, hp, D, hks, hm, f => by
    have hko : kf[o]? = some x := hks 0 x rfl
    have ho := (List.getElem?_eq_some_iff.1 hko).1
    have hks' : ∀ j z, ks[j]? = some z → kf[o + 1 + j]? = some z := fun j z hz => by
      rw [show o + 1 + j = o + (j + 1) by omega]; exact hks (j + 1) z (by simpa using hz)
    have hle : (k + 1) * kf.length ≤ css.length * kf.length := Nat.mul_le_mul_right _ hk
    rw [Nat.add_mul] at hle
    have hlt : k * kf.length + o < ys.length := by rw [F.len]; omega
    obtain ⟨y, hy⟩ : ∃ y, ys[k * kf.length + o]? = some y := ⟨_, List.getElem?_eq_getElem hlt⟩
    have hsp : (ys.drop (k * kf.length + o)).take (x :: ks).length = y :: (ys.drop (k * kf.length + (o + 1))).take ks.length := by
      rw [List.drop_eq_getElem_cons hlt, List.length_cons, List.take_succ_cons]
      have := (List.getElem?_eq_some_iff.1 hy).2
      rw [this, Nat.add_assoc]
    have hel : (css.getD k []).length = kf.length := F.els _ (by rw [List.getD_eq_getElem?_getD, List.getElem?_eq_getElem hk]; exact List.getElem_mem _)
    have hc : (css.getD k [])[o]? = some ((css.getD k []).getD o []) := by
      rw [List.getD_eq_getElem?_getD (l := css.getD k []), List.getElem?_eq_getElem (by omega)]; rfl
    have hcell := F.cell k o x _ y hk hko hc hy
    rw [hsp]
    cases x with
    | k r =>
      simp only [rfmCells] at hm ⊢
      obtain ⟨ρ', h1, h2, h3⟩ := rfmCells_ok F hk ks (o + 1) nx m ρ hp D hks' hm f
      refine ⟨ρ', h1, DL.cons ?_ h2, h3⟩
      rw [hcell.2]
      exact kdS_DV hcell.1
    | sl el kd =>
      simp only [rfmCells, List.length_cons] at hm ⊢
      obtain ⟨m, rfl⟩ : ∃ m', m = m' + 1 := ⟨m - 1, by omega⟩
      have D1 := D.newRor f hcell.1 hcell.2
      have hx := upd_ext (l := ⟨kd.length, y⟩) (f.none D)
      obtain ⟨ρ', h1, h2, h3⟩ := rfmCells_ok F hk ks (o + 1) (nx + 1) m _ _ D1 hks' (by omega) f.next
      refine ⟨ρ', hx.trans h1, DL.cons ?_ h2, h3⟩
      obtain ⟨a, c, e, _⟩ := hcell.2
      simp only [DV]
      exact ⟨_, a, _, c, h1 _ _ (upd_same _ _), rfl, e⟩
def loadR (P : Program) (t : TypeId) (i k of : Nat) (h : List Blk) (nx : Nat) : Option Res := match rfmAt h i, szOf P t with
  | some (_, kf, css), some n =>
    match rfmCells (css.getD k []) ((kf.drop of).take n) of nx with
    | (s, ef) => cond (decide (of + n ≤ kf.length) && Nat.ble ef.length 4) ((loadFrom P t s 0).bind fun s => some ⟨[], s, ef⟩) none
  | _, _ => none
theorem ok_loadR {t : TypeId} {a : Operand} {i k of : Nat} (ho : o.op = .load t a) (ha : e a = .rowp i k of) (h : loadR P t i k of hp nx = some r) (EV : ∀ x, DV ρ (e x) (ev x)) (D : DH E ρ hp w) (f : Free hp nx) : Went P E ρ hp w o ev r := by
  unfold loadR at h
  split at h
  · rename_i g kf css n hf hn
    obtain ⟨hc, h⟩ := cond_none h
    simp only [Bool.and_eq_true, decide_eq_true_eq] at hc
    obtain ⟨hof, hm⟩ := hc
    have hm := Nat.le_of_ble_eq_true hm
    simp only [Option.bind_eq_some_iff, Option.some.injEq] at h
    obtain ⟨s, hs, rfl⟩ := h
    obtain ⟨p, q, hp', hq, hpb, hqb, ys, hv, F, hlen, a2, c2, e2, hle, hmx, hcell⟩ := rfm_rd D hf
    have hva := EV a
    rw [ha] at hva
    simp only [DV] at hva
    obtain ⟨p2, b, off, m, c, h1, h2, hk, h3⟩ := hva
    rw [hp'] at h1; cases h1
    rw [h2] at e2
    simp only [Value.slice.injEq] at e2
    obtain ⟨rfl, rfl, rfl⟩ := e2
    obtain ⟨b', off', e1, hcell⟩ := hcell (by omega)
    simp only [Option.some.injEq, Addr.mk.injEq] at e1
    obtain ⟨rfl, rfl, _⟩ := e1
    have hks : ∀ (j : Nat) x, ((kf.drop of).take n)[j]? = some x → kf[of + j]? = some x := fun j x hx => by
      rw [List.getElem?_take] at hx
      split at hx
      · rwa [List.getElem?_drop] at hx
      · cases hx
    obtain ⟨ρ', hx, hdl, D'⟩ := rfmCells_ok F hk ((kf.drop of).take n) of nx 4 ρ hp D hks hm (f.to1 (Nat.le_refl _))
    have hlen : ((kf.drop of).take n).length = n := by rw [List.length_take, List.length_drop]; omega
    rw [hlen] at hdl
    obtain ⟨y, hy, hdv⟩ := loadFrom_cells (P := P) (w := w) (b := b) (z := off + (k * kf.length + of)) (o := 0) hs (vs := (ys.toList.drop (k * kf.length + of)).take n) (fun j u hu => by
      rw [List.getElem?_take] at hu
      split at hu
      · rw [List.getElem?_drop] at hu
        rw [Nat.add_assoc]; exact hcell _ u hu
      · cases hu) hdl
    refine ⟨y, w, ρ', .inl ?_, hx, hdv, D'⟩
    rw [hpb] at h3
    rw [Nat.add_zero, ← Nat.add_assoc] at hy
    simp [execOp, ho, Instr.loadAt, h3, sureAddr_run, hy]
  · cases h

/-! ### Appending an element whose slices are read alone -/
def roView (kd : List Kd) (s : SV) (h : List Blk) : Option (List (List Value)) := match s with
  | .row j => match h[j]? with
    | some (.ror kd' xs _) => cond (kdEq kd' kd) (some xs) none
    | _ => none
  | .part j lo n _ => match h[j]? with
    | some (.ror kd' xs _) => cond (kdEq kd' kd) (some ((xs.drop lo).take n)) none
    | _ => none
  | .v (.slice none 0 0) => some []
  | _ => none
theorem RoAt.part {b off : Nat} {kd : List Kd} {xs : List (List Value)} (hw : ∀ x ∈ xs, Wk kd x) (h : RoAt E b off xs.flatten) (lo n : Nat) : RoAt E b (off + lo * kd.length) ((xs.drop lo).take n).flatten := by
  refine ⟨h.1, fun j u hu => ?_⟩
  have hs : ∀ x ∈ xs, x.length = kd.length := fun x hx => (hw x hx).length
  have h1 : ((xs.drop lo).take n).flatten <+: (xs.drop lo).flatten := by
    refine ⟨((xs.drop lo).drop n).flatten, ?_⟩
    rw [← List.flatten_append, List.take_append_drop]
  obtain ⟨t, ht⟩ := h1
  have hu2 : (xs.drop lo).flatten[j]? = some u := by
    rw [← ht, List.getElem?_append_left (List.getElem?_eq_some_iff.1 hu).1]; exact hu
  rw [drop_flatten lo xs hs, List.getElem?_drop] at hu2
  rw [Nat.add_assoc]
  exact h.2 _ u hu2
theorem roView_ok (D : DH E ρ hp w) {kd : List Kd} {s : SV} {y : Value} {xs : List (List Value)} (h : roView kd s hp = some xs) (hd : DV ρ s y) : isRo E kd xs false y := by
  unfold roView at h
  split at h
  · rename_i j
    split at h
    · rename_i kd' xs' f hj
      obtain ⟨hc, e⟩ := cond_some h
      cases e
      have := kdEq_eq hc
      subst this
      obtain ⟨p, hp', _, _, a, c, e1, h1, _, h2, h3, h4⟩ := D.ok j _ hj
      simp only [DV] at hd
      obtain ⟨p2, _, _, _, hp2, rfl, _⟩ := hd
      rw [hp'] at hp2; cases hp2
      exact ⟨a, c, e1, h1, (fun h => by cases h), h2, h3, h4⟩
    · cases h
  · rename_i j lo n fl
    split at h
    · rename_i kd' xs' f hj
      obtain ⟨hc, e⟩ := cond_some h
      cases e
      have := kdEq_eq hc
      subst this
      obtain ⟨p, hp', hb, _, a, c, e1, h1, _, h2, h3, h4⟩ := D.ok j _ hj
      simp only [DV] at hd
      obtain ⟨p2, a2, c2, hp2, rfl, g1, g2, _, g3⟩ := hd
      rw [hp'] at hp2; cases hp2
      rcases g3 with rfl | ⟨g, off, m, c0, k1, rfl, k2, k3⟩
      · exact ⟨a2, c2, by simp, by simp, (fun h => by cases h), by simp, by simp, .inl (by simp)⟩
      · rw [e1] at k1
        simp only [Value.slice.injEq] at k1
        obtain ⟨rfl, rfl, rfl⟩ := k1
        have hlen : ((xs'.drop lo).take n).length = n := by simp; omega
        refine ⟨_, c2, by rw [hlen], by omega, (fun h => by cases h), by omega, fun x hx => h3 x (List.mem_of_mem_drop (List.mem_of_mem_take hx)), ?_⟩
        rcases h4 with rfl | ⟨b, off', e2, h5⟩
        · left; simp
        · simp only [Option.some.injEq, Addr.mk.injEq] at e2
          obtain ⟨rfl, rfl, _⟩ := e2
          rw [hb]
          exact .inr ⟨g, _, rfl, h5.part h3 lo n⟩
    · cases h
  · cases h
    simp only [DV] at hd
    subst hd
    exact ⟨none, 0, rfl, Nat.le_refl _, (fun h => by cases h), Nat.zero_le _, by simp, .inl rfl⟩
  · cases h
def cellsR (h : List Blk) : List Kf → List SV → Option (List (List (List Value)))
  | [], [] => some []
  | .sl _ kd :: ks, s :: ss => cond (Nat.ble 1 kd.length) ((roView kd s h).bind fun c => (cellsR h ks ss).bind fun r => some (c :: r)) none
  | _, _ => none
theorem cellsR_ok (D : DH E ρ hp w) : ∀ {ks : List Kf} {ss : List SV} {ys : List Value} {cs : List (List (List Value))}, cellsR hp ks ss = some cs → DL ρ ss ys →
    cs.length = ks.length ∧ ys.length = ks.length ∧ (∀ y ∈ ys, y.oneCell' = true) ∧ ∀ (o : Nat) q c y, ks[o]? = some q → cs[o]? = some c → ys[o]? = some y → CellR E q c y
  | [], [], ys, cs, h, hd => by
    cases h
    simp only [DL] at hd
    subst hd
    exact ⟨rfl, rfl, fun y hy => (by cases hy), fun o q c y h1 => by simp at h1⟩
  | .sl e kd :: ks, s :: ss, ys, cs, h, hd => by
    unfold cellsR at h
    obtain ⟨hk, h⟩ := cond_none h
    have hk := Nat.le_of_ble_eq_true hk
    simp only [Option.bind_eq_some_iff, Option.some.injEq] at h
    obtain ⟨c0, hc0, r, hr, rfl⟩ := h
    simp only [DL] at hd
    obtain ⟨y0, t, rfl, hy, ht⟩ := hd
    obtain ⟨i1, i2, i3, i4⟩ := cellsR_ok D hr ht
    have hro := roView_ok D hc0 hy
    refine ⟨by simp [i1], by simp [i2], fun y hy => ?_, fun o q c y h1 h2 h3 => ?_⟩
    · rcases List.mem_cons.1 hy with rfl | hy
      · obtain ⟨_, _, rfl, _⟩ := hro; rfl
      · exact i3 y hy
    · cases o with
      | zero => simp only [List.getElem?_cons_zero, Option.some.injEq] at h1 h2 h3; subst h1 h2 h3; exact ⟨hk, hro⟩
      | succ o => exact i4 o q c y (by simpa using h1) (by simpa using h2) (by simpa using h3)
  | [], _ :: _, _, _, h, _ => by cases h
  | .k _ :: _, _, _, _, h, _ => by simp [cellsR] at h
  | .sl _ _ :: _, [], _, _, h, _ => by cases h
theorem RofY.append {kf : List Kf} {css1 css2 : List (List (List (List Value)))} {ys1 ys2 : List Value} (F1 : RofY E kf css1 ys1) (F2 : RofY E kf css2 ys2) : RofY E kf (css1 ++ css2) (ys1 ++ ys2) := by
  refine ⟨F1.pos, by rw [List.length_append, F1.len, F2.len, List.length_append, Nat.add_mul], fun x hx => ?_, fun k o q c y h1 h2 h3 h4 => ?_⟩
  · rcases List.mem_append.1 hx with h | h
    · exact F1.els x h
    · exact F2.els x h
  · have ho := (List.getElem?_eq_some_iff.1 h2).1
    rcases Nat.lt_or_ge k css1.length with g | g
    · have hle : (k + 1) * kf.length ≤ css1.length * kf.length := Nat.mul_le_mul_right _ g
      rw [Nat.add_mul, Nat.one_mul] at hle
      rw [List.getD_eq_getElem?_getD, List.getElem?_append_left g, ← List.getD_eq_getElem?_getD] at h3
      rw [List.getElem?_append_left (by rw [F1.len]; omega)] at h4
      exact F1.cell k o q c y g h2 h3 h4
    · obtain ⟨d, rfl⟩ : ∃ d, k = css1.length + d := ⟨k - css1.length, by omega⟩
      rw [List.length_append] at h1
      rw [List.getD_eq_getElem?_getD, List.getElem?_append_right (by omega), ← List.getD_eq_getElem?_getD, Nat.add_sub_cancel_left] at h3
      have e : (css1.length + d) * kf.length + o = ys1.length + (d * kf.length + o) := by rw [F1.len, Nat.add_mul]; omega
      rw [e, List.getElem?_append_right (by omega), Nat.add_sub_cancel_left] at h4
      exact F2.cell d o q c y (by omega) h2 h3 h4

def dstR (kf : List Kf) (el : TypeId) (s : SV) (h : List Blk) : Option (List (List (List (List Value))) × List Nat) := match s with
  | .row i => match h[i]? with
    | some (.rr e g) => match h[g]? with
      | some (.rfm kf' css) => cond (decide (e = el) && kfEq kf' kf) (some (css, [i, g])) none
      | _ => none
    | _ => none
  | .emp => some ([], [])
  | .sl _ _ 0 0 => some ([], [])
  | .v (.slice none 0 0) => some ([], [])
  | _ => none
def isRoS : SV → Bool
  | .row _ => true
  | .part .. => true
  | _ => false
def appR (P : Program) (t tx : TypeId) (s x : SV) (h : List Blk) (nx : Nat) : Option Res :=
  match P.underlying t, P.underlying tx with
  | some (.slice el), some (.slice ex) => match famTy P el with
    | some (kf, bytes) => match x with
      | .sl j o m _ => match h[j]? with
        | some (.cells _ cs) => match cellsR h kf ((cs.drop o).take kf.length), dstR kf el s h with
          | some c1, some (css, ds) => cond (Nat.beq m 1 && ((cs.drop o).take kf.length).any isRoS) (some ⟨[roomB bytes css.length, roomB bytes 1], .row (nx + 1), killsE ds ++ [(nx, .rfm kf (css ++ [c1])), (nx + 1, .rr el nx)]⟩) none
          | _, _ => none
        | _ => none
      | _ => none
    | none => none
  | _, _ => none
theorem dstR_ok (D : DH E ρ hp w) {kf : List Kf} {el : TypeId} {s : SV} {y : Value} {css : List (List (List (List Value)))} {ds : List Nat} (hpos : 0 < kf.length) (h : dstR kf el s hp = some (css, ds)) (hv : DV ρ s y) :
    ∃ ys : List Value, RofY E kf css ys ∧ OwnP w el kf.length y css.length ys ∧ (∀ j ∈ ds, ∃ b, hp[j]? = some b ∧ b ≠ .hole) ∧ ∀ b, sliceB y = some b → ∃ j ∈ ds, Tk ρ hp j b := by
  have nil : ∀ a, y = .slice a 0 0 → some (([] : List (List (List (List Value)))), ([] : List Nat)) = some (css, ds) → ∃ ys : List Value, RofY E kf css ys ∧ OwnP w el kf.length y css.length ys ∧ (∀ j ∈ ds, ∃ b, hp[j]? = some b ∧ b ≠ .hole) ∧ ∀ b, sliceB y = some b → ∃ j ∈ ds, Tk ρ hp j b := by
    intro a hev he
    cases he
    exact ⟨[], ⟨hpos, by simp, by simp, fun k o q c y hh => by simp at hh⟩, ⟨by simp, .inl ⟨a, hev, rfl⟩⟩, by simp, fun b hb => by rw [hev] at hb; cases a <;> simp [sliceB] at hb⟩
  unfold dstR at h
  split at h
  · rename_i i
    split at h
    · rename_i e g hi
      split at h
      · rename_i kf' css' hg
        obtain ⟨hc, e⟩ := cond_some h
        cases e
        simp only [Bool.and_eq_true, decide_eq_true_eq] at hc
        obtain ⟨rfl, hk⟩ := hc
        have := kfEq_eq hk
        subst this
        obtain ⟨p, q, h1, h2, h3, h4, ys, m, h5, h6⟩ := D.ok i _ hi
        obtain ⟨q', k1, k3, zs, k6, F⟩ := D.ok g _ hg
        rw [h2] at k1; cases k1
        rw [h5] at k6; cases k6
        have hn : m = css.length := by
          have a := h6.1
          rw [h3, k3, F.len] at a
          exact (Nat.eq_of_mul_eq_mul_right F.pos a).symm
        subst hn
        rw [h3, k3] at h6
        simp only [DV] at hv
        obtain ⟨p2, a, n2, c2, e3, hv, _⟩ := hv
        rw [h1] at e3; cases e3
        rw [hv]
        refine ⟨ys.toList, F, h6, fun j hj => ?_, fun b hb => ⟨i, by simp, _, hi, p, h1, hb⟩⟩
        simp only [List.mem_cons, List.not_mem_nil, or_false] at hj
        rcases hj with rfl | rfl
        · exact ⟨_, hi, by simp⟩
        · exact ⟨_, hg, by simp⟩
      · cases h
    · cases h
  · simp only [DV] at hv; obtain ⟨a, hv⟩ := hv; exact nil a hv h
  · simp only [DV] at hv; obtain ⟨p, _, _, hv⟩ := hv; exact nil _ hv h
  · simp only [DV] at hv; exact nil _ hv h
  · cases h
theorem ok_appR {c : Call} {s x : Operand} {t tx : TypeId} (ho : o.op = .call c) (hc : c.callee = .builtin .append) (ha : c.args.toList = [s, x]) (hty : c.argTypes.toList = [t, tx])
    (h : appR P t tx (e s) (e x) hp nx = some r) (hneed : allNeed r.need) (EV : ∀ x, DV ρ (e x) (ev x)) (D : DH E ρ hp w) (f : Free hp nx) : Went P E ρ hp w o ev r := by
  unfold appR at h
  split at h
  · rename_i el ex hu hux
    split at h
    · rename_i kf bytes hty'
      obtain ⟨i, z, hi, hz, hsz, hby, hpos, hzs, hb0, hoth⟩ := famTy_ok hty'
      have hexec : ∀ v' w', (Builtin.append_ #[t, tx] o.type #[ev s, ev x]).run P w = .ok v' w' → (execOp ev o).run P w = .ok (.value v') w' := fun v' w' hr => by
        refine builtin_run ho hc ?_
        have e1 : c.args = #[s, x] := toList_two ha
        have e2 : c.argTypes = #[t, tx] := toList_two hty
        rw [e1, e2]
        simp only [builtin, List.map_toArray, List.map_cons, List.map_nil, Sem.run_bind, hr, Result.andThen_ok, Sem.run_pure]
      split at h
      · rename_i j o' m c' hx
        split at h
        · rename_i e0 cs hj
          split at h
          · rename_i c1 css ds hcs hds
            obtain ⟨hcc, rfl⟩ := cond_some h
            simp only [Bool.and_eq_true] at hcc
            have hm1 := Nat.eq_of_beq_eq_true hcc.1
            subst hm1
            obtain ⟨hn1, hn2, _⟩ := hneed
            have hroom := roomB_ok hn1 hn2
            have hv := EV x
            rw [hx] at hv
            simp only [DV] at hv
            obtain ⟨p, hp', hmc, hv⟩ := hv
            obtain ⟨q, vs, hq, hb, hl⟩ := D.ok j _ hj
            rw [hp'] at hq; cases hq
            obtain ⟨a1, a2, a3, a4⟩ := cellsR_ok D hcs ((hl.drop o').take kf.length)
            have F2 : RofY E kf [c1] ((vs.toList.drop o').take kf.length) := ⟨hpos, by rw [a2]; simp, by simpa using a1, fun k o q c y h1 h2 h3 h4 => by
              have hk : k = 0 := by simpa using h1
              subst hk
              exact a4 o q c y h2 (by simpa using h3) (by simpa using h4)⟩
            have hS : Src P w kf.length (ev x) 1 ((vs.toList.drop o').take kf.length) := by
              rw [hv]
              refine src_of_cells (by rw [a2]; simp) a3 (.inr ⟨p.block, o', rfl, fun k u hk => ?_⟩)
              rw [cell_of_row w p.block (o' + k) vs e0 _ hb]
              rw [List.getElem?_take] at hk
              split at hk
              · rw [List.getElem?_drop] at hk; simpa using hk
              · cases hk
            obtain ⟨ys, F, hO, hall, hT⟩ := dstR_ok D hpos hds (EV s)
            obtain ⟨v', w', hr, ⟨a', c'', hv'⟩, hO', hsame, hchg, hblk⟩ := append_own (P := P) (ty := o.type) hu hux (fun k e => by cases e) hi hz hzs hsz hpos hS hO (by rw [hby]; exact hroom) (by omega)
            have hlt : ∀ j ∈ ds, j < hp.length := fun j hj => by obtain ⟨b, hb, _⟩ := hall j hj; exact (List.getElem?_eq_some_iff.1 hb).1
            have D1 := D.kills hlt
            have f1 : Free1 (applyEff (killsE ds) hp) nx 2 := (f.to1 (by omega)).kills hall
            have FF := F.append F2
            have D2 : DH E (upd ρ nx ⟨kf.length, .tuple (ys ++ (vs.toList.drop o').take kf.length).toArray⟩) (putB nx (.rfm kf (css ++ [c1])) (applyEff (killsE ds) hp)) w :=
              D1.newB f1 (Same.refl w) (fun _ _ => .inl rfl) ⟨_, upd_same _ _, rfl, _, rfl, by simpa using FF⟩ fun n hn => hn.elim
            have hsp : ∀ b, sliceB (ev s) = some b → Spare E (upd ρ nx ⟨kf.length, .tuple (ys ++ (vs.toList.drop o').take kf.length).toArray⟩) (putB nx (.rfm kf (css ++ [c1])) (applyEff (killsE ds) hp)) b := fun b hb => by
              obtain ⟨j, hj, t⟩ := hT b hb
              exact (D.spares hlt hj t).putFam D1 f1 fun hh => hh.elim
            have D3 := D2.newRR (g := nx) (w' := w') (el := el) (v := v') (n := css.length + 1) f1.next (upd_same _ _) rfl hpos (by simpa using hO') hsame
              (fun k hk => (hchg k hk).imp id (hsp k)) (fun b hb => (hblk b hb).imp id (hsp b))
            have x1 := upd_ext (l := ⟨kf.length, .tuple (ys ++ (vs.toList.drop o').take kf.length).toArray⟩) (f1.none D1)
            have x2 := upd_ext (l := ⟨kf.length, v'⟩) (Free1.none (m := 0) f1.next D2)
            refine ⟨v', w', _, .inl (hexec _ _ hr), x1.trans x2, ?_, ?_⟩
            · simp only [DV]; exact ⟨_, a', _, c'', upd_same _ _, rfl, hv'⟩
            · rw [applyEff_append]; exact D3
          · cases h
        · cases h
      · cases h
    · cases h
  · cases h

/-- Append of a whole such slice to known cells: of what comes the length alone is told. -/
def appO (P : Program) (t tx : TypeId) (s x : SV) (h : List Blk) (nx : Nat) : Option Res :=
  match P.underlying t, P.underlying tx with
  | some (.slice el), some (.slice _) => match famTy P el with
    | some (kf, bytes) => match s, x with
      | .sl j o m c, .row i => match h[j]?, famAt h i with
        | some (.cells e0 cs), some (_, _, kf', css, none) => cond (decide (e0 = el) && (kfEq kf' kf && (Nat.ble 1 c && (Nat.ble c 64 && Nat.ble (o + c * kf.length) cs.length)))) (some ⟨[roomB bytes m, roomB bytes css.length], .row nx, killsE [j] ++ [(nx, .opq (m + css.length))]⟩) none
        | _, _ => none
      | _, _ => none
    | none => none
  | _, _ => none
theorem ok_appO {c : Call} {s x : Operand} {t tx : TypeId} (ho : o.op = .call c) (hc : c.callee = .builtin .append) (ha : c.args.toList = [s, x]) (hty : c.argTypes.toList = [t, tx])
    (h : appO P t tx (e s) (e x) hp nx = some r) (hneed : allNeed r.need) (EV : ∀ x, DV ρ (e x) (ev x)) (D : DH E ρ hp w) (f : Free hp nx) : Went P E ρ hp w o ev r := by
  unfold appO at h
  split at h
  · rename_i el ex hu hux
    split at h
    · rename_i kf bytes hty'
      obtain ⟨i, z, hi, hz, hsz, hby, hpos, hzs, hb0, hoth⟩ := famTy_ok hty'
      have hexec : ∀ v' w', (Builtin.append_ #[t, tx] o.type #[ev s, ev x]).run P w = .ok v' w' → (execOp ev o).run P w = .ok (.value v') w' := fun v' w' hr => by
        refine builtin_run ho hc ?_
        have e1 : c.args = #[s, x] := toList_two ha
        have e2 : c.argTypes = #[t, tx] := toList_two hty
        rw [e1, e2]
        simp only [builtin, List.map_toArray, List.map_cons, List.map_nil, Sem.run_bind, hr, Result.andThen_ok, Sem.run_pure]
      split at h
      · rename_i j o' m c' i' hs hx
        split at h
        · rename_i e0 cs el' g kf' css hj hf
          obtain ⟨hcc, rfl⟩ := cond_some h
          simp only [Bool.and_eq_true, decide_eq_true_eq] at hcc
          obtain ⟨rfl, hk, hc1, hc64, hco⟩ := hcc
          have := kfEq_eq hk
          subst this
          replace hc1 := Nat.le_of_ble_eq_true hc1
          replace hc64 := Nat.le_of_ble_eq_true hc64
          replace hco := Nat.le_of_ble_eq_true hco
          obtain ⟨hn1, hn2, _⟩ := hneed
          have hroom := roomB_ok hn1 hn2
          have hM : maxLen = 9223372036854775807 := by decide
          -- what is appended
          have hvx := EV x
          rw [hx] at hvx
          simp only [DV] at hvx
          obtain ⟨px, ax, nx', cx, hpx, hvx, _⟩ := hvx
          obtain ⟨p, q, hp', hq, hpb, hqb, _, ys, hqv, F, hO⟩ := fam_own D hf
          rw [hpx] at hp'; cases hp'
          have hS : Src P w kf'.length (ev x) css.length ys.toList := by
            rw [hvx]
            obtain ⟨h1, a, c2, e2, h2, h3, h4⟩ := hO.rd
            rw [e2]
            refine src_of_cells h1 (F.oneCells hoth) ?_
            rcases Nat.eq_zero_or_pos css.length with h0 | h0
            · exact .inl h0
            · obtain ⟨b, off, h5, h6⟩ := h4 h0
              exact .inr ⟨b, off, h5, h6⟩
          -- what it is appended to
          have hvs := EV s
          rw [hs] at hvs
          simp only [DV] at hvs
          obtain ⟨ps, hps, hmc, hvs⟩ := hvs
          obtain ⟨qs, vs, hqs, hb, hl⟩ := D.ok j _ hj
          rw [hps] at hqs; cases hqs
          obtain ⟨c, rfl⟩ : ∃ c, c' = c + 1 := ⟨c' - 1, by omega⟩
          have hvl : vs.size = cs.length := by have := hl.length; simpa using this
          have hmle : m * kf'.length ≤ (c + 1) * kf'.length := Nat.mul_le_mul_right _ hmc
          have hOs : OwnP w e0 kf'.length (ev s) m ((vs.toList.drop o').take (m * kf'.length)) := by
            refine ⟨by simp; omega, .inr ⟨ps.block, o', c, vs, hvs, hb, hmc, by omega, by omega, rfl⟩⟩
          obtain ⟨v', w', hr, ⟨a', c'', hv'⟩, hO', hsame, hchg, hblk⟩ := append_own (P := P) (ty := o.type) hu hux (fun k e => by cases e) hi hz hzs hsz hpos hS hOs (by rw [hby]; exact hroom) (by omega)
          have hall : ∀ k ∈ [j], ∃ b, hp[k]? = some b ∧ b ≠ .hole := fun k hk => by
            simp only [List.mem_singleton] at hk
            subst hk
            exact ⟨_, hj, by simp⟩
          have hlt : ∀ k ∈ [j], k < hp.length := fun k hk => by obtain ⟨b, hb, _⟩ := hall k hk; exact (List.getElem?_eq_some_iff.1 hb).1
          have D1 := D.kills hlt
          have f1 : Free1 (applyEff (killsE [j]) hp) nx 1 := (f.to1 (by omega)).kills hall
          have hsp : ∀ b, sliceB (ev s) = some b → Spare E ρ (applyEff (killsE [j]) hp) b := fun b hb' => by
            rw [hvs] at hb'
            cases hb'
            exact D.spares hlt (List.mem_singleton.2 rfl) ⟨_, hj, ps, hps, rfl⟩
          obtain ⟨a3, c3, e3, k1, k2, _⟩ := hO'.len
          have D2 : DH E (upd ρ nx ⟨0, v'⟩) (putB nx (.opq (m + css.length)) (applyEff (killsE [j]) hp)) w' :=
            D1.newB (m := 0) f1 hsame (fun k hk => (hchg k hk).imp id (hsp k)) ⟨_, a3, c3, upd_same _ _, e3, k1, k2⟩ fun n hn => hn.elim
          have x1 := upd_ext (l := ⟨0, v'⟩) (Free1.none (m := 0) f1 D1)
          refine ⟨v', w', _, .inl (hexec _ _ hr), x1, ?_, ?_⟩
          · simp only [DV]; exact ⟨_, a', _, c'', upd_same _ _, rfl, hv'⟩
          · rw [applyEff_append]; exact D2
        · cases h
      · cases h
    · cases h
  · cases h

/-! ### The operations -/
def opV (P : Program) (o : Oper) (e : Operand → SV) (h : List Blk) (nx : Nat) : Option Res :=
  match o.op with
  | .call c => match c.callee, c.args.toList.map e, c.argTypes.toList with
    | .builtin .len, [s], [t] => lenV P t s h
    | .builtin .append, [s, x], [t, tx] => match appR P t tx s x h nx with
      | some r => some r
      | none => appO P t tx s x h nx
    | _, _, _ => none
  | .load t a => match e a with
    | .rowp i k of => match loadD P t i k of h nx with
      | some r => some r
      | none => loadR P t i k of h nx
    | _ => none
  | .store t a x => match e a with
    | .rowp i k of => storeD P t i k of (e x) h nx
    | _ => none
  | .indexAddr t x ix => match P.underlying t, e x, intOf (e ix) with
    | some (.slice el), .row i, some (_, n, _, _) => match tupAt h i, szOf P el with
      | some (_, kf, m), some sz => cond (decide (sz = kf.length)) (retIf (inB n m) (.rowp i n.toNat 0)) none
      | _, _ => none
    | _, _, _ => none
  | _ => none
theorem opV_ok (h : opV P o e hp nx = some r) (hneed : allNeed r.need) (EV : ∀ x, DV ρ (e x) (ev x)) (D : DH E ρ hp w) (f : Free hp nx) : Went P E ρ hp w o ev r := by
  unfold opV at h
  split at h
  · rename_i c ho
    split at h
    · rename_i s t hc ha hty
      obtain ⟨x, ha', rfl⟩ := map_one ha
      exact ok_lenV ho hc ha' hty h EV D
    · rename_i s x t tx hc ha hty
      obtain ⟨s', x', ha', rfl, rfl⟩ := map_two ha
      split at h
      · rename_i q hq; cases h; exact ok_appR ho hc ha' hty hq hneed EV D f
      · exact ok_appO ho hc ha' hty h hneed EV D f
    · cases h
  · rename_i t a ho
    split at h
    · rename_i i k of ha
      split at h
      · rename_i q hq; cases h; exact ok_loadD ho ha hq hneed EV D f
      · exact ok_loadR ho ha h EV D f
    · cases h
  · rename_i t a x ho
    split at h
    · rename_i i k of ha; exact ok_storeD ho ha h hneed EV D f
    · cases h
  · rename_i t x ix ho
    split at h
    · rename_i el i kk n _ _ hu hx hix
      split at h
      · rename_i g kf m sz hf hsz
        obtain ⟨hc, h⟩ := cond_none h
        simp only [decide_eq_true_eq] at hc
        cases h
        exact ok_idxV ho (intOf_DV hix (EV ix)).1 hu hsz hc hf (inB_iff hneed.1) hx EV D
      · cases h
    · cases h
  · cases h

/-- An operation, by whichever. -/
def opA (P : Program) (o : Oper) (e : Operand → SV) (h : List Blk) (nx : Nat) : Option Res := match opS P o e h nx with
  | some r => some r
  | none => match cond (wfB o) (opR P o e h nx) none with
    | some r => some r
    | none => match opV P o e h nx with
      | some r => some r
      | none => match opW P o e h nx with
        | some r => some r
        | none => opX P o e h nx
theorem opA_ok (h : opA P o e hp nx = some r) (hneed : allNeed r.need) (EV : ∀ x, DV ρ (e x) (ev x)) (D : DH E ρ hp w) (f : Free hp nx) : Went P E ρ hp w o ev r := by
  unfold opA at h
  split at h
  · rename_i q hq; cases h; exact opS_ok hq hneed EV D f
  · split at h
    · rename_i q hq
      cases h
      obtain ⟨hw, hq⟩ := cond_none hq
      exact opR_ok (wfB_ok hw) hq hneed EV D f
    · split at h
      · rename_i q hq; cases h; exact opV_ok hq hneed EV D f
      · split at h
        · rename_i q hq; cases h; exact opW_ok hq hneed EV D f
        · exact opX_ok h EV D f
end

/-- How long a slice is. -/
def lenGet (h : List Blk) (s : SV) : Option Nat := match s with
  | .row i => match h[i]? with
    | some (.opq n) => some n
    | _ => match famAt h i with
      | some (_, _, _, css, _) => some css.length
      | none => match tupAt h i with
        | some (_, _, n) => some n
        | none => (slotXs h i).map fun x => x.2.length
  | .v (.slice none 0 0) => some 0
  | _ => none
theorem lenGet_ok {h : List Blk} {s : SV} {n : Nat} (hg : lenGet h s = some n) {E : Env} {ρ : Rho} {w : World} {y : Value} (D : DH E ρ h w) (hd : DV ρ s y) : ∃ a c, y = .slice a n c ∧ n ≤ c ∧ n ≤ maxLen := by
  unfold lenGet at hg
  split at hg
  · rename_i i
    simp only [DV] at hd
    obtain ⟨p0, a, n0, c, hp0, rfl, _⟩ := hd
    split at hg
    · rename_i m hi
      cases hg
      obtain ⟨p, a, c, hp, h1⟩ := D.ok i _ hi
      rw [hp] at hp0; cases hp0
      exact ⟨a, c, h1⟩
    · split at hg
      · rename_i el g kf css lent hf
        cases hg
        obtain ⟨p, q, hp, hq, hpb, hqb, hpos, ys, hqv, F, hO⟩ := fam_own D hf
        rw [hp] at hp0; cases hp0
        obtain ⟨_, a, c, e, h1, h2, _⟩ := hO.rd
        exact ⟨a, c, e, h1, h2⟩
      · split at hg
        · rename_i g kf m hf
          cases hg
          obtain ⟨p, q, hp, hq, hpb, hqb, hpos, ys, hqv, _, a, c, e, h1, h2, _⟩ := tup_rd D hf
          rw [hp] at hp0; cases hp0
          exact ⟨a, c, e, h1, h2⟩
        · obtain ⟨x, hx, rfl⟩ := Option.map_eq_some_iff.1 hg
          obtain ⟨p, hp, _, _, a, c, e, h1, h2, _⟩ := slot_reads D hx
          rw [hp] at hp0; cases hp0
          exact ⟨a, c, e, h1, h2⟩
  · cases hg
    simp only [DV] at hd
    exact ⟨none, 0, hd, Nat.le_refl _, Nat.zero_le _⟩
  · cases hg
end Go.Eng
