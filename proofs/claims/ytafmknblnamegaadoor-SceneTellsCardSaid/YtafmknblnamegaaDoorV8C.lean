/- The engine's operations are the model's. No condition. -/
import Derived.Test.YtafmknblnamegaaDoorV8B
namespace Go.Eng

section
variable {P : Program} {E : Env} {ρ : Rho} {w : World}

theorem foldl_set_list (off : Nat) : ∀ (xs : List Value) (k : Nat) (cells : Array Value), off + k + xs.length ≤ cells.size →
    ((xs.zipIdx k).foldl (fun (cs : Array Value) p => cs.setIfInBounds (off + p.2) p.1) cells).toList =
      cells.toList.take (off + k) ++ xs ++ cells.toList.drop (off + k + xs.length)
  | [], k, cells, _ => by simp
  | x :: xs, k, cells, h => by
    simp only [List.length_cons] at h
    simp only [List.zipIdx_cons, List.foldl_cons]
    rw [foldl_set_list off xs (k + 1) _ (by simp; omega)]
    apply List.ext_getElem?
    intro n
    simp only [Array.toList_setIfInBounds, List.getElem?_append, List.length_append, List.length_take, List.length_set, Array.length_toList, List.getElem?_take, List.getElem?_set, List.getElem?_drop,
      List.length_cons]
    by_cases h1 : n < off + k
    · simp [h1, show n < off + (k + 1) by omega, show ¬ off + k = n by omega, show min (off + k) cells.size = off + k by omega, show min (off + (k + 1)) cells.size = off + (k + 1) by omega, show n < off + (k+1) + xs.length by omega, show n < off + k + (xs.length + 1) by omega]
    · by_cases h2 : n = off + k
      · subst h2
        simp [show min (off + k) cells.size = off + k by omega, show min (off + (k + 1)) cells.size = off + (k + 1) by omega, show off + k < off + (k+1) by omega, show off + k < cells.size by omega, show off + k < off + (k+1) + xs.length by omega]
      · obtain ⟨m, rfl⟩ : ∃ m, n = off + (k + 1) + m := ⟨n - (off + (k + 1)), by omega⟩
        simp only [show min (off + k) cells.size = off + k by omega, show min (off + (k + 1)) cells.size = off + (k + 1) by omega]
        by_cases h3 : m < xs.length
        · simp [h3, show ¬ off + (k + 1) + m < off + (k + 1) by omega, show ¬ off + (k + 1) + m < off + k by omega, show off + (k + 1) + m - (off + (k + 1)) = m by omega, show off + (k + 1) + m - (off + k) = m + 1 by omega, show off + (k + 1) + m < off + (k + 1) + xs.length by omega,
            show off + (k + 1) + m < off + k + (xs.length + 1) by omega]
        · simp [show ¬ off + (k + 1) + m < off + (k + 1) + xs.length by omega, show ¬ off + (k + 1) + m < off + k + (xs.length + 1) by omega]
          rw [if_neg (by omega)]
          congr 1
          omega

theorem fill_step (cells : Array Value) (v : Value) (off : Nat) (h : off + v.cells.size ≤ cells.size) :
    (v.cells.zipIdx.foldl (fun (cs : Array Value) (x : Value × Nat) => match x with | (c, j) => cs.setIfInBounds (off + j) c) cells).toList = cells.toList.take off ++ v.cells.toList ++ cells.toList.drop (off + v.cells.size) := by
  have := foldl_set_list off v.cells.toList 0 cells (by simpa using h)
  simp only [Nat.add_zero, Array.length_toList] at this
  rw [← this]
  rw [← Array.foldl_toList]
  congr 2
  simp

theorem fillS_fill {place : Nat → Option (Nat × Nat)} : ∀ {parts : List (Nat × SV)} {ys : List (Nat × Value)} {cs cs' : List SV} {vs : Array Value}, fillS place cs parts = some cs' →
    DL ρ cs vs.toList → ys.map (·.1) = parts.map (·.1) → DL ρ (parts.map (·.2)) (ys.map (·.2)) →
    ∃ vs' : Array Value, Instr.fill place vs ys = some vs' ∧ DL ρ cs' vs'.toList
  | [], ys, cs, cs', vs, h, hl, he, _ => by
    cases ys with
    | nil => simp only [fillS, Option.some.injEq] at h; subst h; exact ⟨vs, by simp [Instr.fill], hl⟩
    | cons => simp at he
  | (i, s) :: parts, ys, cs, cs', vs, h, hl, he, hd => by
    cases ys with
    | nil => simp at he
    | cons y ys =>
      obtain ⟨j, y⟩ := y
      simp only [List.map_cons, List.cons.injEq] at he
      obtain ⟨rfl, he⟩ := he
      simp only [List.map_cons] at hd
      simp only [DL] at hd
      obtain ⟨y', t, heq, hy, ht⟩ := hd
      simp only [List.cons.injEq] at heq
      obtain ⟨rfl, rfl⟩ := heq
      simp only [fillS] at h
      split at h
      · rename_i o n xs hp hxs
        split at h
        · rename_i hc
          have hyx := cellsSV_DV hxs hy
          have h1 := hyx.length
          have h2 := hl.length
          simp only [Array.length_toList] at h1 h2
          have hst := fill_step vs y o (by omega)
          obtain ⟨vs', hf, hd'⟩ := fillS_fill (vs := (y.cells.zipIdx.foldl (fun (cs : Array Value) (x : Value × Nat) => match x with | (c, j) => cs.setIfInBounds (o + j) c) vs)) h (by
            rw [hst, show o + y.cells.size = o + n by omega]
            exact ((hl.take o).append hyx).append (hl.drop (o + n))) he ht
          refine ⟨vs', ?_, hd'⟩
          simp only [Instr.fill, hp]
          rw [if_neg (by simp; omega)]
          exact hf
        · cases h
      · cases h


/-- What became of an operation. -/
def Did (P : Program) (o : Oper) (ev : Operand → Value) (w : World) (y : Value) (w' : World) : Prop :=
  (execOp ev o).run P w = .ok (.value y) w' ∨ ((execOp ev o).run P w = .ok .skip w' ∧ y = undef)

/-- It went as the engine says. -/
def Went (P : Program) (E : Env) (ρ : Rho) (hp : List Blk) (w : World) (o : Oper) (ev : Operand → Value) (r : Res) : Prop :=
  ∃ y w' ρ', Did P o ev w y w' ∧ Ext ρ ρ' ∧ DV ρ' r.val y ∧ DH E ρ' (applyEff r.eff hp) w'

theorem went_pure {hp : List Blk} {o : Oper} {ev : Operand → Value} {s : SV} {ps : List Bool} {y : Value} (D : DH E ρ hp w)
    (h : (execOp ev o).run P w = .ok (.value y) w) (hy : DV ρ s y) : Went P E ρ hp w o ev ⟨ps, s, []⟩ :=
  ⟨y, w, ρ, .inl h, Ext.refl _, hy, D⟩

theorem part_run {t : TypeId} {cs : List SV} {off : Nat} {s : SV} (h : loadFrom P t cs off = some s) {vs : Array Value} (hl : DL ρ cs vs.toList) (w : World) :
    ∃ y, (Go.part t vs off).run P w = .ok y w ∧ DV ρ s y := by
  unfold loadFrom at h
  split at h
  · rename_i hagg
    split at h
    · rename_i n hn
      split at h
      · cases h
        refine ⟨.agg (vs.extract off (off + n)), by simp [Go.part, isAggT_run hagg, szOf_run hn], ?_⟩
        simp only [DV]
        refine ⟨_, rfl, ?_⟩
        have := (hl.drop off).take n
        rw [Array.toList_extract, List.extract_eq_take_drop]
        simpa using this
      · cases h
    · cases h
  · rename_i hagg
    obtain ⟨y, hy, hd⟩ := hl.get h
    refine ⟨y, ?_, hd⟩
    have : vs[off]? = some y := by simpa using hy
    simp [Go.part, isAggT_run hagg, this]
  · cases h

variable {hp : List Blk} {o : Oper} {e : Operand → SV} {ev : Operand → Value} {nx : Nat} {r : Res}

theorem ok_move {x : Operand} (ho : o.op = .move x ∨ o.op = .assign x) (EV : ∀ x, DV ρ (e x) (ev x)) (D : DH E ρ hp w) : Went P E ρ hp w o ev ⟨[], e x, []⟩ := by
  refine went_pure D (y := ev x) ?_ (EV x)
  rcases ho with ho | ho <;> simp [execOp, ho]

theorem asBool_run (b : Bool) (w : World) : (asBool (.bool b)).run P w = .ok b w := rfl

theorem ok_pick {c a b : Operand} {t : Bool} (ho : o.op = .pick c a b) (hc : ev c = .bool t) (D : DH E ρ hp w) {s : SV} (hs : DV ρ s (if t then ev a else ev b)) :
    Went P E ρ hp w o ev ⟨[], s, []⟩ := by
  refine went_pure D (y := if t then ev a else ev b) ?_ hs
  simp [execOp, ho, hc, asBool]

theorem zero_run {t : TypeId} {z : List SV} (h : zeroSV P t = some z) (w : World) : ∃ v, (zeroValue t).run P w = .ok v w ∧ DL ρ z v.cells.toList := by
  simp only [zeroSV, Option.map_eq_some_iff, Option.bind_eq_some_iff] at h
  obtain ⟨v, ⟨i, hi, hz⟩, rfl⟩ := h
  exact ⟨v, by simp [zeroValue, typeInfo, hi, hz], DL_map_v _⟩

theorem ok_new {t : TypeId} {cs : List SV} {vs : Array Value} (D : DH E ρ hp w) (f : Free hp nx) (hl : DL ρ cs vs.toList)
    (h : (execOp ev o).run P w = .ok (.value (.pointer (some ⟨w.heap.size, 0, none⟩))) (w.alloc (.cells vs t))) {ps : List Bool} :
    Went P E ρ hp w o ev ⟨ps, .ptr nx 0, [(nx, .cells t cs)]⟩ := by
  refine ⟨_, _, _, .inl h, upd_ext (f.none D), ?_, D.alloc f hl undef⟩
  simp only [DV]
  exact ⟨_, upd_same _ _, rfl⟩

theorem ok_alloc {t : TypeId} {z : List SV} (ho : o.op = .alloc t) (hz : zeroSV P t = some z) (D : DH E ρ hp w) (f : Free hp nx) :
    Went P E ρ hp w o ev ⟨[], .ptr nx 0, [(nx, .cells t z)]⟩ := by
  obtain ⟨v, hv, hl⟩ := zero_run (ρ := ρ) hz w
  refine ok_new D f hl ?_
  simp [execOp, ho, Instr.alloc, hv, newVar, newRow]

theorem ok_box {t : TypeId} {x : Operand} {cs : List SV} (ho : o.op = .box t x) (hc : cellsSV (e x) = some cs) (EV : ∀ x, DV ρ (e x) (ev x)) (D : DH E ρ hp w) (f : Free hp nx) :
    Went P E ρ hp w o ev ⟨[], .ptr nx 0, [(nx, .cells t cs)]⟩ := by
  refine ok_new D f (cellsSV_DV hc (EV x)) ?_
  simp [execOp, ho, Instr.box, newVar, newRow]

theorem DL_map {α : Type} (l : List α) (f : α → SV) (g : α → Value) (h : ∀ x, DV ρ (f x) (g x)) : DL ρ (l.map f) (l.map g) := by
  refine DL.mk' (by simp) fun i s y hs hy => ?_
  simp only [List.getElem?_map, Option.map_eq_some_iff] at hs hy
  obtain ⟨a, ha, rfl⟩ := hs
  obtain ⟨b, hb, rfl⟩ := hy
  rw [ha] at hb; cases hb; exact h a

theorem mapM_places (fs : List Field) (h : fs.all (fun f => (szOf P f.type).isSome) = true) (w : World) :
    (fs.mapM (m := Sem) fun f => do pure (f.offset, ← sizeOf f.type)).run P w = .ok (fs.map fun f => (f.offset, (szOf P f.type).getD 0)) w := by
  induction fs with
  | nil => rfl
  | cons f fs ih =>
    simp only [List.all_cons, Bool.and_eq_true] at h
    obtain ⟨n, hn⟩ := Option.isSome_iff_exists.1 h.1
    simp only [List.mapM_cons, Sem.run_bind, szOf_run hn, Result.andThen_ok, Sem.run_pure, ih h.2, List.map_cons, hn, Option.getD_some]

theorem ok_build {t : TypeId} {ps : Array (Nat × Operand)} {s : SV} (ho : o.op = .build t ps) (hb : buildS P t (ps.toList.map fun p => (p.1, e p.2)) = some s)
    (EV : ∀ x, DV ρ (e x) (ev x)) (D : DH E ρ hp w) : Went P E ρ hp w o ev ⟨[], s, []⟩ := by
  have hparts : DL ρ ((ps.toList.map fun p => (p.1, e p.2)).map (·.2)) ((ps.toList.map fun p => (p.1, ev p.2)).map (·.2)) := by
    simp only [List.map_map]
    exact DL_map _ _ _ fun p => EV p.2
  unfold buildS at hb
  split at hb
  · rename_i z fs hz hu
    split at hb
    · rename_i hall
      simp only [Option.map_eq_some_iff] at hb
      obtain ⟨cs, hcs, rfl⟩ := hb
      obtain ⟨v, hv, hl⟩ := zero_run (ρ := ρ) hz w
      obtain ⟨vs, hf, hd⟩ := fillS_fill (ys := ps.toList.map fun p => (p.1, ev p.2)) hcs hl (by simp) hparts
      refine went_pure D (y := .agg vs) ?_ (by simp only [DV]; exact ⟨_, rfl, hd⟩)
      have hm := mapM_places (P := P) fs.toList hall w
      have hpl : (fun x => (List.map (fun f : Field => (f.offset, (szOf P f.type).getD 0)) fs.toList).toArray[x]?) = fieldPlaces P fs.toList := by
        funext i
        unfold fieldPlaces
        simp only [List.getElem?_toArray, List.getElem?_map]
        cases hi : fs.toList[i]? with
        | none => rfl
        | some f =>
          have := List.all_eq_true.1 hall f (List.mem_of_getElem? hi)
          obtain ⟨n, hn⟩ := Option.isSome_iff_exists.1 this
          simp [hn]
      simp only [execOp, ho, Instr.build, Sem.run_bind, hv, Result.andThen_ok, run_underlying hu]
      rw [← Array.toArray_toList (xs := fs)]
      simp only [List.mapM_toArray, Sem.run_map, hm, Result.andThen_ok]
      simp only [hpl, Array.toList_map]
      simp only [hf, Sem.run_pure, Result.andThen_ok]
    · cases hb
  · rename_i z n el hz hu
    split at hb
    · rename_i m hm
      simp only [Option.map_eq_some_iff] at hb
      obtain ⟨cs, hcs, rfl⟩ := hb
      obtain ⟨v, hv, hl⟩ := zero_run (ρ := ρ) hz w
      obtain ⟨vs, hf, hd⟩ := fillS_fill (ys := ps.toList.map fun p => (p.1, ev p.2)) hcs hl (by simp) hparts
      refine went_pure D (y := .agg vs) ?_ (by simp only [DV]; exact ⟨_, rfl, hd⟩)
      simp only [execOp, ho, Instr.build, Sem.run_bind, hv, Result.andThen_ok, run_underlying hu, szOf_run hm, Array.toList_map, hf, Sem.run_pure]
    · cases hb
  · cases hb


theorem repeatL_length {α : Type} (n : Nat) (l : List α) : (repeatL n l).length = n * l.length := by
  simp [repeatL]

theorem repeatL_get {α : Type} (l : List α) (hl : 0 < l.length) : ∀ (n i : Nat), i < n * l.length → (repeatL n l)[i]? = l[i % l.length]?
  | 0, i, h => by omega
  | n + 1, i, h => by
    have e : repeatL (n + 1) l = l ++ repeatL n l := by simp [repeatL, List.replicate_succ]
    rw [e, List.getElem?_append]
    split
    · rename_i hlt; rw [Nat.mod_eq_of_lt hlt]
    · rename_i hge
      have h' : i < n * l.length + l.length := by rw [Nat.add_mul, Nat.one_mul] at h; exact h
      rw [repeatL_get l hl n (i - l.length) (by omega), ← Nat.mod_eq_sub_mod (by omega)]

theorem zeros_DL {z : List SV} {v : Array Value} (h : DL ρ z v.toList) (hz : 0 < z.length) (n : Nat) :
    DL ρ (repeatL n z) (((Array.range (n * z.length)).map (v[· % v.size]!)).toList) := by
  have hl := h.length
  simp only [Array.length_toList] at hl
  refine DL.mk' (by simp [repeatL_length]) fun i s y hs hy => ?_
  have hi : i < n * z.length := by
    have := (List.getElem?_eq_some_iff.1 hs).1
    rwa [repeatL_length] at this
  rw [repeatL_get z hz n i hi] at hs
  simp only [Array.toList_map, Array.toList_range, List.getElem?_map, List.getElem?_range hi, Option.map_some, Option.some.injEq] at hy
  subst hy
  obtain ⟨y, hy, hd⟩ := h.get hs
  have hm : i % z.length < z.length := Nat.mod_lt _ hz
  rw [hl]
  have : v[i % z.length]? = some y := by simpa using hy
  rw [getElem!_def, this]
  exact hd

theorem ok_buildSlice {t : TypeId} {n : Nat} {ps : Array (Nat × Operand)} {el : TypeId} {sz : Nat} {z cs : List SV} (ho : o.op = .buildSlice t n ps) (hu : P.underlying t = some (.slice el))
    (hsz : szOf P el = some sz) (hz : zeroSV P el = some z) (hc : n * sz ≤ 2 ^ 24 ∧ z.length = sz ∧ 0 < sz)
    (hf : fillS (fun i => some (i * sz, sz)) (repeatL n z) (ps.toList.map fun p => (p.1, e p.2)) = some cs)
    (EV : ∀ x, DV ρ (e x) (ev x)) (D : DH E ρ hp w) (f : Free hp nx) : Went P E ρ hp w o ev ⟨[], .sl nx 0 n n, [(nx, .cells el cs)]⟩ := by
  have hparts : DL ρ ((ps.toList.map fun p => (p.1, e p.2)).map (·.2)) ((ps.toList.map fun p => (p.1, ev p.2)).map (·.2)) := by
    simp only [List.map_map]
    exact DL_map _ _ _ fun p => EV p.2
  obtain ⟨v, hv, hl⟩ := zero_run (ρ := ρ) hz w
  have hl0 : DL ρ (repeatL n z) (((Array.range (n * sz)).map ((if n * sz = 0 then #[] else v.cells)[· % (if n * sz = 0 then #[] else v.cells).size]!)).toList) := by
    by_cases h0 : n * sz = 0
    · have hn : n = 0 := by
        rcases Nat.mul_eq_zero.1 h0 with h | h
        · exact h
        · omega
      subst hn
      simpa [repeatL] using DL.nil
    · rw [if_neg h0]
      have := zeros_DL hl (by omega) n
      rw [hc.2.1] at this
      exact this
  obtain ⟨vs, hfl, hd⟩ := fillS_fill (ys := ps.toList.map fun p => (p.1, ev p.2)) hf hl0 (by simp) hparts
  refine ⟨.slice (some ⟨w.heap.size, 0, none⟩) n n, w.alloc (.cells vs el), upd ρ nx ⟨w.heap.size, undef⟩, .inl ?_, upd_ext (f.none D), ?_, D.alloc f hd undef⟩
  · by_cases h0 : n * sz = 0
    · simp only [h0, if_true] at hfl
      simp only [execOp, ho, Instr.buildSlice, Sem.run_bind, run_underlying hu, Result.andThen_ok, szOf_run hsz]
      rw [if_neg (by omega)]
      simp only [h0, if_true, Sem.run_bind, Sem.run_pure, Result.andThen_ok, Array.toList_map, hfl, newRow, run_newObj, World.alloc_eq]
    · simp only [h0, if_false] at hfl
      simp only [execOp, ho, Instr.buildSlice, Sem.run_bind, run_underlying hu, Result.andThen_ok, szOf_run hsz]
      rw [if_neg (by omega)]
      simp only [h0, if_false, Sem.run_bind, Sem.run_pure, Result.andThen_ok, Array.toList_map, hv, hfl, newRow, run_newObj, World.alloc_eq]
  · simp only [DV]
    exact ⟨_, upd_same _ _, Nat.le_refl _, rfl⟩

theorem sureAddr_run (a : Addr) (w : World) : (Instr.sureAddr (.pointer (some a))).run P w = .ok a w := rfl

theorem ok_load_cells {t : TypeId} {a : Operand} {i off : Nat} {el : TypeId} {cs : List SV} {s : SV} (ho : o.op = .load t a) (ha : e a = .ptr i off) (hi : hp[i]? = some (.cells el cs))
    (hl : loadFrom P t cs off = some s) (EV : ∀ x, DV ρ (e x) (ev x)) (D : DH E ρ hp w) : Went P E ρ hp w o ev ⟨[], s, []⟩ := by
  obtain ⟨p, vs, hpi, hb, hd⟩ := D.ok i _ hi
  have hv := EV a
  rw [ha] at hv
  simp only [DV] at hv
  obtain ⟨q, hq, hv⟩ := hv
  rw [hpi] at hq; cases hq
  obtain ⟨y, hy, hdv⟩ := loadFrom_run hl hb hd
  exact went_pure D (by simp [execOp, ho, Instr.loadAt, hv, sureAddr_run, hy]) hdv

theorem ok_load_rcells {t : TypeId} {a : Operand} {i off : Nat} {cs : List SV} {s : SV} (ho : o.op = .load t a) (ha : e a = .ptr i off) (hi : hp[i]? = some (.rcells cs))
    (hl : loadFrom P t cs off = some s) (EV : ∀ x, DV ρ (e x) (ev x)) (D : DH E ρ hp w) : Went P E ρ hp w o ev ⟨[], s, []⟩ := by
  obtain ⟨p, vs, el, hpi, hf, hb, hd⟩ := D.ok i _ hi
  have hv := EV a
  rw [ha] at hv
  simp only [DV] at hv
  obtain ⟨q, hq, hv⟩ := hv
  rw [hpi] at hq; cases hq
  obtain ⟨y, hy, hdv⟩ := loadFrom_run hl ((D.old _ hf).trans hb) hd
  exact went_pure D (by simp [execOp, ho, Instr.loadAt, hv, sureAddr_run, hy]) hdv

theorem ok_store {t : TypeId} {a x : Operand} {i off : Nat} {el : TypeId} {cs cs' : List SV} (ho : o.op = .store t a x) (ha : e a = .ptr i off) (hi : hp[i]? = some (.cells el cs))
    (hs : storeTo P t cs off (e x) = some cs') (EV : ∀ x, DV ρ (e x) (ev x)) (D : DH E ρ hp w) : Went P E ρ hp w o ev ⟨[], .v undef, [(i, .cells el cs')]⟩ := by
  obtain ⟨p, vs, hpi, hb, hd⟩ := D.ok i _ hi
  have hv := EV a
  rw [ha] at hv
  simp only [DV] at hv
  obtain ⟨q, hq, hv⟩ := hv
  rw [hpi] at hq; cases hq
  obtain ⟨vs', hrun, hd'⟩ := storeTo_run hs (EV x) hb hd
  refine ⟨undef, w.setRow p.block vs', ρ, .inr ⟨?_, rfl⟩, Ext.refl _, by simp [DV], D.write hi hpi hd'⟩
  simp [execOp, ho, Instr.storeAt, hv, sureAddr_run, hrun]

theorem ok_nilCheck {x : Operand} (ho : o.op = .nilCheck x) (hx : (∃ i off, e x = .ptr i off) ∨ ∃ g a b, e x = .fn (.func g) a b)
    (EV : ∀ x, DV ρ (e x) (ev x)) (D : DH E ρ hp w) : Went P E ρ hp w o ev ⟨[], e x, []⟩ := by
  refine went_pure D (y := ev x) ?_ (EV x)
  have hv := EV x
  rcases hx with ⟨i, off, hx⟩ | ⟨g, a, b, hx⟩ <;> rw [hx] at hv <;> simp only [DV] at hv
  · obtain ⟨p, _, hv⟩ := hv; simp [execOp, ho, hv]
  · obtain ⟨p, _, hv, _⟩ := hv; simp [execOp, ho, hv]

theorem ok_fieldAddr {t : TypeId} {x : Operand} {f : Nat} {fs : Array Field} {fd : Field} {n i off : Nat} (ho : o.op = .fieldAddr t x f) (hu : P.underlying t = some (.struct fs)) (hf : fs[f]? = some fd)
    (hn : szOf P fd.type = some (n + 1)) (hx : e x = .ptr i off)
    (EV : ∀ x, DV ρ (e x) (ev x)) (D : DH E ρ hp w) : Went P E ρ hp w o ev ⟨[], .ptr i (off + fd.offset), []⟩ := by
  have hv := EV x
  rw [hx] at hv
  simp only [DV] at hv
  obtain ⟨p, hp', hv⟩ := hv
  refine went_pure D (y := .pointer (some ⟨p.block, off + fd.offset, none⟩)) ?_ (by simp only [DV]; exact ⟨p, hp', rfl⟩)
  simp [execOp, ho, Instr.fieldAt, hv, sureAddr_run, run_underlying hu, hf, fieldPlace, szOf_run hn, addr_add]

theorem ok_field {t : TypeId} {x : Operand} {f : Nat} {fs : Array Field} {fd : Field} {cs : List SV} {s : SV} (ho : o.op = .field t x f) (hu : P.underlying t = some (.struct fs)) (hf : fs[f]? = some fd)
    (hx : e x = .agg cs) (hl : loadFrom P fd.type cs fd.offset = some s) (EV : ∀ x, DV ρ (e x) (ev x)) (D : DH E ρ hp w) : Went P E ρ hp w o ev ⟨[], s, []⟩ := by
  have hv := EV x
  rw [hx] at hv
  simp only [DV] at hv
  obtain ⟨a, hv, hd⟩ := hv
  obtain ⟨y, hy, hdv⟩ := part_run (P := P) hl hd w
  exact went_pure D (by simp [execOp, ho, Instr.field, hv, run_underlying hu, hf, asAgg, hy]) hdv

theorem ok_extract {x : Operand} {i : Nat} {l : List SV} {s : SV} (ho : o.op = .extract x i) (hx : e x = .tup l) (hi : l[i]? = some s) (EV : ∀ x, DV ρ (e x) (ev x)) (D : DH E ρ hp w) :
    Went P E ρ hp w o ev ⟨[], s, []⟩ := by
  have hv := EV x
  rw [hx] at hv
  simp only [DV] at hv
  obtain ⟨a, hv, hd⟩ := hv
  obtain ⟨y, hy, hdv⟩ := hd.get hi
  have hy' : a[i]? = some y := by simpa using hy
  exact went_pure D (by simp [execOp, ho, Instr.extract, hv, hy']) hdv

theorem ok_makeFunc {f : Fn} {a c : Array Operand} (ho : o.op = .makeFunc f a c) (EV : ∀ x, DV ρ (e x) (ev x)) (D : DH E ρ hp w) :
    Went P E ρ hp w o ev ⟨[], .fn f (a.toList.map e) (c.toList.map e), []⟩ := by
  refine went_pure D (y := .func f (a.map ev) (c.map ev)) (by simp [execOp, ho, Instr.makeFunc]) ?_
  simp only [DV]
  exact ⟨_, _, rfl, by simpa using DL_map _ _ _ EV, by simpa using DL_map _ _ _ EV⟩

theorem ok_makeInterface {t : TypeId} {x : Operand} {d : TypeDesc} (ho : o.op = .makeInterface t x) (hu : P.underlying t = some d) (hd : ∀ ms, d ≠ .interface ms) (EV : ∀ x, DV ρ (e x) (ev x))
    (D : DH E ρ hp w) : Went P E ρ hp w o ev ⟨[], .ifc t (e x), []⟩ := by
  refine went_pure D (y := .iface t (ev x)) ?_ (by simp only [DV]; exact ⟨_, rfl, EV x⟩)
  cases d <;> first | exact absurd rfl (hd _) | simp [execOp, ho, Instr.makeInterface, run_underlying hu]

theorem index_lt {i : Int} {n : Nat} (h : 0 ≤ i ∧ i < n) : i.toNat < n := by omega

theorem ok_index {t : TypeId} {x ix : Operand} {k : IntKind} {i : Int} {n : Nat} {el : TypeId} {sz : Nat} {cs : List SV} {s : SV} {ps : List Bool} (ho : o.op = .index t x ix) (hix : e ix = .v (.int k i))
    (hu : P.underlying t = some (.array n el)) (hx : e x = .agg cs) (hsz : szOf P el = some sz) (hl : loadFrom P el cs (i.toNat * sz) = some s) (hb : 0 ≤ i ∧ i < n) (EV : ∀ x, DV ρ (e x) (ev x))
    (D : DH E ρ hp w) : Went P E ρ hp w o ev ⟨ps, s, []⟩ := by
  have hv := EV x
  have hi := EV ix
  rw [hx] at hv
  rw [hix] at hi
  simp only [DV] at hv hi
  obtain ⟨a, hv, hd⟩ := hv
  obtain ⟨y, hy, hdv⟩ := part_run (P := P) hl hd w
  exact went_pure D (by simp [execOp, ho, Instr.index, hv, hi, asIntOf, run_underlying hu, hb, szOf_run hsz, hy]) hdv

theorem flatten_get (sz : Nat) : ∀ (xs : List (List Value)) (_ : ∀ x ∈ xs, x.length = sz) (i j : Nat) (x : List Value) (u : Value), xs[i]? = some x → x[j]? = some u → xs.flatten[i * sz + j]? = some u
  | [], _, i, j, x, u, h, _ => by simp at h
  | a :: r, hall, i, j, x, u, h, hu => by
    have ha := hall a (by simp)
    rw [List.flatten_cons, List.getElem?_append]
    cases i with
    | zero =>
      simp only [List.getElem?_cons_zero, Option.some.injEq] at h
      subst h
      have := (List.getElem?_eq_some_iff.1 hu).1
      rw [if_pos (by omega)]; simpa using hu
    | succ i =>
      have hgt : ¬ (i + 1) * sz + j < a.length := by rw [Nat.add_mul]; omega
      rw [if_neg hgt, show (i + 1) * sz + j - a.length = i * sz + j by rw [Nat.add_mul]; omega]
      exact flatten_get sz r (fun x hx => hall x (by simp [hx])) i j x u (by simpa using h) hu

theorem ok_indexAddr {t : TypeId} {x ix : Operand} {k : IntKind} {i : Int} {s : SV} {el : TypeId} {sz n : Nat} {ps : List Bool} (ho : o.op = .indexAddr t x ix) (hix : ev ix = .int k i)
    (hsz : szOf P el = some sz) (hb : 0 ≤ i ∧ i < n)
    (hx : (P.underlying t = some (.array n el) ∧ ∃ b off, e x = .ptr b off ∧ s = .ptr b (off + i.toNat * sz)) ∨
      (P.underlying t = some (.slice el) ∧ ∃ b off c, e x = .sl b off n c ∧ s = .ptr b (off + i.toNat * sz)))
    (EV : ∀ x, DV ρ (e x) (ev x)) (D : DH E ρ hp w) : Went P E ρ hp w o ev ⟨ps, s, []⟩ := by
  have hv := EV x
  have hi := hix
  rcases hx with ⟨hu, b, off, hx, rfl⟩ | ⟨hu, b, off, c, hx, rfl⟩ <;> rw [hx] at hv <;> simp only [DV] at hv
  · obtain ⟨p, hp', hv⟩ := hv
    refine went_pure D (y := .pointer (some ⟨p.block, off + i.toNat * sz, none⟩)) ?_ (by simp only [DV]; exact ⟨p, hp', rfl⟩)
    simp [execOp, ho, Instr.indexAt, hv, hi, asIntOf, sureAddr_run, run_underlying hu, hb, szOf_run hsz, addr_add]
  · obtain ⟨p, hp', hnc, hv⟩ := hv
    refine went_pure D (y := .pointer (some ⟨p.block, off + i.toNat * sz, none⟩)) ?_ (by simp only [DV]; exact ⟨p, hp', rfl⟩)
    simp [execOp, ho, Instr.indexAt, hv, hi, asIntOf, run_underlying hu, hb, szOf_run hsz, addr_add]

theorem eqFs_run {d : Nat} {xs ys : Array Value} (ih : ∀ t x y b, eqT P d t x y = some b → ∀ n, d ≤ n → ∀ w, (Op.equalIn n t x y).run P w = .ok b w) (n : Nat) (hn : d ≤ n) :
    ∀ (fs : List Field) (b : Bool), eqFs P (eqT P d) xs ys fs = some b → ∀ w, (Op.eqFields n xs ys fs).run P w = .ok b w
  | [], b, h, w => by simp only [eqFs, Option.some.injEq] at h; subst h; rfl
  | f :: fs, b, h, w => by
    simp only [eqFs] at h
    split at h
    · rename_i hne
      split at h
      · rename_i x y hx hy
        split at h
        · rename_i r hr
          have h1 := prun_run P _ _ hx w
          have h2 := prun_run P _ _ hy w
          have h3 := ih _ _ _ _ hr n hn w
          split at h
          · cases h
            simp only [Op.eqFields, if_pos hne, Sem.run_bind, h1, h2, h3, Result.andThen_ok]
            cases b <;> simp
          · rename_i g gs
            simp only [Option.map_eq_some_iff] at h
            obtain ⟨q, hq, rfl⟩ := h
            have h4 := eqFs_run ih n hn _ _ hq w
            rw [Op.eqFields]
            simp only [if_pos hne, Sem.run_bind, h1, h2, h3, Result.andThen_ok]
            cases r with
            | false => simp
            | true => simpa using h4
        · cases h
      · cases h
    · rename_i hne
      rw [Op.eqFields, if_neg hne]
      exact eqFs_run ih n hn fs b h w

theorem eqT_run : ∀ (d : Nat) (t : TypeId) (x y : Value) (b : Bool), eqT P d t x y = some b → ∀ n, d ≤ n → ∀ w, (Op.equalIn n t x y).run P w = .ok b w
  | 0, _, _, _, _, h, _, _, _ => by simp [eqT] at h
  | d + 1, t, x, y, b, h, n, hn, w => by
    obtain ⟨m, rfl⟩ : ∃ m, n = m + 1 := ⟨n - 1, by omega⟩
    simp only [eqT] at h
    split at h
    · rename_i hu; cases h; simp [Op.equalIn, run_underlying hu]
    · rename_i k k' a c hu
      split at h
      · cases h; subst_vars; simp [Op.equalIn, run_underlying hu]
      · cases h
    · rename_i hu; cases h; simp [Op.equalIn, run_underlying hu]
    · rename_i fs xs ys hu
      split at h
      · cases h
      · rename_i hst
        have hfo : P.fieldsOf t = fs := by simp [Program.fieldsOf, hu]
        rw [run_equalIn_struct w m t xs ys (by rw [hfo]; exact hu) (by simpa using hst), hfo]
        exact eqFs_run (eqT_run d) m (by omega) fs.toList b h w
    · cases h

theorem ok_pure1 {s : SV} {y : Value} {ps : List Bool} (D : DH E ρ hp w) (hr : (execOp ev o).run P w = .ok (.value y) w) (hs : s = lift y) : Went P E ρ hp w o ev ⟨ps, s, []⟩ := by
  subst hs
  exact went_pure D hr (lift_DV y)

theorem eqGuard_agg {op : BinOp} {t : TypeId} {x y : Operand} {a b : Array Value} (h : ¬ P.eqGuardType P.depth t = true) (w : World) :
    (eqGuard op t x y (.agg a) (.agg b)).run P w = .ok () w := by
  unfold eqGuard
  cases op <;> simp [h]

theorem DV_agg_inv {l : List SV} {y : Value} (h : DV ρ (.agg l) y) : ∃ a, y = .agg a := by
  simp only [DV] at h; obtain ⟨a, rfl, _⟩ := h; exact ⟨a, rfl⟩

theorem intOf_DV {s : SV} {k : IntKind} {x lo hi : Int} {y : Value} (h : intOf s = some (k, x, lo, hi)) (hd : DV ρ s y) : y = .int k x ∧ lo ≤ x ∧ x ≤ hi := by
  unfold intOf at h
  split at h
  · cases h; simp only [DV] at hd; exact ⟨hd, Int.le_refl _, Int.le_refl _⟩
  · cases h; simpa only [DV] using hd
  · cases h

theorem inK_iff {k : IntKind} {lo hi : Int} (h : inK k lo hi = true) : kmin k ≤ lo ∧ hi ≤ kmax k := by simpa [inK] using h

theorem wrap_in {k : IntKind} {n : Int} (h : kmin k ≤ n ∧ n ≤ kmax k) : k.wrap n = n := by
  cases k <;> simp only [kmin, kmax] at h <;> simp only [IntKind.wrap, IntKind.bits, IntKind.signed] <;> simp <;> (try split) <;> omega

theorem wrap_range (k : IntKind) (n : Int) : kmin k ≤ k.wrap n ∧ k.wrap n ≤ kmax k := by
  cases k <;> simp only [kmin, kmax] <;> simp only [IntKind.wrap, IntKind.bits, IntKind.signed] <;> simp <;> (try split) <;> omega

theorem ovI_DV {k : IntKind} {n lo hi : Int} (h : lo ≤ n ∧ n ≤ hi) : DV ρ (ovI k n lo hi) (.int k (k.wrap n)) := by
  unfold ovI
  cases hk : inK k lo hi with
  | true =>
    have := inK_iff hk
    simp only [cond_true, DV]
    rw [wrap_in ⟨by omega, by omega⟩]
    exact ⟨rfl, h⟩
  | false =>
    simp only [cond_false, DV]
    exact ⟨trivial, wrap_range k n⟩

theorem cmpR_DV {yes no p : Bool} {r : Res} (h : cmpR yes no p = some r) (h1 : yes = true → p = true) (h2 : no = true → p = false) : r.need = [] ∧ r.eff = [] ∧ DV ρ r.val (.bool p) := by
  unfold cmpR at h
  cases yes with
  | true => cases h; exact ⟨rfl, rfl, by simp only [DV]; rw [h1 rfl]⟩
  | false =>
    cases no with
    | true => cases h; exact ⟨rfl, rfl, by simp only [DV]; rw [h2 rfl]⟩
    | false => cases h; exact ⟨rfl, rfl, by simp only [DV]⟩

theorem quo_le {x y : Int} (hx : 0 ≤ x) (hy : 1 ≤ y) : 0 ≤ x / y ∧ x / y ≤ x :=
  ⟨Int.ediv_nonneg hx (by omega), Int.ediv_le_self y hx⟩
theorem rem_lt {x y : Int} (hx : 0 ≤ x) (hy : 1 ≤ y) : 0 ≤ x % y ∧ x % y ≤ y - 1 :=
  ⟨Int.emod_nonneg x (by omega), by have := Int.emod_lt_of_pos x (show 0 < y by omega); omega⟩
theorem tmod_between {x y : Int} (hy : 1 ≤ y) : 1 - y ≤ x.tmod y ∧ x.tmod y ≤ y - 1 := by
  rcases Int.le_total 0 x with h | h
  · have := Int.tmod_lt_of_pos x (show 0 < y by omega)
    have := Int.tmod_nonneg y h
    omega
  · have h1 := Int.tmod_lt_of_pos (-x) (show 0 < y by omega)
    have h2 := Int.tmod_nonneg y (show 0 ≤ -x by omega)
    rw [Int.neg_tmod] at h1 h2
    omega
theorem mul_between {x y la ha lb hb : Int} (h1 : 0 ≤ la) (h2 : 0 ≤ lb) (hx : la ≤ x ∧ x ≤ ha) (hy : lb ≤ y ∧ y ≤ hb) : la * lb ≤ x * y ∧ x * y ≤ ha * hb :=
  ⟨Int.mul_le_mul hx.1 hy.1 h2 (by omega), Int.mul_le_mul hx.2 hy.2 (by omega) (by omega)⟩

theorem arith_run {t : TypeId} {k : IntKind} {op : BinOp} {x y : Int} (w : World) (hop : op = .add ∨ op = .sub ∨ op = .mul) :
    (Go.binOp op t (.int k x) (.int k y)).run P w = .ok (.int k (k.wrap (match op with | .add => x + y | .sub => x - y | _ => x * y))) w := by
  rcases hop with rfl | rfl | rfl <;> simp [Go.binOp, Op.intArith]

theorem binI_run {op : BinOp} {a b : SV} {m n : Value} {x y : Operand} {t : TypeId} (h : binI op a b = some r) (hm : DV ρ a m) (hn : DV ρ b n) (w : World) :
    r.need = [] ∧ r.eff = [] ∧ ∃ q, (Go.binOp op t m n).run P w = .ok q w ∧ (eqGuard op t x y m n).run P w = .ok () w ∧ DV ρ r.val q := by
  unfold binI at h
  split at h
  · rename_i k x' la ha k' y' lb hb e1 e2
    obtain ⟨rfl, hx⟩ := intOf_DV e1 hm
    obtain ⟨rfl, hy⟩ := intOf_DV e2 hn
    by_cases hk : k = k'
    · subst hk
      have hg : (eqGuard op t x y (.int k x') (.int k y')).run P w = .ok () w := by unfold eqGuard; cases op <;> simp
      simp only [decide_true, cond_true] at h
      split at h
      · cases h; exact ⟨rfl, rfl, _, arith_run w (.inl rfl), hg, ovI_DV (by omega)⟩
      · cases h; exact ⟨rfl, rfl, _, arith_run w (.inr (.inl rfl)), hg, ovI_DV (by omega)⟩
      · cases hc : (decide (0 ≤ la) && decide (0 ≤ lb)) with
        | true =>
          rw [hc] at h
          simp only [Bool.and_eq_true, decide_eq_true_eq] at hc
          cases h; exact ⟨rfl, rfl, _, arith_run w (.inr (.inr rfl)), hg, ovI_DV (mul_between hc.1 hc.2 hx hy)⟩
        | false =>
          rw [hc] at h
          cases h; exact ⟨rfl, rfl, _, arith_run w (.inr (.inr rfl)), hg, by simp only [DV]; exact ⟨trivial, wrap_range _ _⟩⟩
      · cases hc : decide (1 ≤ lb) with
        | false => rw [hc] at h; cases h
        | true =>
          rw [hc] at h
          simp only [decide_eq_true_eq] at hc
          have hz : y' ≠ 0 := by omega
          have hrun : (Go.binOp .rem t (.int k x') (.int k y')).run P w = .ok (.int k (x'.tmod y')) w := by simp [Go.binOp, Op.intDiv, hz]
          cases hl : decide (0 ≤ la) with
          | true =>
            rw [hl] at h
            simp only [decide_eq_true_eq] at hl
            cases h
            refine ⟨rfl, rfl, _, hrun, hg, ?_⟩
            simp only [DV]
            have := rem_lt (show 0 ≤ x' by omega) (show 1 ≤ y' by omega)
            exact ⟨by rw [Int.tmod_eq_emod_of_nonneg (by omega)], by omega, by omega⟩
          | false =>
            rw [hl] at h
            cases h
            refine ⟨rfl, rfl, _, hrun, hg, ?_⟩
            simp only [DV]
            have := tmod_between (x := x') (show 1 ≤ y' by omega)
            exact ⟨trivial, by omega, by omega⟩
      · cases hc : (decide (1 ≤ lb) && decide (0 ≤ la)) with
        | false => rw [hc] at h; cases h
        | true =>
          rw [hc] at h
          simp only [Bool.and_eq_true, decide_eq_true_eq] at hc
          have hz : y' ≠ 0 := by omega
          cases h
          have := quo_le (show 0 ≤ x' by omega) (show 1 ≤ y' by omega)
          refine ⟨rfl, rfl, .int k (k.wrap (x' / y')), ?_, hg, ovI_DV (by omega)⟩
          simp [Go.binOp, Op.intDiv, hz, Int.tdiv_eq_ediv_of_nonneg (show 0 ≤ x' by omega)]
      · obtain ⟨h1, h2, h3⟩ := cmpR_DV (ρ := ρ) h (by simp; omega) (by simp; omega)
        exact ⟨h1, h2, _, by simp [Go.binOp, Op.intCmp], hg, h3⟩
      · obtain ⟨h1, h2, h3⟩ := cmpR_DV (ρ := ρ) h (by simp; omega) (by simp; omega)
        exact ⟨h1, h2, _, by simp [Go.binOp, Op.intCmp], hg, h3⟩
      · obtain ⟨h1, h2, h3⟩ := cmpR_DV (ρ := ρ) h (by simp; omega) (by simp; omega)
        exact ⟨h1, h2, _, by simp [Go.binOp, Op.intCmp], hg, h3⟩
      · obtain ⟨h1, h2, h3⟩ := cmpR_DV (ρ := ρ) h (by simp; omega) (by simp; omega)
        exact ⟨h1, h2, _, by simp [Go.binOp, Op.intCmp], hg, h3⟩
      · obtain ⟨h1, h2, h3⟩ := cmpR_DV (ρ := ρ) h (by simp) (by simp; omega)
        exact ⟨h1, h2, .bool (decide (x' = y')), by simp [Go.binOp, Op.intCmp, BEq.beq], hg, h3⟩
      · obtain ⟨h1, h2, h3⟩ := cmpR_DV (ρ := ρ) h (by simp; omega) (by simp)
        exact ⟨h1, h2, .bool (!decide (x' = y')), by simp [Go.binOp, Op.intCmp, bne, BEq.beq], hg, h3⟩
      · cases h
    · simp [hk] at h
  · cases h

theorem binV_run {op : BinOp} {t : TypeId} {x y : Operand} {m n q : Value} {ps : List Bool} (h : binV P op t x y m n = some (ps, q)) (hneed : allNeed ps) (w : World) :
    (do eqGuard op t x y m n; Go.binOp op t m n : Sem Value).run P w = .ok q w := by
  unfold binV at h
  split at h
  · split at h
    · subst_vars
      cases h
      have hn := hneed.1
      simp only [Bool.not_eq_true', decide_eq_false_iff_not] at hn
      simp [eqGuard, Go.binOp, Op.intDiv, hn]
    · cases h
  · split at h
    · subst_vars
      cases h
      have hn := hneed.1
      simp only [Bool.not_eq_true', decide_eq_false_iff_not] at hn
      simp [eqGuard, Go.binOp, Op.intDiv, hn]
    · cases h
  · rename_i a b
    cases h
    have hn : ((a.size + b.size : Nat) : Int) ≤ 9223372036854775807 := of_decide_eq_true hneed.1
    have hn' : ¬ (((a.size + b.size : Nat) : Int) > 9223372036854775807) := by omega
    simp only [eqGuard, Go.binOp, Op.stringOp, IntKind.max_i64]; rw [if_neg hn']; simp
  · rename_i a b
    split at h
    · cases h
    · rename_i hg
      simp only [Option.map_eq_some_iff] at h
      obtain ⟨r, hr, he⟩ := h
      cases he
      have hq' := eqT_run 100 t _ _ r hr 10000 (by omega) w
      simp only [Sem.run_bind, eqGuard_agg hg, Result.andThen_ok]
      simp [Go.binOp, Op.equal, Op.maxDepth, hq']
  · rename_i a b
    split at h
    · cases h
    · rename_i hg
      simp only [Option.map_eq_some_iff] at h
      obtain ⟨r, hr, he⟩ := h
      cases he
      have hq' := eqT_run 100 t _ _ r hr 10000 (by omega) w
      simp only [Sem.run_bind, eqGuard_agg hg, Result.andThen_ok]
      simp [Go.binOp, Op.equal, Op.maxDepth, hq']
  · simp only [Option.map_eq_some_iff] at h
    obtain ⟨r, hr, he⟩ := h
    cases he
    exact prun_run P _ _ hr w

theorem bin_exec {op : BinOp} {t t' : TypeId} {x y : Operand} {q : Value} (ho : o.op = .binOp op t x y t') (h : (do eqGuard op t x y (ev x) (ev y); Go.binOp op t (ev x) (ev y) : Sem Value).run P w = .ok q w) :
    (execOp ev o).run P w = .ok (.value q) w := by
  simp only [Sem.run_bind] at h
  simp only [execOp, ho, Sem.run_bind]
  revert h
  cases hg : (eqGuard op t x y (ev x) (ev y)).run P w with
  | ok u w1 =>
    simp only [Result.andThen_ok]
    intro h
    rw [h]; rfl
  | _ => intro h; simp [Result.andThen] at h

theorem catS_run {a b : SV} {m n : Value} (h : catS a b = some r) (hneed : allNeed r.need) (hm : DV ρ a m) (hn : DV ρ b n) (t : TypeId) (x y : Operand) (w : World) :
    r.eff = [] ∧ ∃ q, (do eqGuard .add t x y m n; Go.binOp .add t m n : Sem Value).run P w = .ok q w ∧ DV ρ r.val q := by
  have key : ∀ (p q : ByteArray), (decide (((p.size + q.size : Nat) : Int) ≤ 9223372036854775807)) = true → (do eqGuard .add t x y (.string p) (.string q); Go.binOp .add t (.string p) (.string q) : Sem Value).run P w = .ok (.string (p ++ q)) w := by
    intro p q hd
    have hn : ((p.size + q.size : Nat) : Int) ≤ 9223372036854775807 := of_decide_eq_true hd
    have hn' : ¬ (((p.size + q.size : Nat) : Int) > 9223372036854775807) := by omega
    simp only [eqGuard, Go.binOp, Op.stringOp, IntKind.max_i64]; rw [if_neg hn']; simp
  have hs : ∀ p q : ByteArray, ((p ++ q).size : Int) = (p.size : Int) + q.size := by intro p q; rw [ByteArray.size_append]; omega
  have cap : ∀ z n : Int, z ≤ n → z ≤ 9223372036854775807 → z ≤ capS n := fun z n h1 h2 => by
    unfold capS
    cases decide (n ≤ 9223372036854775807)
    · exact h2
    · exact h1
  unfold catS at h
  split at h
  · cases h
    simp only [DV] at hm hn
    obtain ⟨rfl, hm⟩ := hm
    obtain ⟨rfl, hn⟩ := hn
    have hle := of_decide_eq_true hneed.1
    exact ⟨rfl, _, key _ _ hneed.1, by simp only [DV, hs]; exact ⟨trivial, cap _ _ (by omega) (by omega)⟩⟩
  · cases h
    simp only [DV] at hm hn
    obtain ⟨rfl, hm⟩ := hm
    subst hn
    have hle := of_decide_eq_true hneed.1
    exact ⟨rfl, _, key _ _ hneed.1, by simp only [DV, hs]; exact ⟨trivial, cap _ _ (by omega) (by omega)⟩⟩
  · cases h
    simp only [DV] at hm hn
    subst hm
    obtain ⟨rfl, hn⟩ := hn
    have hle := of_decide_eq_true hneed.1
    exact ⟨rfl, _, key _ _ hneed.1, by simp only [DV, hs]; exact ⟨trivial, cap _ _ (by omega) (by omega)⟩⟩
  · cases h

theorem tmod_le {x y : Int} (hx : 0 ≤ x) : 0 ≤ x.tmod y ∧ x.tmod y ≤ x := by
  refine ⟨Int.tmod_nonneg y hx, ?_⟩
  obtain ⟨m, rfl⟩ := Int.eq_ofNat_of_zero_le hx
  cases y with
  | ofNat n => exact Int.ofNat_le.2 (Nat.mod_le m n)
  | negSucc n => exact Int.ofNat_le.2 (Nat.mod_le m (n + 1))
theorem remI_run {op : BinOp} {a b : SV} {m n : Value} {x y : Operand} {t : TypeId} (h : remI op a b = some r) (hneed : allNeed r.need) (hm : DV ρ a m) (hn : DV ρ b n) (w : World) :
    r.eff = [] ∧ ∃ q, (Go.binOp op t m n).run P w = .ok q w ∧ (eqGuard op t x y m n).run P w = .ok () w ∧ DV ρ r.val q := by
  unfold remI at h
  split at h
  · split at h
    · rename_i k x' la ha k' y' _ _ e1 e2
      obtain ⟨rfl, hx⟩ := intOf_DV e1 hm
      obtain ⟨rfl, hy⟩ := intOf_DV e2 hn
      cases hc : (decide (k = k') && decide (0 ≤ la)) with
      | false => rw [hc] at h; cases h
      | true =>
        rw [hc] at h
        simp only [Bool.and_eq_true, decide_eq_true_eq] at hc
        obtain ⟨rfl, hl⟩ := hc
        cases h
        have hz : y' ≠ 0 := by simpa using hneed.1
        have := tmod_le (x := x') (y := y') (by omega)
        refine ⟨rfl, .int k (x'.tmod y'), by simp [Go.binOp, Op.intDiv, hz], by unfold eqGuard; simp, ?_⟩
        simp only [DV]
        exact ⟨trivial, by omega, by omega⟩
    · cases h
  · split at h
    · rename_i k x' la ha k' y' e1
      obtain ⟨rfl, hx⟩ := intOf_DV e1 hm
      simp only [DV] at hn
      subst hn
      cases hc : (decide (0 ≤ la) && decide (0 ≤ y')) with
      | false => rw [hc] at h; cases h
      | true =>
        rw [hc] at h
        simp only [Bool.and_eq_true, decide_eq_true_eq] at hc
        cases h
        have h2 : ((2 ^ min y'.toNat k.bits : Nat) : Int) = (2 : Int) ^ min y'.toNat k.bits := by simp
        have h3 : (1 : Int) ≤ ((2 ^ min y'.toNat k.bits : Nat) : Int) := by
          have := Nat.two_pow_pos (min y'.toNat k.bits)
          omega
        have := quo_le (x := x') (by omega) h3
        refine ⟨rfl, .int k (x' / ((2 ^ min y'.toNat k.bits : Nat) : Int)), ?_, by unfold eqGuard; simp, ?_⟩
        · rw [h2, ← Int.fdiv_eq_ediv_of_nonneg x' (by omega)]
          simp [Go.binOp, Op.shift, show ¬ y' < 0 by omega]
        · simp only [DV]
          exact ⟨trivial, by omega, by omega⟩
    · cases h
  · split at h
    · rename_i k x' la ha k' y' lb _ e1 e2
      obtain ⟨rfl, hx⟩ := intOf_DV e1 hm
      obtain ⟨rfl, hy⟩ := intOf_DV e2 hn
      cases hc : (decide (k = k') && (decide (0 ≤ la) && decide (0 ≤ lb))) with
      | false => rw [hc] at h; cases h
      | true =>
        rw [hc] at h
        simp only [Bool.and_eq_true, decide_eq_true_eq] at hc
        obtain ⟨rfl, hl, hl2⟩ := hc
        cases h
        have hz : y' ≠ 0 := by simpa using hneed.1
        have h1 := quo_le (x := x') (y := y') (by omega) (by omega)
        refine ⟨rfl, .int k (k.wrap (x' / y')), ?_, by unfold eqGuard; simp, ovI_DV (by omega)⟩
        simp [Go.binOp, Op.intDiv, hz, Int.tdiv_eq_ediv_of_nonneg (show 0 ≤ x' by omega)]
    · cases h
  · split at h
    · rename_i k x' _ _ k' y' _ _ e1 e2
      obtain ⟨rfl, hx⟩ := intOf_DV e1 hm
      obtain ⟨rfl, hy⟩ := intOf_DV e2 hn
      by_cases hk : k = k'
      · subst hk
        simp only [decide_true, cond_true] at h
        cases h
        have := wrap_range k ((BitVec.ofInt k.bits x' ^^^ BitVec.ofInt k.bits y').toNat : Nat)
        refine ⟨rfl, .int k (xorI k x' y'), by simp [Go.binOp, Op.intBits, xorI], by unfold eqGuard; simp, ?_⟩
        simp only [DV]
        exact ⟨trivial, this.1, this.2⟩
      · simp [hk] at h
    · cases h
  · cases h
theorem ok_bin {op : BinOp} {t t' : TypeId} {x y : Operand} (ho : o.op = .binOp op t x y t') (h : binS P op t x y (e x) (e y) = some r) (hneed : allNeed r.need)
    (EV : ∀ x, DV ρ (e x) (ev x)) (D : DH E ρ hp w) : Went P E ρ hp w o ev r := by
  unfold binS at h
  split at h
  · rename_i r' hr
    cases h
    cases hc : (isI (e x) || isI (e y)) with
    | true =>
      rw [hc] at hr
      obtain ⟨h1, h2, q, hq, hg, hd⟩ := binI_run (P := P) (x := x) (y := y) (t := t) hr (EV x) (EV y) w
      obtain ⟨need, val, eff⟩ := r
      simp only at h2
      subst h2
      exact went_pure D (bin_exec ho (by simp only [Sem.run_bind, hg, Result.andThen_ok, hq])) hd
    | false =>
      rw [hc] at hr
      simp only [cond_false] at hr
      split at hr
      · obtain ⟨h2, q, hq, hd⟩ := catS_run (P := P) hr hneed (EV x) (EV y) t x y w
        obtain ⟨need, val, eff⟩ := r
        simp only at h2
        subst h2
        exact went_pure D (bin_exec ho hq) hd
      · cases hr
  · split at h
    · rename_i r' hr
      cases h
      obtain ⟨hc, hr⟩ : (isI (e x) || isI (e y)) = true ∧ remI op (e x) (e y) = some r := by
        cases hc : (isI (e x) || isI (e y)) with
        | true => rw [hc] at hr; exact ⟨rfl, hr⟩
        | false => rw [hc] at hr; cases hr
      obtain ⟨h2, q, hq, hg, hd⟩ := remI_run (P := P) (x := x) (y := y) (t := t) hr hneed (EV x) (EV y) w
      obtain ⟨need, val, eff⟩ := r
      simp only at h2
      subst h2
      exact went_pure D (bin_exec ho (by simp only [Sem.run_bind, hg, Result.andThen_ok, hq])) hd
    split at h
    · rename_i m n hm hn
      simp only [Option.map_eq_some_iff] at h
      obtain ⟨⟨ps, q⟩, hq, rfl⟩ := h
      have hr := binV_run hq hneed w
      rw [← toVal_DV _ _ _ hm (EV x), ← toVal_DV _ _ _ hn (EV y)] at hr
      exact went_pure D (bin_exec ho hr) (liftS_DV _ _)
    · cases h

theorem ok_un {op : UnOp} {t : TypeId} {x : Operand} {v q : Value} {p : Bool} (ho : o.op = .unOp op t x) (hv : toVal (e x) = some v) (hq : prun P (Op.unary op v) = some q)
    (EV : ∀ x, DV ρ (e x) (ev x)) (D : DH E ρ hp w) : Went P E ρ hp w o ev ⟨[], liftS p q, []⟩ := by
  have e1 := toVal_DV _ _ _ hv (EV x)
  have hr := prun_run P _ _ hq w
  refine went_pure D (y := q) ?_ (liftS_DV _ _)
  simp only [execOp, ho, e1, Sem.run_bind, hr, Result.andThen_ok, Sem.run_pure]

theorem ok_not {t : TypeId} {x : Operand} {p : Bool} (ho : o.op = .unOp .not t x) (hv : e x = .b p) (EV : ∀ x, DV ρ (e x) (ev x)) (D : DH E ρ hp w) : Went P E ρ hp w o ev ⟨[], .b (!p), []⟩ := by
  have hd := EV x
  rw [hv] at hd
  simp only [DV] at hd
  refine went_pure D (y := .bool (!p)) ?_ (by simp only [DV])
  simp [execOp, ho, hd, Op.unary]

theorem ok_neg {t : TypeId} {x : Operand} {k : IntKind} {n lo hi : Int} (ho : o.op = .unOp .neg t x) (hv : e x = .i k n lo hi) (EV : ∀ x, DV ρ (e x) (ev x)) (D : DH E ρ hp w) :
    Went P E ρ hp w o ev ⟨[], ovI k (0 - n) (-hi) (-lo), []⟩ := by
  have hd := EV x
  rw [hv] at hd
  simp only [DV] at hd
  obtain ⟨hd, h1, h2⟩ := hd
  refine went_pure D (y := .int k (k.wrap (0 - n))) ?_ (ovI_DV (by omega))
  simp [execOp, ho, hd, Op.unary, Op.intArith]

theorem ok_conv {a b : TypeId} {x : Operand} {v q : Value} {p : Bool} (ho : o.op = .convert a b x) (hv : toVal (e x) = some v) (hq : prun P (Go.convert a b v) = some q)
    (EV : ∀ x, DV ρ (e x) (ev x)) (D : DH E ρ hp w) : Went P E ρ hp w o ev ⟨[], liftS p q, []⟩ := by
  have e1 := toVal_DV _ _ _ hv (EV x)
  have hr := prun_run P _ _ hq w
  refine went_pure D (y := q) ?_ (liftS_DV _ _)
  simp only [execOp, ho, e1, Sem.run_bind, hr, Result.andThen_ok, Sem.run_pure]

theorem ok_convI {a b : TypeId} {x : Operand} {k k' : IntKind} {n lo hi : Int} {ua : TypeDesc} (ho : o.op = .convert a b x) (hv : e x = .i k' n lo hi) (ha : P.underlying a = some ua) (hb : P.underlying b = some (.int k))
    (EV : ∀ x, DV ρ (e x) (ev x)) (D : DH E ρ hp w) : Went P E ρ hp w o ev ⟨[], cond (inK k lo hi) (.i k n lo hi) (.i k (k.wrap n) (kmin k) (kmax k)), []⟩ := by
  have hd := EV x
  rw [hv] at hd
  simp only [DV] at hd
  obtain ⟨hd, h1, h2⟩ := hd
  refine went_pure D (y := .int k (k.wrap n)) ?_ (ovI_DV ⟨h1, h2⟩)
  simp [execOp, ho, hd, Go.convert, run_underlying ha, run_underlying hb, Conv.intToInt]

theorem ok_convS {a b : TypeId} {x : Operand} {y : ByteArray} {hi : Int} (ho : o.op = .convert a b x) (hv : e x = .s y hi) (ha : P.underlying a = some .string) (hb : P.underlying b = some .string)
    (EV : ∀ x, DV ρ (e x) (ev x)) (D : DH E ρ hp w) : Went P E ρ hp w o ev ⟨[], .s y hi, []⟩ := by
  have hd := EV x
  rw [hv] at hd
  refine went_pure D (y := .string y) ?_ (by simp only [DV] at hd ⊢; exact ⟨trivial, hd.2⟩)
  simp only [DV] at hd
  simp [execOp, ho, hd.1, Go.convert, run_underlying ha, run_underlying hb]

theorem toList_one {α : Type} {a : Array α} {x : α} (h : a.toList = [x]) : a = #[x] := by
  rw [← Array.toArray_toList (xs := a), h]
theorem map_one {c : Call} {s : SV} (h : c.args.toList.map e = [s]) : ∃ x, c.args.toList = [x] ∧ e x = s := by
  cases hl : c.args.toList with
  | nil => simp [hl] at h
  | cons x r =>
    simp only [hl, List.map_cons, List.cons.injEq, List.map_eq_nil_iff] at h
    exact ⟨x, by rw [h.2], h.1⟩
theorem map_two {c : Call} {s t : SV} (h : c.args.toList.map e = [s, t]) : ∃ x y, c.args.toList = [x, y] ∧ e x = s ∧ e y = t := by
  cases hl : c.args.toList with
  | nil => simp [hl] at h
  | cons x r =>
    cases r with
    | nil => simp [hl] at h
    | cons y r =>
      simp only [hl, List.map_cons, List.cons.injEq, List.map_eq_nil_iff] at h
      exact ⟨x, y, by rw [h.2.2], h.1, h.2.1⟩

theorem toList_two {α : Type} {a : Array α} {x y : α} (h : a.toList = [x, y]) : a = #[x, y] := by
  rw [← Array.toArray_toList (xs := a), h]

theorem builtin_run {b : Builtin} {c : Call} {ev : Operand → Value} {q : Value} {w w' : World} (ho : o.op = .call c) (hc : c.callee = .builtin b)
    (h : (builtin b c.argTypes o.type (c.args.map fun | .const _ => true | _ => false) (c.args.map ev)).run P w = .ok (.value q) w') :
    (execOp ev o).run P w = .ok (.value q) w' := by
  obtain ⟨cc, args, ts⟩ := c
  simp only at hc
  subst hc
  simp only [execOp, ho, resolve, Sem.run_bind, Sem.run_pure, Result.andThen_ok, invoke]
  exact h

theorem lenB_run {t : TypeId} {ty : TypeId} {ts : Array TypeId} {x q : Value} (ht : ts[0]? = some t) (h : (Builtin.len_ #[t] 0 #[x]).run P w = .ok q w) :
    (Builtin.len_ ts ty #[x]).run P w = .ok q w := by
  rw [← h]
  simp [Builtin.len_, ht]

theorem len_slice_run {t el : TypeId} (hu : P.underlying t = some (.slice el)) (a : Option Addr) (n c : Nat) (w : World) :
    (Builtin.len_ #[t] 0 #[.slice a n c]).run P w = .ok (.int .i64 n) w := by
  simp [Builtin.len_, run_underlying hu, goInt]

theorem ok_len {c : Call} {x : Operand} {t : TypeId} (ho : o.op = .call c) (hc : c.callee = .builtin .len) (ha : c.args.toList = [x]) (ht : c.argTypes[0]? = some t)
    (h : lenS t P (e x) hp = some r) (EV : ∀ x, DV ρ (e x) (ev x)) (D : DH E ρ hp w) : Went P E ρ hp w o ev r := by
  have hv := EV x
  have key : ∀ q : Value, (Builtin.len_ #[t] 0 #[ev x]).run P w = .ok q w → (execOp ev o).run P w = .ok (.value q) w := fun q hq => by
    refine builtin_run ho hc ?_
    rw [toList_one ha]
    simp only [builtin, List.map_toArray, List.map_cons, List.map_nil, Sem.run_bind, lenB_run ht hq, Result.andThen_ok, Sem.run_pure]
  unfold lenS at h
  split at h
  · rename_i b hi hx
    rw [hx] at hv
    simp only [DV] at hv
    obtain ⟨hv, hsz⟩ := hv
    split at h
    · rename_i hu
      cases h
      exact went_pure D (key (.int .i64 b.size) (by rw [hv]; simp [Builtin.len_, run_underlying hu, goInt])) (by simp only [DV]; exact ⟨trivial, by omega, by omega⟩)
    · cases h
  · rename_i i off n cc hx
    rw [hx] at hv
    simp only [DV] at hv
    obtain ⟨p, _, _, hv⟩ := hv
    split at h
    · rename_i el hu
      cases h
      exact ok_pure1 D (key _ (by rw [hv]; exact len_slice_run hu _ _ _ _)) rfl
    · cases h
  · rename_i i lo n f hx
    rw [hx] at hv
    simp only [DV] at hv
    obtain ⟨p, a, cc, _, hv, _, hmax, _⟩ := hv
    split at h
    · rename_i el hu
      cases h
      have : maxLen = 9223372036854775807 := by decide
      exact went_pure D (key (.int .i64 n) (by rw [hv]; exact len_slice_run hu _ _ _ _)) (by simp only [DV]; exact ⟨trivial, by omega, by omega⟩)
    · cases h
  · rename_i i hx
    rw [hx] at hv
    simp only [DV] at hv
    obtain ⟨p, a, n, cc, hp', hv, hs⟩ := hv
    split at h
    · rename_i el kd xs hi
      split at h
      · rename_i el' hu
        cases h
        obtain ⟨p', hp'', _, _, _, hown⟩ := D.ok i _ hi
        rw [hp'] at hp''; cases hp''
        obtain ⟨a', c', h1, _, hmax, _⟩ := hown.len
        have : maxLen = 9223372036854775807 := by decide
        exact went_pure D (key (.int .i64 xs.length) (by rw [hv, h1]; exact len_slice_run hu _ _ _ _)) (by simp only [DV]; exact ⟨trivial, by omega, by omega⟩)
      · cases h
    · rename_i kd xs f hi
      split at h
      · rename_i el' hu
        cases h
        obtain ⟨p', hp'', _, _, hro⟩ := D.ok i _ hi
        rw [hp'] at hp''; cases hp''
        obtain ⟨a', c', h1, _, hmax, _⟩ := hro.len
        have : maxLen = 9223372036854775807 := by decide
        exact went_pure D (key (.int .i64 xs.length) (by rw [hv, h1]; exact len_slice_run hu _ _ _ _)) (by simp only [DV]; exact ⟨trivial, by omega, by omega⟩)
      · cases h
    · cases h
  · rename_i hx
    rw [hx] at hv
    simp only [DV] at hv
    obtain ⟨a, hv⟩ := hv
    split at h
    · rename_i el hu
      cases h
      exact ok_pure1 D (key _ (by rw [hv]; exact len_slice_run hu a 0 0 _)) rfl
    · cases h
  · rename_i v hx
    rw [hx] at hv
    simp only [DV] at hv
    simp only [Option.bind_eq_some_iff, ret, Option.some.injEq] at h
    obtain ⟨q, hq, rfl⟩ := h
    exact ok_pure1 D (key q (by rw [hv]; exact prun_run P _ _ hq w)) rfl
  · cases h

theorem ok_min {c : Call} {x y : Operand} {a b q : Value} {p : Bool} (ho : o.op = .call c) (hc : c.callee = .builtin .min) (ha : c.args.toList = [x, y]) (hx : toVal (e x) = some a) (hy : toVal (e y) = some b)
    (hq : prun P (Builtin.min_ #[] 0 #[a, b]) = some q) (EV : ∀ x, DV ρ (e x) (ev x)) (D : DH E ρ hp w) : Went P E ρ hp w o ev ⟨[], liftS p q, []⟩ := by
  refine went_pure D (y := q) (builtin_run ho hc ?_) (liftS_DV _ _)
  have hr := prun_run P _ _ hq w
  rw [toList_two ha]
  simp only [builtin, List.map_toArray, List.map_cons, List.map_nil, toVal_DV _ _ _ hx (EV x), toVal_DV _ _ _ hy (EV y), Sem.run_bind]
  simp only [Builtin.min_] at hr ⊢
  rw [hr]; rfl

theorem ok_max {c : Call} {x y : Operand} {a b q : Value} {p : Bool} (ho : o.op = .call c) (hc : c.callee = .builtin .max) (ha : c.args.toList = [x, y]) (hx : toVal (e x) = some a) (hy : toVal (e y) = some b)
    (hq : prun P (Builtin.max_ #[] 0 #[a, b]) = some q) (EV : ∀ x, DV ρ (e x) (ev x)) (D : DH E ρ hp w) : Went P E ρ hp w o ev ⟨[], liftS p q, []⟩ := by
  refine went_pure D (y := q) (builtin_run ho hc ?_) (liftS_DV _ _)
  have hr := prun_run P _ _ hq w
  rw [toList_two ha]
  simp only [builtin, List.map_toArray, List.map_cons, List.map_nil, toVal_DV _ _ _ hx (EV x), toVal_DV _ _ _ hy (EV y), Sem.run_bind]
  simp only [Builtin.max_] at hr ⊢
  rw [hr]; rfl

theorem mmI_run {mx : Bool} {a b : SV} {m n : Value} (h : mmI mx a b = some r) (hm : DV ρ a m) (hn : DV ρ b n) (w : World) :
    r.need = [] ∧ r.eff = [] ∧ ∃ q, (cond mx (Builtin.max2 m n) (Builtin.min2 m n)).run P w = .ok q w ∧ DV ρ r.val q := by
  unfold mmI at h
  split at h
  · rename_i k x' la ha k' y' lb hb e1 e2
    obtain ⟨rfl, hx⟩ := intOf_DV e1 hm
    obtain ⟨rfl, hy⟩ := intOf_DV e2 hn
    cases mx with
    | true =>
      have hrun : (Builtin.max2 (.int k x') (.int k' y')).run P w = .ok (.int k (max x' y')) w := by
        simp only [Builtin.max2, Sem.run_pure]; congr 2; split <;> omega
      simp only [cond_true] at h ⊢
      cases h1 : decide (ha ≤ lb) with
      | true =>
        rw [h1] at h; cases h; simp only [decide_eq_true_eq] at h1
        exact ⟨rfl, rfl, _, hrun, by simp only [DV]; exact ⟨by rw [Int.max_eq_right (by omega)], hy⟩⟩
      | false =>
        rw [h1] at h
        cases h2 : decide (hb ≤ la) with
        | true =>
          rw [h2] at h; cases h; simp only [decide_eq_true_eq] at h2
          exact ⟨rfl, rfl, _, hrun, by simp only [DV]; exact ⟨by rw [Int.max_eq_left (by omega)], hx⟩⟩
        | false =>
          rw [h2] at h; cases h
          exact ⟨rfl, rfl, _, hrun, by simp only [DV]; exact ⟨trivial, by omega, by omega⟩⟩
    | false =>
      have hrun : (Builtin.min2 (.int k x') (.int k' y')).run P w = .ok (.int k (min x' y')) w := by
        simp only [Builtin.min2, Sem.run_pure]; congr 2; split <;> omega
      simp only [cond_false] at h ⊢
      cases h1 : decide (ha ≤ lb) with
      | true =>
        rw [h1] at h; cases h; simp only [decide_eq_true_eq] at h1
        exact ⟨rfl, rfl, _, hrun, by simp only [DV]; exact ⟨by rw [Int.min_eq_left (by omega)], hx⟩⟩
      | false =>
        rw [h1] at h
        cases h2 : decide (hb ≤ la) with
        | true =>
          rw [h2] at h; cases h; simp only [decide_eq_true_eq] at h2
          exact ⟨rfl, rfl, _, hrun, by simp only [DV]; exact ⟨by rw [Int.min_eq_right (by omega)], hy⟩⟩
        | false =>
          rw [h2] at h; cases h
          exact ⟨rfl, rfl, _, hrun, by simp only [DV]; exact ⟨trivial, by omega, by omega⟩⟩
  · cases h

theorem ok_mm {mx : Bool} {c : Call} {x y : Operand} (ho : o.op = .call c) (hc : c.callee = .builtin (cond mx .max .min)) (ha : c.args.toList = [x, y]) (h : mmI mx (e x) (e y) = some r)
    (EV : ∀ x, DV ρ (e x) (ev x)) (D : DH E ρ hp w) : Went P E ρ hp w o ev r := by
  obtain ⟨h1, h2, q, hq, hd⟩ := mmI_run (P := P) h (EV x) (EV y) w
  obtain ⟨need, val, eff⟩ := r
  simp only at h2
  subst h2
  refine went_pure D (y := q) (builtin_run ho hc ?_) hd
  rw [toList_two ha]
  cases mx <;> simp only [cond_true, cond_false] at hq ⊢ <;> simp [builtin, Builtin.min_, Builtin.max_, List.foldlM, hq]

/-- ALL OF THEM: what the engine says of an operation is so. -/
theorem opS_ok (h : opS P o e hp nx = some r) (hneed : allNeed r.need) (EV : ∀ x, DV ρ (e x) (ev x)) (D : DH E ρ hp w) (f : Free hp nx) : Went P E ρ hp w o ev r := by
  unfold opS at h
  split at h
  · rename_i x ho; cases h; exact ok_move (.inl ho) EV D
  · rename_i x ho; cases h; exact ok_move (.inr ho) EV D
  · rename_i c a b ho
    split at h
    · rename_i t hc
      have hcv := EV c
      rw [hc] at hcv
      simp only [DV] at hcv
      have ha := EV a
      have hb := EV b
      cases t
      · cases h; exact ok_pick ho hcv D (by simpa using hb)
      · cases h; exact ok_pick ho hcv D (by simpa using ha)
    · cases h
  · rename_i t ho
    simp only [Option.bind_eq_some_iff, Option.some.injEq] at h
    obtain ⟨z, hz, rfl⟩ := h
    exact ok_alloc ho hz D f
  · rename_i t x ho
    simp only [Option.bind_eq_some_iff, Option.some.injEq] at h
    obtain ⟨z, hz, rfl⟩ := h
    exact ok_box ho hz EV D f
  · rename_i t ps ho
    simp only [Option.bind_eq_some_iff, ret, Option.some.injEq] at h
    obtain ⟨z, hz, rfl⟩ := h
    exact ok_build ho hz EV D
  · rename_i t n ps ho
    split at h
    · rename_i el hu
      split at h
      · rename_i sz z hsz hz
        split at h
        · rename_i hc
          simp only [Option.bind_eq_some_iff, Option.some.injEq] at h
          obtain ⟨cs, hcs, rfl⟩ := h
          exact ok_buildSlice ho hu hsz hz hc hcs EV D f
        · cases h
      · cases h
    · cases h
  · rename_i t a ho
    split at h
    · rename_i i off ha
      split at h
      · rename_i el cs hi
        simp only [Option.bind_eq_some_iff, ret, Option.some.injEq] at h
        obtain ⟨z, hz, rfl⟩ := h
        exact ok_load_cells ho ha hi hz EV D
      · rename_i cs hi
        simp only [Option.bind_eq_some_iff, ret, Option.some.injEq] at h
        obtain ⟨z, hz, rfl⟩ := h
        exact ok_load_rcells ho ha hi hz EV D
      · cases h
    · cases h
  · rename_i t a x ho
    split at h
    · rename_i i off ha
      split at h
      · rename_i el cs hi
        simp only [Option.bind_eq_some_iff, Option.some.injEq] at h
        obtain ⟨z, hz, rfl⟩ := h
        exact ok_store ho ha hi hz EV D
      · cases h
    · cases h
  · rename_i x ho
    split at h
    · rename_i i off hx; cases h; rw [← hx]; exact ok_nilCheck ho (.inl ⟨i, off, hx⟩) EV D
    · rename_i g a b hx; cases h; rw [← hx]; exact ok_nilCheck ho (.inr ⟨g, a, b, hx⟩) EV D
    · cases h
  · rename_i t x fi ho
    split at h
    · rename_i fs hu
      split at h
      · rename_i fd hf
        split at h
        · rename_i n hn
          split at h
          · rename_i i off hx; cases h; exact ok_fieldAddr ho hu hf hn hx EV D
          · cases h
        · cases h
      · cases h
    · cases h
  · rename_i t x ix ho
    split at h
    · rename_i n el b off k i hu hx hix
      simp only [Option.bind_eq_some_iff, retIf, Option.some.injEq] at h
      obtain ⟨sz, hsz, rfl⟩ := h
      have hi := EV ix
      rw [hix] at hi
      simp only [DV] at hi
      exact ok_indexAddr ho hi hsz (inB_iff hneed.1) (.inl ⟨hu, b, off, hx, rfl⟩) EV D
    · rename_i el b off n c k i hu hx hix
      simp only [Option.bind_eq_some_iff, retIf, Option.some.injEq] at h
      obtain ⟨sz, hsz, rfl⟩ := h
      have hi := EV ix
      rw [hix] at hi
      simp only [DV] at hi
      exact ok_indexAddr ho hi hsz (inB_iff hneed.1) (.inr ⟨hu, b, off, c, hx, rfl⟩) EV D
    · cases h
  · rename_i t x fi ho
    split at h
    · rename_i fs hu
      split at h
      · rename_i fd cs hf hx
        simp only [Option.bind_eq_some_iff, ret, Option.some.injEq] at h
        obtain ⟨z, hz, rfl⟩ := h
        exact ok_field ho hu hf hx hz EV D
      · cases h
    · cases h
  · rename_i t x ix ho
    split at h
    · rename_i k i hix
      split at h
      · rename_i n el cs hu hx
        split at h
        · rename_i sz hsz
          simp only [Option.bind_eq_some_iff, retIf, Option.some.injEq] at h
          obtain ⟨z, hz, rfl⟩ := h
          exact ok_index ho hix hu hx hsz hz (inB_iff hneed.1) EV D
        · cases h
      · cases h
    · cases h
  · rename_i x i ho
    split at h
    · rename_i l hx
      simp only [Option.bind_eq_some_iff, ret, Option.some.injEq] at h
      obtain ⟨z, hz, rfl⟩ := h
      exact ok_extract ho hx hz EV D
    · cases h
  · rename_i fn a c ho; cases h; exact ok_makeFunc ho EV D
  · rename_i t x ho
    split at h
    · cases h
    · rename_i d hd hne; cases h; exact ok_makeInterface ho hne (fun ms e => hd ms (by rw [← e])) EV D
    · cases h
  · rename_i op t x y t' ho; exact ok_bin ho h hneed EV D
  · rename_i op t x ho
    split at h
    · rename_i p hx; cases h; exact ok_not ho hx EV D
    · rename_i k n lo hi hx; cases h; exact ok_neg ho hx EV D
    · simp only [Option.bind_eq_some_iff, ret, Option.some.injEq] at h
      obtain ⟨v, hv, q, hq, rfl⟩ := h
      exact ok_un ho hv hq EV D
  · rename_i a b x ho
    split at h
    · rename_i k n lo hi hx
      split at h
      · rename_i ua k' ha hb; cases h; exact ok_convI ho hx ha hb EV D
      · cases h
    · rename_i y hi hx
      split at h
      · rename_i ha hb; cases h; exact ok_convS ho hx ha hb EV D
      · cases h
    · simp only [Option.bind_eq_some_iff, ret, Option.some.injEq] at h
      obtain ⟨v, hv, q, hq, rfl⟩ := h
      exact ok_conv ho hv hq EV D
  · rename_i c ho
    split at h
    · rename_i b hc
      unfold biS at h
      split at h
      · rename_i s hl
        obtain ⟨x, ha, rfl⟩ := map_one hl
        split at h
        · rename_i t ht; exact ok_len ho hc ha ht h EV D
        · cases h
      · rename_i s t hl
        obtain ⟨x, y, ha, rfl, rfl⟩ := map_two hl
        cases hI : (isI (e x) || isI (e y)) with
        | true => rw [hI] at h; exact ok_mm (mx := false) ho hc ha h EV D
        | false =>
          rw [hI] at h
          simp only [cond_false] at h
          split at h
          · rename_i a b hx hy
            simp only [Option.bind_eq_some_iff, ret, Option.some.injEq] at h
            obtain ⟨q, hq, rfl⟩ := h
            exact ok_min ho hc ha hx hy hq EV D
          · cases h
      · rename_i s t hl
        obtain ⟨x, y, ha, rfl, rfl⟩ := map_two hl
        cases hI : (isI (e x) || isI (e y)) with
        | true => rw [hI] at h; exact ok_mm (mx := true) ho hc ha h EV D
        | false =>
          rw [hI] at h
          simp only [cond_false] at h
          split at h
          · rename_i a b hx hy
            simp only [Option.bind_eq_some_iff, ret, Option.some.injEq] at h
            obtain ⟨q, hq, rfl⟩ := h
            exact ok_max ho hc ha hx hy hq EV D
          · cases h
      · cases h
    · cases h
  · cases h

end
end Go.Eng
