/- The engine's operations, and that they are the model's. No condition. -/
import Derived.Test.YtafmknblnamegaaDoorV8A
namespace Go.Eng

structure Res where
  need : List Bool
  val : SV
  eff : List (Nat × Blk)

def ret (x : SV) : Option Res := some ⟨[], x, []⟩
def retIf (p : Bool) (x : SV) : Option Res := some ⟨[p], x, []⟩
/-- The index is within. -/
def inB (i : Int) (n : Nat) : Bool := decide (0 ≤ i) && decide (i < (n : Int))
theorem inB_iff {i : Int} {n : Nat} (h : inB i n = true) : 0 ≤ i ∧ i < n := by simpa [inB] using h

def applyEff (l : List (Nat × Blk)) (h : List Blk) : List Blk := l.foldl (fun h e => putB e.1 e.2 h) h
def allNeed : List Bool → Prop
  | [] => True
  | p :: r => p = true ∧ allNeed r

def szOf (P : Program) (t : TypeId) : Option Nat := (P.info? t).map (·.size)
def aggD : TypeDesc → Bool
  | .struct _ | .array _ _ => true
  | _ => false
def isAggT (P : Program) (t : TypeId) : Option Bool := (P.underlying t).map aggD

/-- The cells of a symbolic value. -/
def cellsSV : SV → Option (List SV)
  | .agg l => some l
  | .any => none
  | .tup _ => none
  | .opt _ _ => none
  | .v (.agg cs) => some (cs.toList.map .v)
  | .v (.tuple _) => none
  | .t (.agg cs) => some (cs.toList.map tv)
  | .t (.tuple _) => none
  | x => some [x]

def oneSV : SV → Bool
  | .agg _ | .any | .tup _ | .opt _ _ => false
  | .v x => x.oneCell'
  | .t x => x.oneCell'
  | _ => true

def loadFrom (P : Program) (t : TypeId) (cs : List SV) (o : Nat) : Option SV :=
  match isAggT P t with
  | some true => match szOf P t with
    | some n => if o + n ≤ cs.length then some (.agg ((cs.drop o).take n)) else none
    | none => none
  | some false => cs[o]?
  | none => none

def storeTo (P : Program) (t : TypeId) (cs : List SV) (o : Nat) (x : SV) : Option (List SV) :=
  match cellsSV x, szOf P t with
  | some xs, some n => if xs.length = n ∧ o + n ≤ cs.length ∧ xs.all oneSV = true then some (cs.take o ++ xs ++ cs.drop (o + n)) else none
  | _, _ => none

def zeroSV (P : Program) (t : TypeId) : Option (List SV) := ((P.info? t).bind (·.zero)).map fun z => z.cells.toList.map .v

/-- Parts laid into a row of cells. -/
def fillS (place : Nat → Option (Nat × Nat)) (cs : List SV) : List (Nat × SV) → Option (List SV)
  | [] => some cs
  | (i, x) :: r => match place i, cellsSV x with
    | some (o, n), some xs => if xs.length = n ∧ o + n ≤ cs.length then fillS place (cs.take o ++ xs ++ cs.drop (o + n)) r else none
    | _, _ => none

def fieldPlaces (P : Program) (fs : List Field) : Nat → Option (Nat × Nat) := fun i => match fs[i]? with
  | some f => (szOf P f.type).map fun n => (f.offset, n)
  | none => none

def buildS (P : Program) (t : TypeId) (parts : List (Nat × SV)) : Option SV :=
  match zeroSV P t, P.underlying t with
  | some z, some (.struct fs) => if fs.toList.all (fun f => (szOf P f.type).isSome) then (fillS (fieldPlaces P fs.toList) z parts).map .agg else none
  | some z, some (.array _ el) => match szOf P el with
    | some n => (fillS (fun i => some (i * n, n)) z parts).map .agg
    | none => none
  | _, _ => none

def repeatL {α : Type} (n : Nat) (l : List α) : List α := (List.replicate n l).flatten

/-! ### Small lemmas on the model -/
section
variable {P : Program} {E : Env} {ρ : Rho} {w : World}

theorem szOf_run {t : TypeId} {n : Nat} (h : szOf P t = some n) (w : World) : (sizeOf t).run P w = .ok n w := by
  simp only [szOf, Option.map_eq_some_iff] at h
  obtain ⟨i, hi, rfl⟩ := h
  simp [sizeOf, typeInfo, hi]

theorem isAggT_run {t : TypeId} {b : Bool} (h : isAggT P t = some b) (w : World) : (isAgg t).run P w = .ok b w := by
  simp only [isAggT, Option.map_eq_some_iff] at h
  obtain ⟨d, hd, rfl⟩ := h
  cases d <;> simp [isAgg, run_underlying hd, aggD]

theorem cellsSV_DV {s : SV} {xs : List SV} {y : Value} (h : cellsSV s = some xs) (hd : DV ρ s y) : DL ρ xs y.cells.toList := by
  have one : (∀ cs, y ≠ .agg cs) → xs = [s] → DL ρ xs y.cells.toList := by
    intro hy hx
    have : y.cells = #[y] := by unfold Value.cells; split <;> first | rfl | exact absurd rfl (hy _)
    rw [this, hx]
    exact DL.cons hd DL.nil
  cases s with
  | any => simp [cellsSV] at h
  | tup => simp [cellsSV] at h
  | opt => simp [cellsSV] at h
  | agg l => simp only [cellsSV, Option.some.injEq] at h; subst h; simp only [DV] at hd; obtain ⟨a, rfl, hl⟩ := hd; simpa [Value.cells] using hl
  | v x =>
    simp only [DV] at hd
    subst hd
    cases y with
    | agg cs => simp only [cellsSV, Option.some.injEq] at h; subst h; simpa [Value.cells] using DL_map_v _
    | tuple => simp [cellsSV] at h
    | _ => simp only [cellsSV, Option.some.injEq] at h; exact one (by simp) h.symm
  | t x =>
    simp only [DV] at hd
    subst hd
    cases y with
    | agg cs =>
      simp only [cellsSV, Option.some.injEq] at h
      subst h
      have := liftT_DV (ρ := ρ) (.agg cs)
      simp only [liftT, DV] at this
      obtain ⟨a, e, hl⟩ := this
      cases e
      simpa [Value.cells] using hl
    | tuple => simp [cellsSV] at h
    | _ => simp only [cellsSV, Option.some.injEq] at h; exact one (by simp) h.symm
  | i => simp only [cellsSV, Option.some.injEq] at h; simp only [DV] at hd; exact one (by simp [hd.1]) h.symm
  | b => simp only [cellsSV, Option.some.injEq] at h; simp only [DV] at hd; exact one (by simp [hd]) h.symm
  | s => simp only [cellsSV, Option.some.injEq] at h; simp only [DV] at hd; exact one (by simp [hd.1]) h.symm
  | ptr => simp only [cellsSV, Option.some.injEq] at h; simp only [DV] at hd; obtain ⟨p, _, e⟩ := hd; exact one (by simp [e]) h.symm
  | fn => simp only [cellsSV, Option.some.injEq] at h; simp only [DV] at hd; obtain ⟨_, _, e, _⟩ := hd; exact one (by simp [e]) h.symm
  | ifc => simp only [cellsSV, Option.some.injEq] at h; simp only [DV] at hd; obtain ⟨_, e, _⟩ := hd; exact one (by simp [e]) h.symm
  | row => simp only [cellsSV, Option.some.injEq] at h; simp only [DV] at hd; obtain ⟨_, _, _, _, _, _, e⟩ := hd; exact one (by simp [e]) h.symm
  | rowp => simp only [cellsSV, Option.some.injEq] at h; simp only [DV] at hd; obtain ⟨_, _, _, _, _, _, _, _, e⟩ := hd; exact one (by simp [e]) h.symm
  | sl => simp only [cellsSV, Option.some.injEq] at h; simp only [DV] at hd; obtain ⟨_, _, _, e⟩ := hd; exact one (by simp [e]) h.symm
  | yl => simp only [cellsSV, Option.some.injEq] at h; simp only [DV] at hd; obtain ⟨_, _, e⟩ := hd; exact one (by simp [e]) h.symm
  | mp => simp only [cellsSV, Option.some.injEq] at h; simp only [DV] at hd; obtain ⟨_, _, e⟩ := hd; exact one (by simp [e]) h.symm
  | er p =>
    simp only [cellsSV, Option.some.injEq] at h; simp only [DV] at hd
    cases p with
    | true => exact one (by simp [hd.1 rfl]) h.symm
    | false => obtain ⟨_, _, _, _, _, _, _, _, e⟩ := hd.2 rfl; exact one (by simp [e]) h.symm
  | q => simp only [cellsSV, Option.some.injEq] at h; simp only [DV] at hd; obtain ⟨_, e, _⟩ := hd; exact one (by simp [e]) h.symm
  | emp => simp only [cellsSV, Option.some.injEq] at h; simp only [DV] at hd; obtain ⟨_, e⟩ := hd; exact one (by simp [e]) h.symm
  | part => simp only [cellsSV, Option.some.injEq] at h; simp only [DV] at hd; obtain ⟨_, _, _, _, e, _⟩ := hd; exact one (by simp [e]) h.symm

theorem oneSV_DV {s : SV} {y : Value} (h : oneSV s = true) (hd : DV ρ s y) : y.oneCell' = true := by
  cases s with
  | any => simp [oneSV] at h
  | agg => simp [oneSV] at h
  | tup => simp [oneSV] at h
  | opt => simp [oneSV] at h
  | v x => simp only [DV] at hd; subst hd; simpa [oneSV] using h
  | t x => simp only [DV] at hd; subst hd; simpa [oneSV] using h
  | i => simp only [DV] at hd; rw [hd.1]; rfl
  | b => simp only [DV] at hd; rw [hd]; rfl
  | s => simp only [DV] at hd; rw [hd.1]; rfl
  | ptr => simp only [DV] at hd; obtain ⟨p, _, rfl⟩ := hd; rfl
  | fn => simp only [DV] at hd; obtain ⟨_, _, rfl, _⟩ := hd; rfl
  | ifc => simp only [DV] at hd; obtain ⟨_, rfl, _⟩ := hd; rfl
  | row i => simp only [DV] at hd; obtain ⟨_, _, _, _, _, _, rfl⟩ := hd; rfl
  | rowp => simp only [DV] at hd; obtain ⟨_, _, _, _, _, _, _, _, rfl⟩ := hd; rfl
  | sl => simp only [DV] at hd; obtain ⟨_, _, _, rfl⟩ := hd; rfl
  | yl => simp only [DV] at hd; obtain ⟨_, _, rfl⟩ := hd; rfl
  | mp => simp only [DV] at hd; obtain ⟨_, _, rfl⟩ := hd; rfl
  | er p =>
    simp only [DV] at hd
    cases p with
    | true => rw [hd.1 rfl]; rfl
    | false => obtain ⟨_, _, _, _, _, _, _, _, e⟩ := hd.2 rfl; rw [e]; rfl
  | q => simp only [DV] at hd; obtain ⟨_, rfl, _⟩ := hd; rfl
  | emp => simp only [DV] at hd; obtain ⟨_, rfl⟩ := hd; rfl
  | part => simp only [DV] at hd; obtain ⟨_, _, _, _, rfl, _⟩ := hd; rfl

theorem addr_add (b o n : Nat) : (⟨b, o, none⟩ : Addr).add n = ⟨b, o + n, none⟩ := Addr.add_lit b o n

/-- Known cells of memory, loaded as a variable. -/
theorem loadFrom_cells {t : TypeId} {cs : List SV} {o : Nat} {s : SV} (h : loadFrom P t cs o = some s) {b z : Nat} {vs : List Value} (hc : ∀ j u, vs[j]? = some u → w.cell? ⟨b, z + j, none⟩ = some u) (hl : DL ρ cs vs) :
    ∃ y, (loadVar t ⟨b, z + o, none⟩).run P w = .ok y w ∧ DV ρ s y := by
  unfold loadFrom at h
  split at h
  · rename_i hagg
    split at h
    · rename_i n hn
      split at h
      · rename_i hle
        cases h
        refine ⟨.agg ((vs.drop o).take n).toArray, ?_, ?_⟩
        · have hlen : ((vs.drop o).take n).length = n := by
            have := hl.length
            simp only [List.length_take, List.length_drop]
            omega
          have hld := run_loadCells_list (P := P) w ⟨b, z + o, none⟩ ((vs.drop o).take n) (fun j v hv => by
            rw [addr_add, Nat.add_assoc]
            simp only [List.getElem?_take, List.getElem?_drop] at hv
            split at hv
            · exact hc _ _ hv
            · cases hv)
          rw [hlen] at hld
          simp [loadVar, isAggT_run hagg, szOf_run hn, hld]
        · simp only [DV]
          exact ⟨_, rfl, by simpa using (hl.drop o).take n⟩
      · cases h
    · cases h
  · rename_i hagg
    obtain ⟨y, hy, hd⟩ := hl.get h
    refine ⟨y, ?_, hd⟩
    simp [loadVar, isAggT_run hagg, hc o y hy]
  · cases h

/-- A known block's cells, loaded as a variable. -/
theorem loadFrom_run {t : TypeId} {cs : List SV} {o : Nat} {s : SV} (h : loadFrom P t cs o = some s) {b : Nat} {vs : Array Value} {e : TypeId} {fr : Nat × Nat}
    (hb : w.heap[b]? = some (.cells vs e fr)) (hl : DL ρ cs vs.toList) :
    ∃ y, (loadVar t ⟨b, o, none⟩).run P w = .ok y w ∧ DV ρ s y := by
  have := loadFrom_cells (w := w) h (b := b) (z := 0) (vs := vs.toList) (fun j u hu => by rw [Nat.zero_add, cell_of_row w b j vs e fr hb]; simpa using hu) hl
  rwa [Nat.zero_add] at this

theorem DL_all_one {xs : List SV} {ys : List Value} (h : xs.all oneSV = true) (hd : DL ρ xs ys) : ∀ u ∈ ys, u.oneCell' = true := by
  intro u hu
  obtain ⟨i, hi, rfl⟩ := List.getElem_of_mem hu
  have hl := hd.length
  have hx : xs[i]? = some xs[i] := List.getElem?_eq_getElem (by omega)
  obtain ⟨y, hy, hdv⟩ := hd.get hx
  rw [List.getElem?_eq_getElem hi] at hy
  cases hy
  exact oneSV_DV (List.all_eq_true.1 h _ (List.getElem_mem (by omega))) hdv

theorem storeTo_run {t : TypeId} {cs cs' : List SV} {o : Nat} {s : SV} {y : Value} (h : storeTo P t cs o s = some cs') (hd : DV ρ s y) {b : Nat} {vs : Array Value} {e : TypeId}
    (hb : w.heap[b]? = some (.cells vs e (0, 0))) (hl : DL ρ cs vs.toList) :
    ∃ vs' : Array Value, (storeVar t ⟨b, o, none⟩ y).run P w = .ok () (w.setRow b vs') ∧ DL ρ cs' vs'.toList := by
  unfold storeTo at h
  split at h
  · rename_i xs n hxs hn
    split at h
    · rename_i hc
      cases h
      have hy := cellsSV_DV hxs hd
      have hyl := hy.length
      have hvl := hl.length
      refine ⟨(vs.toList.take o ++ y.cells.toList ++ vs.toList.drop (o + n)).toArray, ?_, ?_⟩
      · have hst := run_storeCells_at P b o e y.cells.toList 0 vs w hb (by simp only [Array.length_toList] at *; omega) (DL_all_one hc.2.2 hy)
        have hsz : y.cells.size = n := by simp only [Array.length_toList] at *; omega
        simp only [Nat.add_zero] at hst
        rw [Array.length_toList, hsz] at hst
        simp only [storeVar, Sem.run_bind, szOf_run hn, Result.andThen_ok, hsz, ne_eq, not_true, if_false, hst]
      · exact ((hl.take o).append hy).append (hl.drop (o + n))
    · cases h
  · cases h


/-- ρ with one place more. -/
def upd (ρ : Rho) (i : Nat) (l : Loc) : Rho := fun k => if k = i then some l else ρ k
theorem upd_ext {i : Nat} {l : Loc} (h : ρ i = none) : Ext ρ (upd ρ i l) := fun k m e => by
  unfold upd; split
  · subst_vars; rw [h] at e; cases e
  · exact e
theorem upd_same (i : Nat) (l : Loc) : upd ρ i l i = some l := by simp [upd]
theorem upd_other {i k : Nat} {l : Loc} (h : k ≠ i) (hk : ρ k = none) : upd ρ i l k = none := by simp [upd, h, hk]

/-- The slot may be taken. -/
def Free (h : List Blk) (nx : Nat) : Prop := nx = h.length ∨ ∀ j, j < 4 → h[nx + j]? = some .hole
theorem Free.le {h : List Blk} {nx : Nat} (f : Free h nx) : nx ≤ h.length := by
  rcases f with f | f
  · omega
  · have := (List.getElem?_eq_some_iff.1 (f 0 (by omega))).1; omega
theorem Free.none {h : List Blk} {nx : Nat} (f : Free h nx) (D : DH E ρ h w) : ρ nx = none := by
  rcases f with f | f
  · exact D.fresh nx (by omega)
  · exact D.ok nx _ (f 0 (by omega))
theorem Free.room {h : List Blk} {nx m : Nat} (f : Free h nx) (hn : m ≤ 4 ∨ nx = h.length) : nx + m ≤ h.length ∨ nx = h.length := by
  rcases f with f | f
  · exact .inr f
  · rcases hn with hn | hn
    · have := (List.getElem?_eq_some_iff.1 (f 3 (by omega))).1; left; omega
    · exact .inr hn
theorem Free.nones {h : List Blk} {nx m : Nat} (f : Free h nx) (D : DH E ρ h w) (hn : m ≤ 4 ∨ nx = h.length) {k : Nat} (h1 : nx ≤ k) (h2 : k < nx + m) : ρ k = Option.none := by
  rcases f with f | f
  · exact D.fresh k (by omega)
  · rcases hn with hn | hn
    · have := D.ok (nx + (k - nx)) _ (f (k - nx) (by omega))
      rw [show nx + (k - nx) = k by omega] at this
      exact this
    · exact D.fresh k (by omega)

theorem fixed_lt {h : List Blk} (D : DH E ρ h w) {k : Nat} (hk : E.fixed k) : k < w.heap.size :=
  Nat.lt_of_lt_of_le hk.1 (Nat.le_trans D.base D.same.size)

/-- A new block. -/
theorem DH.alloc {h : List Blk} (D : DH E ρ h w) {nx : Nat} (f : Free h nx) {e : TypeId} {cs : List SV} {vs : Array Value} (hl : DL ρ cs vs.toList) (v : Value) :
    DH E (upd ρ nx ⟨w.heap.size, v⟩) (putB nx (.cells e cs) h) (w.alloc (.cells vs e)) := by
  have hx := upd_ext (l := ⟨w.heap.size, v⟩) (f.none D)
  refine D.put nx _ f.le hx (fun k hk hn => upd_other hk hn) ⟨rfl, rfl, rfl, by simp, Stat.of_block fun k hk => RowKit.Below.heap_alloc w _ k hk⟩ (fun k hk => RowKit.Below.heap_alloc w _ _ (fixed_lt D hk))
    (fun j c k _ hc ht => RowKit.Below.heap_alloc w _ _ (D.own j c k hc ht).2) ?_ ?_
  · exact ⟨_, vs, upd_same _ _, heap_alloc_new _ _, DL.mono hx _ _ hl⟩
  · rintro n ⟨p, hp, rfl⟩
    rw [upd_same] at hp; cases hp
    refine ⟨fun hf => absurd (fixed_lt D hf) (Nat.lt_irrefl _), by simp, fun j c _ hc ht => ?_⟩
    have := (D.own j c _ hc ht).2
    simp at this

/-- A known block, written. -/
theorem DH.write {h : List Blk} (D : DH E ρ h w) {i : Nat} {e : TypeId} {cs cs' : List SV} (hi : h[i]? = some (.cells e cs)) {p : Loc} (hp : ρ i = some p) {vs' : Array Value}
    (hl : DL ρ cs' vs'.toList) : DH E ρ (putB i (.cells e cs') h) (w.setRow p.block vs') := by
  have hlt := (List.getElem?_eq_some_iff.1 hi).1
  obtain ⟨q, vs, hq, hb, _⟩ := D.ok i _ hi
  rw [hp] at hq; cases hq
  have hown := D.own i _ p.block hi ⟨p, hp, rfl⟩
  refine D.put i _ (by omega) (Ext.refl _) (fun _ _ h => h) ⟨rfl, rfl, rfl, by simp, Stat.of_other hb (fun _ => by simp) fun k hk => setRow_other w _ k _ hk⟩ (fun k hk => setRow_other w _ k _ (fun e => hown.1 (e ▸ hk)))
    (fun j c k hj hc ht => setRow_other w _ k _ (fun e => by subst e; exact D.apart j i c _ _ hj hc hi ht ⟨p, hp, rfl⟩)) ?_ ?_
  · exact ⟨p, vs', hp, setRow_heap w _ vs _ e _ hb, hl⟩
  · rintro n ⟨q, hq, rfl⟩
    rw [hp] at hq; cases hq
    exact ⟨hown.1, by simpa using hown.2, fun j c hj hc ht => D.apart j i c _ _ hj hc hi ht ⟨p, hp, rfl⟩⟩

end

/-! ### The operations -/

def eqFs (P : Program) (eq : TypeId → Value → Value → Option Bool) (xs ys : Array Value) : List Field → Option Bool
  | [] => some true
  | f :: fs => if f.name ≠ "_" then
      match prun P (Go.part f.type xs f.offset), prun P (Go.part f.type ys f.offset) with
      | some a, some b => match eq f.type a b with
        | some r => match fs with
          | [] => some r
          | _ :: _ => (eqFs P eq xs ys fs).map fun q => r && q
        | none => none
      | _, _ => none
    else eqFs P eq xs ys fs

/-- Are two values of a type alike? -/
def eqT (P : Program) : Nat → TypeId → Value → Value → Option Bool
  | 0, _, _, _ => none
  | d + 1, t, x, y =>
    match P.underlying t, x, y with
    | some .bool, .bool a, .bool b => some (a == b)
    | some (.int _), .int k a, .int k' b => if k = k' then some (a == b) else none
    | some .string, .string a, .string b => some (a == b)
    | some (.struct fs), .agg xs, .agg ys => if P.stoodInHeld t = true then none else eqFs P (eqT P d) xs ys fs.toList
    | _, _, _ => none

/-! ### Numbers between numerals -/

def intOf : SV → Option (IntKind × Int × Int × Int)
  | .v (.int k n) => some (k, n, n, n)
  | .i k x lo hi => some (k, x, lo, hi)
  | _ => none
def isI : SV → Bool
  | .i .. => true
  | _ => false
def inK (k : IntKind) (lo hi : Int) : Bool := decide (kmin k ≤ lo) && decide (hi ≤ kmax k)
/-- A number that may be too great for its kind. -/
def ovI (k : IntKind) (n lo hi : Int) : SV := cond (inK k lo hi) (.i k n lo hi) (.i k (k.wrap n) (kmin k) (kmax k))
def cmpR (yes no p : Bool) : Option Res := cond yes (ret (.v (.bool true))) (cond no (ret (.v (.bool false))) (ret (.b p)))

def binI (op : BinOp) (a b : SV) : Option Res :=
  match intOf a, intOf b with
  | some (k, x, la, ha), some (k', y, lb, hb) => cond (decide (k = k')) (match op with
    | .add => ret (ovI k (x + y) (la + lb) (ha + hb))
    | .sub => ret (ovI k (x - y) (la - hb) (ha - lb))
    | .mul => cond (decide (0 ≤ la) && decide (0 ≤ lb)) (ret (ovI k (x * y) (la * lb) (ha * hb))) (ret (.i k (k.wrap (x * y)) (kmin k) (kmax k)))
    | .rem => cond (decide (1 ≤ lb)) (cond (decide (0 ≤ la)) (ret (.i k (x % y) 0 (hb - 1))) (ret (.i k (x.tmod y) (1 - hb) (hb - 1)))) none
    | .quo => cond (decide (1 ≤ lb) && decide (0 ≤ la)) (ret (ovI k (x / y) 0 ha)) none
    | .lss => cmpR (decide (ha < lb)) (decide (hb ≤ la)) (decide (x < y))
    | .leq => cmpR (decide (ha ≤ lb)) (decide (hb < la)) (decide (x ≤ y))
    | .gtr => cmpR (decide (hb < la)) (decide (ha ≤ lb)) (decide (y < x))
    | .geq => cmpR (decide (hb ≤ la)) (decide (ha < lb)) (decide (y ≤ x))
    | .eql => cmpR false (decide (ha < lb) || decide (hb < la)) (decide (x = y))
    | .neq => cmpR (decide (ha < lb) || decide (hb < la)) false (!decide (x = y))
    | _ => none) none
  | _, _ => none

/-- The lesser of two, and the greater. -/
def mmI (mx : Bool) (a b : SV) : Option Res :=
  match intOf a, intOf b with
  | some (k, x, la, ha), some (_, y, lb, hb) =>
    cond mx (cond (decide (ha ≤ lb)) (ret (.i k y lb hb)) (cond (decide (hb ≤ la)) (ret (.i k x la ha)) (ret (.i k (max x y) (max la lb) (max ha hb)))))
      (cond (decide (ha ≤ lb)) (ret (.i k x la ha)) (cond (decide (hb ≤ la)) (ret (.i k y lb hb)) (ret (.i k (min x y) (min la lb) (min ha hb)))))
  | _, _ => none

def binV (P : Program) (op : BinOp) (t : TypeId) (x y : Operand) (m n : Value) : Option (List Bool × Value) :=
  match op, m, n with
  | .quo, .int k a, .int k' b => if k = k' then some ([!decide (b = 0)], .int k (k.wrap (a.tdiv b))) else none
  | .rem, .int k a, .int k' b => if k = k' then some ([!decide (b = 0)], .int k (a.tmod b)) else none
  | .add, .string a, .string b => some ([decide (((a.size + b.size : Nat) : Int) ≤ 9223372036854775807)], .string (a ++ b))
  | .eql, .agg _, .agg _ => if P.eqGuardType P.depth t = true then none else (eqT P 100 t m n).map fun r => ([], .bool r)
  | .neq, .agg _, .agg _ => if P.eqGuardType P.depth t = true then none else (eqT P 100 t m n).map fun r => ([], .bool (!r))
  | _, _, _ => (prun P (do eqGuard op t x y m n; Go.binOp op t m n)).map fun r => ([], r)

/-- No longer than a string may be. -/
def capS (n : Int) : Int := cond (decide (n ≤ 9223372036854775807)) n 9223372036854775807
/-- Two strings side by side. -/
def catS (a b : SV) : Option Res := match a, b with
  | .s x m, .s y n => retIf (decide (((x.size + y.size : Nat) : Int) ≤ 9223372036854775807)) (.s (x ++ y) (capS (m + n)))
  | .s x m, .v (.string y) => retIf (decide (((x.size + y.size : Nat) : Int) ≤ 9223372036854775807)) (.s (x ++ y) (capS (m + y.size)))
  | .v (.string x), .s y n => retIf (decide (((x.size + y.size : Nat) : Int) ≤ 9223372036854775807)) (.s (x ++ y) (capS (x.size + n)))
  | _, _ => none

def xorI (k : IntKind) (x y : Int) : Int := k.wrap (BitVec.ofInt k.bits x ^^^ BitVec.ofInt k.bits y).toNat
/-- What is left over by a number that may be 0; shifts by a number that is known; either, not both. -/
def remI (op : BinOp) (a b : SV) : Option Res := match op with
  | .rem => match intOf a, intOf b with
    | some (k, x, la, ha), some (k', y, _, _) => cond (decide (k = k') && decide (0 ≤ la)) (retIf (!decide (y = 0)) (.i k (x.tmod y) 0 ha)) none
    | _, _ => none
  | .shr => match intOf a, b with
    | some (k, x, la, ha), .v (.int _ y) => cond (decide (0 ≤ la) && decide (0 ≤ y)) (ret (.i k (x / ((2 ^ min y.toNat k.bits : Nat) : Int)) 0 ha)) none
    | _, _ => none
  | .quo => match intOf a, intOf b with
    | some (k, x, la, ha), some (k', y, lb, _) => cond (decide (k = k') && (decide (0 ≤ la) && decide (0 ≤ lb))) (retIf (!decide (y = 0)) (ovI k (x / y) 0 ha)) none
    | _, _ => none
  | .xor => match intOf a, intOf b with
    | some (k, x, _, _), some (k', y, _, _) => cond (decide (k = k')) (ret (.i k (xorI k x y) (kmin k) (kmax k))) none
    | _, _ => none
  | _ => none
def binS (P : Program) (op : BinOp) (t : TypeId) (x y : Operand) (a b : SV) : Option Res :=
  match cond (isI a || isI b) (binI op a b) (match op with | .add => catS a b | _ => none) with
  | some r => some r
  | none => match cond (isI a || isI b) (remI op a b) none with
    | some r => some r
    | none => match toVal a, toVal b with
      | some m, some n => (binV P op t x y m n).map fun q => ⟨q.1, liftS (symb a || symb b) q.2, []⟩
      | _, _ => none

def lenS (t : TypeId) (P : Program) : SV → List Blk → Option Res
  | .s x hi, _ => match P.underlying t with
    | some .string => ret (.i .i64 (x.size : Int) 0 hi)
    | _ => none
  | .sl _ _ n _, _ => match P.underlying t with
    | some (.slice _) => ret (.v (.int .i64 (n : Int)))
    | _ => none
  | .part _ _ n _, _ => match P.underlying t with
    | some (.slice _) => ret (.i .i64 (n : Int) 0 9223372036854775807)
    | _ => none
  | .row i, h => match h[i]? with
    | some (.row _ _ xs) => match P.underlying t with
      | some (.slice _) => ret (.i .i64 (xs.length : Int) 0 9223372036854775807)
      | _ => none
    | some (.ror _ xs _) => match P.underlying t with
      | some (.slice _) => ret (.i .i64 (xs.length : Int) 0 9223372036854775807)
      | _ => none
    | _ => none
  | .emp, _ => match P.underlying t with
    | some (.slice _) => ret (.v (.int .i64 0))
    | _ => none
  | .v x, _ => (prun P (Builtin.len_ #[t] 0 #[x])).bind fun r => ret (lift r)
  | _, _ => none

def biS (P : Program) (b : Builtin) (ts : Array TypeId) (l : List SV) (h : List Blk) : Option Res :=
  match b, l with
  | .len, [s] => match ts[0]? with
    | some t => lenS t P s h
    | none => none
  | .min, [s, t] => cond (isI s || isI t) (mmI false s t) (match toVal s, toVal t with
    | some a, some b => (prun P (Builtin.min_ #[] 0 #[a, b])).bind fun r => ret (liftS (symb s || symb t) r)
    | _, _ => none)
  | .max, [s, t] => cond (isI s || isI t) (mmI true s t) (match toVal s, toVal t with
    | some a, some b => (prun P (Builtin.max_ #[] 0 #[a, b])).bind fun r => ret (liftS (symb s || symb t) r)
    | _, _ => none)
  | _, _ => none

def opS (P : Program) (o : Oper) (e : Operand → SV) (h : List Blk) (nx : Nat) : Option Res :=
  match o.op with
  | .move x => ret (e x)
  | .assign x => ret (e x)
  | .pick c a b => match e c with
    | .v (.bool t) => cond t (ret (e a)) (ret (e b))
    | _ => none
  | .alloc t => (zeroSV P t).bind fun z => some ⟨[], .ptr nx 0, [(nx, .cells t z)]⟩
  | .box t x => (cellsSV (e x)).bind fun cs => some ⟨[], .ptr nx 0, [(nx, .cells t cs)]⟩
  | .build t ps => (buildS P t (ps.toList.map fun p => (p.1, e p.2))).bind ret
  | .buildSlice t n ps => match P.underlying t with
    | some (.slice el) => match szOf P el, zeroSV P el with
      | some sz, some z => if n * sz ≤ 2 ^ 24 ∧ z.length = sz ∧ 0 < sz then
          (fillS (fun i => some (i * sz, sz)) (repeatL n z) (ps.toList.map fun p => (p.1, e p.2))).bind fun cs => some ⟨[], .sl nx 0 n n, [(nx, .cells el cs)]⟩
        else none
      | _, _ => none
    | _ => none
  | .load t a => match e a with
    | .ptr i off => match h[i]? with
      | some (.cells _ cs) => (loadFrom P t cs off).bind ret
      | some (.rcells cs) => (loadFrom P t cs off).bind ret
      | _ => none
    | _ => none
  | .store t a x => match e a with
    | .ptr i off => match h[i]? with
      | some (.cells el cs) => (storeTo P t cs off (e x)).bind fun cs' => some ⟨[], .v undef, [(i, .cells el cs')]⟩
      | _ => none
    | _ => none
  | .nilCheck x => match e x with
    | .ptr i off => ret (.ptr i off)
    | .fn (.func f) a b => ret (.fn (.func f) a b)
    | _ => none
  | .fieldAddr t x f => match P.underlying t with
    | some (.struct fs) => match fs[f]? with
      | some fd => match szOf P fd.type with
        | some (_ + 1) => match e x with
          | .ptr i off => ret (.ptr i (off + fd.offset))
          | _ => none
        | _ => none
      | none => none
    | _ => none
  | .indexAddr t x ix => match P.underlying t, e x, e ix with
    | some (.array n el), .ptr b off, .v (.int _ i) => (szOf P el).bind fun sz => retIf (inB i n) (.ptr b (off + i.toNat * sz))
    | some (.slice el), .sl b off n _, .v (.int _ i) => (szOf P el).bind fun sz => retIf (inB i n) (.ptr b (off + i.toNat * sz))
    | _, _, _ => none
  | .field t x f => match P.underlying t with
    | some (.struct fs) => match fs[f]?, e x with
      | some fd, .agg cs => (loadFrom P fd.type cs fd.offset).bind ret
      | _, _ => none
    | _ => none
  | .index t x ix => match e ix with
    | .v (.int _ i) => match P.underlying t, e x with
      | some (.array n el), .agg cs => match szOf P el with
        | some sz => (loadFrom P el cs (i.toNat * sz)).bind fun r => retIf (inB i n) r
        | none => none
      | _, _ => none
    | _ => none
  | .extract x i => match e x with
    | .tup l => (l[i]?).bind ret
    | _ => none
  | .makeFunc f a c => ret (.fn f (a.toList.map e) (c.toList.map e))
  | .makeInterface t x => match P.underlying t with
    | some (.interface _) => none
    | some _ => ret (.ifc t (e x))
    | none => none
  | .binOp op t x y _ => binS P op t x y (e x) (e y)
  | .unOp op _ x => match op, e x with
    | .not, .b p => ret (.b (!p))
    | .neg, .i k n lo hi => ret (ovI k (0 - n) (-hi) (-lo))
    | _, _ => (toVal (e x)).bind fun v => (prun P (Op.unary op v)).bind fun r => ret (liftS (symb (e x)) r)
  | .convert s d x => match e x with
    | .i _ n lo hi => match P.underlying s, P.underlying d with
      | some _, some (.int k) => ret (cond (inK k lo hi) (.i k n lo hi) (.i k (k.wrap n) (kmin k) (kmax k)))
      | _, _ => none
    | .s y hi => match P.underlying s, P.underlying d with
      | some .string, some .string => ret (.s y hi)
      | _, _ => none
    | _ => (toVal (e x)).bind fun v => (prun P (Go.convert s d v)).bind fun r => ret (liftS (symb (e x)) r)
  | .call c => match c.callee with
    | .builtin b => biS P b c.argTypes (c.args.toList.map e) h
    | _ => none
  | _ => none

end Go.Eng
