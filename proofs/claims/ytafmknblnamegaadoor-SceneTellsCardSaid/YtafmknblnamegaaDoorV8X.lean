/- The engine: maps from numbers; bytes as a string; slices that are made of cells. No condition. -/
import Derived.Test.YtafmknblnamegaaDoorV8S
import Derived.MapKept
import Derived.RangeFuncRecord
import Derived.Laws.BytesArg
namespace Go.Eng
open Go.MapKept (IsKey)

section
variable {E : Env}
theorem putObj_other {w : World} {r k : Nat} {o : Obj} (h : k ≠ r) : (w.putObj r o).heap[k]? = w.heap[k]? := World.putObj_heap_other h
/-- A slot's own block, that is no cells, turned. -/
theorem DH.turn {ρ : Rho} {h : List Blk} {w : World} (D : DH E ρ h w) {i : Nat} {b b' : Blk} {p : Loc} {o o' : Obj} (hi : h[i]? = some b) (hp : ρ i = some p) (ht : takes ρ i b p.block) (ho : w.heap[p.block]? = some o)
    (hk : (∀ L, o ≠ .loop L) ∨ ∃ L L', o = .loop L ∧ o' = .loop L' ∧ LoopKept L L') (hb : BlkOk E ρ (w.putObj p.block o') i b') (htk : ∀ n, takes ρ i b' n → n = p.block) : DH E ρ (h.set i b') (w.putObj p.block o') := by
  have hlt := (List.getElem?_eq_some_iff.1 hi).1
  have hwlt := (Array.getElem?_eq_some_iff.1 ho).1
  have hown := D.own i b _ hi ht
  have hst : Stat w (w.putObj p.block o') := by
    rcases hk with hk | ⟨L, L', rfl, rfl, hk⟩
    · exact Stat.of_other ho hk fun k hk => putObj_other hk
    · intro n M hn
      by_cases e : n = p.block
      · subst e; rw [ho] at hn; cases hn
        exact ⟨L', World.putObj_heap_same hwlt, hk⟩
      · exact ⟨M, by rw [putObj_other e]; exact hn, rfl, rfl, rfl, rfl, rfl, rfl⟩
  have := D.put i b' (Nat.le_of_lt hlt) (Ext.refl _) (fun _ _ h => h) (w' := w.putObj p.block o') ⟨rfl, rfl, rfl, by simp, hst⟩ (fun k hk => putObj_other fun e => hown.1 (e ▸ hk))
    (fun j c k hj hc hc' => putObj_other fun e => D.apart j i c b k hj hc hi hc' (e ▸ ht)) hb (fun n hn => by
      have := htk n hn
      subst this
      exact ⟨hown.1, by simpa using hown.2, fun j c hj hc hc' => D.apart j i c b _ hj hc hi hc' ht⟩)
  unfold putB at this
  rw [if_pos hlt] at this
  exact this
/-- A new block that is no cells. -/
theorem DH.allocO {ρ : Rho} {h : List Blk} {w : World} (D : DH E ρ h w) {b : Blk} {o : Obj} (hb : ∀ v, BlkOk E (upd ρ h.length ⟨w.heap.size, v⟩) (w.alloc o) h.length b)
    (ht : ∀ ρ' : Rho, ρ' h.length = some ⟨w.heap.size, undef⟩ → ∀ n, takes ρ' h.length b n → n = w.heap.size) : Ext ρ (upd ρ h.length ⟨w.heap.size, undef⟩) ∧ DH E (upd ρ h.length ⟨w.heap.size, undef⟩) (h ++ [b]) (w.alloc o) := by
  have hx : Ext ρ (upd ρ h.length ⟨w.heap.size, undef⟩) := upd_ext (D.fresh _ (Nat.le_refl _))
  refine ⟨hx, ?_⟩
  have := D.put h.length b (Nat.le_refl _) hx (fun k hk hn => upd_other hk hn) (w' := w.alloc o) ⟨rfl, rfl, rfl, by simp, Stat.of_block fun k hk => RowKit.Below.heap_alloc w _ k hk⟩
    (fun k hk => RowKit.Below.heap_alloc w _ k (fixed_lt D hk)) (fun j c k hj hc hc' => RowKit.Below.heap_alloc w _ k (D.own j c k hc hc').2) (hb undef) (fun n hn => by
      have := ht _ (upd_same _ _) n hn
      subst this
      refine ⟨fun hf => absurd (fixed_lt D hf) (Nat.lt_irrefl _), by simp, fun j c _ hc hc' => ?_⟩
      have := (D.own j c _ hc hc').2
      simp at this)
  unfold putB at this
  rw [if_neg (Nat.lt_irrefl _)] at this
  exact this
end

/-! ### Maps -/
def midx (m : List (Int × List Value)) (k : Int) : Option Nat := match m with
  | [] => none
  | x :: l => cond (decide (x.1 = k)) (some 0) ((midx l k).map (· + 1))
/-- What a number has; z, if it has nothing. -/
def mget (m : List (Int × List Value)) (k : Int) (z : List Value) : List Value := match m with
  | [] => z
  | x :: l => cond (decide (x.1 = k)) x.2 (mget l k z)
def mhas (m : List (Int × List Value)) (k : Int) : Bool := match m with
  | [] => false
  | x :: l => cond (decide (x.1 = k)) true (mhas l k)
def mset (m : List (Int × List Value)) (k : Int) (v : List Value) : List (Int × List Value) := match m with
  | [] => [(k, v)]
  | x :: l => cond (decide (x.1 = k)) ((k, v) :: l) (x :: mset l k v)

def entsAt (k : IntKind) (agg : Bool) (m : List (Int × List Value)) (n : Nat) : List MapEntry := (m.zipIdx n).map fun x => { key := .int k x.1.1, val := mval agg x.1.2, born := x.2 }
theorem entsOf_eq (k : IntKind) (agg : Bool) (m : List (Int × List Value)) : entsOf k agg m = entsAt k agg m 0 := rfl
theorem entsAt_cons (k : IntKind) (agg : Bool) (x : Int × List Value) (m : List (Int × List Value)) (n : Nat) : entsAt k agg (x :: m) n = { key := .int k x.1, val := mval agg x.2, born := n } :: entsAt k agg m (n + 1) := by
  simp [entsAt]
theorem entsAt_append (k : IntKind) (agg : Bool) : ∀ (m l : List (Int × List Value)) (n : Nat), entsAt k agg (m ++ l) n = entsAt k agg m n ++ entsAt k agg l (n + m.length)
  | [], l, n => by simp [entsAt]
  | x :: m, l, n => by
    rw [List.cons_append, entsAt_cons, entsAt_cons, entsAt_append k agg m l (n + 1), List.cons_append, List.length_cons]
    congr 2; congr 1; omega
theorem entsAt_length (k : IntKind) (agg : Bool) (m : List (Int × List Value)) (n : Nat) : (entsAt k agg m n).length = m.length := by simp [entsAt]
theorem entsAt_get (k : IntKind) (agg : Bool) : ∀ (m : List (Int × List Value)) (n j : Nat), (entsAt k agg m n)[j]? = (m[j]?).map fun x => { key := .int k x.1, val := mval agg x.2, born := n + j }
  | [], n, j => by simp [entsAt]
  | x :: m, n, 0 => by simp [entsAt_cons]
  | x :: m, n, j + 1 => by
    rw [entsAt_cons, List.getElem?_cons_succ, entsAt_get k agg m (n + 1) j, List.getElem?_cons_succ]
    congr 1; funext y; congr 1; omega

theorem findNow_ents (K : IntKind) (agg : Bool) (k : Int) (z : List Value) : ∀ (m : List (Int × List Value)) (n i : Nat),
    (midx m k = none ∧ mhas m k = false ∧ mget m k z = z ∧ Instr.findNow (.int K) (.int K k) (entsAt K agg m n) i = some none) ∨
    ∃ j v, midx m k = some j ∧ m[j]? = some (k, v) ∧ mhas m k = true ∧ mget m k z = v ∧ Instr.findNow (.int K) (.int K k) (entsAt K agg m n) i = some (some (i + j, mval agg v))
  | [], n, i => .inl ⟨rfl, rfl, rfl, rfl⟩
  | (x, u) :: m, n, i => by
    rw [entsAt_cons]
    by_cases h : x = k
    · subst h
      refine .inr ⟨0, u, by simp [midx], rfl, by simp [mhas], by simp [mget], by simp [Instr.findNow, Instr.sameNow]⟩
    · have h' : ¬ k = x := fun e => h e.symm
      have hb : (k == x) = false := by simp [h']
      rcases findNow_ents K agg k z m (n + 1) (i + 1) with ⟨h1, h2, h3, h4⟩ | ⟨j, v, h1, h2, h3, h4, h5⟩
      · exact .inl ⟨by simp [midx, h, h1], by simp [mhas, h, h2], by simp [mget, h, h3], by simp [Instr.findNow, Instr.sameNow, hb, h4]⟩
      · refine .inr ⟨j + 1, v, by simp [midx, h, h1], by simpa using h2, by simp [mhas, h, h3], by simp [mget, h, h4], ?_⟩
        simp [Instr.findNow, Instr.sameNow, hb, h5]; omega

theorem mset_none {m : List (Int × List Value)} {k : Int} {v : List Value} (h : midx m k = none) : mset m k v = m ++ [(k, v)] := by
  induction m with
  | nil => rfl
  | cons x l ih =>
    simp only [midx] at h
    by_cases hx : x.1 = k
    · simp [hx] at h
    · simp only [hx, decide_false, cond_false, Option.map_eq_none_iff] at h
      simp [mset, hx, ih h]
theorem mset_some {m : List (Int × List Value)} {k : Int} {v : List Value} {j : Nat} (h : midx m k = some j) : mset m k v = m.set j (k, v) := by
  induction m generalizing j with
  | nil => simp [midx] at h
  | cons x l ih =>
    simp only [midx] at h
    by_cases hx : x.1 = k
    · simp [hx] at h; subst h; simp [mset, hx]
    · simp only [hx, decide_false, cond_false, Option.map_eq_some_iff] at h
      obtain ⟨i, hi, rfl⟩ := h
      simp [mset, hx, ih hi]
theorem mset_mem {m : List (Int × List Value)} {k : Int} {v : List Value} {x : Int × List Value} (h : x ∈ mset m k v) : x = (k, v) ∨ x ∈ m := by
  induction m with
  | nil => simp only [mset, List.mem_singleton] at h; exact .inl h
  | cons y l ih =>
    simp only [mset] at h
    by_cases hy : y.1 = k
    · simp only [hy, decide_true, cond_true, List.mem_cons] at h
      rcases h with h | h
      · exact .inl h
      · exact .inr (.tail _ h)
    · simp only [hy, decide_false, cond_false, List.mem_cons] at h
      rcases h with h | h
      · exact .inr (by rw [h]; exact .head _)
      · rcases ih h with h | h
        · exact .inl h
        · exact .inr (.tail _ h)
theorem mget_wk {m : List (Int × List Value)} {k : Int} {z : List Value} {kd : List Kd} (hm : ∀ x ∈ m, Wk kd x.2) (hz : Wk kd z) : Wk kd (mget m k z) := by
  induction m with
  | nil => exact hz
  | cons y l ih =>
    simp only [mget]
    cases decide (y.1 = k)
    · exact ih fun x hx => hm x (.tail _ hx)
    · exact hm y (.head _)

/-- A type's nothing, as a map's value. -/
def zeroM (P : Program) (el : TypeId) (kd : List Kd) (agg : Bool) : Option (List Value) := match (P.info? el).bind (·.zero) with
  | some (.agg cs) => cond agg (elemK kd (cs.toList.map .v)) none
  | some (.tuple _) => none
  | some z => cond agg none (elemK kd [.v z])
  | none => none
def valS (agg : Bool) (kd : List Kd) (v : List Value) : SV := cond agg (.agg (mkS v 0 kd)) ((mkS v 0 kd).getD 0 .any)
/-- What is laid into a map. -/
def laidM (agg : Bool) (kd : List Kd) (s : SV) : Option (List Value) := cond agg (match s with
  | .agg l => elemK kd l
  | .v (.agg cs) => elemK kd (cs.toList.map .v)
  | .t (.agg cs) => (match liftT (.agg cs) with
    | .agg l => elemK kd l
    | _ => none)
  | _ => none) (elemK kd [s])

def bytesOf (xs : List (List Value)) : ByteArray := strOfNums (xs.map fun l => geti l 0)

/-- A slice's elements, made nothing. -/
def clearS (P : Program) (t : TypeId) (s : SV) (h : List Blk) : Option Res := match P.underlying t, s with
  | some (.slice el), .part i lo n _ => match h[i]?, rowT P el, zeroSV P el with
    | some (.row el' kd xs), some (kd', _), some z => cond (kdEq kd' kd) ((elemK kd z).bind fun v => some ⟨[], .tup [], [(i, .row el' kd (xs.take lo ++ List.replicate n v ++ xs.drop (lo + n)))]⟩) none
    | _, _, _ => none
  | some (.slice _), .emp => ret (.tup [])
  | _, _ => none

def opX (P : Program) (o : Oper) (e : Operand → SV) (h : List Blk) (nx : Nat) : Option Res :=
  match o.op with
  | .makeMap t none => match P.underlying t with
    | some (.map kt el) => match P.underlying kt, kdT P 20 el, (P.info? el).bind (·.zero) with
      | some (.int K), some kd, some (.agg _) => some ⟨[], .mp nx, [(nx, .map K kd true [])]⟩
      | some (.int K), some [k], some _ => some ⟨[], .mp nx, [(nx, .map K [k] false [])]⟩
      | _, _, _ => none
    | _ => none
  | .lookup t x ix ok => match P.underlying t, e x, intOf (e ix) with
    | some (.map kt el), .mp i, some (K, n, _, _) => match P.underlying kt, h[i]? with
      | some (.int K'), some (.map K2 kd agg m) => cond (decide (K' = K) && decide (K2 = K)) (match zeroM P el kd agg with
        | some z => cond ok (ret (.tup [valS agg kd (mget m n z), .b (mhas m n)])) (ret (valS agg kd (mget m n z)))
        | none => none) none
      | _, _ => none
    | _, _, _ => none
  | .mapUpdate t x ix y => match P.underlying t, e x, intOf (e ix) with
    | some (.map kt _), .mp i, some (K, n, _, _) => match P.underlying kt, h[i]? with
      | some (.int K'), some (.map K2 kd agg m) => cond (decide (K' = K) && decide (K2 = K)) (match laidM agg kd (e y) with
        | some v => some ⟨[], .v undef, [(i, .map K2 kd agg (mset m n v))]⟩
        | none => none) none
      | _, _ => none
    | _, _, _ => none
  | .convert s d x => match P.underlying s, P.underlying d with
    | some (.slice el), some .string => match P.underlying el with
      | some (.int .u8) => (viewS [.int .u8] (e x) h).bind fun xs => ret (.s (bytesOf xs) 9223372036854775807)
      | _ => none
    | _, _ => none
  | .makeSlice t l c => match P.underlying t, e l, e c with
    | some (.slice el), .v (.int _ (.ofNat n)), .v (.int _ (.ofNat m)) => match P.info? el with
      | some inf => match inf.zero with
        | some z => cond (decide (n = m) && (decide (n ≤ 16) && (decide (inf.size = z.cells.size) && (decide (0 < z.cells.size) && decide (inf.bytes ≤ 1099511627776))))) (some ⟨[], .sl nx 0 n n, [(nx, .cells el (repeatL n (z.cells.toList.map .v)))]⟩) none
        | none => none
      | none => none
    | _, _, _ => none
  | .call c => match c.callee, c.args.toList.map e, c.argTypes.toList with
    | .builtin .clear, [s], [t] => clearS P t s h
    | _, _, _ => none
  | _ => none

section
variable {P : Program} {E : Env} {ρ : Rho} {w : World} {hp : List Blk} {o : Oper} {e : Operand → SV} {ev : Operand → Value} {nx : Nat} {r : Res}

theorem DL.getDv {l : List SV} {ys : List Value} (h : DL ρ l ys) (i : Nat) (d : Value) : DV ρ (l.getD i .any) (ys.getD i d) := by
  rw [List.getD_eq_getElem?_getD, List.getD_eq_getElem?_getD]
  cases hs : l[i]? with
  | none => simp [DV]
  | some s =>
    obtain ⟨y, hy, hd⟩ := h.get hs
    simpa [hy] using hd
theorem valS_DV {agg : Bool} {kd : List Kd} {v : List Value} (h : Wk kd v) (h1 : agg = false → kd.length = 1) : DV ρ (valS agg kd v) (mval agg v) := by
  have hd := h.DL (ρ := ρ)
  cases agg
  · have hl := h1 rfl
    have hv := h.length
    simp only [valS, mval, cond_false]
    exact hd.getDv 0 undef
  · simp only [valS, mval, cond_true, DV]
    exact ⟨_, rfl, by simpa using hd⟩
theorem zeroM_ok {el : TypeId} {kd : List Kd} {agg : Bool} {z : List Value} (h : zeroM P el kd agg = some z) : Wk kd z ∧ (zeroValue el).run P w = .ok (mval agg z) w := by
  unfold zeroM at h
  have key : ∀ {v : Value}, (P.info? el).bind (·.zero) = some v → (zeroValue el).run P w = .ok v w := fun {v} hv => by
    obtain ⟨i, hi, hz⟩ := Option.bind_eq_some_iff.1 hv
    simp [zeroValue, typeInfo, hi, hz]
  split at h
  · rename_i cs hz
    cases agg
    · cases h
    · obtain ⟨h1, h2⟩ := elemK_ok (ρ := fun _ => none) h (DL_map_v _)
      subst h1
      exact ⟨h2, by rw [key hz]; simp [mval]⟩
  · cases h
  · rename_i v _ _ hz
    cases agg
    · obtain ⟨h1, h2⟩ := elemK_ok (ρ := fun _ => none) h (ys := [v]) (DL.cons (by simp [DV]) DL.nil)
      subst h1
      exact ⟨h2, by rw [key hz]; simp [mval]⟩
    · cases h
  · cases h
theorem laidM_ok {agg : Bool} {kd : List Kd} {s : SV} {v : List Value} {y : Value} (h : laidM agg kd s = some v) (hd : DV ρ s y) : Wk kd v ∧ y = mval agg v := by
  unfold laidM at h
  cases agg
  · simp only [cond_false] at h
    obtain ⟨h1, h2⟩ := elemK_ok h (DL.cons hd DL.nil)
    subst h1
    exact ⟨h2, by simp [mval]⟩
  · simp only [cond_true] at h
    have fin : ∀ l : List SV, elemK kd l = some v → DV ρ (.agg l) y → Wk kd v ∧ y = mval true v := fun l hl hd => by
      simp only [DV] at hd
      obtain ⟨a, rfl, hl'⟩ := hd
      obtain ⟨h1, h2⟩ := elemK_ok hl hl'
      subst h1
      exact ⟨h2, by simp [mval]⟩
    split at h
    · exact fin _ h hd
    · rename_i cs
      simp only [DV] at hd
      subst hd
      refine fin _ h ?_
      simp only [DV]
      exact ⟨cs, rfl, DL_map_v _⟩
    · rename_i cs
      split at h
      · rename_i l hl
        simp only [DV] at hd
        subst hd
        exact fin _ h (hl ▸ liftT_DV _)
      · cases h
    · cases h

theorem DH.allocAt {h : List Blk} (D : DH E ρ h w) (f : Free h nx) {b : Blk} {ob : Obj} (hb : BlkOk E (upd ρ nx ⟨w.heap.size, undef⟩) (w.alloc ob) nx b)
    (ht : ∀ ρ' : Rho, ρ' nx = some ⟨w.heap.size, undef⟩ → ∀ n, takes ρ' nx b n → n = w.heap.size) : DH E (upd ρ nx ⟨w.heap.size, undef⟩) (putB nx b h) (w.alloc ob) := by
  have hx := upd_ext (l := ⟨w.heap.size, undef⟩) (f.none D)
  refine D.put nx b f.le hx (fun k hk hn => upd_other hk hn) ⟨rfl, rfl, rfl, by simp, Stat.of_block fun k hk => RowKit.Below.heap_alloc w _ k hk⟩
    (fun k hk => RowKit.Below.heap_alloc w _ k (fixed_lt D hk)) (fun j c k hj hc hc' => RowKit.Below.heap_alloc w _ k (D.own j c k hc hc').2) hb (fun n hn => ?_)
  have := ht _ (upd_same _ _) n hn
  subst this
  refine ⟨fun hf => absurd (fixed_lt D hf) (Nat.lt_irrefl _), by simp, fun j c _ hc hc' => ?_⟩
  have := (D.own j c _ hc hc').2
  simp at this

theorem ok_makeMap {t : TypeId} {K : IntKind} {kd : List Kd} {agg : Bool} (ho : o.op = .makeMap t none) (h1 : agg = false → kd.length = 1) (D : DH E ρ hp w) (f : Free hp nx) :
    Went P E ρ hp w o ev ⟨[], .mp nx, [(nx, .map K kd agg [])]⟩ := by
  refine ⟨.map (some w.heap.size), w.alloc (.map #[] 0), upd ρ nx ⟨w.heap.size, undef⟩, .inl ?_, upd_ext (f.none D), ?_, ?_⟩
  · simp [execOp, ho, Instr.makeMap]
  · simp only [DV]; exact ⟨_, upd_same _ _, rfl⟩
  · exact D.allocAt f ⟨_, upd_same _ _, World.alloc_heap_new w _, h1, by simp⟩ (fun ρ' hr n ⟨q, hq, e⟩ => by rw [hr] at hq; cases hq; exact e.symm)

theorem ok_lookup {t kt el : TypeId} {x ix : Operand} {ok : Bool} {i : Nat} {K : IntKind} {n : Int} {kd : List Kd} {agg : Bool} {m : List (Int × List Value)} {z : List Value} (ho : o.op = .lookup t x ix ok)
    (hu : P.underlying t = some (.map kt el)) (hk : P.underlying kt = some (.int K)) (hx : e x = .mp i) (hix : ev ix = .int K n) (hi : hp[i]? = some (.map K kd agg m)) (hz : zeroM P el kd agg = some z)
    (EV : ∀ x, DV ρ (e x) (ev x)) (D : DH E ρ hp w) :
    (execOp ev o).run P w = .ok (.value (cond ok (.tuple #[mval agg (mget m n z), .bool (mhas m n)]) (mval agg (mget m n z)))) w ∧ DV ρ (valS agg kd (mget m n z)) (mval agg (mget m n z)) := by
  obtain ⟨p, hp', hw, h1, hm⟩ := D.ok i _ hi
  have hv := EV x
  rw [hx] at hv
  simp only [DV] at hv
  obtain ⟨q, hq, hv⟩ := hv
  rw [hp'] at hq; cases hq
  obtain ⟨hzw, hzr⟩ := zeroM_ok (w := w) hz
  refine ⟨?_, valS_DV (mget_wk hm hzw) h1⟩
  have hkey : IsKey (.int K) (.int K n) := rfl
  rw [entsOf_eq] at hw
  rcases findNow_ents K agg n z m 0 0 with ⟨_, e2, e3, e4⟩ | ⟨j, v, _, _, e2, e3, e4⟩
  · have e4' := MapKept.run_findKey (P := P) (w := w) hk e4
    simp [execOp, ho, Instr.lookup, run_underlying hu, hv, hix, MapKept.run_getObj_map hw, MapKept.run_checkKey hk hkey, e4', hzr, e2, e3]
  · have e4' := MapKept.run_findKey (P := P) (w := w) hk e4
    simp [execOp, ho, Instr.lookup, run_underlying hu, hv, hix, MapKept.run_getObj_map hw, MapKept.run_checkKey hk hkey, e4', e2, e3]

theorem ok_mapUpdate {t kt el : TypeId} {x ix y : Operand} {i : Nat} {K : IntKind} {n : Int} {kd : List Kd} {agg : Bool} {m : List (Int × List Value)} {v : List Value} (ho : o.op = .mapUpdate t x ix y)
    (hu : P.underlying t = some (.map kt el)) (hk : P.underlying kt = some (.int K)) (hx : e x = .mp i) (hix : ev ix = .int K n) (hi : hp[i]? = some (.map K kd agg m)) (hy : laidM agg kd (e y) = some v)
    (EV : ∀ x, DV ρ (e x) (ev x)) (D : DH E ρ hp w) : Went P E ρ hp w o ev ⟨[], .v undef, [(i, .map K kd agg (mset m n v))]⟩ := by
  obtain ⟨p, hp', hw, h1, hm⟩ := D.ok i _ hi
  have hv := EV x
  rw [hx] at hv
  simp only [DV] at hv
  obtain ⟨q, hq, hv⟩ := hv
  rw [hp'] at hq; cases hq
  obtain ⟨hyw, hye⟩ := laidM_ok hy (EV y)
  have hkey : IsKey (.int K) (.int K n) := rfl
  have hlt := (Array.getElem?_eq_some_iff.1 hw).1
  have hlti := (List.getElem?_eq_some_iff.1 hi).1
  have fin : (execOp ev o).run P w = .ok .skip (w.putObj p.block (.map (entsOf K agg (mset m n v)).toArray (mset m n v).length)) → Went P E ρ hp w o ev ⟨[], .v undef, [(i, .map K kd agg (mset m n v))]⟩ := fun hr => by
    refine ⟨undef, _, ρ, .inr ⟨hr, rfl⟩, Ext.refl _, by simp [DV], ?_⟩
    simp only [applyEff, List.foldl_cons, List.foldl_nil, putB]
    rw [if_pos hlti]
    refine D.turn hi hp' ⟨p, hp', rfl⟩ hw (.inl fun L h => by cases h) ⟨p, hp', World.putObj_heap_same hlt, h1, fun x hx => ?_⟩ (by rintro n ⟨r, hr, rfl⟩; rw [hp'] at hr; cases hr; rfl)
    rcases mset_mem hx with rfl | hx
    · exact hyw
    · exact hm x hx
  refine fin ?_
  rcases findNow_ents K agg n [] m 0 0 with ⟨e1, _, _, e4⟩ | ⟨j, u, e1, ej, _, _, e4⟩
  · have e4' := MapKept.run_findKey (P := P) (w := w) hk e4
    rw [entsOf_eq] at hw
    have e5 : (entsOf K agg (mset m n v)).toArray = (entsAt K agg m 0).toArray.push { key := .int K n, val := mval agg v, born := m.length } := by
      rw [mset_none e1, entsOf_eq, entsAt_append]
      simp [entsAt]
    have e6 : (mset m n v).length = m.length + 1 := by rw [mset_none e1]; simp
    rw [e5, e6]
    simp [execOp, ho, Instr.mapUpdate, run_underlying hu, hv, hix, hye, MapKept.run_getObj_map hw, MapKept.run_checkKey hk hkey, e4', MapKept.run_setObj_map _ hw]
    rfl
  · have e4' := MapKept.run_findKey (P := P) (w := w) hk e4
    rw [entsOf_eq] at hw
    have hjl := (List.getElem?_eq_some_iff.1 ej).1
    have e5 : (entsOf K agg (mset m n v)).toArray = (entsAt K agg m 0).toArray.modify j fun e => { e with key := .int K n, val := mval agg v } := by
      rw [mset_some e1, entsOf_eq]
      apply Array.ext'
      rw [Array.toList_modify]
      apply List.ext_getElem?
      intro k
      simp only [entsAt_get, List.getElem?_set, List.getElem?_modify]
      by_cases hkj : j = k
      · subst hkj
        simp [hjl]
      · simp [hkj]
    have e6 : (mset m n v).length = m.length := by rw [mset_some e1]; simp
    have e7 : (entsAt K agg m 0).toArray[j]? = some { key := .int K n, val := mval agg u, born := j } := by
      rw [List.getElem?_toArray, entsAt_get, ej]; simp
    have e7' : (entsAt K agg m 0)[j]? = some { key := .int K n, val := mval agg u, born := j } := by
      rw [entsAt_get, ej]; simp
    have e8 := MapKept.run_keyThatStays (P := P) (w := w) hkey
    rw [e5, e6]
    simp only [Nat.zero_add] at e4'
    simp [execOp, ho, Instr.mapUpdate, run_underlying hu, hv, hix, hye, MapKept.run_getObj_map hw, MapKept.run_checkKey hk hkey, e4', e7, e7', e8, MapKept.run_setObj_map _ hw]
    rfl

theorem ok_bytes {s d el : TypeId} {x : Operand} {xs : List (List Value)} (ho : o.op = .convert s d x) (hs : P.underlying s = some (.slice el)) (hd : P.underlying d = some .string) (he : P.underlying el = some (.int .u8))
    (hv : viewS [.int .u8] (e x) hp = some xs) (EV : ∀ x, DV ρ (e x) (ev x)) (D : DH E ρ hp w) : Went P E ρ hp w o ev ⟨[], .s (bytesOf xs) 9223372036854775807, []⟩ := by
  obtain ⟨a, c, hy, hc, hmx, hwk, hr⟩ := view_ok D hv (EV x)
  have hM : maxLen = 9223372036854775807 := by decide
  have hlen : (bytesOf xs).size = xs.length := by simp [bytesOf, strOfNums, ByteArray.size]
  refine went_pure D (y := .string (bytesOf xs)) ?_ (by simp only [DV]; exact ⟨trivial, by omega⟩)
  rcases hr with rfl | ⟨g, off, rfl, hr⟩
  · cases a with
    | none =>
      have := run_convert_bytes_nil (P := P) w s el hs he 0 c d hd
      simp only [List.length_nil] at hy
      simp [execOp, ho, hy, this, bytesOf, strOfNums]
      rfl
    | some a =>
      have hl : (loadCells a 0).run P w = .ok (([] : List Int).map (Value.int .u8)).toArray w := by simp [loadCells, loadCellsFrom]
      have h1 := run_convert_bytes_string (P := P) w s d el (some a) 0 c hs he hd
      have h2 := run_bytesToString (P := P) w a 0 c [] hl
      simp only [List.length_nil] at hy
      simp [execOp, ho, hy, h1, h2, bytesOf, strOfNums]
      rfl
  · have h1 := run_convert_bytes_arg (P := P) w s el hs he g off xs.length c (xs.map fun l => geti l 0) (by simp) (fun j hj => by
      have hx := List.getElem?_eq_getElem hj
      have hw1 := hwk _ (List.mem_of_getElem? hx)
      have hone := hw1.length
      have e0 := hw1
      unfold Wk at e0
      match hxx : xs[j], e0 with
      | [v], e0 =>
        obtain ⟨⟨nn, rfl, _⟩, _⟩ := e0
        have := hr j (.int .u8 nn) (by
          have := flatten_get 1 xs (fun x hx => (hwk x hx).length) j 0 _ (.int .u8 nn) hx (by rw [hxx]; rfl)
          simpa using this)
        rw [this]
        simp [List.getD, hx, hxx, geti]) d hd
    simp [execOp, ho, hy, h1, bytesOf]

theorem made_repeat (z : Array Value) (hz : 0 < z.size) (n : Nat) : (madeCells z (n * z.size)).toList = repeatL n z.toList := by
  have hl : (repeatL n z.toList).length = n * z.size := by rw [repeatL_length, Array.length_toList]
  refine List.ext_getElem? fun j => ?_
  by_cases hj : j < n * z.size
  · have h1 := repeatL_get z.toList (by simpa using hz) n j (by simpa using hj)
    rw [h1]
    simp only [madeCells, Array.toList_map, List.getElem?_map, Array.toList_range, List.getElem?_range hj, Option.map_some, Array.length_toList]
    have hlt := Nat.mod_lt j hz
    rw [getElem!_pos z (j % z.size) hlt]
    simp [hlt]
  · rw [List.getElem?_eq_none (by simp [size_madeCells]; omega), List.getElem?_eq_none (by omega)]


theorem ok_makeCells {t : TypeId} {x y : Operand} {K K' : IntKind} {n : Nat} {el : TypeId} {z : Value} {inf : TypeInfo} (ho : o.op = .makeSlice t x y) (hx : e x = .v (.int K (.ofNat n))) (hy : e y = .v (.int K' (.ofNat n)))
    (hu : P.underlying t = some (.slice el)) (hi : P.info? el = some inf) (hz : inf.zero = some z) (hn : n ≤ 64) (hzl : inf.size = z.cells.size) (h0 : 0 < z.cells.size) (hb : inf.bytes ≤ 1099511627776)
    (EV : ∀ x, DV ρ (e x) (ev x)) (D : DH E ρ hp w) (f : Free hp nx) : Went P E ρ hp w o ev ⟨[], .sl nx 0 n n, [(nx, .cells el (repeatL n (z.cells.toList.map .v)))]⟩ := by
  have hvx := EV x
  have hvy := EV y
  rw [hx] at hvx
  rw [hy] at hvy
  simp only [DV] at hvx hvy
  have hbn : inf.bytes * n ≤ 1099511627776 * 64 := Nat.mul_le_mul hb hn
  have hbn' : (inf.bytes : Int) * (n : Int) ≤ 281474976710656 := by
    have : ((inf.bytes * n : Nat) : Int) ≤ 281474976710656 := by omega
    rw [Int.natCast_mul] at this; exact this
  have hr := run_make (P := P) w t el inf z hu hi hz K K' (n : Int) (n : Int) (by omega) (Int.le_refl _) hbn' (by omega)
  have hrep := made_repeat z.cells h0 n
  have hl0 : DL ρ (repeatL n (z.cells.toList.map .v)) (madeCells z.cells (n * z.cells.size)).toList := by
    rw [hrep]
    have : repeatL n (z.cells.toList.map SV.v) = (repeatL n z.cells.toList).map .v := by simp [repeatL]
    rw [this]
    exact DL_map_v _
  refine ⟨.slice (some ⟨w.heap.size, 0, none⟩) n n, w.alloc (.cells (madeCells z.cells (n * z.cells.size)) el), upd ρ nx ⟨w.heap.size, undef⟩, .inl ?_, upd_ext (f.none D), ?_, D.alloc f hl0 undef⟩
  · rw [hzl] at hr
    simp only [Int.toNat_natCast] at hr
    have e1 : Int.ofNat n = (n : Int) := rfl
    simp only [execOp, ho, hvx, hvy, e1, Sem.run_bind, hr, Result.andThen_ok, Sem.run_pure]
  · simp only [DV]
    exact ⟨_, upd_same _ _, Nat.le_refl _, rfl⟩

/-- Elements of a row's, overwritten. -/
theorem DH.overwrite {i : Nat} {el : TypeId} {kd : List Kd} {xs news : List (List Value)} (D : DH E ρ hp w) (hi : hp[i]? = some (.row el kd xs)) {p : Loc} (hp' : ρ i = some p) {g off n c lo : Nat} (hval : p.val = .slice (some ⟨g, off, none⟩) n c)
    (hn : 0 < n) (hl : lo + news.length ≤ xs.length) (hw : ∀ x ∈ news, Wk kd x) (hone : ∀ v ∈ news.flatten, v.oneCell' = true) :
    ∃ w', (storeCells ⟨g, off + lo * kd.length, none⟩ news.flatten).run P w = .ok () w' ∧ DH E ρ (putB i (.row el kd (xs.take lo ++ news ++ xs.drop (lo + news.length))) hp) w' := by
  obtain ⟨q, hq, hb, hk0, hwx, hown⟩ := D.ok i _ hi
  rw [hp'] at hq; cases hq
  have hlt := (List.getElem?_eq_some_iff.1 hi).1
  rcases hown.2 with ⟨a', e1, e2⟩ | ⟨g', off', cap, cur, e1, hg, k1, k2, k3, k4⟩
  · rw [hval] at e1; simp only [Value.slice.injEq] at e1; omega
  · rw [hval] at e1
    simp only [Value.slice.injEq, Option.some.injEq, Addr.mk.injEq] at e1
    obtain ⟨⟨rfl, rfl, _⟩, rfl, rfl⟩ := e1
    have hxl := fun x hx => (hwx x hx).length
    have hflen := flatten_length hxl
    have hnl := flatten_length fun x hx => (hw x hx).length
    have hll : (lo + news.length) * kd.length ≤ xs.length * kd.length := Nat.mul_le_mul_right _ hl
    rw [Nat.add_mul] at hll
    have hcapl : xs.length * kd.length ≤ (cap + 1) * kd.length := Nat.mul_le_mul_right _ k1
    have hst := run_storeCells_at P g (off + lo * kd.length) el news.flatten 0 cur w hg (by rw [hnl]; omega) hone
    simp only [Nat.add_zero] at hst
    have hcl : cur.toList.length = cur.size := Array.length_toList
    have hto : (cur.toList.take off).length = off := by rw [List.length_take, hcl]; omega
    have hws : ∀ y ∈ xs.take lo ++ news ++ xs.drop (lo + news.length), Wk kd y := fun y hy => by
      rcases List.mem_append.1 hy with hy | hy
      · rcases List.mem_append.1 hy with hy | hy
        · exact hwx y (List.mem_of_mem_take hy)
        · exact hw y hy
      · exact hwx y (List.mem_of_mem_drop hy)
    have hlen' : (xs.take lo ++ news ++ xs.drop (lo + news.length)).length = xs.length := by simp; omega
    have hcur : cur.toList = cur.toList.take off ++ (xs.flatten ++ cur.toList.drop (off + xs.length * kd.length)) := by
      conv => lhs; rw [← List.take_append_drop off cur.toList]
      congr 1
      conv => lhs; rw [← List.take_append_drop (xs.length * kd.length) (cur.toList.drop off)]
      rw [k4, List.drop_drop]
    have hsp : xs.flatten = (xs.take lo).flatten ++ xs.flatten.drop (lo * kd.length) := by
      rw [← drop_flatten lo xs hxl, ← List.flatten_append, List.take_append_drop]
    have f2 : (xs.take lo).flatten.length = lo * kd.length := by
      rw [flatten_length fun x hx => hxl x (List.mem_of_mem_take hx), List.length_take, Nat.min_eq_left (by omega)]
    have hnew : cur.toList.take (off + lo * kd.length) ++ news.flatten ++ cur.toList.drop (off + lo * kd.length + news.flatten.length) =
        cur.toList.take off ++ ((xs.take lo ++ news ++ xs.drop (lo + news.length)).flatten ++ cur.toList.drop (off + xs.length * kd.length)) := by
      have t1 : cur.toList.take (off + lo * kd.length) = cur.toList.take off ++ (xs.take lo).flatten := by
        conv => lhs; rw [hcur, hsp]
        rw [List.take_append, hto, List.take_of_length_le (l := cur.toList.take off) (by rw [hto]; omega), show off + lo * kd.length - off = lo * kd.length by omega, List.append_assoc, List.take_append_of_le_length (by rw [f2]; omega), List.take_of_length_le (l := (xs.take lo).flatten) (by rw [f2]; omega)]
      have t2 : cur.toList.drop (off + lo * kd.length + news.flatten.length) = (xs.drop (lo + news.length)).flatten ++ cur.toList.drop (off + xs.length * kd.length) := by
        conv => lhs; rw [hcur]
        rw [List.drop_append, hto, List.drop_of_length_le (l := cur.toList.take off) (by rw [hto]; omega), List.nil_append, show off + lo * kd.length + news.flatten.length - off = (lo + news.length) * kd.length by rw [hnl, Nat.add_mul]; omega,
          List.drop_append_of_le_length (by rw [hflen, Nat.add_mul]; omega), drop_flatten _ xs hxl]
      rw [t1, t2]
      simp only [List.flatten_append, List.append_assoc]
    have hflen' := flatten_length fun y hy => (hws y hy).length
    rw [hlen'] at hflen'
    refine ⟨_, hst, ?_⟩
    have htk : takes ρ i (.row el kd xs) g := ⟨p, hp', by rw [hval]; rfl⟩
    have hO := D.own i _ g hi htk
    refine D.put i _ (by omega) (Ext.refl _) (fun _ _ h => h) ⟨rfl, rfl, rfl, by simp, Stat.of_other hg (fun _ => by simp) fun k hk => setRow_other w g k _ hk⟩ (fun j hj => setRow_other w _ j _ (fun e => hO.1 (e ▸ hj)))
      (fun j c' j' hj hc' ht => setRow_other w _ j' _ (fun e => by subst e; exact D.apart j i c' _ _ hj hc' hi ht htk)) ?_ ?_
    · refine ⟨p, hp', hb, hk0, hws, by rw [hlen']; exact hflen', .inr ⟨g, off, cap, _, by rw [hlen']; exact hval, setRow_heap w g cur _ el _ hg, by rw [hlen']; exact k1, k2, ?_, ?_⟩⟩
      · rw [hnew]
        simp only [List.size_toArray, List.length_append, hflen', hto, List.length_drop, Array.length_toList]
        omega
      · rw [hnew, hlen']
        show List.take _ (List.drop off _) = _
        rw [List.drop_append_of_le_length (by omega), List.drop_of_length_le (by omega), List.nil_append, ← hflen']
        exact List.take_left
    · rintro n' ⟨q, hq, hn'⟩
      rw [hp'] at hq; cases hq
      rw [hval] at hn'
      simp only [sliceB, Option.some.injEq] at hn'
      subst hn'
      exact ⟨hO.1, by simpa using hO.2, fun j c' hj hc' ht => D.apart j i c' _ _ hj hc' hi ht htk⟩

theorem ok_clear {c : Call} {x : Operand} {t : TypeId} (ho : o.op = .call c) (hc : c.callee = .builtin .clear) (ha : c.args.toList = [x]) (ht : c.argTypes.toList = [t]) (h : clearS P t (e x) hp = some r)
    (EV : ∀ x, DV ρ (e x) (ev x)) (D : DH E ρ hp w) : Went P E ρ hp w o ev r := by
  obtain ⟨cal, args, ts⟩ := c
  simp only at hc ha ht
  subst hc
  obtain rfl := toList_one ha
  obtain rfl := toList_one ht
  have hv := EV x
  have run : ∀ w', (Builtin.clear_ #[t] o.type #[ev x]).run P w = .ok (.tuple #[]) w' → (execOp ev o).run P w = .ok (.value (.tuple #[])) w' := fun w' h => by
    refine builtin_run ho rfl ?_
    simp [builtin, h]
  have htup : ∀ ρ' : Rho, DV ρ' (.tup []) (.tuple #[]) := fun ρ' => by simp only [DV]; exact ⟨#[], rfl, DL.nil⟩
  unfold clearS at h
  split at h
  · rename_i el i lo n f hu hx
    rw [hx] at hv
    split at h
    · rename_i el' kd xs kd' bytes z hi hrow hz
      cases hk : kdEq kd' kd with
      | false => rw [hk] at h; cases h
      | true =>
        rw [hk] at h
        have := kdEq_eq hk
        subst this
        simp only [cond_true, Option.bind_eq_some_iff, Option.some.injEq] at h
        obtain ⟨v, hv', rfl⟩ := h
        have hlti := (List.getElem?_eq_some_iff.1 hi).1
        simp only [DV] at hv
        obtain ⟨p, a, cc, hp', hev, h1, h2, _, h3⟩ := hv
        rcases Nat.eq_zero_or_pos n with rfl | hn
        · refine ⟨.tuple #[], w, ρ, .inl (run w ?_), Ext.refl _, htup ρ, ?_⟩
          · rw [hev]; simp [Builtin.clear_, run_underlying hu]
            cases a <;> rfl
          · simp only [applyEff, List.foldl_cons, List.foldl_nil, List.replicate_zero, List.append_nil, Nat.add_zero, List.take_append_drop, putB]
            rw [if_pos hlti]
            have : hp.set i (.row el' kd' xs) = hp := by
              apply List.ext_getElem?
              intro j
              rw [List.getElem?_set]
              split
              · rename_i hj; subst hj; first | exact hi.symm | (rw [if_pos hlti]; exact hi.symm)
              · rfl
            rw [this]; exact D
        · rcases h3 with rfl | ⟨g, off, m, c0, hval, rfl, hlm, _⟩
          · omega
          · obtain ⟨inf, z0, hinf, hz0, hsz, hby, hk0, hzs, hb0, hpl, _⟩ := rowT_ok hrow
            have hz' : z = z0.cells.toList.map .v := by
              simp only [zeroSV, hinf, Option.bind_some, hz0, Option.map_some, Option.some.injEq] at hz
              exact hz.symm
            subst hz'
            obtain ⟨hve, hvw⟩ := elemK_ok (ρ := ρ) hv' (DL_map_v _)
            subst hve
            obtain ⟨q, hq, hb, _, a', c', e1, _⟩ := slot_reads D (slotXs_row hi)
            rw [hp'] at hq; cases hq
            have hmx : m = xs.length := by
              rw [hval] at e1; simp only [Value.slice.injEq] at e1; exact e1.2.1
            subst hmx
            have hfl : (List.replicate n z0.cells.toList).flatten = repeatL n z0.cells.toList := rfl
            obtain ⟨w', hrun, D'⟩ := D.overwrite (P := P) (news := List.replicate n z0.cells.toList) (lo := lo) hi hp' hval (by omega) (by simpa using hlm) (fun x hx => by rw [List.eq_of_mem_replicate hx]; exact hvw)
              (fun u hu => by
                obtain ⟨l, hl, hu⟩ := List.mem_flatten.1 hu
                rw [List.eq_of_mem_replicate hl] at hu
                exact Wk_one hvw hpl u hu)
            simp only [List.length_replicate] at D'
            rw [hfl, ← made_repeat z0.cells (by omega) n] at hrun
            refine ⟨.tuple #[], w', ρ, .inl (run w' ?_), Ext.refl _, htup ρ, ?_⟩
            · rw [hev, hb]
              obtain ⟨n', rfl⟩ : ∃ n', n = n' + 1 := ⟨n - 1, by omega⟩
              have hzc : Builtin.zeroCells z0.cells (n' + 1) = madeCells z0.cells ((n' + 1) * z0.cells.size) := rfl
              simp [Builtin.clear_, run_underlying hu, zeroValue, typeInfo, hinf, hz0, hzc, hrun]
            · simpa [applyEff] using D'
    · cases h
  · rename_i hu hx
    cases h
    rw [hx] at hv
    simp only [DV] at hv
    obtain ⟨a, hev⟩ := hv
    refine went_pure D (run w ?_) (htup ρ)
    rw [hev]
    cases a <;> simp [Builtin.clear_, run_underlying hu] <;> rfl
  · cases h

theorem opX_ok (h : opX P o e hp nx = some r) (EV : ∀ x, DV ρ (e x) (ev x)) (D : DH E ρ hp w) (f : Free hp nx) : Went P E ρ hp w o ev r := by
  unfold opX at h
  split at h
  · rename_i t ho
    split at h
    · split at h
      · cases h; exact ok_makeMap ho (by simp) D f
      · cases h; exact ok_makeMap ho (by simp) D f
      · cases h
    · cases h
  · rename_i t x ix ok ho
    split at h
    · rename_i kt el i K n _ _ hu hx hix
      split at h
      · rename_i K' K2 kd agg m hk hi
        cases hc : (decide (K' = K) && decide (K2 = K)) with
        | false => rw [hc] at h; cases h
        | true =>
          rw [hc] at h
          simp only [Bool.and_eq_true, decide_eq_true_eq] at hc
          obtain ⟨rfl, rfl⟩ := hc
          simp only [cond_true] at h
          split at h
          · rename_i z hz
            obtain ⟨h1, h2⟩ := ok_lookup ho hu hk hx (intOf_DV hix (EV ix)).1 hi hz EV D
            cases ok
            · cases h
              exact went_pure D h1 h2
            · cases h
              refine went_pure D h1 ?_
              simp only [DV, cond_true]
              exact ⟨_, rfl, DL.cons h2 (DL.cons (by simp [DV]) DL.nil)⟩
          · cases h
      · cases h
    · cases h
  · rename_i t x ix y ho
    split at h
    · rename_i kt el i K n _ _ hu hx hix
      split at h
      · rename_i K' K2 kd agg m hk hi
        cases hc : (decide (K' = K) && decide (K2 = K)) with
        | false => rw [hc] at h; cases h
        | true =>
          rw [hc] at h
          simp only [Bool.and_eq_true, decide_eq_true_eq] at hc
          obtain ⟨rfl, rfl⟩ := hc
          simp only [cond_true] at h
          split at h
          · rename_i v hv
            cases h
            exact ok_mapUpdate ho hu hk hx (intOf_DV hix (EV ix)).1 hi hv EV D
          · cases h
      · cases h
    · cases h
  · rename_i s d x ho
    split at h
    · rename_i el hs hd
      split at h
      · rename_i he
        simp only [Option.bind_eq_some_iff, ret, Option.some.injEq] at h
        obtain ⟨xs, hv, rfl⟩ := h
        exact ok_bytes ho hs hd he hv EV D
      · cases h
    · cases h
  · rename_i t l c ho
    split at h
    · rename_i el _ n _ m hu hl hc
      split at h
      · rename_i inf hi
        split at h
        · rename_i z hz
          cases hcc : (decide (n = m) && (decide (n ≤ 16) && (decide (inf.size = z.cells.size) && (decide (0 < z.cells.size) && decide (inf.bytes ≤ 1099511627776))))) with
          | false => rw [hcc] at h; cases h
          | true =>
            rw [hcc] at h
            simp only [Bool.and_eq_true, decide_eq_true_eq] at hcc
            obtain ⟨rfl, h1, h2, h3, h4⟩ := hcc
            cases h
            exact ok_makeCells ho hl hc hu hi hz (Nat.le_trans h1 (by decide)) h2 h3 h4 EV D f
        · cases h
      · cases h
    · cases h
  · rename_i c ho
    split at h
    · rename_i s t hc hargs hts
      obtain ⟨x, hx, rfl⟩ := map_one hargs
      exact ok_clear ho hc hx hts h EV D
    · cases h
  · cases h
end
end Go.Eng
