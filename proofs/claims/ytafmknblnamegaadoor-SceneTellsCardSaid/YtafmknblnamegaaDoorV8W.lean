/- The engine: slices whose elements hold slices of their own. No condition. -/
import Derived.Test.YtafmknblnamegaaDoorV8T
namespace Go.Eng
open Go.RowKit (Below)

/-! ### Kinds -/

/-- The cells of a type that may hold slices of plain elements. -/
def kfT (P : Program) : Nat → TypeId → Option (List Kf)
  | 0, _ => none
  | n + 1, t => match P.underlying t with
    | some .bool => some [.k .bool]
    | some (.int k) => some [.k (.int k)]
    | some .string => some [.k .str]
    | some (.slice e) => match rowT P e with
      | some (kd, _) => some [.sl e kd]
      | none => none
    | some (.struct fs) => (catF (kfT P n) P.cellsOf (P.cellsOf t) fs.toList).bind fun x => if x.1 = 0 then some x.2 else none
    | _ => none
def slK : Kf → Bool
  | .sl _ _ => true
  | _ => false
def kfEq (a b : List Kf) : Bool := decide (a = b)
theorem kfEq_eq {a b : List Kf} (h : kfEq a b = true) : a = b := of_decide_eq_true h
/-- A type whose slices are kept as families: its cells' kinds, and how many bytes it takes. -/
def famTy (P : Program) (el : TypeId) : Option (List Kf × Nat) := match kfT P 20 el, P.info? el with
  | some kf, some i => match i.zero with
    | some z => cond (decide (i.size = kf.length) && (decide (0 < kf.length) && (decide (z.cells.size = i.size) && (decide (0 < i.bytes) && (kf.any slK && kf.all fun q => !kfEq [q] [.k .other]))))) (some (kf, i.bytes)) none
    | none => none
  | _, _ => none
theorem famTy_ok {P : Program} {el : TypeId} {kf : List Kf} {bytes : Nat} (h : famTy P el = some (kf, bytes)) :
    ∃ i z, P.info? el = some i ∧ i.zero = some z ∧ i.size = kf.length ∧ i.bytes = bytes ∧ 0 < kf.length ∧ z.cells.size = i.size ∧ 0 < bytes ∧ ∀ q ∈ kf, q ≠ .k .other := by
  unfold famTy at h
  split at h
  · rename_i kf' i hk hi
    split at h
    · rename_i z hz
      cases hc : (decide (i.size = kf'.length) && (decide (0 < kf'.length) && (decide (z.cells.size = i.size) && (decide (0 < i.bytes) && (kf'.any slK && kf'.all fun q => !kfEq [q] [.k .other]))))) with
      | false => rw [hc] at h; cases h
      | true =>
        rw [hc] at h
        cases h
        simp only [Bool.and_eq_true, decide_eq_true_eq, List.all_eq_true, Bool.not_eq_true'] at hc
        exact ⟨i, z, hi, hz, hc.1, rfl, hc.2.1, hc.2.2.1, hc.2.2.2.1, fun q hq e => by have := hc.2.2.2.2.2 q hq; subst e; simp [kfEq] at this⟩
    · cases h
  · cases h

section
variable {P : Program} {E : Env} {ρ : Rho} {w : World} {hp : List Blk}

/-! ### An owned slice, written -/

theorem OwnP.write {e : TypeId} {sz : Nat} {v : Value} {n : Nat} {xs : List Value} (h : OwnP w e sz v n xs) {g off c : Nat} (hv : v = .slice (some ⟨g, off, none⟩) n c) (hn : 0 < n) {zs : List Value} {pos : Nat} (hp : pos + zs.length ≤ n * sz) (hone : ∀ u ∈ zs, u.oneCell' = true) :
    ∃ (cur vs : Array Value), w.heap[g]? = some (.cells cur e (0, 0)) ∧ (storeCells ⟨g, off + pos, none⟩ zs).run P w = .ok () (w.setRow g vs) ∧ OwnP (w.setRow g vs) e sz v n (xs.take pos ++ zs ++ xs.drop (pos + zs.length)) ∧ sliceB v = some g := by
  rcases h.2 with ⟨a, e1, e2⟩ | ⟨g', off', cap, cur, e1, hg, k1, k2, k3, k4⟩
  · omega
  · rw [hv] at e1
    simp only [Value.slice.injEq, Option.some.injEq, Addr.mk.injEq] at e1
    obtain ⟨⟨rfl, rfl, _⟩, _, rfl⟩ := e1
    have hxl := h.1
    have hcapl : n * sz ≤ (cap + 1) * sz := Nat.mul_le_mul_right _ k1
    have hst := run_storeCells_at P g (off + pos) e zs 0 cur w hg (by omega) hone
    simp only [Nat.add_zero] at hst
    have hcl : cur.toList.length = cur.size := Array.length_toList
    have hto : (cur.toList.take off).length = off := by rw [List.length_take, hcl]; omega
    have hcur : cur.toList = cur.toList.take off ++ (xs ++ cur.toList.drop (off + n * sz)) := by
      conv => lhs; rw [← List.take_append_drop off cur.toList]
      congr 1
      conv => lhs; rw [← List.take_append_drop (n * sz) (cur.toList.drop off)]
      rw [k4, List.drop_drop]
    have hnew : cur.toList.take (off + pos) ++ zs ++ cur.toList.drop (off + pos + zs.length) = cur.toList.take off ++ ((xs.take pos ++ zs ++ xs.drop (pos + zs.length)) ++ cur.toList.drop (off + n * sz)) := by
      have t1 : cur.toList.take (off + pos) = cur.toList.take off ++ xs.take pos := by
        conv => lhs; rw [hcur]
        rw [List.take_append, hto, List.take_of_length_le (l := cur.toList.take off) (by rw [hto]; omega), show off + pos - off = pos by omega, List.take_append_of_le_length (by omega)]
      have t2 : cur.toList.drop (off + pos + zs.length) = xs.drop (pos + zs.length) ++ cur.toList.drop (off + n * sz) := by
        conv => lhs; rw [hcur]
        rw [List.drop_append, hto, List.drop_of_length_le (l := cur.toList.take off) (by rw [hto]; omega), List.nil_append, show off + pos + zs.length - off = pos + zs.length by omega, List.drop_append_of_le_length (by omega)]
      rw [t1, t2]
      simp only [List.append_assoc]
    have hlen' : (xs.take pos ++ zs ++ xs.drop (pos + zs.length)).length = n * sz := by simp; omega
    refine ⟨cur, _, hg, hst, ⟨hlen', .inr ⟨g, off, cap, _, hv, setRow_heap w g cur _ e _ hg, k1, k2, ?_, ?_⟩⟩, by rw [hv]; rfl⟩
    · rw [hnew]
      simp only [List.size_toArray, List.length_append, hto, List.length_drop, Array.length_toList]
      simp only [List.length_append, List.length_drop] at hlen'
      omega
    · rw [hnew]
      show List.take _ (List.drop off _) = _
      rw [List.drop_append_of_le_length (by omega), List.drop_of_length_le (by omega), List.nil_append, ← hlen']
      exact List.take_left

/-- The cells of an owned slice. -/
theorem OwnP.cell {e : TypeId} {sz : Nat} {v : Value} {n : Nat} {xs : List Value} (h : OwnP w e sz v n xs) (hn : 0 < n) : ∃ g off c, v = .slice (some ⟨g, off, none⟩) n c ∧ ∀ j u, xs[j]? = some u → w.cell? ⟨g, off + j, none⟩ = some u := by
  rcases h.2 with ⟨a, e1, e2⟩ | ⟨g, off, cap, cur, e1, hg, k1, k2, k3, k4⟩
  · omega
  · refine ⟨g, off, cap + 1, e1, fun j u hu => ?_⟩
    rw [cell_of_row w g (off + j) cur e _ hg]
    rw [← k4, List.getElem?_take] at hu
    split at hu
    · rw [List.getElem?_drop] at hu; simpa using hu
    · cases hu

/-! ### Families -/

theorem famB_append {kf : List Kf} {ys1 ys2 : List Value} {m i b : Nat} (hl : ys1.length = m * kf.length) (h : famB kf none (ys1 ++ ys2) i b) :
    (i < ys1.length ∧ famB kf none ys1 i b) ∨ (ys1.length ≤ i ∧ famB kf none ys2 (i - ys1.length) b) := by
  obtain ⟨h1, _, y, hy, hb⟩ := h
  rw [List.getElem?_append] at hy
  split at hy
  · rename_i hlt
    exact .inl ⟨hlt, h1, by simp, y, hy, hb⟩
  · rename_i hlt
    refine .inr ⟨by omega, ?_, by simp, y, hy, hb⟩
    have : i = kf.length * m + (i - ys1.length) := by rw [Nat.mul_comm, ← hl]; omega
    rw [this, Nat.mul_add_mod] at h1
    exact h1

theorem FamY.append {kf : List Kf} {css1 css2 : List (List (List (List Value)))} {ys1 ys2 : List Value} (F1 : FamY w kf css1 none ys1) (F2 : FamY w kf css2 none ys2) (hd : ∀ i j b, famB kf none ys1 i b → ¬ famB kf none ys2 j b) :
    FamY w kf (css1 ++ css2) none (ys1 ++ ys2) := by
  refine ⟨F1.pos, by rw [List.length_append, List.length_append, F1.len, F2.len, Nat.add_mul], fun x hx => ?_, fun k o q c y hk hq hc hy => ?_, fun i j b hi hj => ?_⟩
  · rcases List.mem_append.1 hx with hx | hx
    · exact F1.els x hx
    · exact F2.els x hx
  · have ho := (List.getElem?_eq_some_iff.1 hq).1
    rw [List.length_append] at hk
    by_cases hlt : k < css1.length
    · have h1 : (css1 ++ css2).getD k [] = css1.getD k [] := by
        rw [List.getD_eq_getElem?_getD, List.getD_eq_getElem?_getD, List.getElem?_append_left hlt]
      have hle : (k + 1) * kf.length ≤ css1.length * kf.length := Nat.mul_le_mul_right _ hlt
      rw [Nat.add_mul] at hle
      rw [h1] at hc
      rw [List.getElem?_append_left (by rw [F1.len]; omega)] at hy
      simpa using F1.cell k o q c y hlt hq hc hy
    · obtain ⟨d, rfl⟩ : ∃ d, k = css1.length + d := ⟨k - css1.length, by omega⟩
      have h1 : (css1 ++ css2).getD (css1.length + d) [] = css2.getD d [] := by
        rw [List.getD_eq_getElem?_getD, List.getD_eq_getElem?_getD, List.getElem?_append_right (by omega), Nat.add_sub_cancel_left]
      rw [h1] at hc
      have e : (css1.length + d) * kf.length + o = ys1.length + (d * kf.length + o) := by rw [F1.len, Nat.add_mul]; omega
      rw [e, List.getElem?_append_right (by omega), Nat.add_sub_cancel_left] at hy
      simpa using F2.cell d o q c y (by omega) hq hc hy
  · rcases famB_append F1.len hi with ⟨a1, a2⟩ | ⟨a1, a2⟩ <;> rcases famB_append F1.len hj with ⟨b1, b2⟩ | ⟨b1, b2⟩
    · exact F1.apart i j b a2 b2
    · exact absurd b2 (hd _ _ b a2)
    · exact absurd a2 (hd _ _ b b2)
    · have := F2.apart _ _ b a2 b2
      omega

theorem famB_append_inv {kf : List Kf} {ys1 ys2 : List Value} {m i b : Nat} (hl : ys1.length = m * kf.length) (h : famB kf none (ys1 ++ ys2) i b) : (∃ j, famB kf none ys1 j b) ∨ ∃ j, famB kf none ys2 j b := by
  rcases famB_append hl h with ⟨_, h⟩ | ⟨_, h⟩
  · exact .inl ⟨_, h⟩
  · exact .inr ⟨_, h⟩

/-- A list with a part of it otherwise. -/
theorem splice_get {α : Type} (l zs : List α) (p : Nat) (h : p + zs.length ≤ l.length) (j : Nat) : (l.take p ++ zs ++ l.drop (p + zs.length))[j]? = if p ≤ j ∧ j < p + zs.length then zs[j - p]? else l[j]? := by
  have hp : (l.take p).length = p := by rw [List.length_take]; omega
  rw [List.append_assoc, List.getElem?_append, hp]
  split
  · rename_i h1
    rw [if_neg (by omega), List.getElem?_take, if_pos h1]
  · rename_i h1
    rw [List.getElem?_append]
    split
    · rename_i h2
      rw [if_pos (by omega)]
    · rename_i h2
      rw [if_neg (by omega), List.getElem?_drop]
      congr 1; omega

theorem elem_ix {k k' o of n sz : Nat} (ho : o < sz) (hn : of + n ≤ sz) : k * sz + of ≤ k' * sz + o ∧ k' * sz + o < k * sz + of + n ↔ k' = k ∧ of ≤ o ∧ o < of + n := by
  constructor
  · rintro ⟨h1, h2⟩
    have e : k' = k := by
      rcases Nat.lt_trichotomy k' k with h | h | h
      · have := Nat.mul_le_mul_right sz h
        rw [Nat.succ_mul] at this; omega
      · exact h
      · have := Nat.mul_le_mul_right sz h
        rw [Nat.succ_mul] at this; omega
    subst e
    omega
  · rintro ⟨rfl, h1, h2⟩; omega

/-- Some cells of an element, otherwise. -/
theorem FamY.setRow {kf : List Kf} {css : List (List (List (List Value)))} {lent : Option Nat} {ys : List Value} (F : FamY w kf css lent ys) {k of : Nat} (hk : k < css.length) {cs : List (List (List Value))} {zs : List Value} (hn : of + zs.length ≤ kf.length) (hcs : cs.length = zs.length)
    (hl : lent = none ∨ (zs.length = 1 ∧ lent = some (k * kf.length + of)))
    (hcell : ∀ (o : Nat) q c y, kf[of + o]? = some q → cs[o]? = some c → zs[o]? = some y → CellF w q c false y)
    (hself : ∀ (o o' : Nat) y y' b, isSl kf (of + o) = true → isSl kf (of + o') = true → zs[o]? = some y → zs[o']? = some y' → sliceB y = some b → sliceB y' = some b → o = o')
    (hother : ∀ j b, famB kf lent ys j b → ∀ (o : Nat) y, isSl kf (of + o) = true → zs[o]? = some y → sliceB y ≠ some b) :
    FamY w kf (css.set k ((css.getD k []).take of ++ cs ++ (css.getD k []).drop (of + cs.length))) none (ys.take (k * kf.length + of) ++ zs ++ ys.drop (k * kf.length + of + zs.length)) := by
  have hel : (css.getD k []).length = kf.length := F.els _ (by rw [List.getD_eq_getElem?_getD, List.getElem?_eq_getElem hk]; exact List.getElem_mem _)
  have hk1 : (k + 1) * kf.length ≤ css.length * kf.length := Nat.mul_le_mul_right _ hk
  rw [Nat.add_mul, Nat.one_mul] at hk1
  have hfit : k * kf.length + of + zs.length ≤ ys.length := by rw [F.len]; omega
  have sp := splice_get ys zs (k * kf.length + of) hfit
  have sr := splice_get (css.getD k []) cs of (by omega)
  have key : ∀ i b, famB kf none (ys.take (k * kf.length + of) ++ zs ++ ys.drop (k * kf.length + of + zs.length)) i b → ((k * kf.length + of ≤ i ∧ i < k * kf.length + of + zs.length) ∧ isSl kf (of + (i - (k * kf.length + of))) = true ∧ ∃ y, zs[i - (k * kf.length + of)]? = some y ∧ sliceB y = some b) ∨
      (¬ (k * kf.length + of ≤ i ∧ i < k * kf.length + of + zs.length) ∧ famB kf lent ys i b) := by
    rintro i b ⟨h1, _, y, hy, hb⟩
    rw [sp i] at hy
    split at hy
    · rename_i hw
      refine .inl ⟨hw, ?_, y, hy, hb⟩
      have e : i = k * kf.length + (of + (i - (k * kf.length + of))) := by omega
      rw [e, (flat_ix (by omega)).1] at h1
      exact h1
    · rename_i hw
      refine .inr ⟨hw, h1, ?_, y, hy, hb⟩
      rcases hl with rfl | ⟨h2, rfl⟩
      · simp
      · intro e; cases e; exact hw ⟨Nat.le_refl _, by omega⟩
  refine ⟨F.pos, ?_, fun x hx => ?_, fun k' o q c y hk' hq hc hy => ?_, fun i j b hi hj => ?_⟩
  · rw [List.length_set, ← F.len]; simp; omega
  · rcases List.mem_or_eq_of_mem_set hx with hx | rfl
    · exact F.els x hx
    · rw [List.length_append, List.length_append, List.length_take, List.length_drop, hel]; omega
  · have ho := (List.getElem?_eq_some_iff.1 hq).1
    rw [List.length_set] at hk'
    rw [sp] at hy
    have hix := elem_ix (k := k) (k' := k') (of := of) (n := zs.length) ho hn
    by_cases hw : k' = k ∧ of ≤ o ∧ o < of + zs.length
    · rw [if_pos (hix.2 hw)] at hy
      obtain ⟨rfl, h1, h2⟩ := hw
      have hg : (css.set k' ((css.getD k' []).take of ++ cs ++ (css.getD k' []).drop (of + cs.length))).getD k' [] = (css.getD k' []).take of ++ cs ++ (css.getD k' []).drop (of + cs.length) := by
        rw [List.getD_eq_getElem?_getD, List.getElem?_set_self hk]; rfl
      rw [hg, sr o, if_pos (by omega)] at hc
      have := hcell (o - of) q c y (by rw [show of + (o - of) = o by omega]; exact hq) hc (by rw [show k' * kf.length + o - (k' * kf.length + of) = o - of by omega] at hy; exact hy)
      simpa using this
    · rw [if_neg fun h => hw (hix.1 h)] at hy
      have hc' : (css.getD k' [])[o]? = some c := by
        by_cases e : k' = k
        · subst e
          have hg : (css.set k' ((css.getD k' []).take of ++ cs ++ (css.getD k' []).drop (of + cs.length))).getD k' [] = (css.getD k' []).take of ++ cs ++ (css.getD k' []).drop (of + cs.length) := by
            rw [List.getD_eq_getElem?_getD, List.getElem?_set_self hk]; rfl
          rw [hg, sr o, if_neg (by omega)] at hc
          exact hc
        · rw [List.getD_eq_getElem?_getD, List.getElem?_set_ne (fun h => e h.symm), ← List.getD_eq_getElem?_getD] at hc
          exact hc
      have := F.cell k' o q c y hk' hq hc' hy
      have hne : lent ≠ some (k' * kf.length + o) := by
        rcases hl with rfl | ⟨h2, rfl⟩
        · simp
        · intro e
          have e := Option.some.inj e
          exact hw (hix.1 ⟨by omega, by omega⟩)
      simpa [hne] using this
  · rcases key i b hi with ⟨a1, a2, y, a3, a4⟩ | ⟨a1, a2⟩ <;> rcases key j b hj with ⟨b1, b2, y', b3, b4⟩ | ⟨b1, b2⟩
    · have := hself _ _ y y' b a2 b2 a3 b3 a4 b4
      omega
    · exact absurd a4 (hother j b b2 _ y a2 a3)
    · exact absurd b4 (hother i b a2 _ y' b2 b3)
    · exact F.apart i j b a2 b2

/-! ### Values as cells of a family -/

/-- What a value becomes in a family: its content, and the slots that are given up. -/
def cellF (h : List Blk) (q : Kf) (s : SV) : Option (List (List Value) × List Nat) := match q with
  | .k q => (elemK [q] [s]).map fun v => ([v], [])
  | .sl el kd => match s with
    | .row j => match h[j]? with
      | some (.row e kd' xs) => cond (decide (e = el) && kdEq kd' kd) (some (xs, [j])) none
      | _ => none
    | .emp => cond (Nat.ble 1 kd.length) (some ([], [])) none
    | .sl _ _ 0 0 => cond (Nat.ble 1 kd.length) (some ([], [])) none
    | .v (.slice none 0 0) => cond (Nat.ble 1 kd.length) (some ([], [])) none
    | _ => none
def cellsF (h : List Blk) : List Kf → List SV → Option (List (List (List Value)) × List Nat)
  | [], [] => some ([], [])
  | q :: ks, s :: ss => match cellF h q s, cellsF h ks ss with
    | some a, some b => some (a.1 :: b.1, a.2 ++ b.2)
    | _, _ => none
  | _, _ => none
def elemsF (h : List Blk) (kf : List Kf) : Nat → List SV → Option (List (List (List (List Value))) × List Nat)
  | 0, _ => some ([], [])
  | n + 1, cs => match cellsF h kf (cs.take kf.length), elemsF h kf n (cs.drop kf.length) with
    | some a, some b => some (a.1 :: b.1, a.2 ++ b.2)
    | _, _ => none

/-- The slot j takes block b. -/
def Tk (ρ : Rho) (h : List Blk) (j b : Nat) : Prop := ∃ c, h[j]? = some c ∧ takes ρ j c b
theorem Tk.inj {ρ : Rho} {h : List Blk} {w : World} (D : DH E ρ h w) {i j b : Nat} (hi : Tk ρ h i b) (hj : Tk ρ h j b) : i = j := by
  obtain ⟨c, h1, h2⟩ := hi
  obtain ⟨d, h3, h4⟩ := hj
  by_cases e : i = j
  · exact e
  · exact absurd h4 (D.apart i j c d b e h1 h3 h2)

theorem cellF_ok (D : DH E ρ hp w) {q : Kf} {s : SV} {y : Value} {c : List (List Value)} {js : List Nat} (h : cellF hp q s = some (c, js)) (hd : DV ρ s y) :
    CellF w q c false y ∧ (∀ b, slK q = true → sliceB y = some b → ∃ j ∈ js, Tk ρ hp j b) ∧ ∀ j ∈ js, ∃ e kd xs, hp[j]? = some (.row e kd xs) := by
  unfold cellF at h
  split at h
  · rename_i q
    simp only [Option.map_eq_some_iff, Prod.mk.injEq] at h
    obtain ⟨v, hv, rfl, rfl⟩ := h
    obtain ⟨h1, h2⟩ := elemK_ok hv (DL.cons hd DL.nil)
    subst h1
    exact ⟨⟨h2.1, rfl⟩, fun b hb => by simp [slK] at hb, fun j hj => by cases hj⟩
  · rename_i el kd
    have nil : ∀ a, y = .slice a 0 0 → cond (Nat.ble 1 kd.length) (some (([] : List (List Value)), ([] : List Nat))) none = some (c, js) → CellF w (.sl el kd) c false y ∧ (∀ b, slK (.sl el kd) = true → sliceB y = some b → ∃ j ∈ js, Tk ρ hp j b) ∧ ∀ j ∈ js, ∃ e kd xs, hp[j]? = some (.row e kd xs) := by
      rintro a rfl h
      cases hk : Nat.ble 1 kd.length with
      | false => rw [hk] at h; cases h
      | true =>
        rw [hk] at h
        cases h
        have := Nat.le_of_ble_eq_true hk
        exact ⟨⟨⟨_, _, _, rfl⟩, this, fun _ => ⟨by simp, by simp, .inl ⟨a, rfl, rfl⟩⟩⟩, fun b _ hb => by cases a <;> simp [sliceB] at hb, fun j hj => by cases hj⟩
    split at h
    · rename_i j
      split at h
      · rename_i e kd' xs hj
        cases hc : (decide (e = el) && kdEq kd' kd) with
        | false => rw [hc] at h; cases h
        | true =>
          rw [hc] at h
          cases h
          simp only [Bool.and_eq_true, decide_eq_true_eq] at hc
          obtain ⟨rfl, hk⟩ := hc
          have := kdEq_eq hk
          subst this
          simp only [DV] at hd
          obtain ⟨p, a, n, m, hp', rfl, e1⟩ := hd
          obtain ⟨q, hq, h1, h2, h3, h4⟩ := D.ok j _ hj
          rw [hp'] at hq; cases hq
          exact ⟨⟨⟨a, n, m, e1⟩, h2, fun _ => ⟨h3, h4⟩⟩, fun b _ hb => ⟨j, by simp, _, hj, p, hp', hb⟩, fun i hi => by simp at hi; subst hi; exact ⟨_, _, _, hj⟩⟩
      · cases h
    · simp only [DV] at hd; obtain ⟨a, rfl⟩ := hd; exact nil a rfl h
    · simp only [DV] at hd; obtain ⟨p, _, _, rfl⟩ := hd; exact nil _ rfl h
    · simp only [DV] at hd; exact nil none hd h
    · cases h

theorem isSl_succ (q : Kf) (ks : List Kf) (o : Nat) : isSl (q :: ks) (o + 1) = isSl ks o := by simp [isSl]
theorem isSl_zero (q : Kf) (ks : List Kf) : isSl (q :: ks) 0 = slK q := by cases q <;> simp [isSl, slK]

theorem cellsF_ok (D : DH E ρ hp w) : ∀ {ks : List Kf} {ss : List SV} {ys : List Value} {cs : List (List (List Value))} {js : List Nat}, cellsF hp ks ss = some (cs, js) → DL ρ ss ys →
    cs.length = ks.length ∧ ys.length = ks.length ∧ (∀ (o : Nat) q c y, ks[o]? = some q → cs[o]? = some c → ys[o]? = some y → CellF w q c false y) ∧
    (∀ (o : Nat) y b, isSl ks o = true → ys[o]? = some y → sliceB y = some b → ∃ j ∈ js, Tk ρ hp j b) ∧ (∀ j ∈ js, ∃ e kd xs, hp[j]? = some (.row e kd xs)) ∧
    (js.Nodup → ∀ (o o' : Nat) y y' b, isSl ks o = true → isSl ks o' = true → ys[o]? = some y → ys[o']? = some y' → sliceB y = some b → sliceB y' = some b → o = o')
  | [], [], ys, cs, js, h, hd => by
    simp only [cellsF, Option.some.injEq, Prod.mk.injEq] at h
    obtain ⟨rfl, rfl⟩ := h
    simp only [DL] at hd
    subst hd
    exact ⟨rfl, rfl, by simp, by simp, by simp, by simp⟩
  | q :: ks, s :: ss, ys, cs, js, h, hd => by
    simp only [cellsF] at h
    split at h
    · rename_i a b ha hb
      cases h
      obtain ⟨c, j1⟩ := a
      obtain ⟨cs, j2⟩ := b
      simp only [DL] at hd
      obtain ⟨y, t, rfl, hy, ht⟩ := hd
      obtain ⟨a1, a2, a3⟩ := cellF_ok D ha hy
      obtain ⟨b1, b2, b3, b4, b5, b6⟩ := cellsF_ok D hb ht
      have own : ∀ o z x, isSl (q :: ks) o = true → (y :: t)[o]? = some z → sliceB z = some x → (o = 0 ∧ ∃ j ∈ j1, Tk ρ hp j x) ∨ ∃ o1, o = o1 + 1 ∧ isSl ks o1 = true ∧ t[o1]? = some z ∧ ∃ j ∈ j2, Tk ρ hp j x := fun o z x h1 h2 h3 => by
        cases o with
        | zero =>
          rw [isSl_zero] at h1
          simp at h2; subst h2
          exact .inl ⟨rfl, a2 x h1 h3⟩
        | succ o =>
          rw [isSl_succ] at h1
          have h2 : t[o]? = some z := by simpa using h2
          exact .inr ⟨o, rfl, h1, h2, b4 o z x h1 h2 h3⟩
      refine ⟨by simp [b1], by simp [b2], fun o q' c' y' h1 h2 h3 => ?_, fun o z x h1 h2 h3 => ?_, fun j hj => ?_, fun nd o o' z z' x h1 h1' h2 h2' h3 h3' => ?_⟩
      · cases o with
        | zero => simp at h1 h2 h3; subst h1 h2 h3; exact a1
        | succ o => exact b3 o q' c' y' (by simpa using h1) (by simpa using h2) (by simpa using h3)
      · rcases own o z x h1 h2 h3 with ⟨_, j, hj, ht⟩ | ⟨_, _, _, _, j, hj, ht⟩
        · exact ⟨j, by simp [hj], ht⟩
        · exact ⟨j, by simp [hj], ht⟩
      · rcases List.mem_append.1 hj with hj | hj
        · exact a3 j hj
        · exact b5 j hj
      · simp only at nd
        rw [List.nodup_append] at nd
        rcases own o z x h1 h2 h3 with ⟨rfl, j, hj, ht⟩ | ⟨o1, rfl, k1, k2, j, hj, ht⟩ <;> rcases own o' z' x h1' h2' h3' with ⟨rfl, j', hj', ht'⟩ | ⟨o2, rfl, k1', k2', j', hj', ht'⟩
        · rfl
        · exact absurd (ht.inj D ht') (nd.2.2 j hj j' hj')
        · exact absurd (ht'.inj D ht) (nd.2.2 j' hj' j hj)
        · rw [b6 nd.2.1 o1 o2 z z' x k1 k1' k2 k2' h3 h3']
    · cases h
  | [], _ :: _, _, _, _, h, _ => by simp [cellsF] at h
  | _ :: _, [], _, _, _, h, _ => by simp [cellsF] at h

/-- One element alone. -/
theorem FamY.one {kf : List Kf} {cs : List (List (List Value))} {ys : List Value} (hpos : 0 < kf.length) (h1 : cs.length = kf.length) (h2 : ys.length = kf.length)
    (h3 : ∀ (o : Nat) q c y, kf[o]? = some q → cs[o]? = some c → ys[o]? = some y → CellF w q c false y)
    (h4 : ∀ (o o' : Nat) y y' b, isSl kf o = true → isSl kf o' = true → ys[o]? = some y → ys[o']? = some y' → sliceB y = some b → sliceB y' = some b → o = o') : FamY w kf [cs] none ys := by
  refine ⟨hpos, by simp [h2], fun x hx => by simp at hx; subst hx; exact h1, fun k o q c y hk hq hc hy => ?_, fun i j b hi hj => ?_⟩
  · have : k = 0 := by simpa using hk
    subst this
    simp only [Nat.zero_mul, Nat.zero_add] at hy
    simpa using h3 o q c y hq (by simpa using hc) hy
  · obtain ⟨a1, _, y, a2, a3⟩ := hi
    obtain ⟨b1, _, y', b2, b3⟩ := hj
    have l1 := (List.getElem?_eq_some_iff.1 a2).1
    have l2 := (List.getElem?_eq_some_iff.1 b2).1
    rw [Nat.mod_eq_of_lt (by omega)] at a1 b1
    exact h4 i j y y' b a1 b1 a2 b2 a3 b3

theorem FamY.nil {kf : List Kf} (hpos : 0 < kf.length) : FamY w kf [] none [] := ⟨hpos, by simp, by simp, fun k o q c y hk => by simp at hk, fun i j b hi => by obtain ⟨_, _, y, hy, _⟩ := hi; simp at hy⟩

theorem elemsF_ok (D : DH E ρ hp w) {kf : List Kf} (hpos : 0 < kf.length) : ∀ {n : Nat} {cs : List SV} {ys : List Value} {css : List (List (List (List Value)))} {js : List Nat}, elemsF hp kf n cs = some (css, js) → DL ρ cs ys → js.Nodup →
    css.length = n ∧ n * kf.length ≤ ys.length ∧ FamY w kf css none (ys.take (n * kf.length)) ∧ (∀ j b, famB kf none (ys.take (n * kf.length)) j b → ∃ s ∈ js, Tk ρ hp s b) ∧ ∀ j ∈ js, ∃ e kd xs, hp[j]? = some (.row e kd xs)
  | 0, cs, ys, css, js, h, _, _ => by
    simp only [elemsF, Option.some.injEq, Prod.mk.injEq] at h
    obtain ⟨rfl, rfl⟩ := h
    refine ⟨rfl, by omega, by simpa using FamY.nil hpos, fun j b hb => ?_, by simp⟩
    obtain ⟨_, _, y, hy, _⟩ := hb
    simp at hy
  | n + 1, cs, ys, css, js, h, hd, nd => by
    simp only [elemsF] at h
    split at h
    · rename_i a b ha hb
      cases h
      obtain ⟨c, j1⟩ := a
      obtain ⟨css, j2⟩ := b
      simp only at nd
      rw [List.nodup_append] at nd
      obtain ⟨a1, a2, a3, a4, a5, a6⟩ := cellsF_ok D ha (hd.take kf.length)
      obtain ⟨b1, b2, b3, b4, b5⟩ := elemsF_ok D hpos hb (hd.drop kf.length) nd.2.1
      rw [List.length_take] at a2
      rw [List.length_drop] at b2
      have F1 := FamY.one (w := w) hpos a1 (by rw [List.length_take]; exact a2) a3 (a6 nd.1)
      have own1 : ∀ j b, famB kf none (ys.take kf.length) j b → ∃ s ∈ j1, Tk ρ hp s b := by
        rintro j b ⟨h1, _, y, hy, hb⟩
        have hlt := (List.getElem?_eq_some_iff.1 hy).1
        rw [List.length_take] at hlt
        rw [Nat.mod_eq_of_lt (by omega)] at h1
        exact a4 j y b h1 hy hb
      have e : ys.take ((n + 1) * kf.length) = ys.take kf.length ++ (ys.drop kf.length).take (n * kf.length) := by
        rw [Nat.add_mul, Nat.one_mul, Nat.add_comm, List.take_add]
      have hl : (ys.take kf.length).length = 1 * kf.length := by rw [List.length_take]; omega
      refine ⟨by simp [b1], by rw [Nat.add_mul]; omega, ?_, fun j b hb => ?_, fun j hj => ?_⟩
      · rw [e]
        refine F1.append b3 fun i j b hi hj => ?_
        obtain ⟨s, hs, t1⟩ := own1 i b hi
        obtain ⟨s', hs', t2⟩ := b4 j b hj
        exact nd.2.2 s hs s' hs' (t1.inj D t2)
      · rw [e] at hb
        rcases famB_append_inv hl hb with ⟨j', h⟩ | ⟨j', h⟩
        · obtain ⟨s, hs, t⟩ := own1 j' b h
          exact ⟨s, by simp [hs], t⟩
        · obtain ⟨s, hs, t⟩ := b4 j' b h
          exact ⟨s, by simp [hs], t⟩
      · rcases List.mem_append.1 hj with hj | hj
        · exact a5 j hj
        · exact b5 j hj
    · cases h

theorem FamY.replicate {kf : List Kf} {cs : List (List (List Value))} {ys : List Value} (F : FamY w kf [cs] none ys) (hno : ∀ j b, ¬ famB kf none ys j b) : ∀ n : Nat, FamY w kf (List.replicate n cs) none (List.replicate n ys).flatten ∧ ∀ j b, ¬ famB kf none (List.replicate n ys).flatten j b
  | 0 => ⟨by simpa using FamY.nil F.pos, fun j b h => by obtain ⟨_, _, y, hy, _⟩ := h; simp at hy⟩
  | n + 1 => by
    obtain ⟨i1, i2⟩ := FamY.replicate F hno n
    have e1 : List.replicate (n + 1) cs = [cs] ++ List.replicate n cs := by simp [List.replicate_succ]
    have e2 : (List.replicate (n + 1) ys).flatten = ys ++ (List.replicate n ys).flatten := by simp [List.replicate_succ]
    have hl : ys.length = 1 * kf.length := by have := F.len; simpa using this
    rw [e1, e2]
    refine ⟨F.append i1 fun i j b hi => absurd hi (hno i b), fun j b hb => ?_⟩
    rcases famB_append_inv hl hb with ⟨j', h⟩ | ⟨j', h⟩
    · exact hno j' b h
    · exact i2 j' b h

/-! ### Slots given up, slots made -/

def killsE (js : List Nat) : List (Nat × Blk) := js.map fun j => (j, .dead)

theorem kills_get : ∀ (js : List Nat) (h : List Blk), (∀ j ∈ js, j < h.length) → (applyEff (killsE js) h).length = h.length ∧ ∀ k, (applyEff (killsE js) h)[k]? = if k ∈ js then some .dead else h[k]?
  | [], h, _ => ⟨rfl, fun k => by rw [if_neg (by simp)]; rfl⟩
  | j :: js, h, hl => by
    have hj := hl j (by simp)
    have hpl : (putB j .dead h).length = h.length := by simp [putB, hj]
    obtain ⟨i1, i2⟩ := kills_get js (putB j .dead h) fun i hi => by rw [hpl]; exact hl i (by simp [hi])
    have hstep : applyEff (killsE (j :: js)) h = applyEff (killsE js) (putB j .dead h) := rfl
    rw [hstep]
    refine ⟨by rw [i1, hpl], fun k => ?_⟩
    rw [i2 k, putB_get (by omega)]
    by_cases h1 : k ∈ js
    · rw [if_pos h1, if_pos (by simp [h1])]
    · rw [if_neg h1]
      by_cases h2 : k = j
      · subst h2; rw [if_pos rfl, if_pos (by simp)]
      · rw [if_neg h2, if_neg (by simp [h1, h2])]

theorem DH.kills (D : DH E ρ hp w) {js : List Nat} (hl : ∀ j ∈ js, j < hp.length) : DH E ρ (applyEff (killsE js) hp) w := by
  obtain ⟨k1, k2⟩ := kills_get js hp hl
  refine D.forget k1 fun i b hb => ?_
  rw [k2 i] at hb
  split at hb
  · cases hb; exact .inr rfl
  · exact .inl hb
theorem DH.spares (D : DH E ρ hp w) {js : List Nat} (hl : ∀ j ∈ js, j < hp.length) {j b : Nat} (hj : j ∈ js) (ht : Tk ρ hp j b) : Spare E ρ (applyEff (killsE js) hp) b := by
  obtain ⟨k1, k2⟩ := kills_get js hp hl
  obtain ⟨c0, hc0, ht0⟩ := ht
  refine ⟨(D.own j c0 b hc0 ht0).1, fun i c hc ht' => ?_⟩
  rw [k2 i] at hc
  split at hc
  · cases hc; exact ht'
  · rename_i hn
    have : i = j := Tk.inj D ⟨c, hc, ht'⟩ ⟨c0, hc0, ht0⟩
    exact hn (this ▸ hj)

/-- The slot may be taken, and some behind it. -/
def Free1 (h : List Blk) (nx m : Nat) : Prop := nx = h.length ∨ ∀ j, j < m → h[nx + j]? = some .hole
theorem Free.to1 {h : List Blk} {nx m : Nat} (f : Free h nx) (hm : m ≤ 4) : Free1 h nx m := by
  rcases f with f | f
  · exact .inl f
  · exact .inr fun j hj => f j (by omega)
theorem Free1.le {h : List Blk} {nx m : Nat} (f : Free1 h nx (m + 1)) : nx ≤ h.length := by
  rcases f with f | f
  · omega
  · have := (List.getElem?_eq_some_iff.1 (f 0 (by omega))).1; omega
theorem Free1.none {h : List Blk} {nx m : Nat} (f : Free1 h nx (m + 1)) (D : DH E ρ h w) : ρ nx = none := by
  rcases f with f | f
  · exact D.fresh nx (by omega)
  · exact D.ok nx _ (f 0 (by omega))
theorem Free1.next {h : List Blk} {nx m : Nat} {b : Blk} (f : Free1 h nx (m + 1)) : Free1 (putB nx b h) (nx + 1) m := by
  rcases f with f | f
  · left; unfold putB; rw [if_neg (by omega)]; simp [f]
  · right
    intro j hj
    have hlt := (List.getElem?_eq_some_iff.1 (f 0 (by omega))).1
    rw [putB_get (by omega), if_neg (by omega), show nx + 1 + j = nx + (j + 1) by omega]
    exact f (j + 1) (by omega)
theorem Free1.kills {h : List Blk} {nx m : Nat} (f : Free1 h nx m) {js : List Nat} (hl : ∀ j ∈ js, ∃ b, h[j]? = some b ∧ b ≠ .hole) : Free1 (applyEff (killsE js) h) nx m := by
  obtain ⟨k1, k2⟩ := kills_get js h fun j hj => by obtain ⟨b, hb, _⟩ := hl j hj; exact (List.getElem?_eq_some_iff.1 hb).1
  rcases f with f | f
  · left; rw [k1]; exact f
  · right
    intro j hj
    rw [k2, if_neg]
    · exact f j hj
    · intro hm
      obtain ⟨b, hb, hne⟩ := hl _ hm
      rw [f j hj] at hb; cases hb; exact hne rfl

/-- A new slot, of blocks that nobody else has. -/
theorem DH.newB {m : Nat} (D : DH E ρ hp w) {nx : Nat} (f : Free1 hp nx (m + 1)) {c : Blk} {l : Loc} {w' : World} (hs : Same w w') (hchg : ∀ k, k < w.heap.size → w'.heap[k]? = w.heap[k]? ∨ Spare E ρ hp k)
    (hb : BlkOk E (upd ρ nx l) w' nx c) (ht : ∀ n, takes (upd ρ nx l) nx c n → (w.heap.size ≤ n ∨ Spare E ρ hp n) ∧ n < w'.heap.size) : DH E (upd ρ nx l) (putB nx c hp) w' := by
  have hx := upd_ext (l := l) (f.none D)
  refine D.put nx _ f.le hx (fun k hk hn => upd_other hk hn) hs (fun k hk => ?_) (fun j c k hj hc ht => ?_) hb fun n hn => ?_
  · rcases hchg k (fixed_lt D hk) with h1 | h1
    · exact h1
    · exact absurd hk h1.1
  · rcases hchg k (D.own j c k hc ht).2 with h1 | h1
    · exact h1
    · exact absurd ht (h1.2 j c hc)
  · obtain ⟨h1, h2⟩ := ht n hn
    refine ⟨?_, h2, fun j c hj hc ht => ?_⟩
    · rcases h1 with h1 | h1
      · exact fun hf => absurd (fixed_lt D hf) (by omega)
      · exact h1.1
    · rcases h1 with h1 | h1
      · exact absurd (D.own j c n hc ht).2 (by omega)
      · exact h1.2 j c hc ht

theorem FamY.lt {kf : List Kf} {css : List (List (List (List Value)))} {ys : List Value} (F : FamY w kf css none ys) {j b : Nat} (h : famB kf none ys j b) : b < w.heap.size := by
  obtain ⟨h1, _, y, hy, hb⟩ := h
  have hlt := (List.getElem?_eq_some_iff.1 hy).1
  rw [F.len] at hlt
  have hpos := F.pos
  have hm := Nat.mod_lt j hpos
  have hk : j / kf.length < css.length := by rw [Nat.div_lt_iff_lt_mul hpos]; exact hlt
  have hel := F.els (css.getD (j / kf.length) []) (by rw [List.getD_eq_getElem?_getD, List.getElem?_eq_getElem hk]; exact List.getElem_mem _)
  have e : j / kf.length * kf.length + j % kf.length = j := by rw [Nat.mul_comm]; exact Nat.div_add_mod j _
  unfold isSl at h1
  split at h1
  · rename_i el kd hq
    obtain ⟨c, hc⟩ : ∃ c, (css.getD (j / kf.length) [])[j % kf.length]? = some c := ⟨_, List.getElem?_eq_getElem (by omega)⟩
    have := F.cell (j / kf.length) (j % kf.length) _ c y hk hq hc (by rw [e]; exact hy)
    exact (this.2.2 (by simp)).2.lt hb
  · cases h1

theorem DH.newFam {m : Nat} (D : DH E ρ hp w) {nx : Nat} (f : Free1 hp nx (m + 1)) {kf : List Kf} {css : List (List (List (List Value)))} {ys : List Value} (F : FamY w kf css none ys) (hsp : ∀ j b, famB kf none ys j b → Spare E ρ hp b) :
    DH E (upd ρ nx ⟨kf.length, .tuple ys.toArray⟩) (putB nx (.fam kf css none) hp) w :=
  D.newB f (Same.refl w) (fun _ _ => .inl rfl) ⟨_, upd_same _ _, rfl, ys.toArray, rfl, by simpa using F⟩ (by
    rintro n ⟨p, hp', ys', hv, j, hb⟩
    rw [upd_same] at hp'; cases hp'
    cases hv
    have hb : famB kf none ys j n := by simpa using hb
    exact ⟨.inr (hsp j n hb), F.lt hb⟩)

theorem DH.newRR {m : Nat} (D : DH E ρ hp w) {nx g : Nat} (f : Free1 hp nx (m + 1)) {el : TypeId} {q : Loc} {ys : Array Value} {n : Nat} {v : Value} {w' : World} (hq : ρ g = some q) (hqv : q.val = .tuple ys) (hq0 : 0 < q.block)
    (own : OwnP w' el q.block v n ys.toList) (hs : Same w w') (hchg : ∀ k, k < w.heap.size → w'.heap[k]? = w.heap[k]? ∨ Spare E ρ hp k) (hblk : ∀ n, sliceB v = some n → w.heap.size ≤ n ∨ Spare E ρ hp n) :
    DH E (upd ρ nx ⟨q.block, v⟩) (putB nx (.rr el g) hp) w' := by
  have hx := upd_ext (l := ⟨q.block, v⟩) (f.none D)
  refine D.newB f hs hchg ⟨_, q, upd_same _ _, hx _ _ hq, rfl, hq0, ys, n, hqv, own⟩ ?_
  rintro k ⟨p, hp', hb⟩
  rw [upd_same] at hp'; cases hp'
  exact ⟨hblk k hb, own.lt hb⟩

theorem DH.newAli {m : Nat} (D : DH E ρ hp w) {nx g k o : Nat} {kd : List Kd} (f : Free1 hp nx (m + 1)) {q : Loc} {ys : Array Value} {y : Value} (hq : ρ g = some q) (hqv : q.val = .tuple ys) (hy : ys.toList[k * q.block + o]? = some y) :
    DH E (upd ρ nx ⟨kd.length, y⟩) (putB nx (.ali g k o kd) hp) w :=
  D.newB f (Same.refl w) (fun _ _ => .inl rfl) ⟨_, q, upd_same _ _, upd_ext (f.none D) _ _ hq, rfl, ys, hqv, hy⟩ fun n hn => hn.elim

/-! ### The operations -/

/-- The family of a slot. -/
def famAt (h : List Blk) (i : Nat) : Option (TypeId × Nat × List Kf × List (List (List (List Value))) × Option Nat) := match h[i]? with
  | some (.rr el g) => match h[g]? with
    | some (.fam kf css lent) => some (el, g, kf, css, lent)
    | _ => none
  | _ => none
theorem famAt_iff {h : List Blk} {i : Nat} {el : TypeId} {g : Nat} {kf : List Kf} {css : List (List (List (List Value)))} {lent : Option Nat} (hf : famAt h i = some (el, g, kf, css, lent)) : h[i]? = some (.rr el g) ∧ h[g]? = some (.fam kf css lent) := by
  unfold famAt at hf
  split at hf
  · rename_i e g' hi
    split at hf
    · rename_i hg; cases hf; exact ⟨hi, hg⟩
    · cases hf
  · cases hf

/-- What a family's slot is. -/
theorem fam_own (D : DH E ρ hp w) {i : Nat} {el : TypeId} {g : Nat} {kf : List Kf} {css : List (List (List (List Value)))} {lent : Option Nat} (hf : famAt hp i = some (el, g, kf, css, lent)) :
    ∃ p q, ρ i = some p ∧ ρ g = some q ∧ p.block = kf.length ∧ q.block = kf.length ∧ 0 < kf.length ∧ ∃ ys : Array Value, q.val = .tuple ys ∧ FamY w kf css lent ys.toList ∧ OwnP w el kf.length p.val css.length ys.toList := by
  obtain ⟨hi, hg⟩ := famAt_iff hf
  obtain ⟨p, q, h1, h2, h3, h4, ys, n, h5, h6⟩ := D.ok i _ hi
  obtain ⟨q', h7, h8, ys', h9, F⟩ := D.ok g _ hg
  rw [h2] at h7; cases h7
  rw [h5] at h9; cases h9
  have hn : n = css.length := by
    have a := h6.1
    have b := F.len
    rw [h3, h8] at a
    rw [b] at a
    exact (Nat.eq_of_mul_eq_mul_right F.pos a).symm
  subst hn
  rw [h3, h8] at h6
  exact ⟨p, q, h1, h2, h3.trans h8, h8, F.pos, ys, h5, F, h6⟩

/-- The cells of a family's element, and the slots for those that are slices. -/
def famCells (g k : Nat) (row : List (List (List Value))) : List Kf → Nat → Nat → List SV × List (Nat × Blk)
  | [], _, _ => ([], [])
  | .k q :: r, o, nx => match famCells g k row r (o + 1) nx with
    | (s, ef) => (kdS q ((row.getD o []).getD 0 []) 0 :: s, ef)
  | .sl _ kd :: r, o, nx => match famCells g k row r (o + 1) (nx + 1) with
    | (s, ef) => (.row nx :: s, (nx, .ali g k o kd) :: ef)

theorem kdS_DV {q : Kd} {y : Value} (h : KOk q y) : DV ρ (kdS q [y] 0) y := by
  have := (mkS_DL (ρ := ρ) [y] [q] 0 [y] ⟨h, trivial⟩ rfl)
  simp only [mkS, DL] at this
  obtain ⟨z, t, e, hz, _⟩ := this
  cases e; exact hz

theorem famCells_ok {g k : Nat} {kf : List Kf} {css : List (List (List (List Value)))} {q : Loc} {ys : Array Value} (hqb : q.block = kf.length) (hqv : q.val = .tuple ys) (F : FamY w kf css none ys.toList) (hk : k < css.length) :
    ∀ (ks : List Kf) (o nx m : Nat) (ρ : Rho) (hp : List Blk), DH E ρ hp w → ρ g = some q → (∀ j x, ks[j]? = some x → kf[o + j]? = some x) → (famCells g k (css.getD k []) ks o nx).2.length ≤ m → Free1 hp nx m →
      ∃ ρ', Ext ρ ρ' ∧ DL ρ' (famCells g k (css.getD k []) ks o nx).1 ((ys.toList.drop (k * kf.length + o)).take ks.length) ∧ DH E ρ' (applyEff (famCells g k (css.getD k []) ks o nx).2 hp) w
  | [], o, nx, m, ρ, hp, D, _, _, _, _ => ⟨ρ, Ext.refl _, by simpa [famCells] using DL.nil, D⟩
  | x :: ks, o, nx, m, ρ, hp, D, hq, hks, hm, f => by
    have hko : kf[o]? = some x := hks 0 x rfl
    have ho := (List.getElem?_eq_some_iff.1 hko).1
    have hks' : ∀ j z, ks[j]? = some z → kf[o + 1 + j]? = some z := fun j z hz => by
      rw [show o + 1 + j = o + (j + 1) by omega]; exact hks (j + 1) z (by simpa using hz)
    have hle : (k + 1) * kf.length ≤ css.length * kf.length := Nat.mul_le_mul_right _ hk
    rw [Nat.add_mul] at hle
    have hlt : k * kf.length + o < ys.toList.length := by rw [F.len]; omega
    obtain ⟨y, hy⟩ : ∃ y, ys.toList[k * kf.length + o]? = some y := ⟨_, List.getElem?_eq_getElem hlt⟩
    have hsp : (ys.toList.drop (k * kf.length + o)).take (x :: ks).length = y :: (ys.toList.drop (k * kf.length + (o + 1))).take ks.length := by
      rw [List.drop_eq_getElem_cons hlt, List.length_cons, List.take_succ_cons]
      have := (List.getElem?_eq_some_iff.1 hy).2
      rw [this, Nat.add_assoc]
    have hel : (css.getD k []).length = kf.length := F.els _ (by rw [List.getD_eq_getElem?_getD, List.getElem?_eq_getElem hk]; exact List.getElem_mem _)
    have hc : (css.getD k [])[o]? = some ((css.getD k []).getD o []) := by
      rw [List.getD_eq_getElem?_getD (l := css.getD k []), List.getElem?_eq_getElem (by omega)]; rfl
    have hcell := F.cell k o x _ y hk hko hc hy
    rw [hsp]
    cases x with
    | k r =>
      simp only [famCells] at hm ⊢
      obtain ⟨ρ', h1, h2, h3⟩ := famCells_ok hqb hqv F hk ks (o + 1) nx m ρ hp D hq hks' hm f
      refine ⟨ρ', h1, DL.cons ?_ h2, h3⟩
      rw [hcell.2]
      exact kdS_DV hcell.1
    | sl el kd =>
      simp only [famCells, List.length_cons] at hm ⊢
      obtain ⟨m, rfl⟩ : ∃ m', m = m' + 1 := ⟨m - 1, by omega⟩
      have D1 := D.newAli (kd := kd) (o := o) (k := k) (g := g) f hq hqv (by rw [hqb]; exact hy)
      have hx := upd_ext (l := ⟨kd.length, y⟩) (f.none D)
      obtain ⟨ρ', h1, h2, h3⟩ := famCells_ok hqb hqv F hk ks (o + 1) (nx + 1) m _ _ D1 (hx _ _ hq) hks' (by omega) f.next
      refine ⟨ρ', hx.trans h1, DL.cons ?_ h2, h3⟩
      obtain ⟨⟨a, n, c, e⟩, _⟩ := hcell
      simp only [DV]
      exact ⟨_, a, n, c, h1 _ _ (upd_same _ _), rfl, e⟩

def loadF (P : Program) (t : TypeId) (i k of : Nat) (h : List Blk) (nx : Nat) : Option Res := match famAt h i, szOf P t with
  | some (_, g, kf, css, none), some n =>
    match famCells g k (css.getD k []) ((kf.drop of).take n) of nx with
    | (s, ef) => cond (decide (of + n ≤ kf.length) && Nat.ble ef.length 4) ((loadFrom P t s 0).bind fun s => some ⟨[], s, ef⟩) none
  | _, _ => none

def nodupF : List Nat → Bool
  | [] => true
  | i :: l => !l.contains i && nodupF l
theorem nodupF_iff : ∀ {l : List Nat}, nodupF l = true → l.Nodup
  | [], _ => List.nodup_nil
  | i :: l, h => by
    simp only [nodupF, Bool.and_eq_true, Bool.not_eq_true'] at h
    rw [List.nodup_cons]
    exact ⟨by simpa using h.1, nodupF_iff h.2⟩

def storeF (P : Program) (t : TypeId) (i k of : Nat) (x : SV) (h : List Blk) (nx : Nat) : Option Res := match famAt h i, szOf P t, cellsSV x with
  | some (el, g, kf, css, lent), some n, some xs =>
    match cellsF h ((kf.drop of).take n) xs with
    | some (cs, js) => cond (decide (of + n ≤ kf.length) && (xs.all oneSV && (nodupF (i :: g :: js) && (match lent with | none => true | some _ => Nat.beq n 1))))
        (some ⟨match lent with | none => [] | some j => [decide (j = k * kf.length + of)], .v undef, killsE (g :: js) ++ [(nx, .fam kf (css.set k ((css.getD k []).take of ++ cs ++ (css.getD k []).drop (of + cs.length))) none), (i, .rr el nx)]⟩) none
    | none => none
  | _, _, _ => none

/-- An element of a slice of a family's own, written. -/
def storeA (P : Program) (t : TypeId) (i j of : Nat) (x : SV) (h : List Blk) : Option Res := match h[i]? with
  | some (.ali g k o kd) => match h[g]? with
    | some (.fam kf css none) => cond (kfAt kf o kd)
      ((storeTo P t (mkS (((css.getD k []).getD o []).getD j []) 0 kd) of x).bind fun cs => (elemK kd cs).bind fun v => some ⟨[], .v undef, [(g, .fam kf (css.set k ((css.getD k []).set o (((css.getD k []).getD o []).set j v))) none)]⟩) none
    | _ => none
  | _ => none

def dstW (kf : List Kf) (el : TypeId) (s : SV) (h : List Blk) : Option (List (List (List (List Value))) × List Nat) := match s with
  | .row i => match famAt h i with
    | some (e, g, kf', css, none) => cond (decide (e = el) && kfEq kf' kf) (some (css, [i, g])) none
    | _ => none
  | .emp => some ([], [])
  | .sl _ _ 0 0 => some ([], [])
  | .v (.slice none 0 0) => some ([], [])
  | _ => none
def srcW (kf : List Kf) (x : SV) (h : List Blk) : Option (List (List (List (List Value))) × List Nat) := match x with
  | .sl j o m _ => match h[j]? with
    | some (.cells _ cs) => cond (Nat.ble m 16777216) (elemsF h kf m (cs.drop o)) none
    | _ => none
  | _ => none
def roomB (bytes n : Nat) : Bool := decide ((n : Int) ≤ ((70368744177664 / bytes : Nat) : Int))
theorem roomB_ok {b n m : Nat} (h : roomB b n = true) (k : roomB b m = true) : (n + m) * b ≤ 140737488355328 := by
  simp only [roomB, decide_eq_true_eq] at h k
  have h1 : n + m ≤ 2 * (70368744177664 / b) := by omega
  have h2 := Nat.mul_le_mul_right b h1
  have h3 := Nat.div_mul_le_self 70368744177664 b
  rw [Nat.mul_assoc] at h2
  omega

def appW (P : Program) (t tx : TypeId) (s x : SV) (h : List Blk) (nx : Nat) : Option Res :=
  match P.underlying t, P.underlying tx with
  | some (.slice el), some ux => match ux with
    | .int _ => none
    | _ => match famTy P el with
      | some (kf, bytes) => match dstW kf el s h with
        | some (css, ds) => match srcW kf x h with
          | some (new, js) => cond (nodupF (js ++ ds)) (some ⟨[roomB bytes css.length, roomB bytes new.length], .row (nx + 1), killsE (js ++ ds) ++ [(nx, .fam kf (css ++ new) none), (nx + 1, .rr el nx)]⟩) none
          | none => match ds, x with
            | [], .row i => match famAt h i with
              | some (e, g, kf', new, none) => cond (decide (e = el) && kfEq kf' kf) (some ⟨[roomB bytes new.length], .row nx, [(nx, .rr el g)]⟩) none
              | _ => none
            | _, _ => none
        | none => none
      | none => none
  | _, _ => none

def makeF (P : Program) (t : TypeId) (l c : SV) (nx : Nat) : Option Res :=
  match P.underlying t with
  | some (.slice el) => match famTy P el, zeroSV P el, intOf l, intOf c with
    | some (kf, bytes), some z, some (_, n, _, _), some (_, m, _, _) => match cellsF [] kf z with
      | some (cs, _) => some ⟨[decide (0 ≤ n) && (decide (n = m) && decide (n * (bytes : Int) ≤ 140737488355328))], .row (nx + 1), [(nx, .fam kf (List.replicate n.toNat cs) none), (nx + 1, .rr el nx)]⟩
      | none => none
    | _, _, _, _ => none
  | _ => none

def lenF (P : Program) (t : TypeId) (s : SV) (h : List Blk) : Option Res := match P.underlying t with
  | some (.slice _) => match s with
    | .row i => match famAt h i with
      | some (_, _, _, css, _) => ret (.i .i64 (css.length : Int) 0 9223372036854775807)
      | none => (slotXs h i).bind fun x => ret (.i .i64 (x.2.length : Int) 0 9223372036854775807)
    | _ => none
  | _ => none

def opW (P : Program) (o : Oper) (e : Operand → SV) (h : List Blk) (nx : Nat) : Option Res :=
  match o.op with
  | .call c => match c.callee, c.args.toList.map e, c.argTypes.toList with
    | .builtin .append, [s, x], [t, tx] => appW P t tx s x h nx
    | .builtin .len, [s], [t] => lenF P t s h
    | _, _, _ => none
  | .load t a => match e a with
    | .rowp i k of => loadF P t i k of h nx
    | _ => none
  | .store t a x => match e a with
    | .rowp i k of => match storeF P t i k of (e x) h nx with
      | some r => some r
      | none => storeA P t i k of (e x) h
    | _ => none
  | .indexAddr t x ix => match P.underlying t, e x, intOf (e ix) with
    | some (.slice el), .row i, some (_, n, _, _) => match famAt h i, szOf P el with
      | some (_, _, kf, css, _), some sz => cond (decide (sz = kf.length)) (retIf (inB n css.length) (.rowp i n.toNat 0)) none
      | _, _ => none
    | _, _, _ => none
  | .makeSlice t l c => makeF P t (e l) (e c) nx
  | _ => none

theorem applyEff_append (a b : List (Nat × Blk)) (h : List Blk) : applyEff (a ++ b) h = applyEff b (applyEff a h) := by simp [applyEff, List.foldl_append]

variable {o : Oper} {e : Operand → SV} {ev : Operand → Value} {nx : Nat} {r : Res}

theorem ok_loadF {t : TypeId} {a : Operand} {i k of : Nat} (ho : o.op = .load t a) (ha : e a = .rowp i k of) (h : loadF P t i k of hp nx = some r) (EV : ∀ x, DV ρ (e x) (ev x)) (D : DH E ρ hp w) (f : Free hp nx) : Went P E ρ hp w o ev r := by
  unfold loadF at h
  split at h
  · rename_i el g kf css n hf hn
    obtain ⟨hc, h⟩ := cond_none h
    simp only [Bool.and_eq_true, decide_eq_true_eq] at hc
    obtain ⟨hof, hm⟩ := hc
    have hm := Nat.le_of_ble_eq_true hm
    simp only [Option.bind_eq_some_iff, Option.some.injEq] at h
    obtain ⟨s, hs, rfl⟩ := h
    obtain ⟨p, q, hp', hq, hpb, hqb, hpos, ys, hv, F, hO⟩ := fam_own D hf
    have hva := EV a
    rw [ha] at hva
    simp only [DV] at hva
    obtain ⟨p2, b, off, m, c, h1, h2, hk, h3⟩ := hva
    rw [hp'] at h1; cases h1
    have hk' : k < css.length := by
      rcases hO.2 with ⟨_, e1, e2⟩ | ⟨_, _, _, _, e1, _⟩
      · rw [h2] at e1; simp only [Value.slice.injEq] at e1; omega
      · rw [h2] at e1; simp only [Value.slice.injEq] at e1; omega
    obtain ⟨b', off', c', e1, hcell⟩ := hO.cell (by omega)
    rw [h2] at e1; cases e1
    have hks : ∀ (j : Nat) x, ((kf.drop of).take n)[j]? = some x → kf[of + j]? = some x := fun j x hx => by
      rw [List.getElem?_take] at hx
      split at hx
      · rwa [List.getElem?_drop] at hx
      · cases hx
    obtain ⟨ρ', hx, hdl, D'⟩ := famCells_ok hqb hv F hk' ((kf.drop of).take n) of nx 4 ρ hp D hq hks hm (f.to1 (Nat.le_refl _))
    have hlen : ((kf.drop of).take n).length = n := by rw [List.length_take, List.length_drop]; omega
    rw [hlen] at hdl
    obtain ⟨y, hy, hdv⟩ := loadFrom_cells (P := P) (w := w) (b := b) (z := off + (k * kf.length + of)) (o := 0) hs (vs := (ys.toList.drop (k * kf.length + of)).take n) (fun j u hu => by
      rw [List.getElem?_take] at hu
      split at hu
      · rw [List.getElem?_drop] at hu
        rw [Nat.add_assoc]; exact hcell _ u hu
      · cases hu) hdl
    refine ⟨y, w, ρ', .inl ?_, hx, hdv, D'⟩
    rw [hpb] at h3
    rw [Nat.add_zero, ← Nat.add_assoc] at hy
    simp [execOp, ho, Instr.loadAt, h3, sureAddr_run, hy]
  · cases h

theorem ok_idxF {t : TypeId} {x ix : Operand} {k : IntKind} {n : Int} {el el' : TypeId} {sz i g : Nat} {kf : List Kf} {css : List (List (List (List Value)))} {lent : Option Nat} {ps : List Bool} (ho : o.op = .indexAddr t x ix) (hix : ev ix = .int k n)
    (hu : P.underlying t = some (.slice el)) (hsz : szOf P el = some sz) (hk : sz = kf.length) (hf : famAt hp i = some (el', g, kf, css, lent)) (hb : 0 ≤ n ∧ n < (css.length : Int)) (hx : e x = .row i)
    (EV : ∀ x, DV ρ (e x) (ev x)) (D : DH E ρ hp w) : Went P E ρ hp w o ev ⟨ps, .rowp i n.toNat 0, []⟩ := by
  have hv := EV x
  rw [hx] at hv
  obtain ⟨p, q, hp', hq, hpb, hqb, hpos, ys, hqv, F, hO⟩ := fam_own D hf
  subst hk
  simp only [DV] at hv
  obtain ⟨p2, a, n2, c, h1, h2, _⟩ := hv
  rw [hp'] at h1; cases h1
  obtain ⟨b, off, c', e1, _⟩ := hO.cell (by omega)
  rw [e1] at h2
  refine went_pure D (y := .pointer (some ⟨b, off + n.toNat * kf.length, none⟩)) ?_ ?_
  · simp [execOp, ho, Instr.indexAt, h2, hix, asIntOf, run_underlying hu, hb, szOf_run hsz, addr_add]
  · simp only [DV]
    exact ⟨p, b, off, _, _, hp', e1, by omega, by rw [hpb]; simp⟩

theorem ok_lenF {c : Call} {x : Operand} {t : TypeId} (ho : o.op = .call c) (hc : c.callee = .builtin .len) (ha : c.args.toList = [x]) (ht : c.argTypes.toList = [t]) (h : lenF P t (e x) hp = some r) (EV : ∀ x, DV ρ (e x) (ev x)) (D : DH E ρ hp w) : Went P E ρ hp w o ev r := by
  have hM : maxLen = 9223372036854775807 := by decide
  have hv := EV x
  unfold lenF at h
  split at h
  · rename_i el hu
    have key : ∀ (a : Option Addr) (n m : Nat), ev x = .slice a n m → n ≤ maxLen → r = ⟨[], .i .i64 (n : Int) 0 9223372036854775807, []⟩ → Went P E ρ hp w o ev r := fun a n m he hn hr => by
      subst hr
      refine went_pure D (y := .int .i64 n) ?_ (by simp only [DV]; exact ⟨trivial, by omega, by omega⟩)
      refine builtin_run ho hc ?_
      rw [toList_one ha]
      have e2 : c.argTypes = #[t] := toList_one ht
      simp only [builtin, List.map_toArray, List.map_cons, List.map_nil, Sem.run_bind, e2]
      rw [he]
      have := len_slice_run (P := P) hu a n m w
      simp only [Builtin.len_] at this ⊢
      rw [this]
      rfl
    split at h
    · rename_i i hx
      rw [hx] at hv
      simp only [DV] at hv
      obtain ⟨p, a, n, m, hp', hv, hs⟩ := hv
      split at h
      · rename_i el' g kf css lent hf
        cases h
        obtain ⟨p2, q, h1, hq, hpb, hqb, hpos, ys, hqv, F, hO⟩ := fam_own D hf
        rw [hp'] at h1; cases h1
        obtain ⟨a2, c2, e2, _, hm, _⟩ := hO.len
        exact key _ _ _ (hv.trans e2) hm rfl
      · simp only [Option.bind_eq_some_iff, ret, Option.some.injEq] at h
        obtain ⟨⟨kd, xs⟩, hs, rfl⟩ := h
        obtain ⟨p2, h1, _, _, a2, c2, e2, _, hm, _⟩ := slot_reads D hs
        rw [hp'] at h1; cases h1
        exact key _ _ _ (hv.trans e2) hm rfl
    · cases h
  · cases h

/-- An owned slice, appended to. -/
theorem append_own {t tx ty el : TypeId} {i : TypeInfo} {z : Value} {ux : TypeDesc} (ht : P.underlying t = some (.slice el)) (hux : P.underlying tx = some ux) (hni : ∀ k, ux ≠ .int k) (hi : P.info? el = some i) (hz : i.zero = some z)
    (hzs : z.cells.size = i.size) {sz : Nat} (hsz : i.size = sz) (hsz0 : 0 < sz) {x y : Value} {m n : Nat} {olds news : List Value} (hs : Src P w sz x m news) (hO : OwnP w el sz y n olds) (hb : (n + m) * i.bytes ≤ 140737488355328) (hb0 : 0 < i.bytes) :
    ∃ v' w', (Builtin.append_ #[t, tx] ty #[y, x]).run P w = .ok v' w' ∧ (∃ a c, v' = .slice a (n + m) c) ∧ OwnP w' el sz v' (n + m) (olds ++ news) ∧ Same w w' ∧ (∀ k, k < w.heap.size → w'.heap[k]? = w.heap[k]? ∨ sliceB y = some k) ∧ (∀ b, sliceB v' = some b → w.heap.size ≤ b ∨ sliceB y = some b) := by
  have hM : maxLen = 9223372036854775807 := by decide
  subst hsz
  have h63 : n + m ≤ maxLen := by
    have := Nat.le_mul_of_pos_right (n + m) hb0
    omega
  obtain ⟨base, cap, hy, hcap, hmax, hbase⟩ := hO.len
  have hnl := hs.2.1
  have hlo := hO.1
  have hrd : n = 0 ∨ ∃ g off, base = some ⟨g, off, none⟩ ∧ ∀ j u, olds[j]? = some u → w.cell? ⟨g, off + j, none⟩ = some u := by
    rcases Nat.eq_zero_or_pos n with h0 | h0
    · exact .inl h0
    · obtain ⟨g, off, c, e, hc⟩ := hO.cell h0
      rw [hy] at e; cases e
      exact .inr ⟨g, off, rfl, hc⟩
  have hlxy : (olds ++ news).length = (n + m) * i.size := by rw [List.length_append, hlo, hnl, Nat.add_mul]
  have hrun := run_append_src (P := P) (w := w) (ty := ty) ht hux hni hi hz hzs hs (base := base) (n := n) (cap := cap) (olds := olds) hlo hrd (fun h0 hle => by
    rcases hO.2 with ⟨a, e1, e2⟩ | ⟨g, off, c1, cur, e1, hg, _, _, k3, _⟩
    · rw [hy] at e1; simp only [Value.slice.injEq] at e1; omega
    · rw [hy] at e1; cases e1
      exact ⟨g, off, cur, rfl, hg, k3⟩) h63 hb
  rw [← hy] at hrun
  rcases hrun with ⟨h0, hle, hr⟩ | ⟨h0, hle, g, off, cur, rfl, hg, hfit, hr⟩ | ⟨hlt, cc, rest, k1, k2, k3, hr⟩
  · subst h0
    have : news = [] := List.eq_nil_of_length_eq_zero (by rw [hnl]; simp)
    subst this
    refine ⟨_, w, hr, ⟨base, cap, by simpa using hy⟩, ?_, Same.refl w, fun _ _ => .inl rfl, fun b hb => .inr hb⟩
    simpa using hO
  · rcases hO.2 with ⟨a, e1, e2⟩ | ⟨g', off', c1, cur', e1, hg', j1, j2, j3, j4⟩
    · rw [hy] at e1; simp only [Value.slice.injEq] at e1; omega
    · rw [hy] at e1; cases e1
      rw [hg] at hg'; cases hg'
      have hsz' := setRow_heap w g cur (cur.toList.take (off + n * i.size) ++ news ++ cur.toList.drop (off + n * i.size + news.length)).toArray el (0, 0) hg
      have hle2 : (n + m) * i.size ≤ (c1 + 1) * i.size := Nat.mul_le_mul_right _ hle
      rw [Nat.add_mul] at hle2
      have hsl : sliceB y = some g := by rw [hy]; rfl
      refine ⟨_, _, hr, ⟨_, _, rfl⟩, ⟨hlxy, .inr ⟨g, off, c1, _, rfl, hsz', hle, j2, ?_, ?_⟩⟩, ⟨rfl, rfl, rfl, by simp, Stat.of_other hg (fun _ => by simp) fun k hk => setRow_other w g k _ hk⟩, fun k hk => ?_, fun b hb => ?_⟩
      · simp only [List.size_toArray, List.length_append, List.length_take, List.length_drop, Array.length_toList]
        omega
      · rw [← hlxy]
        have e3 : (cur.toList.take (off + n * i.size)).drop off = olds := by
          rw [List.drop_take, Nat.add_sub_cancel_left]; exact j4
        simp only [List.append_assoc]
        rw [List.drop_append_of_le_length (by simp; omega), e3, ← List.append_assoc]
        exact List.take_left
      · by_cases hkg : k = g
        · subst hkg; exact .inr hsl
        · exact .inl (setRow_other w g k _ hkg)
      · simp only [sliceB, Option.some.injEq] at hb
        subst hb; exact .inr hsl
  · have hpos : 0 < cc := by omega
    obtain ⟨c0, rfl⟩ : ∃ c0, cc = c0 + 1 := ⟨cc - 1, by omega⟩
    refine ⟨_, _, hr, ⟨_, _, rfl⟩, ⟨hlxy, .inr ⟨w.heap.size, 0, c0, _, rfl, heap_alloc_new w.drew _, k1, k2, ?_, ?_⟩⟩, same_drew_alloc w _, fun k hk => .inl (heap_drew_alloc w _ hk), fun b hb => ?_⟩
    · rw [List.size_toArray, List.length_append, hlxy, k3, ← Nat.add_mul, Nat.zero_add]
      refine Nat.mul_le_mul_right _ ?_
      omega
    · show List.take ((n + m) * i.size) (List.drop 0 (olds ++ news ++ rest)) = olds ++ news
      rw [List.drop_zero, ← hlxy]
      exact List.take_left
    · left
      simp only [sliceB, Option.some.injEq] at hb
      omega

/-- What is read from cells that are known. -/
theorem src_of_cells {sz m c : Nat} {a : Option Addr} {zs : List Value} (hl : zs.length = m * sz) (hone : ∀ u ∈ zs, u.oneCell' = true)
    (hc : m = 0 ∨ ∃ g off, a = some ⟨g, off, none⟩ ∧ ∀ j u, zs[j]? = some u → w.cell? ⟨g, off + j, none⟩ = some u) : Src P w sz (.slice a m c) m zs := by
  refine ⟨rfl, hl, hone, fun w' hw => ?_⟩
  rcases hc with rfl | ⟨g, off, rfl, k5⟩
  · have : zs = [] := List.eq_nil_of_length_eq_zero (by simpa using hl)
    subst this
    cases a <;> simp [Builtin.firstCells, loadCells, loadCellsFrom]
  · refine run_firstCells_some w' sz m ⟨g, off, none⟩ _ _ _ hl fun j v hv => ?_
    rw [addr_add, cell?_heap hw]; exact k5 j v hv

theorem CellF.one {q : Kf} {c : List (List Value)} {b : Bool} {y : Value} (h : CellF w q c b y) (hq : q ≠ .k .other) : y.oneCell' = true := by
  cases q with
  | sl el kd => obtain ⟨⟨_, _, _, rfl⟩, _⟩ := h; rfl
  | k r =>
    have h1 := h.1
    cases r with
    | int => obtain ⟨n, rfl, _⟩ := h1; rfl
    | bool => obtain ⟨n, rfl⟩ := h1; rfl
    | str => obtain ⟨n, rfl, _⟩ := h1; rfl
    | other => exact absurd rfl hq
theorem FamY.oneCells {kf : List Kf} {css : List (List (List (List Value)))} {lent : Option Nat} {ys : List Value} (F : FamY w kf css lent ys) (hq : ∀ q ∈ kf, q ≠ .k .other) : ∀ u ∈ ys, u.oneCell' = true := by
  intro u hu
  obtain ⟨j, hj⟩ := List.getElem?_of_mem hu
  have hlt := (List.getElem?_eq_some_iff.1 hj).1
  rw [F.len] at hlt
  have hpos := F.pos
  have hm := Nat.mod_lt j hpos
  have hk : j / kf.length < css.length := by rw [Nat.div_lt_iff_lt_mul hpos]; exact hlt
  have hel := F.els (css.getD (j / kf.length) []) (by rw [List.getD_eq_getElem?_getD, List.getElem?_eq_getElem hk]; exact List.getElem_mem _)
  have e : j / kf.length * kf.length + j % kf.length = j := by rw [Nat.mul_comm]; exact Nat.div_add_mod j _
  obtain ⟨q, hqq⟩ : ∃ q, kf[j % kf.length]? = some q := ⟨_, List.getElem?_eq_getElem hm⟩
  obtain ⟨c, hc⟩ : ∃ c, (css.getD (j / kf.length) [])[j % kf.length]? = some c := ⟨_, List.getElem?_eq_getElem (by omega)⟩
  exact (F.cell _ _ q c u hk hqq hc (by rw [e]; exact hj)).one (hq q (List.mem_of_getElem? hqq))

/-- Behind a new family, a block that it has not is spare still. -/
theorem Spare.putFam {m : Nat} (D : DH E ρ hp w) (f : Free1 hp nx (m + 1)) {l : Loc} {c : Blk} {b : Nat} (h : Spare E ρ hp b) (hc : ¬ takes (upd ρ nx l) nx c b) : Spare E (upd ρ nx l) (putB nx c hp) b := by
  refine ⟨h.1, fun j d hd ht => ?_⟩
  rw [putB_get f.le] at hd
  split at hd
  · subst_vars; cases hd; exact hc ht
  · exact h.2 j d hd (takes.back (upd_ext (f.none D)) (D.ok j d hd) ht)

theorem ok_appW {c : Call} {s x : Operand} {t tx : TypeId} (ho : o.op = .call c) (hc : c.callee = .builtin .append) (ha : c.args.toList = [s, x]) (hty : c.argTypes.toList = [t, tx])
    (h : appW P t tx (e s) (e x) hp nx = some r) (hneed : allNeed r.need) (EV : ∀ x, DV ρ (e x) (ev x)) (D : DH E ρ hp w) (f : Free hp nx) : Went P E ρ hp w o ev r := by
  unfold appW at h
  split at h
  · rename_i el ux hu hux
    split at h
    · cases h
    · rename_i hni
      split at h
      · rename_i kf bytes hty'
        obtain ⟨i, z, hi, hz, hsz, hby, hpos, hzs, hb0, hoth⟩ := famTy_ok hty'
        have hexec : ∀ v' w', (Builtin.append_ #[t, tx] o.type #[ev s, ev x]).run P w = .ok v' w' → (execOp ev o).run P w = .ok (.value v') w' := fun v' w' hr => by
          refine builtin_run ho hc ?_
          have e1 : c.args = #[s, x] := toList_two ha
          have e2 : c.argTypes = #[t, tx] := toList_two hty
          rw [e1, e2]
          simp only [builtin, List.map_toArray, List.map_cons, List.map_nil, Sem.run_bind, hr, Result.andThen_ok, Sem.run_pure]
        split at h
        · rename_i css ds hd
          -- what is appended to
          have hdst : ∃ ys : List Value, FamY w kf css none ys ∧ OwnP w el kf.length (ev s) css.length ys ∧ (∀ j ∈ ds, ∃ b, hp[j]? = some b ∧ b ≠ .hole) ∧
              (∀ b, sliceB (ev s) = some b → ∃ j ∈ ds, Tk ρ hp j b ∧ ∀ j' b', famB kf none ys j' b' → ∃ j2 ∈ ds, Tk ρ hp j2 b' ∧ (ds.Nodup → j2 ≠ j)) ∧ (∀ j b, famB kf none ys j b → ∃ s ∈ ds, Tk ρ hp s b) ∧ (ds = [] → ys = [] ∧ css = []) := by
            have nil : ∀ a, ev s = .slice a 0 0 → some (([] : List (List (List (List Value)))), ([] : List Nat)) = some (css, ds) → ∃ ys : List Value, FamY w kf css none ys ∧ OwnP w el kf.length (ev s) css.length ys ∧ (∀ j ∈ ds, ∃ b, hp[j]? = some b ∧ b ≠ .hole) ∧
              (∀ b, sliceB (ev s) = some b → ∃ j ∈ ds, Tk ρ hp j b ∧ ∀ j' b', famB kf none ys j' b' → ∃ j2 ∈ ds, Tk ρ hp j2 b' ∧ (ds.Nodup → j2 ≠ j)) ∧ (∀ j b, famB kf none ys j b → ∃ s ∈ ds, Tk ρ hp s b) ∧ (ds = [] → ys = [] ∧ css = []) := by
              intro a hev he
              cases he
              exact ⟨[], FamY.nil hpos, ⟨by simp, .inl ⟨a, hev, rfl⟩⟩, by simp, fun b hb => by rw [hev] at hb; cases a <;> simp [sliceB] at hb, fun j b hb => by obtain ⟨_, _, y, hy, _⟩ := hb; simp at hy, fun _ => ⟨rfl, rfl⟩⟩
            have hv := EV s
            unfold dstW at hd
            split at hd
            · rename_i i' hs
              rw [hs] at hv
              split at hd
              · rename_i e' g kf' css' hf
                cases hcc : (decide (e' = el) && kfEq kf' kf) with
                | false => rw [hcc] at hd; cases hd
                | true =>
                  rw [hcc] at hd
                  cases hd
                  simp only [Bool.and_eq_true, decide_eq_true_eq] at hcc
                  obtain ⟨rfl, hk⟩ := hcc
                  have := kfEq_eq hk
                  subst this
                  obtain ⟨p, q, hp', hq, hpb, hqb, _, ys, hqv, F, hO⟩ := fam_own D hf
                  obtain ⟨h1, h2⟩ := famAt_iff hf
                  simp only [DV] at hv
                  obtain ⟨p2, a, n2, c2, h3, hv, _⟩ := hv
                  rw [hp'] at h3; cases h3
                  rw [hv]
                  have tkg : ∀ j b, famB kf' none ys.toList j b → Tk ρ hp g b := fun j b hb => ⟨_, h2, q, hq, ys, hqv, j, hb⟩
                  refine ⟨ys.toList, F, hO, fun j hj => ?_, fun b hb => ⟨i', by simp, ⟨_, h1, p, hp', hb⟩, fun j' b' hb' => ⟨g, by simp, tkg j' b' hb', fun nd => ?_⟩⟩, fun j b hb => ⟨g, by simp, tkg j b hb⟩, fun h => by cases h⟩
                  · simp only [List.mem_cons, List.not_mem_nil, or_false] at hj
                    rcases hj with rfl | rfl
                    · exact ⟨_, h1, by simp⟩
                    · exact ⟨_, h2, by simp⟩
                  · simp only [List.nodup_cons, List.mem_cons, List.not_mem_nil, or_false] at nd
                    exact fun e => nd.1 e.symm
              · cases hd
            · rename_i hs; rw [hs] at hv; simp only [DV] at hv; obtain ⟨a, hv⟩ := hv; exact nil a hv hd
            · rename_i hs; rw [hs] at hv; simp only [DV] at hv; obtain ⟨p, _, _, hv⟩ := hv; exact nil _ hv hd
            · rename_i hs; rw [hs] at hv; simp only [DV] at hv; exact nil _ hv hd
            · cases hd
          obtain ⟨ys, F, hO, hds, hdT, hdF, hd0⟩ := hdst
          split at h
          · rename_i new js hsrc
            obtain ⟨hnd, rfl⟩ := cond_some h
            have hnd := nodupF_iff hnd
            rw [List.nodup_append] at hnd
            obtain ⟨hn1, hn2, _⟩ := hneed
            have hroom := roomB_ok hn1 hn2
            -- what is appended
            have hsr : ∃ zs : List Value, FamY w kf new none zs ∧ Src P w kf.length (ev x) new.length zs ∧ (∀ j b, famB kf none zs j b → ∃ s ∈ js, Tk ρ hp s b) ∧ ∀ j ∈ js, ∃ b, hp[j]? = some b ∧ b ≠ .hole := by
              have hv := EV x
              unfold srcW at hsrc
              split at hsrc
              · rename_i j o' m c' hx
                rw [hx] at hv
                simp only [DV] at hv
                obtain ⟨p, hp', hmc, hv⟩ := hv
                split at hsrc
                · rename_i e0 cs hj
                  obtain ⟨_, hsrc⟩ := cond_none hsrc
                  obtain ⟨q, vs, hq, hb, hl⟩ := D.ok j _ hj
                  rw [hp'] at hq; cases hq
                  obtain ⟨a1, a2, a3, a4, a5⟩ := elemsF_ok D hpos hsrc (hl.drop o') hnd.1
                  refine ⟨_, a3, ?_, a4, fun s hs => by obtain ⟨e1, k1, x1, h1⟩ := a5 s hs; exact ⟨_, h1, by simp⟩⟩
                  rw [hv, a1]
                  refine src_of_cells (by rw [List.length_take]; omega) (a3.oneCells hoth) (.inr ⟨p.block, o', rfl, fun k u hk => ?_⟩)
                  rw [cell_of_row w p.block (o' + k) vs e0 _ hb]
                  rw [List.getElem?_take] at hk
                  split at hk
                  · rw [List.getElem?_drop] at hk; simpa using hk
                  · cases hk
                · cases hsrc
              · cases hsrc
            obtain ⟨zs, F2, hS, hzT, hjs⟩ := hsr
            obtain ⟨v', w', hr, ⟨a', c', hv'⟩, hO', hsame, hchg, hblk⟩ := append_own (P := P) (ty := o.type) hu hux (fun k e => hni k e) hi hz hzs hsz hpos hS hO (by rw [hby]; exact hroom) (by omega)
            have hall : ∀ j ∈ js ++ ds, ∃ b, hp[j]? = some b ∧ b ≠ .hole := fun j hj => by
              rcases List.mem_append.1 hj with h | h
              · exact hjs j h
              · exact hds j h
            have hlt : ∀ j ∈ js ++ ds, j < hp.length := fun j hj => by obtain ⟨b, hb, _⟩ := hall j hj; exact (List.getElem?_eq_some_iff.1 hb).1
            have D1 := D.kills hlt
            have f1 : Free1 (applyEff (killsE (js ++ ds)) hp) nx 2 := (f.to1 (by omega)).kills hall
            have FF : FamY w kf (css ++ new) none (ys ++ zs) := F.append F2 fun i' j' b hb hb' => by
              obtain ⟨s1, hs1, t1⟩ := hdF i' b hb
              obtain ⟨s2, hs2, t2⟩ := hzT j' b hb'
              exact hnd.2.2 s2 hs2 s1 hs1 (t2.inj D t1)
            have hT : ∀ j b, famB kf none (ys ++ zs) j b → ∃ s ∈ js ++ ds, Tk ρ hp s b := fun j b hb => by
              rcases famB_append_inv F.len hb with ⟨j', h⟩ | ⟨j', h⟩
              · obtain ⟨s, hs, t⟩ := hdF j' b h; exact ⟨s, by simp [hs], t⟩
              · obtain ⟨s, hs, t⟩ := hzT j' b h; exact ⟨s, by simp [hs], t⟩
            have D2 := D1.newFam f1 FF fun j b hb => by
              obtain ⟨s, hs, t⟩ := hT j b hb
              exact D.spares hlt hs t
            have hsp : ∀ b, sliceB (ev s) = some b → Spare E (upd ρ nx ⟨kf.length, .tuple (ys ++ zs).toArray⟩) (putB nx (.fam kf (css ++ new) none) (applyEff (killsE (js ++ ds)) hp)) b := fun b hb => by
              obtain ⟨j, hj, t, hne⟩ := hdT b hb
              refine (D.spares hlt (by simp [hj]) t).putFam D1 f1 ?_
              rintro ⟨p, hp', ys', hv, k, hk⟩
              rw [upd_same] at hp'; cases hp'
              cases hv
              have hk : famB kf none (ys ++ zs) k b := by simpa using hk
              rcases famB_append_inv F.len hk with ⟨j', h⟩ | ⟨j', h⟩
              · obtain ⟨j2, hj2, t2, h2⟩ := hne j' b h
                exact h2 hnd.2.1 (t2.inj D t)
              · obtain ⟨s2, hs2, t2⟩ := hzT j' b h
                exact hnd.2.2 s2 hs2 j hj (t2.inj D t)
            have D3 := D2.newRR (g := nx) (w' := w') (el := el) (v := v') f1.next (upd_same _ _) rfl hpos (by rw [← List.length_append] at hO'; simpa using hO') hsame
              (fun k hk => (hchg k hk).imp id (hsp k)) (fun b hb => (hblk b hb).imp id (hsp b))
            have x1 := upd_ext (l := ⟨kf.length, .tuple (ys ++ zs).toArray⟩) (f1.none D1)
            have x2 := upd_ext (l := ⟨kf.length, v'⟩) (Free1.none (m := 0) f1.next D2)
            refine ⟨v', w', _, .inl (hexec _ _ hr), x1.trans x2, ?_, ?_⟩
            · simp only [DV]; exact ⟨_, a', _, c', upd_same _ _, rfl, hv'⟩
            · rw [applyEff_append]; exact D3
          · split at h
            · rename_i i' hx
              obtain ⟨rfl, rfl⟩ := hd0 rfl
              split at h
              · rename_i e' g kf' new hf
                obtain ⟨hcc, rfl⟩ := cond_some h
                simp only [Bool.and_eq_true, decide_eq_true_eq] at hcc
                obtain ⟨rfl, hk⟩ := hcc
                have := kfEq_eq hk
                subst this
                obtain ⟨hn1, _⟩ := hneed
                have hroom := roomB_ok (n := 0) (m := new.length) (b := bytes) (by unfold roomB; exact decide_eq_true (Int.ofNat_le.2 (Nat.zero_le _))) hn1
                obtain ⟨p, q, hp', hq, hpb, hqb, _, zs, hqv, F2, hO2⟩ := fam_own D hf
                have hv := EV x
                rw [hx] at hv
                simp only [DV] at hv
                obtain ⟨p2, a, n2, c2, h3, hv, _⟩ := hv
                rw [hp'] at h3; cases h3
                have hS : Src P w kf'.length (ev x) new.length zs.toList := by
                  obtain ⟨a2, c2, e2, _, _, _⟩ := hO2.len
                  rw [hv, e2]
                  refine src_of_cells hO2.1 (F2.oneCells hoth) ?_
                  rcases Nat.eq_zero_or_pos new.length with h0 | h0
                  · exact .inl h0
                  · obtain ⟨g2, off, c3, e3, hcell⟩ := hO2.cell h0
                    rw [e2] at e3; cases e3
                    exact .inr ⟨g2, off, rfl, hcell⟩
                obtain ⟨v', w', hr, ⟨a', c', hv'⟩, hO', hsame, hchg, hblk⟩ := append_own (P := P) (ty := o.type) hu hux (fun k e => hni k e) hi hz hzs hsz hpos hS hO (by rw [hby]; exact hroom) (by omega)
                have hnone : ∀ b, sliceB (ev s) = some b → False := fun b hb => by
                  obtain ⟨j, hj, _⟩ := hdT b hb
                  cases hj
                have f1 : Free1 hp nx 1 := f.to1 (by omega)
                have D3 := D.newRR (g := g) (w' := w') (el := e') (v := v') f1 hq hqv (by omega) (by simpa [hqb] using hO') hsame (fun k hk => (hchg k hk).imp id fun h => (hnone k h).elim) (fun b hb => (hblk b hb).imp id fun h => (hnone b h).elim)
                refine ⟨v', w', _, .inl (hexec _ _ hr), upd_ext (f1.none D), ?_, D3⟩
                simp only [DV]; exact ⟨_, a', _, c', upd_same _ _, rfl, hv'⟩
              · cases h
            · cases h
        · cases h
      · cases h
  · cases h

theorem ok_storeF {t : TypeId} {a x : Operand} {i k of : Nat} (ho : o.op = .store t a x) (ha : e a = .rowp i k of) (h : storeF P t i k of (e x) hp nx = some r) (hneed : allNeed r.need) (EV : ∀ x, DV ρ (e x) (ev x)) (D : DH E ρ hp w) (f : Free hp nx) : Went P E ρ hp w o ev r := by
  unfold storeF at h
  split at h
  · rename_i el g kf css lent n xs hf hn hxs
    split at h
    · rename_i cs js hcs
      obtain ⟨hc, rfl⟩ := cond_some h
      simp only [Bool.and_eq_true, decide_eq_true_eq] at hc
      obtain ⟨hof, hone, hnd, hl1⟩ := hc
      have hnd := nodupF_iff hnd
      rw [List.nodup_cons] at hnd
      obtain ⟨hig, hnd⟩ := hnd
      obtain ⟨h1, h2⟩ := famAt_iff hf
      obtain ⟨p, q, hp', hq, hpb, hqb, hpos, ys, hv, F, hO⟩ := fam_own D hf
      have hva := EV a
      rw [ha] at hva
      simp only [DV] at hva
      obtain ⟨p2, b, off, m, c, h3, h4, hk, h5⟩ := hva
      rw [hp'] at h3; cases h3
      have hmk : m = css.length := by
        rcases hO.2 with ⟨_, e1, e2⟩ | ⟨_, _, _, _, e1, _⟩
        · rw [h4] at e1; simp only [Value.slice.injEq] at e1; omega
        · rw [h4] at e1; simp only [Value.slice.injEq] at e1; omega
      subst hmk
      have hdl := cellsSV_DV hxs (EV x)
      obtain ⟨a1, a2, a3, a4, a5, a6⟩ := cellsF_ok D hcs hdl
      have hklen : ((kf.drop of).take n).length = n := by rw [List.length_take, List.length_drop]; omega
      rw [hklen] at a1 a2
      have hks : ∀ (j : Nat), j < n → ((kf.drop of).take n)[j]? = kf[of + j]? := fun j hj => by
        rw [List.getElem?_take, if_pos hj, List.getElem?_drop]
      have hsl : ∀ (j : Nat) (y : Value), isSl kf (of + j) = true → (ev x).cells.toList[j]? = some y → isSl ((kf.drop of).take n) j = true := fun j y hj hy => by
        have hlt := (List.getElem?_eq_some_iff.1 hy).1
        unfold isSl at hj ⊢
        rw [hks j (by omega)]; exact hj
      have hkle : (k + 1) * kf.length ≤ css.length * kf.length := Nat.mul_le_mul_right _ hk
      rw [Nat.add_mul, Nat.one_mul] at hkle
      have hjs : ∀ j ∈ g :: js, ∃ b, hp[j]? = some b ∧ b ≠ .hole := fun j hj => by
        rcases List.mem_cons.1 hj with rfl | hj
        · exact ⟨_, h2, by simp⟩
        · obtain ⟨e1, k1, x1, hh⟩ := a5 j hj; exact ⟨_, hh, by simp⟩
      have hlt : ∀ j ∈ g :: js, j < hp.length := fun j hj => by obtain ⟨b, hb, _⟩ := hjs j hj; exact (List.getElem?_eq_some_iff.1 hb).1
      have tkg : ∀ j b, famB kf lent ys.toList j b → Tk ρ hp g b := fun j b hb => ⟨_, h2, q, hq, ys, hv, j, hb⟩
      rw [List.nodup_cons] at hnd
      have FF : FamY w kf (css.set k ((css.getD k []).take of ++ cs ++ (css.getD k []).drop (of + cs.length))) none (ys.toList.take (k * kf.length + of) ++ (ev x).cells.toList ++ ys.toList.drop (k * kf.length + of + (ev x).cells.toList.length)) := by
        refine F.setRow hk (by omega) (by omega) ?_ (fun o' q' c' y' e1 e2 e3 => ?_) (fun o1 o2 y1 y2 b' e1 e2 e3 e4 e5 e6 => a6 hnd.2 o1 o2 y1 y2 b' (hsl o1 y1 e1 e3) (hsl o2 y2 e2 e4) e3 e4 e5 e6) (fun j b' hb o' y' e1 e2 e3 => ?_)
        · cases lent with
          | none => exact .inl rfl
          | some j =>
            right
            have hl1 := Nat.eq_of_beq_eq_true hl1
            have hj := hneed.1
            simp only [decide_eq_true_eq] at hj
            exact ⟨by omega, by rw [hj]⟩
        · have := (List.getElem?_eq_some_iff.1 e3).1
          exact a3 o' q' c' y' (by rw [hks o' (by omega)]; exact e1) e2 e3
        · obtain ⟨s, hs, t⟩ := a4 o' y' b' (hsl o' y' e1 e2) e2 e3
          have := t.inj D (tkg j b' hb)
          exact hnd.1 (this ▸ hs)
      have hT : ∀ j b', famB kf none (ys.toList.take (k * kf.length + of) ++ (ev x).cells.toList ++ ys.toList.drop (k * kf.length + of + (ev x).cells.toList.length)) j b' → ∃ s ∈ g :: js, Tk ρ hp s b' := by
        rintro j b' ⟨e1, _, y', e2, e3⟩
        rw [splice_get ys.toList _ _ (by rw [F.len]; omega)] at e2
        split at e2
        · rename_i hw
          have e : j = k * kf.length + (of + (j - (k * kf.length + of))) := by omega
          rw [e, (flat_ix (by omega)).1] at e1
          obtain ⟨s, hs, t⟩ := a4 _ y' b' (hsl _ y' e1 e2) e2 e3
          exact ⟨s, by simp [hs], t⟩
        · rename_i hw
          refine ⟨g, by simp, tkg j b' ⟨e1, ?_, y', e2, e3⟩⟩
          cases lent with
          | none => simp
          | some j' =>
            have hl1 := Nat.eq_of_beq_eq_true hl1
            have hj := hneed.1
            simp only [decide_eq_true_eq] at hj
            intro e'
            cases e'
            exact hw ⟨by omega, by omega⟩
      have D1 := D.kills hlt
      have f1 : Free1 (applyEff (killsE (g :: js)) hp) nx 1 := (f.to1 (by omega)).kills hjs
      have D2 := D1.newFam f1 FF fun j b' hb => by
        obtain ⟨s, hs, t⟩ := hT j b' hb
        exact D.spares hlt hs t
      obtain ⟨k1, k2⟩ := kills_get (g :: js) hp hlt
      have hilt := (List.getElem?_eq_some_iff.1 h1).1
      have hinx : i ≠ nx := by
        rintro rfl
        rcases f with f | f
        · omega
        · have := f 0 (by omega)
          rw [Nat.add_zero, h1] at this; cases this
      have hi1 : (applyEff (killsE (g :: js)) hp)[i]? = some (.rr el g) := by rw [k2, if_neg hig]; exact h1
      have hi2 : (putB nx (.fam kf (css.set k ((css.getD k []).take of ++ cs ++ (css.getD k []).drop (of + cs.length))) none) (applyEff (killsE (g :: js)) hp))[i]? = some (.rr el g) := by
        rw [putB_get f1.le, if_neg hinx]; exact hi1
      have x1 := upd_ext (l := ⟨kf.length, .tuple (ys.toList.take (k * kf.length + of) ++ (ev x).cells.toList ++ ys.toList.drop (k * kf.length + of + (ev x).cells.toList.length)).toArray⟩) (f1.none D1)
      obtain ⟨cur, vs, hg0, hst, hO', hsb⟩ := hO.write (P := P) h4 (by omega) (zs := (ev x).cells.toList) (pos := k * kf.length + of) (by omega) (DL_all_one hone hdl)
      have hsz : (ev x).cells.size = n := by rw [← Array.length_toList]; exact a2
      have hrun : (storeVar t ⟨b, off + (k * kf.length + of), none⟩ (ev x)).run P w = .ok () (w.setRow b vs) := by
        simp only [storeVar, Sem.run_bind, szOf_run hn, Result.andThen_ok, hsz, ne_eq, not_true, if_false]
        exact hst
      have htk : takes ρ i (.rr el g) b := ⟨p, hp', hsb⟩
      have htk2 := takes.mono x1 htk
      have hOw := D2.own i _ b hi2 htk2
      refine ⟨undef, w.setRow b vs, _, .inr ⟨?_, rfl⟩, x1, by simp [DV], ?_⟩
      · simp only [execOp, ho, Instr.storeAt, h5, Sem.run_bind, sureAddr_run, Result.andThen_ok, hpb, Nat.add_assoc, hrun]
        rfl
      · rw [applyEff_append]
        refine D2.put i (.rr el nx) (Nat.le_of_lt (List.getElem?_eq_some_iff.1 hi2).1) (Ext.refl _) (fun _ _ h => h) ⟨rfl, rfl, rfl, by simp, Stat.of_other hg0 (fun _ => by simp) fun j hj => setRow_other w b j _ hj⟩
          (fun j hj => setRow_other w _ j _ (fun e => hOw.1 (e ▸ hj))) (fun j c' j' hj hc' ht => setRow_other w _ j' _ (fun e => by subst e; exact D2.apart j i c' _ _ hj hc' hi2 ht htk2)) ?_ ?_
        · exact ⟨p, _, x1 _ _ hp', upd_same _ _, hpb, by omega, _, css.length, rfl, by rw [hpb]; simpa using hO'⟩
        · rintro n' ⟨p3, hp3, hb3⟩
          rw [x1 _ _ hp'] at hp3; cases hp3
          rw [hsb] at hb3; cases hb3
          exact ⟨hOw.1, by simpa using hOw.2, fun j c' hj hc' ht => D2.apart j i c' _ _ hj hc' hi2 ht htk2⟩
    · cases h
  · cases h

theorem ok_storeA {t : TypeId} {a x : Operand} {i j of : Nat} (ho : o.op = .store t a x) (ha : e a = .rowp i j of) (h : storeA P t i j of (e x) hp = some r) (EV : ∀ x, DV ρ (e x) (ev x)) (D : DH E ρ hp w) : Went P E ρ hp w o ev r := by
  unfold storeA at h
  split at h
  · rename_i g k o' kd hi
    split at h
    · rename_i kf css hg
      obtain ⟨hkf, h⟩ := cond_none h
      simp only [Option.bind_eq_some_iff, Option.some.injEq] at h
      obtain ⟨cs, hs, v, hv', rfl⟩ := h
      unfold kfAt at hkf
      split at hkf
      · rename_i el kd2 hko
        have := kdEq_eq hkf
        subst this
        obtain ⟨p, q, hp', hpb, hk0, hk, hol, hcc, hwx, hO, hq, hqb, ys, hqv, hy, F⟩ := ali_own D hi hg hko
        generalize hX : (css.getD k []).getD o' [] = xs at *
        have hva := EV a
        rw [ha] at hva
        simp only [DV] at hva
        obtain ⟨p2, b, off, m, c, h3, h4, hj, h5⟩ := hva
        rw [hp'] at h3; cases h3
        have hm : m = xs.length := by
          rcases hO.2 with ⟨_, e1, e2⟩ | ⟨_, _, _, _, e1, _⟩
          · rw [h4] at e1; simp only [Value.slice.injEq] at e1; omega
          · rw [h4] at e1; simp only [Value.slice.injEq] at e1; omega
        subst hm
        have hxl := fun z hz => (hwx z hz).length
        have hget := getD_mem hj
        have hw : Wk kd2 (xs.getD j []) := hwx _ (List.mem_of_getElem? hget)
        obtain ⟨f1, f2, f3⟩ := flat_split hxl hj
        have hflen := flatten_length hxl
        unfold storeTo at hs
        split at hs
        · rename_i zs n hzs hn
          split at hs
          · rename_i hc
            cases hs
            have hdl := cellsSV_DV hzs (EV x)
            have hyl := hdl.length
            rw [mkS_length] at hc
            have hyc : (ev x).cells.toList.length = n := hyl.trans hc.1
            have hsz : (ev x).cells.size = n := (Array.length_toList (xs := (ev x).cells)).symm.trans hyc
            have hd2 := ((hw.DL (ρ := ρ)).take of).append hdl |>.append ((hw.DL (ρ := ρ)).drop (of + n))
            obtain ⟨hve, hvw⟩ := elemK_ok hv' hd2
            have hjl : (j + 1) * kd2.length ≤ xs.length * kd2.length := Nat.mul_le_mul_right _ hj
            rw [Nat.add_mul, Nat.one_mul] at hjl
            obtain ⟨cur, vs, hg0, hst, hO', hsb⟩ := hO.write (P := P) h4 (by omega) (zs := (ev x).cells.toList) (pos := j * kd2.length + of) (by omega) (DL_all_one hc.2.2 hdl)
            have hX2 : (xs.getD j []).length = kd2.length := hw.length
            have hnew : xs.flatten.take (j * kd2.length + of) ++ (ev x).cells.toList ++ xs.flatten.drop (j * kd2.length + of + (ev x).cells.toList.length) = (xs.set j v).flatten := by
              rw [f3, f1, ← hve, hyc]
              rw [List.take_append, f2, List.take_of_length_le (l := (xs.take j).flatten) (by rw [f2]; omega), show j * kd2.length + of - j * kd2.length = of by omega, List.take_append_of_le_length (by omega)]
              rw [List.drop_append, f2, List.drop_of_length_le (l := (xs.take j).flatten) (by rw [f2]; omega), List.nil_append, show j * kd2.length + of + n - j * kd2.length = of + n by omega, List.drop_append_of_le_length (by omega)]
              simp only [List.append_assoc]
            rw [hnew] at hO'
            have hws : ∀ z ∈ xs.set j v, Wk kd2 z := fun z hz => by
              rcases List.mem_or_eq_of_mem_set hz with h1 | h1
              · exact hwx z h1
              · rw [h1]; exact hvw
            have hrun : (storeVar t ⟨b, off + (j * kd2.length + of), none⟩ (ev x)).run P w = .ok () (w.setRow b vs) := by
              simp only [storeVar, Sem.run_bind, szOf_run hn, Result.andThen_ok, hsz, ne_eq, not_true, if_false]
              exact hst
            have htg : famB kf none ys.toList (k * kf.length + o') b := ⟨by rw [(flat_ix hol).1]; simp [isSl, hko], by simp, _, hy, hsb⟩
            have htk : takes ρ g (.fam kf css none) b := ⟨q, hq, ys, hqv, _, htg⟩
            have hOw := D.own g _ b hg htk
            have hel : (css.getD k []).length = kf.length := F.els _ (by rw [List.getD_eq_getElem?_getD, List.getElem?_eq_getElem hk]; exact List.getElem_mem _)
            have FF : FamY (w.setRow b vs) kf (css.set k ((css.getD k []).set o' (xs.set j v))) none ys.toList := by
              refine ⟨F.pos, by rw [List.length_set]; exact F.len, fun z hz => ?_, fun k' o2 q' c' y' hk' hq' hc' hy' => ?_, F.apart⟩
              · rcases List.mem_or_eq_of_mem_set hz with h1 | h1
                · exact F.els z h1
                · rw [h1, List.length_set]; exact hel
              · rw [List.length_set] at hk'
                have ho2 := (List.getElem?_eq_some_iff.1 hq').1
                by_cases hkk : k' = k ∧ o2 = o'
                · obtain ⟨rfl, rfl⟩ := hkk
                  rw [hko] at hq'; cases hq'
                  rw [List.getD_eq_getElem?_getD, List.getElem?_set_self hk, Option.getD_some, List.getElem?_set_self (by omega)] at hc'
                  cases hc'
                  rw [hy] at hy'; cases hy'
                  exact ⟨⟨_, _, _, h4⟩, hk0, fun _ => ⟨hws, by rw [List.length_set]; exact hO'⟩⟩
                · have hc2 : (css.getD k' [])[o2]? = some c' := by
                    by_cases e1 : k' = k
                    · subst e1
                      rw [List.getD_eq_getElem?_getD, List.getElem?_set_self hk, Option.getD_some, List.getElem?_set_ne (fun e2 => hkk ⟨rfl, e2.symm⟩)] at hc'
                      exact hc'
                    · rw [List.getD_eq_getElem?_getD, List.getElem?_set_ne (fun e2 => e1 e2.symm), ← List.getD_eq_getElem?_getD] at hc'
                      exact hc'
                  have := F.cell k' o2 q' c' y' hk' hq' hc2 hy'
                  cases q' with
                  | k r => exact this
                  | sl el' kd' =>
                    refine ⟨this.1, this.2.1, fun hl => ⟨(this.2.2 hl).1, (this.2.2 hl).2.keep fun b' hb' => setRow_other w b b' _ fun e2 => ?_⟩⟩
                    subst e2
                    have h9 := F.apart _ _ b' htg ⟨by rw [(flat_ix ho2).1]; simp [isSl, hq'], by simp, y', hy', hb'⟩
                    have e3 := (flat_ix (k := k) hol).1
                    have e4 := (flat_ix (k := k') ho2).1
                    have e5 := (flat_ix (k := k) hol).2
                    have e6 := (flat_ix (k := k') ho2).2
                    rw [h9] at e3 e5
                    exact hkk ⟨e6.symm.trans e5, e4.symm.trans e3⟩
            have hlt := (List.getElem?_eq_some_iff.1 hg).1
            refine ⟨undef, w.setRow b vs, ρ, .inr ⟨?_, rfl⟩, Ext.refl _, by simp [DV], ?_⟩
            · simp only [execOp, ho, Instr.storeAt, h5, Sem.run_bind, sureAddr_run, Result.andThen_ok, hpb, Nat.add_assoc, hrun]
              rfl
            · refine D.put g _ (Nat.le_of_lt hlt) (Ext.refl _) (fun _ _ h => h) ⟨rfl, rfl, rfl, by simp, Stat.of_other hg0 (fun _ => by simp) fun j hj => setRow_other w b j _ hj⟩
                (fun j hj => setRow_other w _ j _ (fun e => hOw.1 (e ▸ hj))) (fun j c' j' hj hc' ht => setRow_other w _ j' _ (fun e => by subst e; exact D.apart j g c' _ _ hj hc' hg ht htk)) ⟨q, hq, hqb, ys, hqv, FF⟩ ?_
              intro n' hn'
              have hn2 : takes ρ g (.fam kf css none) n' := hn'
              exact ⟨(D.own g _ n' hg hn2).1, by simpa using (D.own g _ n' hg hn2).2, fun j c' hj hc' ht => D.apart j g c' _ _ hj hc' hg ht hn2⟩
          · cases hs
        · cases hs
      · cases hkf
    · cases h
  · cases h

theorem cellsF_v (h h' : List Blk) : ∀ (ks : List Kf) (zl : List Value), cellsF h ks (zl.map .v) = cellsF h' ks (zl.map .v)
  | [], [] => rfl
  | [], _ :: _ => rfl
  | _ :: _, [] => rfl
  | q :: ks, y :: zl => by
    simp only [List.map_cons, cellsF]
    rw [cellsF_v h h' ks zl]
    have e : cellF h q (.v y) = cellF h' q (.v y) := by
      cases q with
      | k r => rfl
      | sl el kd =>
        cases y <;> try rfl
        rename_i a n c
        cases a <;> cases n <;> cases c <;> rfl
    rw [e]

theorem ok_makeF {t : TypeId} {l c : Operand} (ho : o.op = .makeSlice t l c) (h : makeF P t (e l) (e c) nx = some r) (hneed : allNeed r.need) (EV : ∀ x, DV ρ (e x) (ev x)) (D : DH E ρ hp w) (f : Free hp nx) : Went P E ρ hp w o ev r := by
  have hMx : maxLen = 9223372036854775807 := by decide
  unfold makeF at h
  split at h
  · rename_i el hu
    split at h
    · rename_i kf bytes z kl n _ _ kc m _ _ hrow hz hn hm
      split at h
      · rename_i cs js hcs
        cases h
        simp only [allNeed, Bool.and_eq_true, decide_eq_true_eq, and_true] at hneed
        obtain ⟨h1, rfl, h3⟩ := hneed
        obtain ⟨i, z0, hi, hz0, hsz, hby, hpos, hzs, hb0, hoth⟩ := famTy_ok hrow
        have hnv := (intOf_ev hn EV).1
        have hcv := (intOf_ev hm EV).1
        obtain ⟨k, rfl⟩ := Int.eq_ofNat_of_zero_le h1
        have hz' : z = z0.cells.toList.map .v := by
          simp only [zeroSV, hi, Option.bind_some, hz0, Option.map_some, Option.some.injEq] at hz
          exact hz.symm
        subst hz'
        have D0 : DH E ρ (List.replicate hp.length .dead) w := D.forget (by simp) fun i b hb => by
          rw [List.getElem?_replicate] at hb
          split at hb
          · cases hb; exact .inr rfl
          · cases hb
        have hcs' : cellsF (List.replicate hp.length .dead) kf (z0.cells.toList.map .v) = some (cs, js) := (cellsF_v _ _ _ _).trans hcs
        obtain ⟨a1, a2, a3, a4, a5, a6⟩ := cellsF_ok D0 hcs' (DL_map_v _)
        have hjs : js = [] := by
          cases js with
          | nil => rfl
          | cons j js =>
            obtain ⟨_, _, _, hj⟩ := a5 j (by simp)
            rw [List.getElem?_replicate] at hj
            split at hj <;> cases hj
        subst hjs
        have F1 := FamY.one (w := w) hpos a1 a2 a3 (a6 List.nodup_nil)
        have hno : ∀ j b, ¬ famB kf none z0.cells.toList j b := by
          rintro j b ⟨h1, _, y, hy, hb⟩
          have hlt := (List.getElem?_eq_some_iff.1 hy).1
          rw [Nat.mod_eq_of_lt (by omega)] at h1
          obtain ⟨s, hs, _⟩ := a4 j y b h1 hy hb
          cases hs
        obtain ⟨FR, hnoR⟩ := FamY.replicate F1 hno k
        have hkb : k * bytes ≤ 140737488355328 := by
          have : ((k * bytes : Nat) : Int) ≤ 140737488355328 := by rw [Int.natCast_mul]; exact h3
          omega
        have hkm : k ≤ k * bytes := Nat.le_mul_of_pos_right k hb0
        obtain ⟨w', hr, hown, hg⟩ := run_make_full (P := P) w 0 t el i z0 kf.length hu hi hz0 hsz kl kc k (by rw [hby, Nat.mul_comm]; omega) (by omega) (Nat.zero_le _)
        have hrep := made_repeat z0.cells (by omega) k
        have hex : (execOp ev o).run P w = .ok (.value (.slice (some ⟨w.heap.size, 0, none⟩) k k)) w' := by
          simp [execOp, ho, hnv, hcv, hr]
        have hfl : (List.replicate k z0.cells.toList).flatten = repeatL k z0.cells.toList := rfl
        have hO : OwnP w' el kf.length (.slice (some ⟨w.heap.size, 0, none⟩) k k) k (List.replicate k z0.cells.toList).flatten := by
          refine ⟨by have := FR.len; simpa using this, ?_⟩
          cases k with
          | zero => exact .inl ⟨_, rfl, rfl⟩
          | succ k =>
            rcases hown.2 with ⟨e1, _⟩ | ⟨g, cap, cur, e1, _, k1, k2, k3, k4, k5⟩
            · cases e1
            · cases e1
              refine .inr ⟨_, 0, k, cur, rfl, k1, Nat.le_refl _, k3, by omega, ?_⟩
              rw [List.drop_zero, k5, hfl, ← hrep, hzs, hsz]
        have f1 : Free1 hp nx 2 := f.to1 (by omega)
        have D2 := D.newFam f1 FR fun j b hb => absurd hb (hnoR j b)
        have D3 := D2.newRR (g := nx) (w' := w') (el := el) (v := .slice (some ⟨w.heap.size, 0, none⟩) k k) f1.next (upd_same _ _) rfl hpos (by simpa using hO) ⟨hg.os, hg.tape, hg.output, hg.size, Stat.of_block fun j hj => hg.block j hj (by simp)⟩ (fun j hj => .inl (hg.block j hj (by simp))) (fun j hj => .inl (by
          cases k with
          | zero => simp [sliceB] at hj
          | succ k => simp only [sliceB, Option.some.injEq] at hj; omega))
        have x1 := upd_ext (l := ⟨kf.length, .tuple (List.replicate k z0.cells.toList).flatten.toArray⟩) (f1.none D)
        have x2 := upd_ext (l := ⟨kf.length, .slice (some ⟨w.heap.size, 0, none⟩) k k⟩) (Free1.none (m := 0) f1.next D2)
        refine ⟨_, w', _, .inl hex, x1.trans x2, ?_, D3⟩
        simp only [DV]; exact ⟨_, _, _, _, upd_same _ _, rfl, rfl⟩
      · cases h
    · cases h
  · cases h

theorem opW_ok (h : opW P o e hp nx = some r) (hneed : allNeed r.need) (EV : ∀ x, DV ρ (e x) (ev x)) (D : DH E ρ hp w) (f : Free hp nx) : Went P E ρ hp w o ev r := by
  unfold opW at h
  split at h
  · rename_i c ho
    split at h
    · rename_i s x t tx hc ha hty
      obtain ⟨s', x', ha', rfl, rfl⟩ := map_two ha
      exact ok_appW ho hc ha' hty h hneed EV D f
    · rename_i s t hc ha hty
      obtain ⟨x, ha', rfl⟩ := map_one ha
      exact ok_lenF ho hc ha' hty h EV D
    · cases h
  · rename_i t a ho
    split at h
    · rename_i i k of ha; exact ok_loadF ho ha h EV D f
    · cases h
  · rename_i t a x ho
    split at h
    · rename_i i k of ha
      split at h
      · rename_i q hq; cases h; exact ok_storeF ho ha hq hneed EV D f
      · exact ok_storeA ho ha h EV D
    · cases h
  · rename_i t x ix ho
    split at h
    · rename_i el i kk n _ _ hu hx hix
      split at h
      · rename_i el' g kf css lent sz hf hsz
        obtain ⟨hc, h⟩ := cond_none h
        simp only [decide_eq_true_eq] at hc
        cases h
        exact ok_idxF ho (intOf_DV hix (EV ix)).1 hu hsz hc hf (inB_iff hneed.1) hx EV D
      · cases h
    · cases h
  · rename_i t l c ho; exact ok_makeF ho h hneed EV D f
  · cases h

end
end Go.Eng
