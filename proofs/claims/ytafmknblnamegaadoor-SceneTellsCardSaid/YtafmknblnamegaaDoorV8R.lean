/- The engine: slices that grow, and slices that are read alone. No condition. -/
import Derived.Test.YtafmknblnamegaaDoorV8C
import Derived.Lib.AppendStr
namespace Go.Eng
open Go.RowKit (Below)

/-! ### Kinds of elements -/

/-- Fields side by side: their kinds, and where they begin. -/
def catF {κ : Type} (g : TypeId → Option (List κ)) (cells : TypeId → Nat) (tot : Nat) : List Field → Option (Nat × List κ)
  | [] => some (tot, [])
  | f :: fs => match g f.type, catF g cells tot fs with
    | some a, some (off, b) => if off = f.offset + a.length ∧ a.length = cells f.type then some (f.offset, a ++ b) else none
    | _, _ => none

/-- The plain cells of a type. -/
def kdT (P : Program) : Nat → TypeId → Option (List Kd)
  | 0, _ => none
  | n + 1, t => match P.underlying t with
    | some .bool => some [.bool]
    | some (.int k) => some [.int k]
    | some .string => some [.str]
    | some (.struct fs) => (catF (kdT P n) P.cellsOf (P.cellsOf t) fs.toList).bind fun x => if x.1 = 0 then some x.2 else none
    | some (.array m e) => match kdT P n e with
      | some a => if a.length = P.cellsOf e ∧ P.cellsOf t = m * a.length then some (repeatL m a) else none
      | none => none
    | _ => none

def kdEq (a b : List Kd) : Bool := decide (a = b)
theorem kdEq_eq {a b : List Kd} (h : kdEq a b = true) : a = b := of_decide_eq_true h

/-- Of this kind for sure. -/
def kdOk : Kd → SV → Bool
  | .int k, .i k' _ lo hi => decide (k' = k) && inK k lo hi
  | .int k, .v (.int k' n) => decide (k' = k) && inK k n n
  | .bool, .b _ => true
  | .bool, .v (.bool _) => true
  | .str, .s _ hi => decide (hi ≤ 9223372036854775807)
  | .str, .v (.string x) => decide ((x.size : Int) ≤ 9223372036854775807)
  | _, _ => false

def kdsOk : List Kd → List SV → Bool
  | [], [] => true
  | k :: ks, s :: ss => kdOk k s && kdsOk ks ss
  | _, _ => false

section
variable {P : Program} {E : Env} {ρ : Rho} {w : World}

theorem kdOk_DV {k : Kd} {s : SV} {y : Value} (h : kdOk k s = true) (hd : DV ρ s y) : KOk k y := by
  have hm : maxLen = 9223372036854775807 := by decide
  unfold kdOk at h
  split at h
  · simp only [Bool.and_eq_true, decide_eq_true_eq] at h
    obtain ⟨rfl, h⟩ := h
    have := inK_iff h
    simp only [DV] at hd
    obtain ⟨rfl, h1, h2⟩ := hd
    exact ⟨_, rfl, by omega, by omega⟩
  · simp only [Bool.and_eq_true, decide_eq_true_eq] at h
    obtain ⟨rfl, h⟩ := h
    have := inK_iff h
    simp only [DV] at hd
    subst hd
    exact ⟨_, rfl, this.1, this.2⟩
  · simp only [DV] at hd; subst hd; exact ⟨_, rfl⟩
  · simp only [DV] at hd; subst hd; exact ⟨_, rfl⟩
  · simp only [decide_eq_true_eq] at h
    simp only [DV] at hd
    obtain ⟨rfl, h1⟩ := hd
    exact ⟨_, rfl, by omega⟩
  · simp only [decide_eq_true_eq] at h
    simp only [DV] at hd
    subst hd
    exact ⟨_, rfl, by omega⟩
  · cases h

theorem kdsOk_DL : ∀ {ks : List Kd} {ss : List SV} {ys : List Value}, kdsOk ks ss = true → DL ρ ss ys → Fa ks ys
  | [], [], _, _, hd => by simp only [DL] at hd; subst hd; trivial
  | k :: ks, s :: ss, ys, h, hd => by
    simp only [kdsOk, Bool.and_eq_true] at h
    simp only [DL] at hd
    obtain ⟨y, t, rfl, hy, ht⟩ := hd
    exact ⟨kdOk_DV h.1 hy, kdsOk_DL h.2 ht⟩
  | [], _ :: _, _, h, _ => by simp [kdsOk] at h
  | _ :: _, [], _, h, _ => by simp [kdsOk] at h

/-- Cells as an element. -/
def elemK (kd : List Kd) (cs : List SV) : Option (List Value) := cond (kdsOk kd cs) (toVals cs) none
theorem elemK_ok {kd : List Kd} {cs : List SV} {x : List Value} {ys : List Value} (h : elemK kd cs = some x) (hd : DL ρ cs ys) : ys = x ∧ Wk kd x := by
  unfold elemK at h
  cases hk : kdsOk kd cs with
  | false => rw [hk] at h; cases h
  | true =>
    rw [hk] at h
    have := toVals_DL _ _ _ h hd
    subst this
    exact ⟨rfl, kdsOk_DL hk hd⟩

/-- Cells as elements. -/
def chunkK (kd : List Kd) : Nat → List SV → Option (List (List Value))
  | 0, _ => some []
  | n + 1, cs => match elemK kd (cs.take kd.length), chunkK kd n (cs.drop kd.length) with
    | some a, some r => some (a :: r)
    | _, _ => none
theorem chunkK_ok {kd : List Kd} : ∀ {n : Nat} {cs : List SV} {xs : List (List Value)} {ys : List Value}, chunkK kd n cs = some xs → DL ρ cs ys →
    xs.length = n ∧ (∀ x ∈ xs, Wk kd x) ∧ xs.flatten = ys.take (n * kd.length) ∧ n * kd.length ≤ ys.length
  | 0, cs, xs, ys, h, _ => by simp only [chunkK, Option.some.injEq] at h; subst h; simp
  | n + 1, cs, xs, ys, h, hd => by
    simp only [chunkK] at h
    split at h
    · rename_i a r ha hr
      cases h
      obtain ⟨h1, h2⟩ := elemK_ok ha (hd.take kd.length)
      obtain ⟨k1, k2, k3, k4⟩ := chunkK_ok hr (hd.drop kd.length)
      have hl := h2.length
      subst h1
      have hle : kd.length ≤ ys.length := by
        have := hl; rw [List.length_take] at this; omega
      refine ⟨by simp [k1], ?_, ?_, ?_⟩
      · intro x hx
        rcases List.mem_cons.1 hx with rfl | hx
        · exact h2
        · exact k2 x hx
      · rw [List.flatten_cons, k3, Nat.add_mul, Nat.one_mul, Nat.add_comm, List.take_add]
      · rw [List.length_drop] at k4
        rw [Nat.add_mul]; omega
    · cases h

/-! ### What a slice's elements are -/

/-- A string's bytes as elements. -/
def strEl (x : ByteArray) : List (List Value) := x.data.toList.map fun b => [.int .u8 b.toNat]

/-- Cell o of a family's elements is a slice of these. -/
def kfAt (kf : List Kf) (o : Nat) (kd : List Kd) : Bool := match kf[o]? with
  | some (.sl _ kd') => kdEq kd' kd
  | _ => false
/-- The elements of a slot. -/
def slotXs (h : List Blk) (i : Nat) : Option (List Kd × List (List Value)) := match h[i]? with
  | some (.row _ kd xs) => some (kd, xs)
  | some (.ror kd xs _) => some (kd, xs)
  | some (.ali g k o kd) => match h[g]? with
    | some (.fam kf css none) => cond (kfAt kf o kd) (some (kd, (css.getD k []).getD o [])) none
    | _ => none
  | _ => none
def viewS (kd : List Kd) (s : SV) (h : List Blk) : Option (List (List Value)) := match s with
  | .row i => match slotXs h i with
    | some (kd', xs) => cond (kdEq kd' kd) (some xs) none
    | none => none
  | .part i lo n _ => match slotXs h i with
    | some (kd', xs) => cond (kdEq kd' kd) (some ((xs.drop lo).take n)) none
    | none => none
  | .sl i o n _ => match h[i]? with
    | some (.cells _ cs) => cond (Nat.ble n 16777216) (chunkK kd n (cs.drop o)) none
    | some (.rcells cs) => cond (Nat.ble n 16777216) (chunkK kd n (cs.drop o)) none
    | _ => none
  | .emp => some []
  | .v (.slice none 0 0) => some []
  | _ => none

/-- It reads as these elements. -/
def Reads (w : World) (kd : List Kd) (y : Value) (xs : List (List Value)) : Prop :=
  ∃ a c, y = .slice a xs.length c ∧ xs.length ≤ c ∧ xs.length ≤ maxLen ∧ (∀ x ∈ xs, Wk kd x) ∧
    (xs = [] ∨ ∃ g off, a = some ⟨g, off, none⟩ ∧ ∀ j u, xs.flatten[j]? = some u → w.cell? ⟨g, off + j, none⟩ = some u)

theorem flatten_length {xs : List (List Value)} {sz : Nat} (h : ∀ x ∈ xs, x.length = sz) : xs.flatten.length = xs.length * sz := by
  induction xs with
  | nil => simp
  | cons a r ih =>
    rw [List.flatten_cons, List.length_append, h a (by simp), ih fun x hx => h x (by simp [hx]), List.length_cons, Nat.add_mul]; omega

theorem drop_flatten {sz : Nat} : ∀ (lo : Nat) (xs : List (List Value)), (∀ x ∈ xs, x.length = sz) → (xs.drop lo).flatten = xs.flatten.drop (lo * sz)
  | 0, _, _ => by simp
  | lo + 1, [], _ => by simp
  | lo + 1, a :: r, h => by
    have ha := h a (by simp)
    rw [List.drop_succ_cons, drop_flatten lo r fun x hx => h x (by simp [hx]), List.flatten_cons, Nat.add_mul, Nat.one_mul, ← ha, Nat.add_comm, ← List.drop_drop]
    simp

theorem reads_of_own {e : TypeId} {kd : List Kd} {v : Value} {xs : List (List Value)} (h3 : ∀ x ∈ xs, Wk kd x) (h4 : OwnP w e kd.length v xs.length xs.flatten) : Reads w kd v xs := by
  rcases h4.2 with ⟨a, e1, e2⟩ | ⟨g, off, cap, cur, e1, hg, k1, k2, k3, k4⟩
  · have : xs = [] := List.eq_nil_of_length_eq_zero e2
    subst this
    exact ⟨a, 0, e1, Nat.le_refl _, Nat.zero_le _, h3, .inl rfl⟩
  · refine ⟨_, _, e1, k1, by omega, h3, .inr ⟨g, off, rfl, fun j u hu => ?_⟩⟩
    rw [cell_of_row w g (off + j) cur e _ hg]
    rw [← k4, List.getElem?_take] at hu
    split at hu
    · rw [List.getElem?_drop] at hu; simpa using hu
    · cases hu

theorem slotXs_row {h : List Blk} {i : Nat} {e : TypeId} {kd : List Kd} {xs : List (List Value)} (hi : h[i]? = some (.row e kd xs)) : slotXs h i = some (kd, xs) := by simp [slotXs, hi]
theorem slotXs_ror {h : List Blk} {i : Nat} {f : Bool} {kd : List Kd} {xs : List (List Value)} (hi : h[i]? = some (.ror kd xs f)) : slotXs h i = some (kd, xs) := by simp [slotXs, hi]
theorem slotXs_ali {h : List Blk} {i g k o : Nat} {kd : List Kd} {xs : List (List Value)} {kd' : List Kd} (hi : h[i]? = some (.ali g k o kd')) (hs : slotXs h i = some (kd, xs)) :
    ∃ kf css el, h[g]? = some (.fam kf css none) ∧ kf[o]? = some (.sl el kd) ∧ kd' = kd ∧ xs = (css.getD k []).getD o [] := by
  unfold slotXs at hs
  rw [hi] at hs
  simp only at hs
  split at hs
  · rename_i kf css hg
    cases hc : kfAt kf o kd' with
    | false => rw [hc] at hs; cases hs
    | true =>
      rw [hc] at hs
      cases hs
      unfold kfAt at hc
      split at hc
      · rename_i el kd2 ho
        have := kdEq_eq hc
        subst this
        exact ⟨kf, css, el, hg, ho, rfl, rfl⟩
      · cases hc
  · cases hs
/-- What an alias is. -/
theorem ali_own {hp : List Blk} (D : DH E ρ hp w) {i g k o : Nat} {kd : List Kd} {kf : List Kf} {css : List (List (List (List Value)))} {el : TypeId} (hi : hp[i]? = some (.ali g k o kd)) (hg : hp[g]? = some (.fam kf css none)) (ho : kf[o]? = some (.sl el kd)) :
    ∃ p q, ρ i = some p ∧ p.block = kd.length ∧ 0 < kd.length ∧ k < css.length ∧ o < kf.length ∧ (css.getD k [])[o]? = some ((css.getD k []).getD o []) ∧ (∀ x ∈ (css.getD k []).getD o [], Wk kd x) ∧
      OwnP w el kd.length p.val ((css.getD k []).getD o []).length ((css.getD k []).getD o []).flatten ∧ ρ g = some q ∧ q.block = kf.length ∧ ∃ ys : Array Value, q.val = .tuple ys ∧ ys.toList[k * kf.length + o]? = some p.val ∧ FamY w kf css none ys.toList := by
  obtain ⟨p, q, hp', hq, hb, ys, hv, hy⟩ := D.ok i _ hi
  obtain ⟨q', hq', hqb, ys', hv', F⟩ := D.ok g _ hg
  rw [hq] at hq'; cases hq'
  rw [hv] at hv'; cases hv'
  rw [hqb] at hy
  have hol := (List.getElem?_eq_some_iff.1 ho).1
  have hlt := (List.getElem?_eq_some_iff.1 hy).1
  rw [F.len] at hlt
  have hk : k < css.length := by
    rcases Nat.lt_or_ge k css.length with h | h
    · exact h
    · have := Nat.mul_le_mul_right kf.length h
      omega
  have hel : (css.getD k []).length = kf.length := F.els _ (by rw [List.getD_eq_getElem?_getD, List.getElem?_eq_getElem hk]; exact List.getElem_mem _)
  have hc : (css.getD k [])[o]? = some ((css.getD k []).getD o []) := by
    rw [List.getD_eq_getElem?_getD (l := css.getD k []), List.getElem?_eq_getElem (by omega)]; rfl
  have := F.cell k o _ _ _ hk ho hc hy
  obtain ⟨h1, h2, h3⟩ := this
  obtain ⟨h3, h4⟩ := h3 (by simp)
  exact ⟨p, q, hp', hb, h2, hk, hol, hc, h3, h4, hq, hqb, ys, hv, hy, F⟩

/-- A slot's slice, as it reads. -/
theorem slot_reads {hp : List Blk} (D : DH E ρ hp w) {i : Nat} {kd : List Kd} {xs : List (List Value)} (h : slotXs hp i = some (kd, xs)) :
    ∃ p, ρ i = some p ∧ p.block = kd.length ∧ 0 < kd.length ∧ Reads w kd p.val xs := by
  have h0 := h
  unfold slotXs at h
  split at h
  · rename_i e kd' xs' hi
    cases h
    obtain ⟨p, hp', h1, h2, h3, h4⟩ := D.ok i _ hi
    exact ⟨p, hp', h1, h2, reads_of_own h3 h4⟩
  · rename_i kd' xs' f hi
    cases h
    obtain ⟨p, hp', h1, h2, a, c, e1, k1, _, k2, k3, k4⟩ := D.ok i _ hi
    refine ⟨p, hp', h1, h2, a, c, e1, k1, k2, k3, ?_⟩
    rcases k4 with k4 | ⟨b, off, rfl, hf, hr⟩
    · exact .inl k4
    · exact .inr ⟨b, off, rfl, fun j u hu => by rw [World.cell?_of_block (w := E.w0) (D.old b hf)]; exact hr j u hu⟩
  · rename_i g k o kd' hi
    obtain ⟨kf, css, el, hg, ho, rfl, rfl⟩ := slotXs_ali hi h0
    obtain ⟨p, q, h1, h2, h3, _, _, _, h4, h5, _⟩ := ali_own D hi hg ho
    exact ⟨p, h1, h2, h3, reads_of_own h4 h5⟩
  · cases h

theorem Reads.part {kd : List Kd} {y z : Value} {xs : List (List Value)} (h : Reads w kd y xs) {lo n : Nat} {a : Option Addr} {c : Nat} (hz : z = .slice a n c) (hc : n ≤ c) (hm : n ≤ maxLen)
    (hk : n = 0 ∨ ∃ g off m c0, y = .slice (some ⟨g, off, none⟩) m c0 ∧ a = some ⟨g, off + lo * kd.length, none⟩ ∧ lo + n ≤ m ∧ lo + c ≤ c0) : Reads w kd z ((xs.drop lo).take n) := by
  obtain ⟨b, d, e1, k1, k2, k3, k4⟩ := h
  rcases hk with rfl | ⟨g, off, m, c0, e2, rfl, l1, l2⟩
  · exact ⟨a, c, by simpa using hz, by simp, by simp, by simp, .inl (by simp)⟩
  · rw [e1] at e2
    cases e2
    have hlen : ((xs.drop lo).take n).length = n := by simp; omega
    refine ⟨_, c, by rw [hlen]; exact hz, by omega, by omega, fun x hx => k3 x (List.mem_of_mem_drop (List.mem_of_mem_take hx)), ?_⟩
    rcases k4 with rfl | ⟨g', off', e3, k5⟩
    · left; simp
    · cases e3
      refine .inr ⟨g, _, rfl, fun j u hu => ?_⟩
      have hs : ∀ x ∈ xs, x.length = kd.length := fun x hx => (k3 x hx).length
      have h1 : ((xs.drop lo).take n).flatten <+: (xs.drop lo).flatten := by
        refine ⟨((xs.drop lo).drop n).flatten, ?_⟩
        rw [← List.flatten_append, List.take_append_drop]
      obtain ⟨t, ht⟩ := h1
      have hu2 : (xs.drop lo).flatten[j]? = some u := by
        rw [← ht, List.getElem?_append_left (List.getElem?_eq_some_iff.1 hu).1]; exact hu
      rw [drop_flatten lo xs hs, List.getElem?_drop] at hu2
      rw [Nat.add_assoc]
      exact k5 _ u hu2

theorem view_ok {hp : List Blk} (D : DH E ρ hp w) {kd : List Kd} {s : SV} {y : Value} {xs : List (List Value)} (h : viewS kd s hp = some xs) (hd : DV ρ s y) : Reads w kd y xs := by
  have hm : maxLen = 9223372036854775807 := by decide
  unfold viewS at h
  split at h
  · rename_i i
    simp only [DV] at hd
    obtain ⟨p, a, n, c, hp', hv, _⟩ := hd
    have key : ∀ kd' ys, slotXs hp i = some (kd', ys) → cond (kdEq kd' kd) (some ys) none = some xs → Reads w kd y xs := fun kd' ys hs h => by
      cases hk : kdEq kd' kd with
      | false => rw [hk] at h; cases h
      | true =>
        rw [hk] at h
        cases h
        have := kdEq_eq hk
        subst this
        obtain ⟨q, hq, _, _, hr⟩ := slot_reads D hs
        rw [hp'] at hq; cases hq
        rw [hv]; exact hr
    split at h
    · rename_i kd' ys hi; exact key kd' ys hi h
    · cases h
  · rename_i i lo n f
    simp only [DV] at hd
    obtain ⟨p, a, c, hp', hv, h1, h2, _, h3⟩ := hd
    have key : ∀ kd' ys, slotXs hp i = some (kd', ys) → cond (kdEq kd' kd) (some ((ys.drop lo).take n)) none = some xs → Reads w kd y xs := fun kd' ys hs h => by
      cases hk : kdEq kd' kd with
      | false => rw [hk] at h; cases h
      | true =>
        rw [hk] at h
        cases h
        have := kdEq_eq hk
        subst this
        obtain ⟨q, hq, hb, _, hr⟩ := slot_reads D hs
        rw [hp'] at hq; cases hq
        rw [hb] at h3
        exact hr.part hv h1 h2 h3
    split at h
    · rename_i kd' ys hi; exact key kd' ys hi h
    · cases h
  · rename_i i o n c
    simp only [DV] at hd
    obtain ⟨p, hp', hnc, hv⟩ := hd
    have key : ∀ (cs : List SV) (vs : Array Value) (e : TypeId), w.heap[p.block]? = some (.cells vs e (0, 0)) → DL ρ cs vs.toList → cond (Nat.ble n 16777216) (chunkK kd n (cs.drop o)) none = some xs → Reads w kd y xs := fun cs vs e hb hl h => by
      cases hk : Nat.ble n 16777216 with
      | false => rw [hk] at h; cases h
      | true =>
        rw [hk] at h
        have := Nat.le_of_ble_eq_true hk
        obtain ⟨k1, k2, k3, k4⟩ := chunkK_ok h (hl.drop o)
        refine ⟨_, c, by rw [k1]; exact hv, by omega, by omega, k2, .inr ⟨p.block, o, rfl, fun j u hu => ?_⟩⟩
        rw [cell_of_row w p.block (o + j) vs e _ hb]
        rw [k3, List.getElem?_take] at hu
        split at hu
        · rw [List.getElem?_drop] at hu; simpa using hu
        · cases hu
    split at h
    · rename_i e cs hi
      obtain ⟨q, vs, hq, hb, hl⟩ := D.ok i _ hi
      rw [hp'] at hq; cases hq
      exact key cs vs e hb hl h
    · rename_i cs hi
      obtain ⟨q, vs, e, hq, hf, hb, hl⟩ := D.ok i _ hi
      rw [hp'] at hq; cases hq
      exact key cs vs e ((D.old _ hf).trans hb) hl h
    · cases h
  · cases h
    simp only [DV] at hd
    obtain ⟨a, rfl⟩ := hd
    exact ⟨a, 0, rfl, Nat.le_refl _, Nat.zero_le _, by simp, .inl rfl⟩
  · cases h
    simp only [DV] at hd
    subst hd
    exact ⟨none, 0, rfl, Nat.le_refl _, Nat.zero_le _, by simp, .inl rfl⟩
  · cases h

theorem Wk_one {kd : List Kd} {x : List Value} (h : Wk kd x) (hk : ∀ k ∈ kd, k ≠ .other) : ∀ u ∈ x, u.oneCell' = true := by
  unfold Wk at h
  induction kd generalizing x with
  | nil => cases x with
    | nil => simp
    | cons => exact h.elim
  | cons k ks ih => cases x with
    | nil => exact h.elim
    | cons v vs =>
      intro u hu
      rcases List.mem_cons.1 hu with rfl | hu
      · have h1 := h.1
        cases k with
        | int => obtain ⟨n, rfl, _⟩ := h1; rfl
        | bool => obtain ⟨n, rfl⟩ := h1; rfl
        | str => obtain ⟨n, rfl, _⟩ := h1; rfl
        | other => exact absurd rfl (hk _ (by simp))
      · exact ih h.2 (fun k hk' => hk k (by simp [hk'])) u hu

/-! ### Appending -/

/-- What is handed to append, as it is read: so many elements, these cells. -/
def Src (P : Program) (w : World) (sz : Nat) (x : Value) (m : Nat) (news : List Value) : Prop :=
  (Builtin.lenOf x).run P w = .ok m w ∧ news.length = m * sz ∧ (∀ u ∈ news, u.oneCell' = true) ∧ ∀ w' : World, w'.heap = w.heap → (Builtin.firstCells sz m x).run P w' = .ok news.toArray w'

theorem cell?_heap {w w' : World} (h : w'.heap = w.heap) (a : Addr) : w'.cell? a = w.cell? a := by simp [World.cell?, h]

theorem src_of_reads {kd : List Kd} {y : Value} {xs : List (List Value)} (h : Reads w kd y xs) (hk : ∀ k ∈ kd, k ≠ .other) : Src P w kd.length y xs.length xs.flatten := by
  obtain ⟨a, c, rfl, k1, k2, k3, k4⟩ := h
  have hl := flatten_length fun x hx => (k3 x hx).length
  refine ⟨rfl, hl, ?_, fun w' hw => ?_⟩
  · intro u hu
    obtain ⟨x, hx, hu⟩ := List.mem_flatten.1 hu
    exact Wk_one (k3 x hx) hk u hu
  · rcases k4 with rfl | ⟨g, off, rfl, k5⟩
    · cases a <;> simp [Builtin.firstCells, loadCells, loadCellsFrom]
    · refine run_firstCells_some w' kd.length xs.length ⟨g, off, none⟩ _ _ _ hl fun j v hv => ?_
      rw [addr_add, cell?_heap hw]; exact k5 j v hv

theorem strEl_flatten (x : ByteArray) : (strEl x).flatten = Lib.strCells x := by
  unfold strEl Lib.strCells
  induction x.data.toList with
  | nil => rfl
  | cons a r ih => simp [ih]
theorem strEl_length (x : ByteArray) : (strEl x).length = x.size := by simp [strEl]
theorem strEl_wk (x : ByteArray) : ∀ y ∈ strEl x, Wk [.int .u8] y := by
  intro y hy
  simp only [strEl, List.mem_map] at hy
  obtain ⟨b, _, rfl⟩ := hy
  have := b.toNat_lt
  refine ⟨⟨_, rfl, ?_, ?_⟩, trivial⟩
  · show (0 : Int) ≤ _; omega
  · show _ ≤ (255 : Int); omega
theorem src_of_string (x : ByteArray) : Src P w 1 (.string x) x.size (Lib.strCells x) :=
  ⟨rfl, by rw [Lib.strCells_length]; omega, Lib.strCells_oneCell x, fun w' _ => Lib.run_firstCells_string w' 1 x⟩

/-- What it becomes. -/
theorem run_append_src {t tx ty el : TypeId} {i : TypeInfo} {z : Value} {ux : TypeDesc} (ht : P.underlying t = some (.slice el)) (hux : P.underlying tx = some ux) (hni : ∀ k, ux ≠ .int k) (hi : P.info? el = some i) (hz : i.zero = some z)
    (hzs : z.cells.size = i.size) {x : Value} {m : Nat} {news : List Value} (hs : Src P w i.size x m news)
    {base : Option Addr} {n cap : Nat} {olds : List Value} (hlo : olds.length = n * i.size) (hold : n = 0 ∨ ∃ g off, base = some ⟨g, off, none⟩ ∧ ∀ j u, olds[j]? = some u → w.cell? ⟨g, off + j, none⟩ = some u)
    (hroom : m ≠ 0 → n + m ≤ cap → ∃ g off cur, base = some ⟨g, off, none⟩ ∧ w.heap[g]? = some (.cells cur el (0, 0)) ∧ off + cap * i.size ≤ cur.size)
    (h63 : n + m ≤ maxLen) (hbytes : (n + m) * i.bytes ≤ 140737488355328) :
    (m = 0 ∧ n ≤ cap ∧ (Builtin.append_ #[t, tx] ty #[.slice base n cap, x]).run P w = .ok (.slice base n cap) w) ∨
    (m ≠ 0 ∧ n + m ≤ cap ∧ ∃ g off cur, base = some ⟨g, off, none⟩ ∧ w.heap[g]? = some (.cells cur el (0, 0)) ∧ off + cap * i.size ≤ cur.size ∧
      (Builtin.append_ #[t, tx] ty #[.slice base n cap, x]).run P w = .ok (.slice base (n + m) cap) (w.setRow g (cur.toList.take (off + n * i.size) ++ news ++ cur.toList.drop (off + n * i.size + news.length)).toArray)) ∨
    (cap < n + m ∧ ∃ c rest, n + m ≤ c ∧ c ≤ maxLen ∧ rest.length = (c - (n + m)) * i.size ∧
      (Builtin.append_ #[t, tx] ty #[.slice base n cap, x]).run P w = .ok (.slice (some ⟨w.heap.size, 0, none⟩) (n + m) c) (w.drew.alloc (.cells (olds ++ news ++ rest).toArray el))) := by
  obtain ⟨hlen, hnl, hone, hrd⟩ := hs
  have hz0 : (match ux with | .int _ => true | _ => false) = false := by cases ux <;> first | rfl | exact absurd rfl (hni _)
  have hM : maxLen = 9223372036854775807 := by decide
  by_cases hm : n + m ≤ cap
  · by_cases h0 : m = 0
    · subst h0
      have hn0 : news = [] := List.eq_nil_of_length_eq_zero (by simpa using hnl)
      subst hn0
      have hf := hrd w rfl
      left
      refine ⟨rfl, by omega, ?_⟩
      cases base with
      | none => simp [Builtin.append_, run_underlying ht, run_underlying hux, sizeOf, typeInfo, hi, hz0, hlen, hf]; omega
      | some a => simp [Builtin.append_, run_underlying ht, run_underlying hux, sizeOf, typeInfo, hi, hz0, hlen, hf, storeCells]; omega
    · obtain ⟨g, off, cur, rfl, hg, hfit⟩ := hroom h0 hm
      right; left
      refine ⟨h0, hm, g, off, cur, rfl, hg, hfit, ?_⟩
      have hf := hrd w rfl
      have hle : (n + m) * i.size ≤ cap * i.size := Nat.mul_le_mul_right _ hm
      rw [Nat.add_mul] at hle
      have hst := run_storeCells_at P g (off + n * i.size) el news 0 cur w hg (by omega) hone
      simp only [Nat.add_zero] at hst
      simp [Builtin.append_, run_underlying ht, run_underlying hux, sizeOf, typeInfo, hi, hz0, hlen, hm, hf, addr_add, hst]
  · right; right
    refine ⟨by omega, grownCap w (n + m) cap el, (Builtin.zeroCells z.cells (grownCap w (n + m) cap el - (n + m))).toList, grownCap_ge _ _ _ _, grownCap_le_maxLen _ _ _ _ h63, ?_, ?_⟩
    · rw [Array.length_toList, size_zeroCells, hzs]
    · have h63' : ¬ (9223372036854775807 < ((n : Int) + (m : Int))) := by omega
      have hfit := growslice_fits (need := n + m) (old := cap) (bytes := i.bytes) (by omega) hbytes
      have h48' : ¬ (281474976710656 < Builtin.nextslicecap (n + m) cap * i.bytes) := by omega
      have hf := hrd w.drew rfl
      have hfo : (Builtin.firstCells i.size n (.slice base n cap)).run P w.drew = .ok olds.toArray w.drew := by
        rcases hold with rfl | ⟨g, off, rfl, hc⟩
        · have : olds = [] := List.eq_nil_of_length_eq_zero (by simpa using hlo)
          subst this
          cases base <;> simp [Builtin.firstCells, loadCells, loadCellsFrom]
        · exact run_firstCells_some w.drew i.size n ⟨g, off, none⟩ n cap olds hlo fun j v hv => by rw [addr_add]; simpa using hc j v hv
      simp [Builtin.append_, run_underlying ht, run_underlying hux, sizeOf, typeInfo, zeroValue, hi, hz, hz0, hlen, hm, h63', h48', Question.forced, hf, hfo, newRow, grownCap]
      congr 2
      apply Array.ext'
      simp [List.append_assoc]

/-! ### A new slice's slot -/

theorem OwnP.lt {e : TypeId} {sz : Nat} {v : Value} {n : Nat} {xs : List Value} (h : OwnP w e sz v n xs) {b : Nat} (hb : sliceB v = some b) : b < w.heap.size := by
  rcases h.2 with ⟨a, rfl, _⟩ | ⟨g, off, cap, cur, rfl, hg, _⟩
  · cases a <;> simp [sliceB] at hb
  · simp only [sliceB, Option.some.injEq] at hb
    subst hb
    exact (Array.getElem?_eq_some_iff.1 hg).1

/-- Nobody but the slot that is given up has this block. -/
def Spare (E : Env) (ρ : Rho) (h : List Blk) (k : Nat) : Prop := ¬ E.fixed k ∧ ∀ j c, h[j]? = some c → ¬ takes ρ j c k

theorem DH.newRow {h : List Blk} (D : DH E ρ h w) {nx : Nat} (f : Free h nx) {el : TypeId} {kd : List Kd} {xs : List (List Value)} {v : Value} {w' : World} (hk : 0 < kd.length) (hw : ∀ x ∈ xs, Wk kd x)
    (own : OwnP w' el kd.length v xs.length xs.flatten) (hs : Same w w') (hchg : ∀ k, k < w.heap.size → w'.heap[k]? = w.heap[k]? ∨ Spare E ρ h k)
    (hblk : ∀ n, sliceB v = some n → w.heap.size ≤ n ∨ Spare E ρ h n) : DH E (upd ρ nx ⟨kd.length, v⟩) (putB nx (.row el kd xs) h) w' := by
  have hx := upd_ext (l := ⟨kd.length, v⟩) (f.none D)
  refine D.put nx _ f.le hx (fun k hk hn => upd_other hk hn) hs (fun k hk => ?_) (fun j c k hj hc ht => ?_) ⟨_, upd_same _ _, rfl, hk, hw, own⟩ ?_
  · rcases hchg k (fixed_lt D hk) with h1 | h1
    · exact h1
    · exact absurd hk h1.1
  · rcases hchg k (D.own j c k hc ht).2 with h1 | h1
    · exact h1
    · exact absurd ht (h1.2 j c hc)
  · rintro n ⟨p, hp, hb⟩
    rw [upd_same] at hp; cases hp
    refine ⟨?_, own.lt hb, fun j c hj hc ht => ?_⟩
    · rcases hblk n hb with h1 | h1
      · exact fun hf => absurd (fixed_lt D hf) (by omega)
      · exact h1.1
    · rcases hblk n hb with h1 | h1
      · exact absurd (D.own j c n hc ht).2 (by omega)
      · exact h1.2 j c hc ht

/-- A slot forgotten. -/
theorem DH.forget {h h' : List Blk} (D : DH E ρ h w) (hl : h'.length = h.length) (hs : ∀ (i : Nat) (b : Blk), h'[i]? = some b → h[i]? = some b ∨ b = .dead) : DH E ρ h' w := by
  refine ⟨D.same, D.base, D.glob, D.old, fun i hi => D.fresh i (by omega), fun i b hi => ?_, fun i b n hi ht => ?_, fun i j b c n hne hi hj ht ht' => ?_⟩
  · rcases hs i b hi with h | rfl
    · exact D.ok i b h
    · trivial
  · rcases hs i b hi with h | rfl
    · exact D.own i b n h ht
    · exact ht.elim
  · rcases hs i b hi with h | rfl
    · rcases hs j c hj with k | rfl
      · exact D.apart i j b c n hne h k ht ht'
      · exact ht'.elim
    · exact ht.elim

/-- A slot given up. -/
theorem DH.kill {h : List Blk} (D : DH E ρ h w) {i : Nat} (hi : i < h.length) : DH E ρ (putB i .dead h) w := by
  refine D.forget (by rw [putB, if_pos hi]; simp) fun k b hb => ?_
  rw [putB_get (Nat.le_of_lt hi)] at hb
  split at hb
  · cases hb; exact .inr rfl
  · exact .inl hb

/-- What the slot took is spare behind it. -/
theorem DH.spare {h : List Blk} (D : DH E ρ h w) {i : Nat} {b : Blk} (hi : h[i]? = some b) {k : Nat} (ht : takes ρ i b k) : Spare E ρ (putB i .dead h) k := by
  have hlt := (List.getElem?_eq_some_iff.1 hi).1
  refine ⟨(D.own i b k hi ht).1, fun j c hc ht' => ?_⟩
  rw [putB_get (by omega)] at hc
  split at hc
  · cases hc; exact ht'
  · rename_i hne
    exact D.apart j i c b k hne hc hi ht' ht

end

/-! ### The operations: append -/

def plainK : Kd → Bool
  | .other => false
  | _ => true
/-- A type whose slices may grow: its cells' kinds, and how many bytes it takes. -/
def rowT (P : Program) (el : TypeId) : Option (List Kd × Nat) := match kdT P 20 el, P.info? el with
  | some kd, some i => match i.zero with
    | some z => cond (decide (i.size = kd.length) && (decide (0 < kd.length) && (decide (z.cells.size = i.size) && (decide (0 < i.bytes) && kd.all plainK)))) (some (kd, i.bytes)) none
    | none => none
  | _, _ => none

def srcS (kd : List Kd) (x : SV) (h : List Blk) : Option (List (List Value)) := match x with
  | .s y _ => cond (kdEq kd [.int .u8]) (some (strEl y)) none
  | .v (.string y) => cond (kdEq kd [.int .u8]) (some (strEl y)) none
  | x => viewS kd x h

/-- What is appended to: its elements, the slot that is given up and what it becomes, and whether it must not be left as it is. -/
structure Dst where
  xs : List (List Value)
  kill : Option (Nat × Blk)
  ro : Bool

def dstS (kd : List Kd) (el : TypeId) (s : SV) (h : List Blk) : Option Dst := match s with
  | .row i => match h[i]? with
    | some (.row e kd' xs) => cond (kdEq kd' kd && decide (e = el)) (some ⟨xs, some (i, .dead), false⟩) none
    | some (.ror kd' xs true) => cond (kdEq kd' kd) (some ⟨xs, none, true⟩) none
    | some (.ali g k o kd') => match h[g]? with
      | some (.fam kf css none) => match kf[o]? with
        | some (.sl e kd2) => cond (kdEq kd' kd && (kdEq kd2 kd && decide (e = el))) (some ⟨(css.getD k []).getD o [], some (g, .fam kf css (some (k * kf.length + o))), false⟩) none
        | _ => none
      | _ => none
    | _ => none
  | .part i lo n true => match h[i]? with
    | some (.row e kd' xs) => cond (kdEq kd' kd && decide (e = el)) (some ⟨(xs.drop lo).take n, some (i, .dead), false⟩) none
    | some (.ror kd' xs _) => cond (kdEq kd' kd) (some ⟨(xs.drop lo).take n, none, true⟩) none
    | _ => none
  | .sl _ _ 0 0 => some ⟨[], none, false⟩
  | .sl i o (n + 1) c => match h[i]? with
    | some (.cells e cs) => cond (decide (c = n + 1) && (Nat.ble c 16777216 && decide (e = el))) ((chunkK kd c (cs.drop o)).map fun xs => ⟨xs, some (i, .dead), false⟩) none
    | some (.rcells cs) => cond (decide (c = n + 1) && Nat.ble c 16777216) ((chunkK kd c (cs.drop o)).map fun xs => ⟨xs, none, true⟩) none
    | _ => none
  | .emp => some ⟨[], none, false⟩
  | .v (.slice none 0 0) => some ⟨[], none, false⟩
  | _ => none

def killE : Option (Nat × Blk) → List (Nat × Blk)
  | some x => [x]
  | none => []

/-- How many there are: a number that is not worked out where it is not known. -/
def lenI : List (List Value) → Int
  | [] => 0
  | _ :: l => lenI l + 1
theorem lenI_eq : ∀ (l : List (List Value)), lenI l = l.length
  | [] => rfl
  | _ :: l => by simp [lenI, lenI_eq l]
/-- So many elements take half of the room at most. -/
def fitsB (bytes : Nat) (xs : List (List Value)) : Bool := decide (lenI xs ≤ ((70368744177664 / bytes : Nat) : Int))
theorem fitsB_ok {b : Nat} {xs ys : List (List Value)} (h : fitsB b xs = true) (k : fitsB b ys = true) : (xs.length + ys.length) * b ≤ 140737488355328 := by
  simp only [fitsB, lenI_eq, decide_eq_true_eq] at h k
  have h1 : xs.length + ys.length ≤ 2 * (70368744177664 / b) := by omega
  have h2 := Nat.mul_le_mul_right b h1
  have h3 := Nat.div_mul_le_self 70368744177664 b
  rw [Nat.mul_assoc] at h2
  omega

/-- Elements that are there for sure. -/
def someS : SV → Bool
  | .sl _ _ (_ + 1) _ => true
  | _ => false
/-- What is appended to; if something is there to be appended, what is full is left as it is. -/
def dstF (kd : List Kd) (s : SV) (h : List Blk) : Option Dst := match s with
  | .part i lo n true => match h[i]? with
    | some (.row _ kd' xs) => cond (kdEq kd' kd) (some ⟨(xs.drop lo).take n, none, true⟩) none
    | _ => none
  | .sl i o n c => match h[i]? with
    | some (.cells _ cs) => cond (decide (c = n) && Nat.ble n 16777216) ((chunkK kd n (cs.drop o)).map fun xs => ⟨xs, none, true⟩) none
    | _ => none
  | _ => none
def dstN (kd : List Kd) (el : TypeId) (s x : SV) (h : List Blk) : Option Dst := match cond (someS x) (dstF kd s h) none with
  | some d => some d
  | none => dstS kd el s h

def appS (P : Program) (t tx : TypeId) (s x : SV) (h : List Blk) (nx : Nat) : Option Res :=
  match P.underlying t, P.underlying tx with
  | some (.slice el), some ux => match ux with
    | .int _ => none
    | _ => match rowT P el with
      | some (kd, bytes) => match dstN kd el s x h, srcS kd x h with
        | some d, some ys => some ⟨[fitsB bytes d.xs, fitsB bytes ys, !d.ro || (!ys.isEmpty || d.xs.isEmpty)], .row nx, killE d.kill ++ [(nx, .row el kd (d.xs ++ ys))]⟩
        | _, _ => none
      | none => none
  | _, _ => none

section
variable {P : Program} {E : Env} {ρ : Rho} {w : World}

/-- What is so of what is appended to. -/
def DstOk (E : Env) (ρ : Rho) (hp : List Blk) (w : World) (el : TypeId) (kd : List Kd) (y : Value) (d : Dst) : Prop :=
  ∃ base cap, y = .slice base d.xs.length cap ∧ d.xs.length ≤ cap ∧ d.xs.length ≤ maxLen ∧ (∀ x ∈ d.xs, Wk kd x) ∧
    (d.xs = [] ∨ ∃ g off, base = some ⟨g, off, none⟩ ∧ ∀ j u, d.xs.flatten[j]? = some u → w.cell? ⟨g, off + j, none⟩ = some u) ∧
    ((d.ro = false ∧ OwnP w el kd.length y d.xs.length d.xs.flatten ∧ ∀ b, sliceB y = some b → ∃ x, d.kill = some x) ∨ (d.ro = true ∧ cap = d.xs.length)) ∧
    ∀ i c, d.kill = some (i, c) → (∃ b, hp[i]? = some b ∧ b ≠ .hole) ∧ DH E ρ (putB i c hp) w ∧ ∀ b, sliceB y = some b → Spare E ρ (putB i c hp) b
/-- A slot given up whole. -/
theorem kill_ok {hp : List Blk} (D : DH E ρ hp w) {i : Nat} {c : Blk} {y : Value} (hi : hp[i]? = some c) (hne : c ≠ .hole) (ht : ∀ b, sliceB y = some b → takes ρ i c b) :
    ∀ j c', (some (i, Blk.dead) : Option (Nat × Blk)) = some (j, c') → (∃ b, hp[j]? = some b ∧ b ≠ .hole) ∧ DH E ρ (putB j c' hp) w ∧ ∀ b, sliceB y = some b → Spare E ρ (putB j c' hp) b := fun j c' h => by
  cases h
  exact ⟨⟨c, hi, hne⟩, D.kill (List.getElem?_eq_some_iff.1 hi).1, fun b hb => D.spare hi (ht b hb)⟩
/-- A cell of a family, lent. -/
theorem DH.lend {hp : List Blk} (D : DH E ρ hp w) {g j : Nat} {kf : List Kf} {css : List (List (List (List Value)))} (hg : hp[g]? = some (.fam kf css none)) :
    DH E ρ (putB g (.fam kf css (some j)) hp) w ∧ ∀ (q : Loc) (ys : Array Value) (y : Value) (b : Nat), ρ g = some q → q.val = .tuple ys → ys.toList[j]? = some y → isSl kf (j % kf.length) = true → sliceB y = some b → Spare E ρ (putB g (.fam kf css (some j)) hp) b := by
  have hlt := (List.getElem?_eq_some_iff.1 hg).1
  obtain ⟨q, hq, hb, ys, hv, F⟩ := D.ok g _ hg
  have sub : ∀ n, takes ρ g (.fam kf css (some j)) n → takes ρ g (.fam kf css none) n := by
    rintro n ⟨p, hp', ys', hv', i, h1, _, h3⟩
    exact ⟨p, hp', ys', hv', i, h1, by simp, h3⟩
  have F' : FamY w kf css (some j) ys.toList := by
    refine ⟨F.pos, F.len, F.els, fun k o x c y h1 h2 h3 h4 => ?_, fun i i' b h h' => F.apart i i' b ⟨h.1, by simp, h.2.2⟩ ⟨h'.1, by simp, h'.2.2⟩⟩
    have := F.cell k o x c y h1 h2 h3 h4
    cases x with
    | k q => exact this
    | sl el kd => exact ⟨this.1, this.2.1, fun _ => this.2.2 (by simp)⟩
  refine ⟨?_, fun q' ys' y b hq' hv' hy hs hbb => ?_⟩
  · exact D.put g _ (Nat.le_of_lt hlt) (Ext.refl _) (fun _ _ h => h) (Same.refl w) (fun _ _ => rfl) (fun _ _ _ _ _ _ => rfl) ⟨q, hq, hb, ys, hv, F'⟩
      fun n hn => ⟨(D.own g _ n hg (sub n hn)).1, (D.own g _ n hg (sub n hn)).2, fun k c hk hc hc' => D.apart k g c _ n hk hc hg hc' (sub n hn)⟩
  · rw [hq] at hq'; cases hq'
    rw [hv] at hv'; cases hv'
    have tk : takes ρ g (.fam kf css none) b := ⟨q, hq, ys, hv, j, hs, by simp, y, hy, hbb⟩
    refine ⟨(D.own g _ b hg tk).1, fun k c hc ht => ?_⟩
    rw [putB_get (Nat.le_of_lt hlt)] at hc
    split at hc
    · subst_vars
      cases hc
      obtain ⟨p, hp', ys', hv', i, h1, h2, h3⟩ := ht
      rw [hq] at hp'; cases hp'
      rw [hv] at hv'; cases hv'
      have := F.apart i j b ⟨h1, by simp, h3⟩ ⟨hs, by simp, y, hy, hbb⟩
      exact h2 (by rw [this])
    · rename_i hne
      exact D.apart k g c _ b hne hc hg ht tk

theorem flat_part {kd : List Kd} {xs : List (List Value)} (h : ∀ x ∈ xs, Wk kd x) (lo n : Nat) : ((xs.drop lo).take n).flatten = (xs.flatten.drop (lo * kd.length)).take (n * kd.length) := by
  have hs : ∀ x ∈ xs, x.length = kd.length := fun x hx => (h x hx).length
  rw [← drop_flatten lo xs hs]
  have ht : ∀ (n : Nat) (l : List (List Value)), (∀ x ∈ l, x.length = kd.length) → (l.take n).flatten = l.flatten.take (n * kd.length) := by
    intro n
    induction n with
    | zero => intro l _; simp
    | succ n ih =>
      intro l hl
      cases l with
      | nil => simp
      | cons a r =>
        have ha := hl a (by simp)
        rw [List.take_succ_cons, List.flatten_cons, ih r fun x hx => hl x (by simp [hx]), List.flatten_cons, Nat.add_mul, Nat.one_mul, Nat.add_comm, ← ha, List.take_length_add_append]
  exact ht n _ fun x hx => hs x (List.mem_of_mem_drop hx)

/-- A part of an owned slice, without room, is owned. -/
theorem OwnP.part {e : TypeId} {kd : List Kd} {v y : Value} {xs : List (List Value)} (h : OwnP w e kd.length v xs.length xs.flatten) (hw : ∀ x ∈ xs, Wk kd x) {lo n : Nat} {a : Option Addr} (hy : y = .slice a n n)
    (hk : n = 0 ∨ ∃ g off m c0, v = .slice (some ⟨g, off, none⟩) m c0 ∧ a = some ⟨g, off + lo * kd.length, none⟩ ∧ lo + n ≤ m ∧ lo + n ≤ c0) :
    OwnP w e kd.length y ((xs.drop lo).take n).length ((xs.drop lo).take n).flatten ∧ ∀ b, sliceB y = some b → sliceB v = some b := by
  rcases hk with rfl | ⟨g, off, m, c0, rfl, rfl, l1, l2⟩
  · subst hy
    refine ⟨⟨by simp, .inl ⟨a, by simp, by simp⟩⟩, fun b hb => ?_⟩
    cases a <;> simp [sliceB] at hb
  · rcases h.2 with ⟨b, e1, e2⟩ | ⟨g', off', cap, cur, e1, hg, k1, k2, k3, k4⟩
    · cases e1
      have : n = 0 := by omega
      subst this
      subst hy
      refine ⟨⟨by simp, .inl ⟨some ⟨g, off + lo * kd.length, none⟩, by simp, by simp⟩⟩, fun b hb => by simp [sliceB] at hb⟩
    · cases e1
      have hlen : ((xs.drop lo).take n).length = n := by simp; omega
      have hfl : ((xs.drop lo).take n).flatten.length = n * kd.length := by
        rw [flatten_length (sz := kd.length) fun x hx => (hw x (List.mem_of_mem_drop (List.mem_of_mem_take hx))).length, hlen]
      cases n with
      | zero => subst hy; exact ⟨⟨by simp, .inl ⟨some ⟨g, off + lo * kd.length, none⟩, by simp, by simp⟩⟩, fun b hb => by simp [sliceB] at hb⟩
      | succ n =>
        subst hy
        refine ⟨⟨by rw [hfl, hlen], .inr ⟨g, off + lo * kd.length, n, cur, by rw [hlen], hg, by omega, by omega, ?_, ?_⟩⟩, fun b hb => by simpa [sliceB] using hb⟩
        · have : (lo + (n + 1)) * kd.length ≤ (cap + 1) * kd.length := Nat.mul_le_mul_right _ l2
          rw [Nat.add_mul] at this
          omega
        · rw [hlen, flat_part hw, ← k4, List.drop_take, List.drop_drop, List.take_take]
          congr 1
          have : (lo + (n + 1)) * kd.length ≤ xs.length * kd.length := Nat.mul_le_mul_right _ l1
          rw [Nat.add_mul] at this
          omega

theorem dst_ok {hp : List Blk} (D : DH E ρ hp w) {kd : List Kd} (hk : 0 < kd.length) {el : TypeId} {s : SV} {y : Value} {d : Dst} (h : dstS kd el s hp = some d) (hd : DV ρ s y) : DstOk E ρ hp w el kd y d := by
  have hm : maxLen = 9223372036854775807 := by decide
  have nil : ∀ a : Option Addr, y = .slice a 0 0 → d = ⟨[], none, false⟩ → DstOk E ρ hp w el kd y d := by
    rintro a rfl rfl
    exact ⟨a, 0, rfl, Nat.le_refl _, Nat.zero_le _, by simp, .inl rfl, .inl ⟨rfl, ⟨by simp, .inl ⟨a, rfl, rfl⟩⟩, fun b hb => by cases a <;> simp [sliceB] at hb⟩, fun i c hi => by cases hi⟩
  unfold dstS at h
  split at h
  · rename_i i
    simp only [DV] at hd
    obtain ⟨p, a, n, c, hp', hv, _⟩ := hd
    split at h
    · rename_i e kd' xs hi
      cases hc : (kdEq kd' kd && decide (e = el)) with
      | false => rw [hc] at h; cases h
      | true =>
        rw [hc] at h
        cases h
        simp only [Bool.and_eq_true, decide_eq_true_eq] at hc
        obtain ⟨hc, rfl⟩ := hc
        have := kdEq_eq hc; subst this
        obtain ⟨q, hq, _, _, a', c', e1, k1, k2, k3, k4⟩ := slot_reads D (slotXs_row hi)
        rw [hp'] at hq; cases hq
        obtain ⟨q, hq, _, _, _, hown⟩ := D.ok i _ hi
        rw [hp'] at hq; cases hq
        refine ⟨a', c', by rw [hv, e1], k1, k2, k3, k4, .inl ⟨rfl, by rw [hv]; exact hown, fun b hb => ⟨_, rfl⟩⟩, kill_ok D hi (by simp) fun b hb => ⟨p, hp', by rw [← hv]; exact hb⟩⟩
    · rename_i kd' xs hi
      cases hc : kdEq kd' kd with
      | false => rw [hc] at h; cases h
      | true =>
        rw [hc] at h
        cases h
        have := kdEq_eq hc; subst this
        obtain ⟨q, hq, _, _, a', c', e1, k1, k2, k3, k4⟩ := slot_reads D (slotXs_ror hi)
        rw [hp'] at hq; cases hq
        obtain ⟨q, hq, _, _, a2, c2, e2, _, h2, _⟩ := D.ok i _ hi
        rw [hp'] at hq; cases hq
        rw [e1] at e2; cases e2
        exact ⟨a', c', by rw [hv, e1], k1, k2, k3, k4, .inr ⟨rfl, h2 rfl⟩, fun j c hj => by cases hj⟩
    · rename_i g k o kd' hi
      split at h
      · rename_i kf css hg
        split at h
        · rename_i e kd2 ho
          cases hc : (kdEq kd' kd && (kdEq kd2 kd && decide (e = el))) with
          | false => rw [hc] at h; cases h
          | true =>
            rw [hc] at h
            cases h
            simp only [Bool.and_eq_true, decide_eq_true_eq] at hc
            obtain ⟨hc, hc2, rfl⟩ := hc
            have := kdEq_eq hc; subst this
            have := kdEq_eq hc2; subst this
            obtain ⟨p2, q, h1, h2, h3, h4, h5, h6, h7, h8, h9, h10, ys, h11, h12, F⟩ := ali_own D hi hg ho
            rw [hp'] at h1; cases h1
            obtain ⟨a', c', e1, k1, k2, k3, k4⟩ := reads_of_own h7 h8
            obtain ⟨L1, L2⟩ := D.lend (j := k * kf.length + o) hg
            refine ⟨a', c', by rw [hv, e1], k1, k2, k3, k4, .inl ⟨rfl, by rw [hv]; exact h8, fun b hb => ⟨_, rfl⟩⟩, fun j c hj => ?_⟩
            cases hj
            exact ⟨⟨_, hg, by simp⟩, L1, fun b hb => L2 q ys _ b h9 h11 h12 (by rw [(flat_ix h5).1]; simp [isSl, ho]) (by rw [← hv]; exact hb)⟩
        · cases h
      · cases h
    · cases h
  · rename_i i lo n
    have hd0 := hd
    simp only [DV] at hd
    obtain ⟨p, a, c, hp', hv, h1, h2, hfull, h3⟩ := hd
    have := hfull trivial
    subst this
    split at h
    · rename_i e kd' xs hi
      cases hc : (kdEq kd' kd && decide (e = el)) with
      | false => rw [hc] at h; cases h
      | true =>
        rw [hc] at h
        cases h
        simp only [Bool.and_eq_true, decide_eq_true_eq] at hc
        obtain ⟨hc, rfl⟩ := hc
        have := kdEq_eq hc; subst this
        obtain ⟨q, hq, hb, _, hr⟩ := slot_reads D (slotXs_row hi)
        rw [hp'] at hq; cases hq
        rw [hb] at h3
        obtain ⟨q, hq, _, _, hw, hown⟩ := D.ok i _ hi
        rw [hp'] at hq; cases hq
        obtain ⟨a', c', e1, k1, k2, k3, k4⟩ := hr.part hv h1 h2 h3
        have hO := hown.part hw hv (h3.imp id fun ⟨g, off, m, c0, x1, x2, x3, x4⟩ => ⟨g, off, m, c0, x1, x2, x3, x4⟩)
        exact ⟨a', c', e1, k1, k2, k3, k4, .inl ⟨rfl, hO.1, fun b hb => ⟨_, rfl⟩⟩, kill_ok D hi (by simp) fun b hb => ⟨p, hp', hO.2 b hb⟩⟩
    · rename_i kd' xs f hi
      cases hc : kdEq kd' kd with
      | false => rw [hc] at h; cases h
      | true =>
        rw [hc] at h
        cases h
        have := kdEq_eq hc; subst this
        obtain ⟨q, hq, hb, _, hr⟩ := slot_reads D (slotXs_ror hi)
        rw [hp'] at hq; cases hq
        rw [hb] at h3
        obtain ⟨a', c', e1, k1, k2, k3, k4⟩ := hr.part hv h1 h2 h3
        have hcc : c' = ((xs.drop lo).take c).length := by rw [hv] at e1; simp only [Value.slice.injEq] at e1; omega
        exact ⟨a', c', e1, k1, k2, k3, k4, .inr ⟨rfl, hcc⟩, fun j c hj => by cases hj⟩
    · cases h
  · rename_i i o
    cases h
    simp only [DV] at hd
    obtain ⟨p, _, _, rfl⟩ := hd
    exact nil _ rfl rfl
  · rename_i i o n c
    simp only [DV] at hd
    obtain ⟨p, hp', hnc, hv⟩ := hd
    split at h
    · rename_i e cs hi
      cases hc : (decide (c = n + 1) && (Nat.ble c 16777216 && decide (e = el))) with
      | false => rw [hc] at h; cases h
      | true =>
        rw [hc] at h
        simp only [cond_true, Option.map_eq_some_iff] at h
        obtain ⟨xs, hxs, rfl⟩ := h
        simp only [Bool.and_eq_true, decide_eq_true_eq] at hc
        obtain ⟨rfl, hb, rfl⟩ := hc
        have hb := Nat.le_of_ble_eq_true hb
        obtain ⟨q, vs, hq, hblk, hl⟩ := D.ok i _ hi
        rw [hp'] at hq; cases hq
        obtain ⟨k1, k2, k3, k4⟩ := chunkK_ok hxs (hl.drop o)
        rw [List.length_drop, Array.length_toList] at k4
        have hxf := flatten_length fun x hx => (k2 x hx).length
        refine ⟨_, n + 1, by rw [hv, k1], by show xs.length ≤ _; omega, by show xs.length ≤ _; omega, k2, .inr ⟨p.block, o, rfl, fun j u hu => ?_⟩, .inl ⟨rfl, ⟨hxf, .inr ⟨p.block, o, n, vs, by rw [hv, k1], hblk, by show xs.length ≤ _; omega, by omega, by
            have : (n + 1) * kd.length ≤ vs.size - o := k4
            have : 0 < (n + 1) * kd.length := Nat.mul_pos (by omega) hk
            omega, by show _ = xs.flatten; rw [k3, k1]⟩⟩, fun b hb => ⟨_, rfl⟩⟩, kill_ok D hi (by simp) fun b hb => ⟨p, hp', by rw [hv] at hb; simpa [sliceB] using hb⟩⟩
        rw [cell_of_row w p.block (o + j) vs e _ hblk]
        have hu : xs.flatten[j]? = some u := hu
        rw [k3, List.getElem?_take] at hu
        split at hu
        · rw [List.getElem?_drop] at hu; simpa using hu
        · cases hu
    · rename_i cs hi
      cases hc : (decide (c = n + 1) && Nat.ble c 16777216) with
      | false => rw [hc] at h; cases h
      | true =>
        rw [hc] at h
        simp only [cond_true, Option.map_eq_some_iff] at h
        obtain ⟨xs, hxs, rfl⟩ := h
        simp only [Bool.and_eq_true, decide_eq_true_eq] at hc
        obtain ⟨rfl, hb⟩ := hc
        have hb := Nat.le_of_ble_eq_true hb
        obtain ⟨q, vs, e, hq, hf, hblk, hl⟩ := D.ok i _ hi
        rw [hp'] at hq; cases hq
        have hblk := (D.old _ hf).trans hblk
        obtain ⟨k1, k2, k3, k4⟩ := chunkK_ok hxs (hl.drop o)
        refine ⟨_, n + 1, by rw [hv, k1], by show xs.length ≤ _; omega, by show xs.length ≤ _; omega, k2, .inr ⟨p.block, o, rfl, fun j u hu => ?_⟩, .inr ⟨rfl, by rw [k1]⟩, fun j c hj => by cases hj⟩
        rw [cell_of_row w p.block (o + j) vs e _ hblk]
        have hu : xs.flatten[j]? = some u := hu
        rw [k3, List.getElem?_take] at hu
        split at hu
        · rw [List.getElem?_drop] at hu; simpa using hu
        · cases hu
    · cases h
  · cases h
    simp only [DV] at hd
    obtain ⟨a, rfl⟩ := hd
    exact nil a rfl rfl
  · cases h
    simp only [DV] at hd
    subst hd
    exact nil none rfl rfl
  · cases h
theorem dstF_ok {hp : List Blk} (D : DH E ρ hp w) {kd : List Kd} {el : TypeId} {s : SV} {y : Value} {d : Dst} (h : dstF kd s hp = some d) (hd : DV ρ s y) : DstOk E ρ hp w el kd y d := by
  unfold dstF at h
  split at h
  · rename_i i lo n
    split at h
    · rename_i e kd' xs hi
      cases hc : kdEq kd' kd with
      | false => rw [hc] at h; cases h
      | true =>
        rw [hc] at h
        cases h
        have hv : viewS kd (.part i lo n true) hp = some ((xs.drop lo).take n) := by simp [viewS, slotXs, hi, hc]
        obtain ⟨a, c, hy, h1, h2, h3, h4⟩ := view_ok D hv hd
        simp only [DV] at hd
        obtain ⟨p, a', c', _, hy', _, _, hf, _⟩ := hd
        have hcc := hf trivial
        rw [hy] at hy'
        simp only [Value.slice.injEq] at hy'
        exact ⟨a, c, hy, h1, h2, h3, h4, .inr ⟨rfl, by dsimp only; omega⟩, fun i c hi => by cases hi⟩
    · cases h
  · rename_i i o n c
    split at h
    · rename_i e cs hi
      cases hc : (decide (c = n) && Nat.ble n 16777216) with
      | false => rw [hc] at h; cases h
      | true =>
        rw [hc] at h
        simp only [Bool.and_eq_true, decide_eq_true_eq] at hc
        obtain ⟨rfl, hb⟩ := hc
        simp only [cond_true, Option.map_eq_some_iff] at h
        obtain ⟨xs, hx, rfl⟩ := h
        have hv : viewS kd (.sl i o c c) hp = some xs := by simp [viewS, hi, hb, hx]
        obtain ⟨a, c', hy, h1, h2, h3, h4⟩ := view_ok D hv hd
        simp only [DV] at hd
        obtain ⟨p, _, _, hy'⟩ := hd
        rw [hy] at hy'
        simp only [Value.slice.injEq] at hy'
        exact ⟨a, c', hy, h1, h2, h3, h4, .inr ⟨rfl, by dsimp only; omega⟩, fun i c hi => by cases hi⟩
    · cases h
  · cases h
theorem dstN_ok {hp : List Blk} (D : DH E ρ hp w) {kd : List Kd} (hk : 0 < kd.length) {el : TypeId} {s x : SV} {y : Value} {d : Dst} (h : dstN kd el s x hp = some d) (hd : DV ρ s y) : DstOk E ρ hp w el kd y d := by
  unfold dstN at h
  split at h
  · rename_i d' hd'
    cases h
    cases hs : someS x with
    | false => rw [hs] at hd'; cases hd'
    | true => rw [hs] at hd'; exact dstF_ok D hd' hd
  · exact dst_ok D hk h hd
end
end Go.Eng
