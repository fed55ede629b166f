/- The engine's base: symbolic values, what they denote, and the pure part of the model's operations run by evaluation. No condition. -/
import Derived.Test.YtafmknblnamegaaDoorV8Z
import Derived.WalkKit
import Derived.WalkLawsBesides
namespace Go.Eng

/-! ### The pure runner -/

/-- A computation that asks nothing of memory, run. -/
def prun {α : Type} (P : Program) : Sem α → Option α
  | .pure a => some a
  | .program k => prun P (k P)
  | .mark _ k => prun P k
  | _ => none

theorem prun_run {α : Type} (P : Program) : ∀ (s : Sem α) (a : α), prun P s = some a → ∀ w, s.run P w = .ok a w
  | .pure _, _, h, _ => by simp only [prun, Option.some.injEq] at h; subst h; rfl
  | .program k, a, h, w => by simp only [prun] at h; exact prun_run P (k P) a h w
  | .mark _ k, a, h, w => by simp only [prun] at h; exact prun_run P k a h w
  | .load .., _, h, _ | .store .., _, h, _ | .new .., _, h, _ | .shape .., _, h, _ | .freeze .., _, h, _ | .frozen .., _, h, _ | .getObj .., _, h, _
  | .setObj .., _, h, _ | .choose .., _, h, _ | .sys .., _, h, _ | .halt .., _, h, _ => by simp [prun] at h

/-! ### Symbolic values -/

/-- The kind of a cell of a row. -/
inductive Kd where
  | int (k : IntKind)
  | bool
  | str
  | other
  deriving DecidableEq

def geti (l : List Value) (j : Nat) : Int := match l[j]? with | some (.int _ n) => n | _ => 0
def getb (l : List Value) (j : Nat) : Bool := match l[j]? with | some (.bool b) => b | _ => false
def gets (l : List Value) (j : Nat) : ByteArray := match l[j]? with | some (.string b) => b | _ => ByteArray.empty

/-- The least and the greatest number of a kind, as numerals. -/
def kmin : IntKind → Int
  | .i8 => -128 | .i16 => -32768 | .i32 => -2147483648 | .i64 => -9223372036854775808
  | .u8 => 0 | .u16 => 0 | .u32 => 0 | .u64 => 0
def kmax : IntKind → Int
  | .i8 => 127 | .i16 => 32767 | .i32 => 2147483647 | .i64 => 9223372036854775807
  | .u8 => 255 | .u16 => 65535 | .u32 => 4294967295 | .u64 => 18446744073709551615
theorem kmin_eq (k : IntKind) : k.min = kmin k := by cases k <;> decide
theorem kmax_eq (k : IntKind) : k.max = kmax k := by cases k <;> decide

/-- A cell of this kind. -/
def KOk : Kd → Value → Prop
  | .int k, v => ∃ n, v = .int k n ∧ kmin k ≤ n ∧ n ≤ kmax k
  | .bool, v => ∃ b, v = .bool b
  | .str, v => ∃ b, v = .string b ∧ b.size ≤ maxLen
  | .other, _ => True

def Fa : List Kd → List Value → Prop
  | [], [] => True
  | k :: ks, v :: vs => KOk k v ∧ Fa ks vs
  | _, _ => False

theorem Fa.length : ∀ {ks : List Kd} {vs : List Value}, Fa ks vs → vs.length = ks.length
  | [], [], _ => rfl
  | [], _ :: _, h => h.elim
  | _ :: _, [], h => h.elim
  | _ :: _, _ :: _, h => by simp [Fa.length h.2]

theorem Fa.append : ∀ {ks : List Kd} {vs : List Value} {ls : List Kd} {us : List Value}, Fa ks vs → Fa ls us → Fa (ks ++ ls) (vs ++ us)
  | [], [], _, _, _, h => h
  | [], _ :: _, _, _, h, _ => h.elim
  | _ :: _, [], _, _, h, _ => h.elim
  | _ :: _, _ :: _, _, _, h, g => ⟨h.1, Fa.append h.2 g⟩

theorem Fa.get : ∀ {ks : List Kd} {vs : List Value} (j : Nat) {k : Kd}, Fa ks vs → ks[j]? = some k → ∃ v, vs[j]? = some v ∧ KOk k v
  | [], [], j, k, _, h => by simp at h
  | [], _ :: _, _, _, h, _ => h.elim
  | _ :: _, [], _, _, h, _ => h.elim
  | _ :: _, v :: _, 0, k, h, hk => by simp at hk; subst hk; exact ⟨v, by simp, h.1⟩
  | _ :: _, _ :: _, j + 1, k, h, hk => by simpa using Fa.get j h.2 (by simpa using hk)

/-- The element has just these kinds of cells. -/
def Wk (kd : List Kd) (l : List Value) : Prop := Fa kd l
theorem Wk.length {kd : List Kd} {l : List Value} (h : Wk kd l) : l.length = kd.length := Fa.length h

inductive SV where
  | any
  /-- a value as it is -/
  | v (x : Value)
  /-- a number that is not known outright: x, between two numerals -/
  | i (k : IntKind) (x lo hi : Int)
  /-- a bool that is not known outright -/
  | b (p : Bool)
  /-- a string that is not known outright, no longer than a numeral -/
  | s (x : ByteArray) (hi : Int)
  /-- another value that is not known outright -/
  | t (x : Value)
  /-- this, if p; else nothing was done -/
  | opt (p : Bool) (s : SV)
  /-- the address of a cell of a slot -/
  | ptr (i o : Nat)
  | agg (l : List SV)
  | tup (l : List SV)
  | fn (f : Fn) (first cap : List SV)
  | ifc (t : TypeId) (x : SV)
  /-- a slice that lies in a slot: it grows, or is read alone -/
  | row (i : Nat)
  /-- the address of cell o of element k of such a slice -/
  | rowp (i k o : Nat)
  /-- a slice over a slot's cells: from cell o on, n elements, room for c -/
  | sl (i o n c : Nat)
  /-- a part of a slot's slice: n elements from lo on; no room, if it is full -/
  | part (i lo n : Nat) (full : Bool)
  /-- a slice without elements, and without room -/
  | emp
  /-- what hands a value to the round of a loop -/
  | yl (i : Nat)
  /-- a bool that nothing settles: what is so if it is true, and if it is false -/
  | q (pt pf : Bool)
  /-- a map that lies in a slot -/
  | mp (i : Nat)
  /-- an error: none, if p; else the address of a slice's first element (alone in a struct, if ag) -/
  | er (p : Bool) (t : TypeId) (ag : Bool) (i : Nat)

/-- Where a slot lies; a growing slice's value. -/
structure Loc where
  block : Nat
  val : Value

abbrev Rho := Nat → Option Loc

/-- What is fixed while the engine runs: the first block number that is the call's own, the world at the beginning, the elder blocks that may turn. -/
structure Env where
  B : Nat
  w0 : World
  M : List Nat

/-- An address of memory that does not turn. -/
def Env.fixed (E : Env) (b : Nat) : Prop := b < E.B ∧ b ∉ E.M

def RoAt (E : Env) (b off : Nat) (cs : List Value) : Prop :=
  E.fixed b ∧ ∀ j u, cs[j]? = some u → E.w0.cell? ⟨b, off + j, none⟩ = some u

def isRo (E : Env) (kd : List Kd) (xs : List (List Value)) (full : Bool) (y : Value) : Prop :=
  ∃ a cap, y = .slice a xs.length cap ∧ xs.length ≤ cap ∧ (full = true → cap = xs.length) ∧ xs.length ≤ maxLen ∧ (∀ x ∈ xs, Wk kd x) ∧
    ((xs = [] ∨ ∃ b off, a = some ⟨b, off, none⟩ ∧ RoAt E b off xs.flatten))

mutual
def DV (ρ : Rho) : SV → Value → Prop
  | .any, _ => True
  | .v x, y => y = x
  | .i k x lo hi, y => y = .int k x ∧ lo ≤ x ∧ x ≤ hi
  | .b p, y => y = .bool p
  | .s x hi, y => y = .string x ∧ (x.size : Int) ≤ hi
  | .t x, y => y = x
  | .opt p s, y => (p = true → DV ρ s y) ∧ (p = false → y = undef)
  | .ptr i o, y => ∃ p, ρ i = some p ∧ y = .pointer (some ⟨p.block, o, none⟩)
  | .agg l, y => ∃ a, y = .agg a ∧ DL ρ l a.toList
  | .tup l, y => ∃ a, y = .tuple a ∧ DL ρ l a.toList
  | .fn f first cap, y => ∃ a b, y = .func f a b ∧ DL ρ first a.toList ∧ DL ρ cap b.toList
  | .ifc t x, y => ∃ z, y = .iface t z ∧ DV ρ x z
  | .row i, y => ∃ p a n c, ρ i = some p ∧ y = p.val ∧ y = .slice a n c
  | .rowp i k o, y => ∃ p g off n c, ρ i = some p ∧ p.val = .slice (some ⟨g, off, none⟩) n c ∧ k < n ∧ y = .pointer (some ⟨g, off + k * p.block + o, none⟩)
  | .sl i o n c, y => ∃ p, ρ i = some p ∧ n ≤ c ∧ y = .slice (some ⟨p.block, o, none⟩) n c
  | .part i lo n full, y => ∃ p a c, ρ i = some p ∧ y = .slice a n c ∧ n ≤ c ∧ n ≤ maxLen ∧ (full = true → c = n) ∧
      (n = 0 ∨ ∃ g off m c0, p.val = .slice (some ⟨g, off, none⟩) m c0 ∧ a = some ⟨g, off + lo * p.block, none⟩ ∧ lo + n ≤ m ∧ lo + c ≤ c0)
  | .emp, y => ∃ a, y = .slice a 0 0
  | .yl i, y => ∃ p, ρ i = some p ∧ y = .func (.yield p.block) #[] #[]
  | .q pt pf, y => ∃ b : Bool, y = .bool b ∧ (b = true → pt = true) ∧ (b = false → pf = true)
  | .mp i, y => ∃ p, ρ i = some p ∧ y = .map (some p.block)
  | .er p t ag i, y => (p = true → y = .nilIface) ∧ (p = false → ∃ l g off n c, ρ i = some l ∧ l.val = .slice (some ⟨g, off, none⟩) n c ∧ 0 < n ∧ y = .iface t (cond ag (.agg #[.pointer (some ⟨g, off, none⟩)]) (.pointer (some ⟨g, off, none⟩))))
def DL (ρ : Rho) : List SV → List Value → Prop
  | [], ys => ys = []
  | s :: l, ys => ∃ y t, ys = y :: t ∧ DV ρ s y ∧ DL ρ l t
end

section
variable {ρ : Rho}

theorem DL.length : ∀ {l : List SV} {ys : List Value}, DL ρ l ys → ys.length = l.length
  | [], ys, h => by simp only [DL] at h; simp [h]
  | s :: l, ys, h => by
    simp only [DL] at h
    obtain ⟨y, t, rfl, _, ht⟩ := h
    simp [DL.length ht]

theorem DL.get : ∀ {l : List SV} {ys : List Value}, DL ρ l ys → ∀ {i : Nat} {s : SV}, l[i]? = some s → ∃ y, ys[i]? = some y ∧ DV ρ s y
  | [], ys, h, i, s, hs => by simp at hs
  | a :: l, ys, h, i, s, hs => by
    simp only [DL] at h
    obtain ⟨y, t, rfl, hy, ht⟩ := h
    cases i with
    | zero => simp at hs; subst hs; exact ⟨y, by simp, hy⟩
    | succ i => simp at hs; simpa using DL.get ht hs

theorem DL.mk' : ∀ {l : List SV} {ys : List Value}, ys.length = l.length → (∀ (i : Nat) (s : SV) (y : Value), l[i]? = some s → ys[i]? = some y → DV ρ s y) → DL ρ l ys
  | [], ys, h, _ => by simp only [DL]; simpa using h
  | a :: l, [], h, _ => by simp at h
  | a :: l, y :: ys, h, hg => by
    simp only [DL]
    exact ⟨y, ys, rfl, hg 0 a y (by simp) (by simp), DL.mk' (by simpa using h) fun i s z hs hz => hg (i + 1) s z (by simpa using hs) (by simpa using hz)⟩

theorem DL.cons {s : SV} {l : List SV} {y : Value} {ys : List Value} (h : DV ρ s y) (t : DL ρ l ys) : DL ρ (s :: l) (y :: ys) := by
  simp only [DL]; exact ⟨y, ys, rfl, h, t⟩

theorem DL.nil : DL ρ [] [] := by simp [DL]

theorem DL.append : ∀ {l m : List SV} {ys zs : List Value}, DL ρ l ys → DL ρ m zs → DL ρ (l ++ m) (ys ++ zs)
  | [], m, ys, zs, h, k => by simp only [DL] at h; subst h; simpa using k
  | s :: l, m, ys, zs, h, k => by
    simp only [DL] at h
    obtain ⟨y, t, rfl, hy, ht⟩ := h
    exact DL.cons hy (DL.append ht k)

theorem DL.drop {l : List SV} {ys : List Value} (h : DL ρ l ys) (n : Nat) : DL ρ (l.drop n) (ys.drop n) := by
  refine DL.mk' (by simp [h.length]) fun i s y hs hy => ?_
  simp only [List.getElem?_drop] at hs hy
  obtain ⟨z, hz, hd⟩ := h.get hs
  rw [hz] at hy; cases hy; exact hd

theorem DL.take {l : List SV} {ys : List Value} (h : DL ρ l ys) (n : Nat) : DL ρ (l.take n) (ys.take n) := by
  refine DL.mk' (by simp [h.length]) fun i s y hs hy => ?_
  simp only [List.getElem?_take] at hs hy
  split at hs
  · obtain ⟨z, hz, hd⟩ := h.get hs
    simp_all
  · simp at hs

theorem DL.set {l : List SV} {ys : List Value} (h : DL ρ l ys) (n : Nat) {s : SV} {y : Value} (hy : DV ρ s y) : DL ρ (l.set n s) (ys.set n y) := by
  refine DL.mk' (by simp [h.length]) fun i s' y' hs hy' => ?_
  simp only [List.getElem?_set] at hs hy'
  have hl := h.length
  split at hs
  · subst_vars
    split at hs
    · rename_i hlt
      simp only [if_true] at hy'
      rw [if_pos (by omega)] at hy'
      cases hs; cases hy'; exact hy
    · simp at hs
  · rename_i hne
    rw [if_neg hne] at hy'
    obtain ⟨z, hz, hd⟩ := h.get hs
    rw [hz] at hy'; cases hy'; exact hd

theorem DL.replicate_any (n : Nat) (ys : List Value) (h : ys.length = n) : DL ρ (List.replicate n .any) ys := by
  refine DL.mk' (by simp [h]) fun i s y hs hy => ?_
  simp only [List.getElem?_replicate] at hs
  split at hs
  · cases hs; simp [DV]
  · simp at hs

end

mutual
/-- The value that a symbolic value is, if it hangs on no place. -/
def toVal : SV → Option Value
  | .v x => some x
  | .i k x _ _ => some (.int k x)
  | .b p => some (.bool p)
  | .s x _ => some (.string x)
  | .t x => some x
  | .agg l => (toVals l).map fun l => .agg l.toArray
  | .tup l => (toVals l).map fun l => .tuple l.toArray
  | .ifc t x => (toVal x).map fun y => .iface t y
  | .fn f first cap => match toVals first, toVals cap with
    | some a, some b => some (.func f a.toArray b.toArray)
    | _, _ => none
  | _ => none
def toVals : List SV → Option (List Value)
  | [] => some []
  | s :: l => match toVal s, toVals l with
    | some x, some r => some (x :: r)
    | _, _ => none
end

mutual
theorem toVal_DV {ρ : Rho} : ∀ (s : SV) (x y : Value), toVal s = some x → DV ρ s y → y = x
  | .v _, x, y, h, hd => by simp only [toVal, Option.some.injEq] at h; simp only [DV] at hd; rw [hd, h]
  | .i .., x, y, h, hd => by simp only [toVal, Option.some.injEq] at h; simp only [DV] at hd; rw [hd.1, h]
  | .b _, x, y, h, hd => by simp only [toVal, Option.some.injEq] at h; simp only [DV] at hd; rw [hd, h]
  | .s .., x, y, h, hd => by simp only [toVal, Option.some.injEq] at h; simp only [DV] at hd; rw [hd.1, h]
  | .t _, x, y, h, hd => by simp only [toVal, Option.some.injEq] at h; simp only [DV] at hd; rw [hd, h]
  | .agg l, x, y, h, hd => by
    simp only [toVal, Option.map_eq_some_iff] at h
    obtain ⟨r, hr, rfl⟩ := h
    simp only [DV] at hd
    obtain ⟨a, rfl, hl⟩ := hd
    rw [← toVals_DL l r _ hr hl]
  | .tup l, x, y, h, hd => by
    simp only [toVal, Option.map_eq_some_iff] at h
    obtain ⟨r, hr, rfl⟩ := h
    simp only [DV] at hd
    obtain ⟨a, rfl, hl⟩ := hd
    rw [← toVals_DL l r _ hr hl]
  | .ifc t s, x, y, h, hd => by
    simp only [toVal, Option.map_eq_some_iff] at h
    obtain ⟨r, hr, rfl⟩ := h
    simp only [DV] at hd
    obtain ⟨z, rfl, hz⟩ := hd
    rw [toVal_DV s r z hr hz]
  | .fn f first cap, x, y, h, hd => by
    simp only [DV] at hd
    obtain ⟨a, b, rfl, ha, hb⟩ := hd
    simp only [toVal] at h
    split at h
    · rename_i p q hp hq
      cases h
      rw [← toVals_DL first p _ hp ha, ← toVals_DL cap q _ hq hb]
    · cases h
  | .any, _, _, h, _ | .opt .., _, _, h, _ | .ptr .., _, _, h, _ | .row .., _, _, h, _ | .rowp .., _, _, h, _ | .sl .., _, _, h, _ | .part .., _, _, h, _ | .emp, _, _, h, _ | .yl .., _, _, h, _ | .q .., _, _, h, _ | .mp .., _, _, h, _ | .er .., _, _, h, _ => by simp [toVal] at h
theorem toVals_DL {ρ : Rho} : ∀ (l : List SV) (r ys : List Value), toVals l = some r → DL ρ l ys → ys = r
  | [], r, ys, h, hd => by simp only [toVals, Option.some.injEq] at h; simp only [DL] at hd; rw [hd, h]
  | s :: l, r, ys, h, hd => by
    simp only [DL] at hd
    obtain ⟨y, t, rfl, hy, ht⟩ := hd
    simp only [toVals] at h
    split at h
    · rename_i p q hp hq
      cases h
      rw [toVal_DV s p y hp hy, toVals_DL l q t hq ht]
    · cases h
end

/-- A value as a symbolic one. -/
def lift1 : Value → SV
  | .agg cs => .agg (cs.toList.map .v)
  | .func f a b => .fn f (a.toList.map .v) (b.toList.map .v)
  | .iface t (.agg cs) => .ifc t (.agg (cs.toList.map .v))
  | .iface t x => .ifc t (.v x)
  | x => .v x
def lift : Value → SV
  | .tuple vs => .tup (vs.toList.map lift1)
  | x => lift1 x

theorem DL_map_v {ρ : Rho} (l : List Value) : DL ρ (l.map .v) l := by
  refine DL.mk' (by simp) fun i s y hs hy => ?_
  simp only [List.getElem?_map, hy, Option.map_some, Option.some.injEq] at hs
  subst hs; simp [DV]

theorem lift1_DV {ρ : Rho} (x : Value) : DV ρ (lift1 x) x := by
  unfold lift1
  split
  · simp only [DV]; exact ⟨_, rfl, DL_map_v _⟩
  · simp only [DV]; exact ⟨_, _, rfl, DL_map_v _, DL_map_v _⟩
  · simp only [DV]; exact ⟨_, rfl, ⟨_, rfl, DL_map_v _⟩⟩
  · simp only [DV]; exact ⟨_, rfl, rfl⟩
  · simp [DV]

theorem lift_DV {ρ : Rho} (x : Value) : DV ρ (lift x) x := by
  unfold lift
  split
  · simp only [DV]
    refine ⟨_, rfl, DL.mk' (by simp) fun i s y hs hy => ?_⟩
    simp only [List.getElem?_map, hy, Option.map_some, Option.some.injEq] at hs
    subst hs; exact lift1_DV y
  · exact lift1_DV x

mutual
/-- It holds something that is not known outright. -/
def symb : SV → Bool
  | .i .. => true
  | .b _ => true
  | .s .. => true
  | .t _ => true
  | .agg l => symbs l
  | .tup l => symbs l
  | .ifc _ x => symb x
  | .fn _ a b => symbs a || symbs b
  | .row _ => true
  | .part .. => true
  | .er .. => true
  | _ => false
def symbs : List SV → Bool
  | [] => false
  | s :: l => symb s || symbs l
end

/-- A value that is not known outright, as a symbolic one. -/
def tv : Value → SV
  | .bool p => .b p
  | x => .t x
def liftT : Value → SV
  | .agg cs => .agg (cs.toList.map tv)
  | x => tv x
theorem tv_DV {ρ : Rho} (x : Value) : DV ρ (tv x) x := by unfold tv; split <;> simp [DV]
theorem liftT_DV {ρ : Rho} (x : Value) : DV ρ (liftT x) x := by
  unfold liftT
  split
  · simp only [DV]
    refine ⟨_, rfl, DL.mk' (by simp) fun i s y hs hy => ?_⟩
    simp only [List.getElem?_map, hy, Option.map_some, Option.some.injEq] at hs
    subst hs; exact tv_DV y
  · exact tv_DV x
/-- By what it came of. -/
def liftS (p : Bool) (x : Value) : SV := cond p (liftT x) (lift x)
theorem liftS_DV {ρ : Rho} (p : Bool) (x : Value) : DV ρ (liftS p x) x := by
  cases p
  · exact lift_DV x
  · exact liftT_DV x

/-- A cell of memory that is read alone, by its kind. -/
def kdS (k : Kd) (l : List Value) (j : Nat) : SV := match k with
  | .int k => .i k (geti l j) (kmin k) (kmax k)
  | .bool => .b (getb l j)
  | .str => .s (gets l j) 9223372036854775807
  | .other => .t ((l[j]?).getD undef)
def mkS (l : List Value) : Nat → List Kd → List SV
  | _, [] => []
  | j, k :: r => kdS k l j :: mkS l (j + 1) r
theorem mkS_length (l : List Value) : ∀ (kd : List Kd) (j : Nat), (mkS l j kd).length = kd.length
  | [], _ => rfl
  | _ :: r, j => by simp [mkS, mkS_length l r]
theorem mkS_DL {ρ : Rho} (l : List Value) : ∀ (kd : List Kd) (j : Nat) (vs : List Value), Fa kd vs → l.drop j = vs → DL ρ (mkS l j kd) vs
  | [], _, [], _, _ => DL.nil
  | [], _, _ :: _, h, _ => h.elim
  | _ :: _, _, [], h, _ => h.elim
  | k :: ks, j, v :: vs, h, hd => by
    have hj : l[j]? = some v := by
      have := congrArg (·[0]?) hd
      simpa [List.getElem?_drop] using this
    have hd' : l.drop (j + 1) = vs := by
      have := congrArg (List.drop 1) hd
      simpa [List.drop_drop, Nat.add_comm] using this
    refine DL.cons ?_ (mkS_DL l ks (j + 1) vs h.2 hd')
    cases k with
    | int K => obtain ⟨n, rfl, h1, h2⟩ := h.1; simp only [kdS, DV, geti, hj]; exact ⟨trivial, h1, h2⟩
    | bool => obtain ⟨b, rfl⟩ := h.1; simp [kdS, DV, getb, hj]
    | str =>
      obtain ⟨b, rfl, hb⟩ := h.1
      have : maxLen = 9223372036854775807 := by decide
      simp only [kdS, DV, gets, hj]; exact ⟨trivial, by omega⟩
    | other => simp [kdS, DV, hj]
theorem Wk.DL {ρ : Rho} {kd : List Kd} {l : List Value} (h : Wk kd l) : DL ρ (mkS l 0 kd) l := mkS_DL l kd 0 l h rfl

/-! ### Slots -/

/-- ρ' knows all that ρ knows. -/
def Ext (ρ ρ' : Rho) : Prop := ∀ i l, ρ i = some l → ρ' i = some l
theorem Ext.refl (ρ : Rho) : Ext ρ ρ := fun _ _ h => h
theorem Ext.trans {a b c : Rho} (h : Ext a b) (k : Ext b c) : Ext a c := fun i l e => k i l (h i l e)

mutual
theorem DV.mono {ρ ρ' : Rho} (hx : Ext ρ ρ') : ∀ (s : SV) (y : Value), DV ρ s y → DV ρ' s y
  | .any, _, _ => by simp [DV]
  | .v _, _, h => by simpa [DV] using h
  | .i .., _, h => by simpa [DV] using h
  | .b _, _, h => by simpa [DV] using h
  | .s .., _, h => by simpa [DV] using h
  | .t _, _, h => by simpa [DV] using h
  | .opt p s, y, h => by simp only [DV] at *; exact ⟨fun e => DV.mono hx s y (h.1 e), h.2⟩
  | .ptr i o, y, h => by simp only [DV] at *; obtain ⟨p, hp, e⟩ := h; exact ⟨p, hx _ _ hp, e⟩
  | .agg l, y, h => by simp only [DV] at *; obtain ⟨a, e, hl⟩ := h; exact ⟨a, e, DL.mono hx l _ hl⟩
  | .tup l, y, h => by simp only [DV] at *; obtain ⟨a, e, hl⟩ := h; exact ⟨a, e, DL.mono hx l _ hl⟩
  | .fn f fi cp, y, h => by simp only [DV] at *; obtain ⟨a, b, e, ha, hb⟩ := h; exact ⟨a, b, e, DL.mono hx fi _ ha, DL.mono hx cp _ hb⟩
  | .ifc t x, y, h => by simp only [DV] at *; obtain ⟨z, e, hz⟩ := h; exact ⟨z, e, DV.mono hx x z hz⟩
  | .row i, y, h => by simp only [DV] at *; obtain ⟨p, a, n, c, hp, e⟩ := h; exact ⟨p, a, n, c, hx _ _ hp, e⟩
  | .rowp i k o, y, h => by simp only [DV] at *; obtain ⟨p, g, off, n, c, hp, e⟩ := h; exact ⟨p, g, off, n, c, hx _ _ hp, e⟩
  | .sl i o n c, y, h => by simp only [DV] at *; obtain ⟨p, hp, e⟩ := h; exact ⟨p, hx _ _ hp, e⟩
  | .part i lo n f, y, h => by simp only [DV] at *; obtain ⟨p, a, c, hp, e⟩ := h; exact ⟨p, a, c, hx _ _ hp, e⟩
  | .emp, y, h => by simpa [DV] using h
  | .q .., y, h => by simpa [DV] using h
  | .yl i, y, h => by simp only [DV] at *; obtain ⟨p, hp, e⟩ := h; exact ⟨p, hx _ _ hp, e⟩
  | .mp i, y, h => by simp only [DV] at *; obtain ⟨p, hp, e⟩ := h; exact ⟨p, hx _ _ hp, e⟩
  | .er .., y, h => by simp only [DV] at *; exact ⟨h.1, fun hp => by obtain ⟨l, g, off, n, c, hl, e⟩ := h.2 hp; exact ⟨l, g, off, n, c, hx _ _ hl, e⟩⟩
theorem DL.mono {ρ ρ' : Rho} (hx : Ext ρ ρ') : ∀ (l : List SV) (ys : List Value), DL ρ l ys → DL ρ' l ys
  | [], _, h => by simpa [DL] using h
  | s :: l, ys, h => by
    simp only [DL] at *
    obtain ⟨y, t, e, hy, ht⟩ := h
    exact ⟨y, t, e, DV.mono hx s y hy, DL.mono hx l t ht⟩
end

/-- The kind of a cell of an element that may hold slices of its own. -/
inductive Kf where
  | k (q : Kd)
  | sl (el : TypeId) (kd : List Kd)
  deriving DecidableEq

inductive Blk where
  /-- no block as yet -/
  | hole
  /-- nothing is known -/
  | dead
  /-- a whole block, known cell by cell -/
  | cells (elem : TypeId) (cs : List SV)
  /-- a growing slice of the call's own: its elements -/
  | row (elem : TypeId) (kd : List Kd) (xs : List (List Value))
  /-- a whole block that is read alone -/
  | rcells (cs : List SV)
  /-- a slice over memory that is read alone: its elements; it has no room, if it is full -/
  | ror (kd : List Kd) (xs : List (List Value)) (full : Bool)
  /-- where the calls are that rounds put off: none -/
  | dfr
  /-- the record of a range over a function: of which function, its frame, where values go, the rounds' code; how it stands -/
  | loop (f : FuncId) (regs : List SV) (ps : Array Tmp) (assign body : Code) (state : LoopState) (pending : Option Code) (d : Nat)
  /-- a map from numbers: what each number has (one value, or some side by side), in the order in which they came -/
  | map (k : IntKind) (kd : List Kd) (agg : Bool) (m : List (Int × List Value))
  /-- what goes through the map of slot mi, of n entries: which ones were seen -/
  | iter (mi n : Nat) (seen : List Nat)
  /-- a growing slice of the call's own whose cells are those of family g -/
  | rr (elem : TypeId) (g : Nat)
  /-- a family: the cells of such a slice, element by element; the slices among them are its own, but for one that may be lent -/
  | fam (kf : List Kf) (css : List (List (List (List Value)))) (lent : Option Nat)
  /-- the slice in cell o of element k of family g -/
  | ali (g k o : Nat) (kd : List Kd)
  /-- the cells of another slice of such elements: those of family g, but for some, of which it is told what they are -/
  | der (n g : Nat) (kf : List Kf) (exc : List (Nat × Nat × SV))
  /-- a family whose slices are read alone -/
  | rfm (kf : List Kf) (css : List (List (List (List Value))))
  /-- a slice that is read alone, whose cells are those of family g -/
  | rof (g : Nat)
  /-- a slice of which the length alone is known -/
  | opq (n : Nat)

/-- A map's value. -/
def mval (agg : Bool) (l : List Value) : Value := cond agg (.agg l.toArray) (l.getD 0 undef)
def entsOf (k : IntKind) (agg : Bool) (m : List (Int × List Value)) : List MapEntry := m.zipIdx.map fun x => { key := .int k x.1.1, val := mval agg x.1.2, born := x.2 }

/-- The block that a slice takes: none, where it has no room at all. -/
def sliceB : Value → Option Nat
  | .slice (some a) _ (_ + 1) => some a.block
  | _ => none

/-- The slice has n elements of so many cells, xs in all, and its block is its own. -/
def OwnP (w : World) (e : TypeId) (sz : Nat) (v : Value) (n : Nat) (xs : List Value) : Prop :=
  xs.length = n * sz ∧ ((∃ a, v = .slice a 0 0 ∧ n = 0) ∨
    ∃ g off cap cur, v = .slice (some ⟨g, off, none⟩) n (cap + 1) ∧ w.heap[g]? = some (.cells cur e (0, 0)) ∧ n ≤ cap + 1 ∧ cap + 1 ≤ maxLen ∧ off + (cap + 1) * sz ≤ cur.size ∧
      (cur.toList.drop off).take (n * sz) = xs)

theorem OwnP.keep {w w' : World} {e : TypeId} {sz : Nat} {v : Value} {n : Nat} {xs : List Value} (h : OwnP w e sz v n xs) (hk : ∀ g, sliceB v = some g → w'.heap[g]? = w.heap[g]?) : OwnP w' e sz v n xs := by
  refine ⟨h.1, ?_⟩
  rcases h.2 with hn | ⟨g, off, cap, cur, hv, hg, r⟩
  · exact .inl hn
  · refine .inr ⟨g, off, cap, cur, hv, ?_, r⟩
    rw [hk g (by rw [hv]; rfl)]; exact hg

def isSl (kf : List Kf) (o : Nat) : Bool := match kf[o]? with
  | some (.sl _ _) => true
  | _ => false
/-- A cell of a family, by its kind. -/
def CellF (w : World) (q : Kf) (c : List (List Value)) (lent : Bool) (y : Value) : Prop := match q with
  | .k q => KOk q y ∧ c = [[y]]
  | .sl el kd => (∃ a n m, y = .slice a n m) ∧ 0 < kd.length ∧ (lent = false → (∀ x ∈ c, Wk kd x) ∧ OwnP w el kd.length y c.length c.flatten)
/-- Cell j is a slice of the family's own, and its block is b. -/
def famB (kf : List Kf) (lent : Option Nat) (ys : List Value) (j b : Nat) : Prop := isSl kf (j % kf.length) = true ∧ lent ≠ some j ∧ ∃ y, ys[j]? = some y ∧ sliceB y = some b
structure FamY (w : World) (kf : List Kf) (css : List (List (List (List Value)))) (lent : Option Nat) (ys : List Value) : Prop where
  pos : 0 < kf.length
  len : ys.length = css.length * kf.length
  els : ∀ x ∈ css, x.length = kf.length
  cell : ∀ k o q c y, k < css.length → kf[o]? = some q → (css.getD k [])[o]? = some c → ys[k * kf.length + o]? = some y → CellF w q c (decide (lent = some (k * kf.length + o))) y
  apart : ∀ i j b, famB kf lent ys i b → famB kf lent ys j b → i = j
def FamOk (w : World) (kf : List Kf) (css : List (List (List (List Value)))) (lent : Option Nat) (p : Loc) : Prop := p.block = kf.length ∧ ∃ ys : Array Value, p.val = .tuple ys ∧ FamY w kf css lent ys.toList
def famT (kf : List Kf) (lent : Option Nat) (p : Loc) (b : Nat) : Prop := ∃ ys : Array Value, p.val = .tuple ys ∧ ∃ j, famB kf lent ys.toList j b
theorem flat_ix {k o sz : Nat} (h : o < sz) : (k * sz + o) % sz = o ∧ (k * sz + o) / sz = k := by
  have h0 : 0 < sz := by omega
  constructor
  · rw [Nat.mul_comm, Nat.mul_add_mod, Nat.mod_eq_of_lt h]
  · rw [Nat.mul_comm, Nat.mul_add_div h0, Nat.div_eq_of_lt h, Nat.add_zero]
theorem FamY.keep {w w' : World} {kf : List Kf} {css : List (List (List (List Value)))} {lent : Option Nat} {ys : List Value} (h : FamY w kf css lent ys) (hk : ∀ j b, famB kf lent ys j b → w'.heap[b]? = w.heap[b]?) : FamY w' kf css lent ys := by
  refine ⟨h.pos, h.len, h.els, fun k o q c y h1 h2 h3 h4 => ?_, h.apart⟩
  have hc := h.cell k o q c y h1 h2 h3 h4
  cases q with
  | k q => exact hc
  | sl el kd =>
    refine ⟨hc.1, hc.2.1, fun hl => ⟨(hc.2.2 hl).1, (hc.2.2 hl).2.keep fun b hb => hk (k * kf.length + o) b ⟨?_, by simpa using hl, y, h4, hb⟩⟩⟩
    have := (List.getElem?_eq_some_iff.1 h2).1
    rw [(flat_ix this).1]; simp [isSl, h2]

/-- A cell of a family that is read alone. -/
def CellR (E : Env) (q : Kf) (c : List (List Value)) (y : Value) : Prop := match q with
  | .k q => KOk q y ∧ c = [[y]]
  | .sl _ kd => 0 < kd.length ∧ isRo E kd c false y
structure RofY (E : Env) (kf : List Kf) (css : List (List (List (List Value)))) (ys : List Value) : Prop where
  pos : 0 < kf.length
  len : ys.length = css.length * kf.length
  els : ∀ x ∈ css, x.length = kf.length
  cell : ∀ k o q c y, k < css.length → kf[o]? = some q → (css.getD k [])[o]? = some c → ys[k * kf.length + o]? = some y → CellR E q c y
theorem isRo.base {E E' : Env} {kd : List Kd} {xs : List (List Value)} {f : Bool} {y : Value} (h : isRo E kd xs f y) (hf : ∀ n, E.fixed n → E'.fixed n ∧ E'.w0.heap[n]? = E.w0.heap[n]?) : isRo E' kd xs f y := by
  obtain ⟨a, cap, h1, h2, h3, h4, h5, h6⟩ := h
  refine ⟨a, cap, h1, h2, h3, h4, h5, ?_⟩
  rcases h6 with h6 | ⟨b, off, h7, h8, h9⟩
  · exact .inl h6
  · exact .inr ⟨b, off, h7, (hf _ h8).1, fun j u hj => by have := h9 j u hj; simp only [World.cell?, (hf _ h8).2] at this ⊢; exact this⟩
theorem RofY.base {E E' : Env} {kf : List Kf} {css : List (List (List (List Value)))} {ys : List Value} (h : RofY E kf css ys) (hf : ∀ n, E.fixed n → E'.fixed n ∧ E'.w0.heap[n]? = E.w0.heap[n]?) : RofY E' kf css ys := by
  refine ⟨h.pos, h.len, h.els, fun k o q c y h1 h2 h3 h4 => ?_⟩
  have := h.cell k o q c y h1 h2 h3 h4
  cases q with
  | k q => exact this
  | sl e kd => exact ⟨this.1, this.2.base hf⟩
/-- A slice that is read alone: n elements of so many cells. -/
def RoP (E : Env) (sz : Nat) (v : Value) (n : Nat) (ys : List Value) : Prop :=
  ys.length = n * sz ∧ ∃ a cap, v = .slice a n cap ∧ n ≤ cap ∧ n ≤ maxLen ∧ (n = 0 ∨ ∃ b off, a = some ⟨b, off, none⟩ ∧ RoAt E b off ys)
theorem RoP.base {E E' : Env} {sz : Nat} {v : Value} {n : Nat} {ys : List Value} (h : RoP E sz v n ys) (hf : ∀ n, E.fixed n → E'.fixed n ∧ E'.w0.heap[n]? = E.w0.heap[n]?) : RoP E' sz v n ys := by
  obtain ⟨h0, a, cap, h1, h2, h3, h4⟩ := h
  refine ⟨h0, a, cap, h1, h2, h3, ?_⟩
  rcases h4 with h4 | ⟨b, off, h5, h6, h7⟩
  · exact .inl h4
  · exact .inr ⟨b, off, h5, (hf _ h6).1, fun j u hj => by have := h7 j u hj; simp only [World.cell?, (hf _ h6).2] at this ⊢; exact this⟩
/-- These cells are those, but for some. -/
structure DerY (ρ : Rho) (kf : List Kf) (exc : List (Nat × Nat × SV)) (ys zs : List Value) : Prop where
  len : ys.length = zs.length
  lt : ∀ e ∈ exc, e.2.1 < kf.length
  same : ∀ j, (∀ e ∈ exc, e.1 * kf.length + e.2.1 ≠ j) → ys[j]? = zs[j]?
  exc : ∀ e ∈ exc, ∃ y, ys[e.1 * kf.length + e.2.1]? = some y ∧ DV ρ e.2.2 y
  slc : ∀ j y, isSl kf (j % kf.length) = true → zs[j]? = some y → ∃ a n c, y = .slice a n c

def BlkOk (E : Env) (ρ : Rho) (w : World) (i : Nat) : Blk → Prop
  | .hole => ρ i = none
  | .dead => True
  | .cells e cs => ∃ p vs, ρ i = some p ∧ w.heap[p.block]? = some (.cells vs e (0, 0)) ∧ DL ρ cs vs.toList
  | .row e kd xs => ∃ p, ρ i = some p ∧ p.block = kd.length ∧ 0 < kd.length ∧ (∀ x ∈ xs, Wk kd x) ∧ OwnP w e kd.length p.val xs.length xs.flatten
  | .rcells cs => ∃ p vs e, ρ i = some p ∧ E.fixed p.block ∧ E.w0.heap[p.block]? = some (.cells vs e (0, 0)) ∧ DL ρ cs vs.toList
  | .ror kd xs full => ∃ p, ρ i = some p ∧ p.block = kd.length ∧ 0 < kd.length ∧ isRo E kd xs full p.val
  | .dfr => ∃ p, ρ i = some p ∧ w.heap[p.block]? = some (.deferred (some []))
  | .loop _ regs ps assign body state pending d => ∃ p q ts fn, ρ i = some p ∧ ρ d = some q ∧ w.heap[p.block]? = some (.loop ⟨state, pending, fn, ts, ps, assign, body, q.block⟩) ∧ DL ρ regs ts.toList
  | .map k kd agg m => ∃ p, ρ i = some p ∧ w.heap[p.block]? = some (.map (entsOf k agg m).toArray m.length) ∧ (agg = false → kd.length = 1) ∧ ∀ x ∈ m, Wk kd x.2
  | .iter mi n seen => ∃ p q, ρ i = some p ∧ ρ mi = some q ∧ w.heap[p.block]? = some (.mapIter (some q.block) n seen.reverse.toArray n)
  | .rr e g => ∃ p q, ρ i = some p ∧ ρ g = some q ∧ p.block = q.block ∧ 0 < p.block ∧ ∃ (ys : Array Value) (n : Nat), q.val = .tuple ys ∧ OwnP w e p.block p.val n ys.toList
  | .fam kf css lent => ∃ p, ρ i = some p ∧ FamOk w kf css lent p
  | .ali g k o kd => ∃ p q, ρ i = some p ∧ ρ g = some q ∧ p.block = kd.length ∧ ∃ ys : Array Value, q.val = .tuple ys ∧ ys.toList[k * q.block + o]? = some p.val
  | .der n g kf exc => ∃ p q, ρ i = some p ∧ ρ g = some q ∧ p.block = kf.length ∧ q.block = kf.length ∧ 0 < kf.length ∧ ∃ ys zs : Array Value, p.val = .tuple ys ∧ q.val = .tuple zs ∧ ys.toList.length = n * kf.length ∧ DerY ρ kf exc ys.toList zs.toList
  | .rfm kf css => ∃ p, ρ i = some p ∧ p.block = kf.length ∧ ∃ ys : Array Value, p.val = .tuple ys ∧ RofY E kf css ys.toList
  | .rof g => ∃ p q, ρ i = some p ∧ ρ g = some q ∧ p.block = q.block ∧ 0 < p.block ∧ ∃ (ys : Array Value) (n : Nat), q.val = .tuple ys ∧ RoP E p.block p.val n ys.toList
  | .opq n => ∃ p a c, ρ i = some p ∧ p.val = .slice a n c ∧ n ≤ c ∧ n ≤ maxLen

/-- The slot takes this block. -/
def takes (ρ : Rho) (i : Nat) : Blk → Nat → Prop
  | .cells .., n => ∃ p, ρ i = some p ∧ p.block = n
  | .row .., n => ∃ p, ρ i = some p ∧ sliceB p.val = some n
  | .dfr, n => ∃ p, ρ i = some p ∧ p.block = n
  | .loop .., n => ∃ p, ρ i = some p ∧ p.block = n
  | .map .., n => ∃ p, ρ i = some p ∧ p.block = n
  | .iter .., n => ∃ p, ρ i = some p ∧ p.block = n
  | .rr .., n => ∃ p, ρ i = some p ∧ sliceB p.val = some n
  | .fam kf _ lent, n => ∃ p, ρ i = some p ∧ famT kf lent p n
  | _, _ => False

/-- What does not turn in a record of a range over a function. -/
structure LoopKept (L L' : Loop) : Prop where
  fn : L'.fn = L.fn
  tmps : L'.tmps = L.tmps
  params : L'.params = L.params
  assign : L'.assign = L.assign
  body : L'.body = L.body
  defers : L'.defers = L.defers
/-- Each record that was there is there. -/
def Stat (w w' : World) : Prop := ∀ (b : Nat) (L : Loop), w.heap[b]? = some (Obj.loop L) → ∃ L', w'.heap[b]? = some (Obj.loop L') ∧ LoopKept L L'
theorem Stat.refl (w : World) : Stat w w := fun _ L h => ⟨L, h, rfl, rfl, rfl, rfl, rfl, rfl⟩
theorem Stat.trans {a b c : World} (h : Stat a b) (k : Stat b c) : Stat a c := fun n L hn => by
  obtain ⟨L1, h1, k1⟩ := h n L hn
  obtain ⟨L2, h2, k2⟩ := k n L1 h1
  exact ⟨L2, h2, k2.fn.trans k1.fn, k2.tmps.trans k1.tmps, k2.params.trans k1.params, k2.assign.trans k1.assign, k2.body.trans k1.body, k2.defers.trans k1.defers⟩
theorem Stat.of_block {w w' : World} (h : ∀ k, k < w.heap.size → w'.heap[k]? = w.heap[k]?) : Stat w w' := fun b L hb =>
  ⟨L, by rw [h b (Array.getElem?_eq_some_iff.1 hb).1]; exact hb, rfl, rfl, rfl, rfl, rfl, rfl⟩
/-- Another block turned alone, one that is no record. -/
theorem Stat.of_other {w w' : World} {g : Nat} {ob : Obj} (hg : w.heap[g]? = some ob) (hn : ∀ L, ob ≠ Obj.loop L) (h : ∀ k, k ≠ g → w'.heap[k]? = w.heap[k]?) : Stat w w' := fun b L hb => by
  by_cases e : b = g
  · subst e; rw [hg] at hb; exact absurd (Option.some.inj hb) (hn L)
  · exact ⟨L, by rw [h b e]; exact hb, rfl, rfl, rfl, rfl, rfl, rfl⟩

structure Same (w w' : World) : Prop where
  os : w'.os = w.os
  tape : w'.tape = w.tape
  output : w'.output = w.output
  size : w.heap.size ≤ w'.heap.size
  stat : Stat w w'

theorem Same.refl (w : World) : Same w w := ⟨rfl, rfl, rfl, Nat.le_refl _, Stat.refl w⟩
theorem Same.trans {a b c : World} (h : Same a b) (k : Same b c) : Same a c := ⟨k.os.trans h.os, k.tape.trans h.tape, k.output.trans h.output, Nat.le_trans h.size k.size, h.stat.trans k.stat⟩

/-- What is known of the package-level variable. -/
def GlobOk (E : Env) : Prop := ∀ x, theG = some x → E.w0.cell? ⟨0, 0, none⟩ = some x ∧ E.fixed 0
structure DH (E : Env) (ρ : Rho) (h : List Blk) (w : World) : Prop where
  same : Same E.w0 w
  base : E.B ≤ E.w0.heap.size
  glob : GlobOk E
  old : ∀ b, E.fixed b → w.heap[b]? = E.w0.heap[b]?
  fresh : ∀ i, h.length ≤ i → ρ i = none
  ok : ∀ i b, h[i]? = some b → BlkOk E ρ w i b
  own : ∀ i b n, h[i]? = some b → takes ρ i b n → ¬ E.fixed n ∧ n < w.heap.size
  apart : ∀ i j b c n, i ≠ j → h[i]? = some b → h[j]? = some c → takes ρ i b n → ¬ takes ρ j c n

def putB (i : Nat) (b : Blk) (h : List Blk) : List Blk := if i < h.length then h.set i b else h ++ [b]

theorem putB_length {i : Nat} {b : Blk} {h : List Blk} : h.length ≤ (putB i b h).length := by
  unfold putB; split <;> simp

theorem putB_get {i : Nat} {b : Blk} {h : List Blk} (hi : i ≤ h.length) (k : Nat) : (putB i b h)[k]? = if k = i then some b else h[k]? := by
  unfold putB
  split
  · rename_i hlt
    rw [List.getElem?_set]
    split
    · subst_vars; simp
    · rename_i hne; rw [if_neg (fun e => hne e.symm)]
  · have : i = h.length := by omega
    subst this
    split
    · subst_vars; simp
    · rename_i hne
      rw [List.getElem?_append]
      split
      · rfl
      · rw [List.getElem?_eq_none (by simp; omega), List.getElem?_eq_none (by omega)]

theorem takes.mono {ρ ρ' : Rho} (hx : Ext ρ ρ') {i : Nat} {b : Blk} {n : Nat} (h : takes ρ i b n) : takes ρ' i b n := by
  cases b <;> simp only [takes] at *
  all_goals (obtain ⟨p, hp, e⟩ := h; exact ⟨p, hx _ _ hp, e⟩)

/-- A slot that is known takes in the greater ρ what it took in the smaller one. -/
theorem takes.back {E : Env} {w : World} {ρ ρ' : Rho} (hx : Ext ρ ρ') {i : Nat} {b : Blk} {n : Nat} (ok : BlkOk E ρ w i b) (h : takes ρ' i b n) : takes ρ i b n := by
  cases b <;> simp only [takes, BlkOk] at *
  · obtain ⟨p, vs, hp, _⟩ := ok
    obtain ⟨q, hq, e⟩ := h
    have := hx _ _ hp
    rw [hq] at this; cases this
    exact ⟨p, hp, e⟩
  · obtain ⟨p, hp, _⟩ := ok
    obtain ⟨q, hq, e⟩ := h
    have := hx _ _ hp
    rw [hq] at this; cases this
    exact ⟨p, hp, e⟩
  · obtain ⟨p, hp, _⟩ := ok
    obtain ⟨q, hq, e⟩ := h
    have := hx _ _ hp
    rw [hq] at this; cases this
    exact ⟨p, hp, e⟩
  · obtain ⟨p, _, _, _, hp, _⟩ := ok
    obtain ⟨q, hq, e⟩ := h
    have := hx _ _ hp
    rw [hq] at this; cases this
    exact ⟨p, hp, e⟩
  · obtain ⟨p, hp, _⟩ := ok
    obtain ⟨q, hq, e⟩ := h
    have := hx _ _ hp
    rw [hq] at this; cases this
    exact ⟨p, hp, e⟩
  · obtain ⟨p, _, hp, _⟩ := ok
    obtain ⟨q, hq, e⟩ := h
    have := hx _ _ hp
    rw [hq] at this; cases this
    exact ⟨p, hp, e⟩
  · obtain ⟨p, _, hp, _⟩ := ok
    obtain ⟨q, hq, e⟩ := h
    have := hx _ _ hp
    rw [hq] at this; cases this
    exact ⟨p, hp, e⟩
  · obtain ⟨p, hp, _⟩ := ok
    obtain ⟨q, hq, e⟩ := h
    have := hx _ _ hp
    rw [hq] at this; cases this
    exact ⟨p, hp, e⟩

theorem BlkOk.keep {E : Env} {ρ ρ' : Rho} {w w' : World} {i : Nat} {b : Blk} (h : BlkOk E ρ w i b) (hx : Ext ρ ρ') (hh : b = .hole → ρ' i = none)
    (hk : ∀ n, takes ρ i b n → w'.heap[n]? = w.heap[n]?) : BlkOk E ρ' w' i b := by
  cases b with
  | hole => exact hh rfl
  | dead => trivial
  | cells e cs =>
    obtain ⟨p, vs, hp, hw, hl⟩ := h
    exact ⟨p, vs, hx _ _ hp, by rw [hk p.block ⟨p, hp, rfl⟩]; exact hw, DL.mono hx _ _ hl⟩
  | row e kd xs =>
    obtain ⟨p, hp, h1, h2, h3, h4⟩ := h
    refine ⟨p, hx _ _ hp, h1, h2, h3, h4.1, ?_⟩
    rcases h4.2 with hn | ⟨g, off, cap, cur, hv, hg, r⟩
    · exact .inl hn
    · refine .inr ⟨g, off, cap, cur, hv, ?_, r⟩
      rw [hk g ⟨p, hp, by rw [hv]; rfl⟩]; exact hg
  | rcells cs =>
    obtain ⟨p, vs, e, hp, h1, h2, hl⟩ := h
    exact ⟨p, vs, e, hx _ _ hp, h1, h2, DL.mono hx _ _ hl⟩
  | ror kd xs f =>
    obtain ⟨p, hp, h⟩ := h
    exact ⟨p, hx _ _ hp, h⟩
  | dfr =>
    obtain ⟨p, hp, h⟩ := h
    exact ⟨p, hx _ _ hp, by rw [hk p.block ⟨p, hp, rfl⟩]; exact h⟩
  | loop f regs ps assign body state pending d =>
    obtain ⟨p, q, ts, fn, hp, hq, h, hl⟩ := h
    exact ⟨p, q, ts, fn, hx _ _ hp, hx _ _ hq, by rw [hk p.block ⟨p, hp, rfl⟩]; exact h, DL.mono hx _ _ hl⟩
  | map k kd agg m =>
    obtain ⟨p, hp, h, r⟩ := h
    exact ⟨p, hx _ _ hp, by rw [hk p.block ⟨p, hp, rfl⟩]; exact h, r⟩
  | iter mi n seen =>
    obtain ⟨p, q, hp, hq, h⟩ := h
    exact ⟨p, q, hx _ _ hp, hx _ _ hq, by rw [hk p.block ⟨p, hp, rfl⟩]; exact h⟩
  | rr e g =>
    obtain ⟨p, q, hp, hq, h1, h2, ys, n, h3, h4⟩ := h
    exact ⟨p, q, hx _ _ hp, hx _ _ hq, h1, h2, ys, n, h3, h4.keep fun b hb => hk b ⟨p, hp, hb⟩⟩
  | fam kf css lent =>
    obtain ⟨p, hp, h1, ys, h2, h3⟩ := h
    exact ⟨p, hx _ _ hp, h1, ys, h2, h3.keep fun j b hb => hk b ⟨p, hp, ys, h2, j, hb⟩⟩
  | ali g k o kd =>
    obtain ⟨p, q, hp, hq, h⟩ := h
    exact ⟨p, q, hx _ _ hp, hx _ _ hq, h⟩
  | der n g kf exc =>
    obtain ⟨p, q, hp, hq, h1, h2, h0, ys, zs, h3, h4, hn, h5⟩ := h
    exact ⟨p, q, hx _ _ hp, hx _ _ hq, h1, h2, h0, ys, zs, h3, h4, hn, h5.len, h5.lt, h5.same, fun e he => by
      obtain ⟨y, hy, hd⟩ := h5.exc e he
      exact ⟨y, hy, DV.mono hx _ _ hd⟩, h5.slc⟩
  | rfm kf css =>
    obtain ⟨p, hp, h⟩ := h
    exact ⟨p, hx _ _ hp, h⟩
  | rof g =>
    obtain ⟨p, q, hp, hq, h⟩ := h
    exact ⟨p, q, hx _ _ hp, hx _ _ hq, h⟩
  | opq n =>
    obtain ⟨p, a, c, hp, h⟩ := h
    exact ⟨p, a, c, hx _ _ hp, h⟩

/-- The slot i turns to b, in a world in which all that others take, and all that is fixed, is as it was. -/
theorem DH.put {E : Env} {ρ ρ' : Rho} {h : List Blk} {w w' : World} (D : DH E ρ h w) (i : Nat) (b : Blk) (hi : i ≤ h.length) (hx : Ext ρ ρ')
    (hnew : ∀ k, k ≠ i → ρ k = none → ρ' k = none) (hs : Same w w')
    (hfix : ∀ k, E.fixed k → w'.heap[k]? = w.heap[k]?)
    (hkeep : ∀ j c k, j ≠ i → h[j]? = some c → takes ρ j c k → w'.heap[k]? = w.heap[k]?)
    (hb : BlkOk E ρ' w' i b)
    (hn : ∀ n, takes ρ' i b n → ¬ E.fixed n ∧ n < w'.heap.size ∧ ∀ j c, j ≠ i → h[j]? = some c → ¬ takes ρ j c n) : DH E ρ' (putB i b h) w' := by
  refine ⟨D.same.trans hs, D.base, D.glob, fun k hk => (hfix k hk).trans (D.old k hk), ?_, ?_, ?_, ?_⟩
  · intro k hk
    have hl := putB_length (i := i) (b := b) (h := h)
    by_cases e : k = i
    · subst e
      exfalso
      have := putB_get (b := b) hi k
      rw [if_pos rfl] at this
      rw [List.getElem?_eq_none hk] at this
      cases this
    · exact hnew k e (D.fresh k (by omega))
  · intro j c hc
    rw [putB_get hi] at hc
    split at hc
    · subst_vars; cases hc; exact hb
    · rename_i hne
      exact (D.ok j c hc).keep hx (fun e => hnew j hne (by subst e; exact D.ok j _ hc)) fun n hn => hkeep j c n hne hc hn
  · intro j c n hc ht
    rw [putB_get hi] at hc
    split at hc
    · subst_vars; cases hc; exact ⟨(hn n ht).1, (hn n ht).2.1⟩
    · have hb := D.own j c n hc (takes.back hx (D.ok j c hc) ht)
      exact ⟨hb.1, Nat.lt_of_lt_of_le hb.2 hs.size⟩
  · intro j k c d n hne hc hd ht
    rw [putB_get hi] at hc hd
    split at hc <;> split at hd
    · omega
    · subst_vars; cases hc
      intro ht'
      exact (hn n ht).2.2 k d (fun e => hne e.symm) hd (takes.back hx (D.ok k d hd) ht')
    · subst_vars; cases hd
      intro ht'
      exact (hn n ht').2.2 j c hne hc (takes.back hx (D.ok j c hc) ht)
    · intro ht'
      exact D.apart j k c d n hne hc hd (takes.back hx (D.ok j c hc) ht) (takes.back hx (D.ok k d hd) ht')

/-- A slice that is owned, as it stands. -/
theorem OwnP.len {w : World} {e : TypeId} {sz : Nat} {v : Value} {n : Nat} {xs : List Value} (h : OwnP w e sz v n xs) : ∃ a c, v = .slice a n c ∧ n ≤ c ∧ n ≤ maxLen ∧
    (c = 0 ∨ ∃ g off, a = some ⟨g, off, none⟩) := by
  rcases h.2 with ⟨a, rfl, rfl⟩ | ⟨g, off, cap, cur, rfl, _, h1, h2, _⟩
  · exact ⟨a, 0, rfl, Nat.le_refl _, Nat.zero_le _, .inl rfl⟩
  · exact ⟨_, _, rfl, h1, by omega, .inr ⟨g, off, rfl⟩⟩
theorem isRo.len {E : Env} {kd : List Kd} {xs : List (List Value)} {f : Bool} {v : Value} (h : isRo E kd xs f v) : ∃ a c, v = .slice a xs.length c ∧ xs.length ≤ c ∧ xs.length ≤ maxLen ∧
    (xs = [] ∨ ∃ g off, a = some ⟨g, off, none⟩) := by
  obtain ⟨a, c, h1, h2, _, h3, _, h4⟩ := h
  refine ⟨a, c, h1, h2, h3, ?_⟩
  rcases h4 with h4 | ⟨b, off, e, _⟩
  · exact .inl h4
  · exact .inr ⟨b, off, e⟩

end Go.Eng
