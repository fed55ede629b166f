/- The engine: the operations on slices, all of them. No condition. -/
import Derived.Test.YtafmknblnamegaaDoorV8X
namespace Go.Eng
open Go.RowKit (Below)

def slotFull (h : List Blk) (i : Nat) : Bool := match h[i]? with
  | some (.ror _ _ f) => f
  | _ => false

def optI (e : Operand → SV) (o : Option Operand) (d : Int) : Option Int := match o with
  | some x => match intOf (e x) with
    | some (_, n, _, _) => some n
    | none => none
  | none => some d

/-- The last bound is 0 outright. -/
def zeroMax (e : Operand → SV) (o : Option Operand) : Bool := match o with
  | some x => match e x with
    | .v (.int _ 0) => true
    | _ => false
  | none => false

/-- A part of a slice of n elements from lo0 on. -/
def partS (e : Operand → SV) (i lo0 n : Nat) (full : Bool) (low high max : Option Operand) : Option Res :=
  match optI e low 0, optI e high n, optI e max 0 with
  | some l, some h, some m =>
    let need := [decide (0 ≤ l) && (decide (l ≤ h) && decide (h ≤ (n : Int))), (!max.isSome) || decide (m = h)]
    cond (zeroMax e max) (some ⟨need, .emp, []⟩) (some ⟨need, .part i (lo0 + l.toNat) (h - l).toNat (max.isSome || (full && !high.isSome)), []⟩)
  | _, _, _ => none

def hiOf (e : Operand → SV) (o : Option Operand) (d : Int) : Int := match o with
  | some x => match intOf (e x) with
    | some (_, _, _, b) => b
    | none => d
  | none => d

def subStr (e : Operand → SV) (y : ByteArray) (hi : Int) (low high : Option Operand) : Option Res :=
  match optI e low 0, optI e high y.size with
  | some l, some h => some ⟨[decide (0 ≤ l) && (decide (l ≤ h) && decide (h ≤ (y.size : Int)))], .s (y.extract l.toNat h.toNat) (min hi (hiOf e high hi)), []⟩
  | _, _ => none

def constI (e : Operand → SV) (o : Option Operand) (d : Int) : Option Int := match o with
  | some x => match e x with
    | .v (.int _ n) => some n
    | _ => none
  | none => some d

def slS (P : Program) (e : Operand → SV) (el : TypeId) (i o n c : Nat) (low high max : Option Operand) : Option Res :=
  match constI e low 0, constI e high n, constI e max c, szOf P el with
  | some l, some h, some m, some sz => cond (decide (0 ≤ l ∧ l ≤ h ∧ h ≤ m ∧ m ≤ (c : Int)))
      (cond (decide (m = l)) (ret .emp) (ret (.sl i (o + l.toNat * sz) (h - l).toNat (m - l).toNat))) none
  | _, _, _, _ => none

/-- A part of what has no elements and no room. -/
def empS (P : Program) (e : Operand → SV) (el : TypeId) (low high max : Option Operand) : Option Res :=
  match optI e low 0, optI e high 0, optI e max 0, szOf P el with
  | some l, some h, some m, some _ => some ⟨[decide (l = 0) && (decide (h = 0) && decide (m = 0))], .emp, []⟩
  | _, _, _, _ => none

def sliceS (P : Program) (e : Operand → SV) (t : TypeId) (x : SV) (low high max : Option Operand) (h : List Blk) : Option Res :=
  match P.underlying t with
  | some (.slice el) => match x with
    | .row i => match slotXs h i with
      | some (kd, xs) => match szOf P el with
        | some sz => cond (decide (sz = kd.length)) (partS e i 0 xs.length (slotFull h i) low high max) none
        | none => none
      | none => none
    | .part i lo n f => match slotXs h i with
      | some (kd, _) => match szOf P el with
        | some sz => cond (decide (sz = kd.length)) (partS e i lo n f low high max) none
        | none => none
      | none => none
    | .sl i o n c => slS P e el i o n c low high max
    | .emp => empS P e el low high max
    | .v (.slice none 0 0) => empS P e el low high max
    | _ => none
  | some .string => match x, max with
    | .s y hi, none => subStr e y hi low high
    | .v (.string y), none => subStr e y y.size low high
    | _, _ => none
  | _ => none

def makeS (P : Program) (t : TypeId) (l c : SV) (nx : Nat) : Option Res :=
  match P.underlying t with
  | some (.slice el) => match rowT P el, zeroSV P el, intOf l, intOf c with
    | some (kd, bytes), some z, some (_, n, _, _), some (_, m, _, _) => match elemK kd z with
      | some v => some ⟨[decide (0 ≤ n) && (decide (n = m) && decide (n * (bytes : Int) ≤ 140737488355328))], .row nx, [(nx, .row el kd (List.replicate n.toNat v))]⟩
      | none => none
    | _, _, _, _ => none
  | _ => none

/-- Is that nil? -/
def nilS (P : Program) (t : TypeId) (a b : SV) : Option Bool := match P.underlying t with
  | some (.pointer _) => match a, b with
    | .ptr .., .v (.pointer none) => some false
    | .v (.pointer none), .ptr .. => some false
    | .rowp .., .v (.pointer none) => some false
    | .v (.pointer none), .rowp .. => some false
    | _, _ => none
  | some (.interface _) => match a, b with
    | .ifc .., .v .nilIface => some false
    | .v .nilIface, .ifc .. => some false
    | _, _ => none
  | some (.slice _) => match a, b with
    | .sl .., .v (.slice none 0 0) => some false
    | .v (.slice none 0 0), .sl .. => some false
    | _, _ => none
  | _ => none

/-- Is a slice nil? If so, it has no elements. -/
def isNilS : SV → Bool
  | .v (.slice none 0 0) => true
  | _ => false
theorem isNilS_DV {ρ : Rho} {s : SV} {y : Value} (h : isNilS s = true) (hd : DV ρ s y) : y = .slice none 0 0 := by
  unfold isNilS at h
  split at h
  · simpa only [DV] using hd
  · cases h
def nilQ (P : Program) (t : TypeId) (a b : SV) (h : List Blk) : Option Bool := match P.underlying t with
  | some (.slice _) => cond (isNilS b) (match a with
    | .row i => (slotXs h i).map fun x => Nat.beq x.2.length 0
    | .part _ _ n _ => some (Nat.beq n 0)
    | .emp => some true
    | _ => none) none
  | _ => none

/-- Is an error none? -/
def isC : Operand → Bool
  | .const _ => true
  | _ => false
def erS (P : Program) (t : TypeId) (c : Bool) (a b : SV) : Option Bool := match P.underlying t with
  | some (.interface _) => match a, b, c with
    | .er p _ _ _, .v .nilIface, true => some p
    | _, _, _ => none
  | _ => none
def opR (P : Program) (o : Oper) (e : Operand → SV) (h : List Blk) (nx : Nat) : Option Res :=
  match o.op with
  | .call c => match c.callee, c.args.toList.map e, c.argTypes.toList with
    | .builtin .append, [s, x], [t, tx] => appS P t tx s x h nx
    | _, _, _ => none
  | .load t a => match e a with
    | .rowp i k of => match slotXs h i with
      | some (kd, xs) => (loadFrom P t (mkS (xs.getD k []) 0 kd) of).bind ret
      | none => none
    | _ => none
  | .store t a x => match e a with
    | .rowp i k of => match h[i]? with
      | some (.row el kd xs) => (storeTo P t (mkS (xs.getD k []) 0 kd) of (e x)).bind fun cs => (elemK kd cs).bind fun v => some ⟨[], .v undef, [(i, .row el kd (xs.set k v))]⟩
      | _ => none
    | _ => none
  | .nilCheck x => match e x with
    | .rowp i k of => ret (.rowp i k of)
    | _ => none
  | .fieldAddr t x f => match e x with
    | .rowp i k of => match P.underlying t with
      | some (.struct fs) => match fs[f]? with
        | some fd => match szOf P fd.type with
          | some (_ + 1) => ret (.rowp i k (of + fd.offset))
          | _ => none
        | none => none
      | _ => none
    | _ => none
  | .indexAddr t x ix => match P.underlying t, e x, intOf (e ix) with
    | some (.slice el), .row i, some (_, n, _, _) => match slotXs h i, szOf P el with
      | some (kd, xs), some sz => cond (decide (sz = kd.length)) (retIf (inB n xs.length) (.rowp i n.toNat 0)) none
      | _, _ => none
    | some (.slice el), .part i lo m _, some (_, n, _, _) => match slotXs h i, szOf P el with
      | some (kd, _), some sz => cond (decide (sz = kd.length)) (retIf (inB n m) (.rowp i (lo + n.toNat) 0)) none
      | _, _ => none
    | some (.array m el), .rowp i k of, some (_, n, _, _) => match szOf P el with
      | some sz => retIf (inB n m) (.rowp i k (of + n.toNat * sz))
      | none => none
    | _, _, _ => none
  | .slice t x low high max => sliceS P e t (e x) low high max h
  | .makeSlice t l c => makeS P t (e l) (e c) nx
  | .binOp op t x y _ => match op with
    | .eql => match nilS P t (e x) (e y) with
      | some b => ret (.v (.bool b))
      | none => match erS P t (isC y) (e x) (e y) with
        | some p => ret (.b p)
        | none => (nilQ P t (e x) (e y) h).bind fun p => ret (.q p true)
    | .neq => match nilS P t (e x) (e y) with
      | some b => ret (.v (.bool (!b)))
      | none => match erS P t (isC y) (e x) (e y) with
        | some p => ret (.b (!p))
        | none => (nilQ P t (e x) (e y) h).bind fun p => ret (.q true p)
    | _ => none
  | .index t x ix => match P.underlying t, e x, intOf (e ix) with
    | some .string, .s y _, some (_, n, _, _) => retIf (inB n y.size) (.i .u8 ((y.data.toList.getD n.toNat 0).toNat : Int) 0 255)
    | some .string, .v (.string y), some (_, n, _, _) => retIf (inB n y.size) (.i .u8 ((y.data.toList.getD n.toNat 0).toNat : Int) 0 255)
    | _, _, _ => none
  | _ => none

section
variable {P : Program} {E : Env} {ρ : Rho} {w : World} {hp : List Blk} {o : Oper} {e : Operand → SV} {ev : Operand → Value} {nx : Nat} {r : Res}

theorem ok_idxRow {t : TypeId} {x ix : Operand} {k : IntKind} {n : Int} {el : TypeId} {sz i lo m : Nat} {kd : List Kd} {xs : List (List Value)} {ps : List Bool} (ho : o.op = .indexAddr t x ix) (hix : ev ix = .int k n)
    (hu : P.underlying t = some (.slice el)) (hsz : szOf P el = some sz) (hk : sz = kd.length) (hs : slotXs hp i = some (kd, xs)) (hb : 0 ≤ n ∧ n < (m : Int))
    (hx : (e x = .row i ∧ lo = 0 ∧ m = xs.length) ∨ ∃ f, e x = .part i lo m f)
    (EV : ∀ x, DV ρ (e x) (ev x)) (D : DH E ρ hp w) : Went P E ρ hp w o ev ⟨ps, .rowp i (lo + n.toNat) 0, []⟩ := by
  have hv := EV x
  obtain ⟨p, hp', hbk, hk0, a, c, e1, k1, k2, k3, k4⟩ := slot_reads D hs
  subst hk
  rcases hx with ⟨hx, rfl, rfl⟩ | ⟨f, hx⟩ <;> rw [hx] at hv <;> simp only [DV] at hv
  · obtain ⟨q, a2, n2, c2, hq, hv, hv2⟩ := hv
    rw [hp'] at hq; cases hq
    rcases k4 with rfl | ⟨g, off, rfl, _⟩
    · simp at hb; omega
    · rw [e1] at hv
      refine went_pure D (y := .pointer (some ⟨g, off + n.toNat * kd.length, none⟩)) ?_ ?_
      · simp [execOp, ho, Instr.indexAt, hv, hix, asIntOf, run_underlying hu, hb, szOf_run hsz, addr_add]
      · simp only [DV]
        exact ⟨p, g, off, _, _, hp', e1, by omega, by rw [hbk]; simp⟩
  · obtain ⟨q, a2, c2, hq, hv, h1, h2, _, h3⟩ := hv
    rw [hp'] at hq; cases hq
    rcases h3 with rfl | ⟨g, off, m2, c0, x1, rfl, x3, x4⟩
    · omega
    · refine went_pure D (y := .pointer (some ⟨g, off + lo * p.block + n.toNat * kd.length, none⟩)) ?_ ?_
      · simp [execOp, ho, Instr.indexAt, hv, hix, asIntOf, run_underlying hu, hb, szOf_run hsz, addr_add]
      · simp only [DV]
        refine ⟨p, g, off, _, _, hp', x1, by omega, ?_⟩
        rw [hbk, Nat.add_mul]; simp [Nat.add_assoc]

theorem ok_idxArr {t : TypeId} {x ix : Operand} {k : IntKind} {n : Int} {el : TypeId} {sz i kk of m : Nat} {ps : List Bool} (ho : o.op = .indexAddr t x ix) (hix : ev ix = .int k n)
    (hu : P.underlying t = some (.array m el)) (hsz : szOf P el = some sz) (hb : 0 ≤ n ∧ n < (m : Int)) (hx : e x = .rowp i kk of)
    (EV : ∀ x, DV ρ (e x) (ev x)) (D : DH E ρ hp w) : Went P E ρ hp w o ev ⟨ps, .rowp i kk (of + n.toNat * sz), []⟩ := by
  have hv := EV x
  rw [hx] at hv
  simp only [DV] at hv
  obtain ⟨p, g, off, n2, c, hp', x1, x2, hv⟩ := hv
  refine went_pure D (y := .pointer (some ⟨g, off + kk * p.block + of + n.toNat * sz, none⟩)) ?_ ?_
  · simp [execOp, ho, Instr.indexAt, hv, hix, asIntOf, sureAddr_run, run_underlying hu, hb, szOf_run hsz, addr_add]
  · simp only [DV]
    exact ⟨p, g, off, n2, c, hp', x1, x2, by simp [Nat.add_assoc]⟩

theorem ok_fieldRow {t : TypeId} {x : Operand} {f : Nat} {fs : Array Field} {fd : Field} {n i k of : Nat} (ho : o.op = .fieldAddr t x f) (hu : P.underlying t = some (.struct fs)) (hf : fs[f]? = some fd)
    (hn : szOf P fd.type = some (n + 1)) (hx : e x = .rowp i k of) (EV : ∀ x, DV ρ (e x) (ev x)) (D : DH E ρ hp w) : Went P E ρ hp w o ev ⟨[], .rowp i k (of + fd.offset), []⟩ := by
  have hv := EV x
  rw [hx] at hv
  simp only [DV] at hv
  obtain ⟨p, g, off, n2, c, hp', x1, x2, hv⟩ := hv
  refine went_pure D (y := .pointer (some ⟨g, off + k * p.block + of + fd.offset, none⟩)) ?_ (by simp only [DV]; exact ⟨p, g, off, n2, c, hp', x1, x2, by rw [Nat.add_assoc]⟩)
  simp [execOp, ho, Instr.fieldAt, hv, sureAddr_run, run_underlying hu, hf, fieldPlace, szOf_run hn, addr_add]

theorem ok_nilRow {x : Operand} {i k of : Nat} (ho : o.op = .nilCheck x) (hx : e x = .rowp i k of) (EV : ∀ x, DV ρ (e x) (ev x)) (D : DH E ρ hp w) : Went P E ρ hp w o ev ⟨[], .rowp i k of, []⟩ := by
  have hv := EV x
  refine went_pure D (y := ev x) ?_ (by rw [← hx]; exact hv)
  rw [hx] at hv
  simp only [DV] at hv
  obtain ⟨p, g, off, n2, c, hp', x1, x2, hv⟩ := hv
  simp [execOp, ho, hv]

theorem intOf_ev {x : Operand} {k : IntKind} {n lo hi : Int} (h : intOf (e x) = some (k, n, lo, hi)) (EV : ∀ x, DV ρ (e x) (ev x)) : ev x = .int k n ∧ lo ≤ n ∧ n ≤ hi := intOf_DV h (EV x)

theorem nil_run {op : BinOp} (hop : op = .eql ∨ op = .neq) {t : TypeId} {a c : Value} {b : Bool} (h : (Op.equal t a c).run P w = .ok b w) (hab : (∃ p q, a = .pointer p ∧ c = .pointer q) ∨ (∃ p1 p2 q, a = .iface p1 p2 ∧ c = .nilIface ∧ q = ()) ∨ (∃ p1 p2 q, c = .iface p1 p2 ∧ a = .nilIface ∧ q = ()) ∨ ∃ p1 p2 p3 q1 q2 q3, a = .slice p1 p2 p3 ∧ c = .slice q1 q2 q3)
    (x y : Operand) : (do eqGuard op t x y a c; Go.binOp op t a c : Sem Value).run P w = .ok (.bool (if op = .eql then b else !b)) w := by
  rcases hop with rfl | rfl <;> rcases hab with ⟨p, q, rfl, rfl⟩ | ⟨p1, p2, _, rfl, rfl, _⟩ | ⟨p1, p2, _, rfl, rfl, _⟩ | ⟨p1, p2, p3, q1, q2, q3, rfl, rfl⟩ <;>
    simp [eqGuard, Go.binOp, h]

theorem eq_ptr1D {t el : TypeId} (hu : P.underlying t = some (.pointer el)) (a : Addr) (d : Nat) : (Op.equalIn (d + 1) t (.pointer (some a)) (.pointer none)).run P w = .ok false w := by
  simp only [Op.equalIn, Sem.run_bind, run_underlying hu, Result.andThen_ok]; rfl
theorem eq_ptr1 {t el : TypeId} (hu : P.underlying t = some (.pointer el)) (a : Addr) : (Op.equal t (.pointer (some a)) (.pointer none)).run P w = .ok false w := eq_ptr1D hu a 9999
theorem eq_ptr2D {t el : TypeId} (hu : P.underlying t = some (.pointer el)) (a : Addr) (d : Nat) : (Op.equalIn (d + 1) t (.pointer none) (.pointer (some a))).run P w = .ok false w := by
  simp only [Op.equalIn, Sem.run_bind, run_underlying hu, Result.andThen_ok]; rfl
theorem eq_ptr2 {t el : TypeId} (hu : P.underlying t = some (.pointer el)) (a : Addr) : (Op.equal t (.pointer none) (.pointer (some a))).run P w = .ok false w := eq_ptr2D hu a 9999
theorem eq_ifc1D {t : TypeId} {ms : Array (String × TypeId)} (hu : P.underlying t = some (.interface ms)) (p : TypeId) (q : Value) (d : Nat) : (Op.equalIn (d + 1) t (.iface p q) .nilIface).run P w = .ok false w := by
  simp only [Op.equalIn, Sem.run_bind, run_underlying hu, Result.andThen_ok]; rfl
theorem eq_ifc1 {t : TypeId} {ms : Array (String × TypeId)} (hu : P.underlying t = some (.interface ms)) (p : TypeId) (q : Value) : (Op.equal t (.iface p q) .nilIface).run P w = .ok false w := eq_ifc1D hu p q 9999
theorem eq_ifc2D {t : TypeId} {ms : Array (String × TypeId)} (hu : P.underlying t = some (.interface ms)) (p : TypeId) (q : Value) (d : Nat) : (Op.equalIn (d + 1) t .nilIface (.iface p q)).run P w = .ok false w := by
  simp only [Op.equalIn, Sem.run_bind, run_underlying hu, Result.andThen_ok]; rfl
theorem eq_ifc2 {t : TypeId} {ms : Array (String × TypeId)} (hu : P.underlying t = some (.interface ms)) (p : TypeId) (q : Value) : (Op.equal t .nilIface (.iface p q)).run P w = .ok false w := eq_ifc2D hu p q 9999
theorem eq_sl1D {t el : TypeId} (hu : P.underlying t = some (.slice el)) (a : Addr) (n c : Nat) (d : Nat) : (Op.equalIn (d + 1) t (.slice (some a) n c) (.slice none 0 0)).run P w = .ok false w := by
  simp only [Op.equalIn, Sem.run_bind, run_underlying hu, Result.andThen_ok]; rfl
theorem eq_sl1 {t el : TypeId} (hu : P.underlying t = some (.slice el)) (a : Addr) (n c : Nat) : (Op.equal t (.slice (some a) n c) (.slice none 0 0)).run P w = .ok false w := eq_sl1D hu a n c 9999
theorem eq_sl2D {t el : TypeId} (hu : P.underlying t = some (.slice el)) (a : Addr) (n c : Nat) (d : Nat) : (Op.equalIn (d + 1) t (.slice none 0 0) (.slice (some a) n c)).run P w = .ok false w := by
  simp only [Op.equalIn, Sem.run_bind, run_underlying hu, Result.andThen_ok]; rfl
theorem eq_sl2 {t el : TypeId} (hu : P.underlying t = some (.slice el)) (a : Addr) (n c : Nat) : (Op.equal t (.slice none 0 0) (.slice (some a) n c)).run P w = .ok false w := eq_sl2D hu a n c 9999
theorem ok_nil {op : BinOp} {t t' : TypeId} {x y : Operand} {b : Bool} (hop : op = .eql ∨ op = .neq) (ho : o.op = .binOp op t x y t') (h : nilS P t (e x) (e y) = some b) (EV : ∀ x, DV ρ (e x) (ev x)) (D : DH E ρ hp w) :
    Went P E ρ hp w o ev ⟨[], .v (.bool (if op = .eql then b else !b)), []⟩ := by
  have hx := EV x
  have hy := EV y
  have fin : (do eqGuard op t x y (ev x) (ev y); Go.binOp op t (ev x) (ev y) : Sem Value).run P w = .ok (.bool (if op = .eql then b else !b)) w → Went P E ρ hp w o ev ⟨[], .v (.bool (if op = .eql then b else !b)), []⟩ := fun h1 =>
    went_pure D (y := .bool (if op = .eql then b else !b)) (bin_exec ho h1) (by simp [DV])
  refine fin ?_
  unfold nilS at h
  split at h
  · rename_i el hu
    split at h
    · rename_i i of h1 h2
      rw [h1] at hx; rw [h2] at hy
      simp only [DV] at hx hy
      obtain ⟨p, _, hx⟩ := hx
      cases h
      rw [hx, hy]
      exact nil_run hop (eq_ptr1 hu _) (.inl ⟨_, _, rfl, rfl⟩) x y
    · rename_i i of h1 h2
      rw [h1] at hx; rw [h2] at hy
      simp only [DV] at hx hy
      obtain ⟨p, _, hy⟩ := hy
      cases h
      rw [hx, hy]
      exact nil_run hop (eq_ptr2 hu _) (.inl ⟨_, _, rfl, rfl⟩) x y
    · rename_i i k of h1 h2
      rw [h1] at hx; rw [h2] at hy
      simp only [DV] at hx hy
      obtain ⟨p, g, off, n2, c, hp', x1, x2, hx⟩ := hx
      cases h
      rw [hx, hy]
      exact nil_run hop (eq_ptr1 hu _) (.inl ⟨_, _, rfl, rfl⟩) x y
    · rename_i i k of h1 h2
      rw [h1] at hx; rw [h2] at hy
      simp only [DV] at hx hy
      obtain ⟨p, g, off, n2, c, hp', x1, x2, hy⟩ := hy
      cases h
      rw [hx, hy]
      exact nil_run hop (eq_ptr2 hu _) (.inl ⟨_, _, rfl, rfl⟩) x y
    · cases h
  · rename_i ms hu
    split at h
    · rename_i tt z h1 h2
      rw [h1] at hx; rw [h2] at hy
      simp only [DV] at hx hy
      obtain ⟨z', hx, _⟩ := hx
      cases h
      rw [hx, hy]
      exact nil_run hop (eq_ifc1 hu _ _) (.inr (.inl ⟨_, _, (), rfl, rfl, rfl⟩)) x y
    · rename_i tt z h1 h2
      rw [h1] at hx; rw [h2] at hy
      simp only [DV] at hx hy
      obtain ⟨z', hy, _⟩ := hy
      cases h
      rw [hx, hy]
      exact nil_run hop (eq_ifc2 hu _ _) (.inr (.inr (.inl ⟨_, _, (), rfl, rfl, rfl⟩))) x y
    · cases h
  · rename_i el hu
    split at h
    · rename_i i of n c h1 h2
      rw [h1] at hx; rw [h2] at hy
      simp only [DV] at hx hy
      obtain ⟨p, _, _, hx⟩ := hx
      cases h
      rw [hx, hy]
      exact nil_run hop (eq_sl1 hu _ _ _) (.inr (.inr (.inr ⟨_, _, _, _, _, _, rfl, rfl⟩))) x y
    · rename_i i of n c h1 h2
      rw [h1] at hx; rw [h2] at hy
      simp only [DV] at hx hy
      obtain ⟨p, _, _, hy⟩ := hy
      cases h
      rw [hx, hy]
      exact nil_run hop (eq_sl2 hu _ _ _) (.inr (.inr (.inr ⟨_, _, _, _, _, _, rfl, rfl⟩))) x y
    · cases h
  · cases h

theorem eq_slD {t el : TypeId} (hu : P.underlying t = some (.slice el)) (a : Option Addr) (n c : Nat) (d : Nat) : (Op.equalIn (d + 1) t (.slice a n c) (.slice none 0 0)).run P w = .ok a.isNone w := by
  cases a <;> (simp only [Op.equalIn, Sem.run_bind, run_underlying hu, Result.andThen_ok]; rfl)
theorem eq_sl {t el : TypeId} (hu : P.underlying t = some (.slice el)) (a : Option Addr) (n c : Nat) : (Op.equal t (.slice a n c) (.slice none 0 0)).run P w = .ok a.isNone w := eq_slD hu a n c 9999
theorem ok_nilQ {op : BinOp} {t t' : TypeId} {x y : Operand} {p : Bool} (hop : op = .eql ∨ op = .neq) (ho : o.op = .binOp op t x y t') (h : nilQ P t (e x) (e y) hp = some p) (EV : ∀ x, DV ρ (e x) (ev x)) (D : DH E ρ hp w) :
    Went P E ρ hp w o ev ⟨[], if op = .eql then .q p true else .q true p, []⟩ := by
  have hx := EV x
  have hy := EV y
  unfold nilQ at h
  split at h
  · rename_i el hu
    have fin : ∀ a n c, ev x = .slice a n c → ev y = .slice none 0 0 → (a = none → p = true) → Went P E ρ hp w o ev ⟨[], if op = .eql then .q p true else .q true p, []⟩ := fun a n c e1 e2 ha => by
      have := nil_run hop (eq_sl (P := P) (w := w) hu a n c) (.inr (.inr (.inr ⟨_, _, _, _, _, _, rfl, rfl⟩))) x y
      rw [← e1, ← e2] at this
      refine went_pure D (y := .bool (if op = .eql then a.isNone else !a.isNone)) (bin_exec ho this) ?_
      have hn : a.isNone = true → p = true := fun h => ha (by simpa using h)
      rcases hop with rfl | rfl
      · simp only [if_true, DV]; exact ⟨_, rfl, hn, fun _ => trivial⟩
      · rw [if_neg (by simp), if_neg (by simp)]; simp only [DV]; exact ⟨_, rfl, fun _ => trivial, fun h => hn (by simpa using h)⟩
    cases hc : isNilS (e y) with
    | false => rw [hc] at h; cases h
    | true =>
      have hy := isNilS_DV hc hy
      rw [hc] at h
      simp only [cond_true] at h
      split at h
      · rename_i i h1
        rw [h1] at hx
        obtain ⟨⟨kd, xs⟩, hs, rfl⟩ := Option.map_eq_some_iff.1 h
        obtain ⟨p, hp', _, _, a, c, e1, _, _, _, k4⟩ := slot_reads D hs
        simp only [DV] at hx
        obtain ⟨q, a2, n2, c2, hq, hv, _⟩ := hx
        rw [hp'] at hq; cases hq
        refine fin a _ c (by rw [hv, e1]) hy fun ha => ?_
        rcases k4 with k4 | k4
        · rw [k4]; rfl
        · obtain ⟨b, off, e, _⟩ := k4; rw [e] at ha; cases ha
      · rename_i i lo n f h1
        rw [h1] at hx
        cases h
        simp only [DV] at hx
        obtain ⟨q, a, c, hq, hv, _, _, _, h4⟩ := hx
        refine fin a _ c hv hy fun ha => ?_
        rcases h4 with rfl | ⟨g, off, m, c0, _, e, _⟩
        · rfl
        · rw [e] at ha; cases ha
      · rename_i h1
        rw [h1] at hx
        cases h
        simp only [DV] at hx
        obtain ⟨a, hv⟩ := hx
        exact fin a _ _ hv hy fun _ => rfl
      · cases h
  · cases h

theorem eq_ifcN {t : TypeId} {ms : Array (String × TypeId)} (hu : P.underlying t = some (.interface ms)) (d : Nat) : (Op.equalIn (d + 1) t .nilIface .nilIface).run P w = .ok true w := by
  simp only [Op.equalIn, Sem.run_bind, run_underlying hu, Result.andThen_ok]; rfl
theorem eq_ifcNN {t : TypeId} {ms : Array (String × TypeId)} (hu : P.underlying t = some (.interface ms)) : (Op.equal t .nilIface .nilIface).run P w = .ok true w := eq_ifcN hu 9999
theorem ok_er {op : BinOp} {t t' : TypeId} {x y : Operand} {p : Bool} (hop : op = .eql ∨ op = .neq) (ho : o.op = .binOp op t x y t') (h : erS P t (isC y) (e x) (e y) = some p) (EV : ∀ x, DV ρ (e x) (ev x)) (D : DH E ρ hp w) :
    Went P E ρ hp w o ev ⟨[], .b (if op = .eql then p else !p), []⟩ := by
  have hx := EV x
  have hy := EV y
  refine went_pure D (y := .bool (if op = .eql then p else !p)) (bin_exec ho ?_) (by simp [DV])
  unfold erS at h
  split at h
  · rename_i ms hu
    split at h
    · rename_i q u ag i h1 h2 h3
      rw [h1] at hx; rw [h2] at hy
      simp only [DV] at hx hy
      cases h
      cases p with
      | true =>
        rw [hx.1 rfl, hy]
        obtain ⟨v, rfl⟩ : ∃ v, y = .const v := by cases y <;> simp [isC] at h3 ⊢
        rcases hop with rfl | rfl <;> simp [eqGuard, Go.binOp, eq_ifcNN hu]
      | false =>
        obtain ⟨l, g, off, n, c, _, _, _, hx⟩ := hx.2 rfl
        rw [hx, hy]
        exact nil_run hop (eq_ifc1 hu _ _) (.inr (.inl ⟨_, _, (), rfl, rfl, rfl⟩)) x y
    · cases h
  · cases h

/-! ### Parts -/

theorem optI_ev {x : Option Operand} {d n : Int} (h : optI e x d = some n) (EV : ∀ x, DV ρ (e x) (ev x)) : (x = none ∧ n = d) ∨ ∃ y k, x = some y ∧ ev y = .int k n := by
  unfold optI at h
  split at h
  · rename_i y
    split at h
    · rename_i k m lo hi hm; cases h; exact .inr ⟨y, k, rfl, (intOf_ev hm EV).1⟩
    · cases h
  · cases h; exact .inl ⟨rfl, rfl⟩

theorem bound_run {k : IntKind} {n : Int} {y : Nat} {c : BoundsCode} (h : 0 ≤ n ∧ n ≤ (y : Int)) : (Instr.sliceBound (.int k n) y c).run P w = .ok n.toNat w := by
  simp [Instr.sliceBound, asIntOf, h]

theorem bounds_run {s : Bool} {len cap : Nat} {low high max : Option Operand} {l h m : Int} (hl : (low = none ∧ l = 0) ∨ ∃ y k, low = some y ∧ ev y = .int k l) (hh : (high = none ∧ h = len) ∨ ∃ y k, high = some y ∧ ev y = .int k h)
    (hm : (max = none ∧ m = cap) ∨ ∃ y k, max = some y ∧ ev y = .int k m) (hmh : max.isSome = true → high.isSome = true) (h1 : 0 ≤ l ∧ l ≤ h ∧ h ≤ m ∧ m ≤ (cap : Int)) :
    (Instr.sliceBounds s len cap (low.map ev) (high.map ev) (max.map ev)).run P w = .ok (l.toNat, h.toNat, m.toNat) w := by
  have b1 : ∀ k c, (Instr.sliceBound (.int k m) cap c).run P w = .ok m.toNat w := fun k c => bound_run (by omega)
  have b2 : ∀ k c, (Instr.sliceBound (.int k h) m.toNat c).run P w = .ok h.toNat w := fun k c => bound_run (by omega)
  have b3 : ∀ k c, (Instr.sliceBound (.int k l) h.toNat c).run P w = .ok l.toNat w := fun k c => bound_run (by omega)
  unfold Instr.sliceBounds
  rcases hm with ⟨rfl, rfl⟩ | ⟨ym, km, rfl, hym⟩ <;> rcases hh with ⟨rfl, rfl⟩ | ⟨yh, kh, rfl, hyh⟩ <;> rcases hl with ⟨rfl, rfl⟩ | ⟨yl, kl, rfl, hyl⟩
  all_goals try (simp at hmh; done)
  all_goals (try simp only [Int.toNat_natCast] at b1 b2 b3)
  all_goals simp [*]

theorem slice_run {t el : TypeId} {x : Operand} {a : Option Addr} {n c sz : Nat} {low high max : Option Operand} {l h m : Int} (ho : o.op = .slice t x low high max) (hu : P.underlying t = some (.slice el)) (hsz : szOf P el = some sz) (hx : ev x = .slice a n c)
    (hl : (low = none ∧ l = 0) ∨ ∃ y k, low = some y ∧ ev y = .int k l) (hh : (high = none ∧ h = n) ∨ ∃ y k, high = some y ∧ ev y = .int k h)
    (hm : (max = none ∧ m = c) ∨ ∃ y k, max = some y ∧ ev y = .int k m) (hmh : max.isSome = true → high.isSome = true) (h1 : 0 ≤ l ∧ l ≤ h ∧ h ≤ m ∧ m ≤ (c : Int)) (w : World) :
    (execOp ev o).run P w = .ok (.value (.slice (if m.toNat = l.toNat then a else a.map (·.add (l.toNat * sz))) (h.toNat - l.toNat) (m.toNat - l.toNat))) w := by
  have hb := bounds_run (P := P) (w := w) (s := true) hl hh hm hmh h1
  simp [execOp, ho, Instr.sliceAt, Instr.slice, hx, run_underlying hu, hb, szOf_run hsz]

theorem cond_some {α : Type} {b : Bool} {x y : α} (h : cond b (some x) none = some y) : b = true ∧ x = y := by
  cases b
  · cases h
  · cases h; exact ⟨rfl, rfl⟩

theorem cond_none {α : Type} {b : Bool} {x : Option α} {y : α} (h : cond b x none = some y) : b = true ∧ x = some y := by
  cases b
  · cases h
  · exact ⟨rfl, h⟩

theorem ok_part {t el : TypeId} {x : Operand} {low high max : Option Operand} {i lo n sz : Nat} {full : Bool} {kd : List Kd} {xs : List (List Value)} (ho : o.op = .slice t x low high max) (hu : P.underlying t = some (.slice el)) (hsz : szOf P el = some sz) (hk : sz = kd.length)
    (hs : slotXs hp i = some (kd, xs)) (hx : (e x = .row i ∧ lo = 0 ∧ n = xs.length ∧ (full = true → slotFull hp i = true)) ∨ e x = .part i lo n full) (h : partS e i lo n full low high max = some r) (hneed : allNeed r.need) (hmh : max.isSome = true → high.isSome = true)
    (EV : ∀ x, DV ρ (e x) (ev x)) (D : DH E ρ hp w) : Went P E ρ hp w o ev r := by
  have hv := EV x
  obtain ⟨p, hp', hbk, hk0, hrd⟩ := slot_reads D hs
  subst hk
  -- what is sliced
  have hbase : ∃ a c, ev x = .slice a n c ∧ n ≤ c ∧ n ≤ maxLen ∧ (full = true → c = n) ∧ (n = 0 ∨ ∃ g off m c0, p.val = .slice (some ⟨g, off, none⟩) m c0 ∧ a = some ⟨g, off + lo * p.block, none⟩ ∧ lo + n ≤ m ∧ lo + c ≤ c0) := by
    rcases hx with ⟨hx, rfl, rfl, hf⟩ | hx <;> rw [hx] at hv <;> simp only [DV] at hv
    · obtain ⟨q, a2, n2, c2, hq, hv, hv2⟩ := hv
      rw [hp'] at hq; cases hq
      obtain ⟨a, c, e1, k1, k2, k3, k4⟩ := hrd
      refine ⟨a, c, hv.trans e1, k1, k2, fun hfu => ?_, ?_⟩
      · have hfu := hf hfu
        unfold slotFull at hfu
        split at hfu
        · rename_i kd' xs' f' hi
          subst hfu
          obtain ⟨q, hq, _, _, a', c', e2, _, j2, _⟩ := D.ok i _ hi
          rw [hp'] at hq; cases hq
          have hxs : xs' = xs := by
            unfold slotXs at hs; rw [hi] at hs; cases hs; rfl
          subst hxs
          rw [e1] at e2; cases e2
          exact j2 rfl
        · cases hfu
      · rcases k4 with rfl | ⟨g, off, rfl, _⟩
        · exact .inl rfl
        · exact .inr ⟨g, off, _, c, e1, by simp, by omega, by omega⟩
    · obtain ⟨q, a2, c2, hq, hv, h1, h2, h3, h4⟩ := hv
      rw [hp'] at hq; cases hq
      exact ⟨a2, c2, hv, h1, h2, h3, h4⟩
  obtain ⟨a, c, hvx, hnc, hnm, hfull, haddr⟩ := hbase
  unfold partS at h
  split at h
  · rename_i l hh m hl hhi hmx
    have hneed' : (0 ≤ l ∧ l ≤ hh ∧ hh ≤ (n : Int)) ∧ (max.isSome = true → m = hh) ∧ r.eff = [] ∧ ((zeroMax e max = true ∧ r.val = .emp) ∨ r.val = .part i (lo + l.toNat) (hh - l).toNat (max.isSome || (full && !high.isSome))) := by
      cases hz : zeroMax e max with
      | true =>
        rw [hz] at h; cases h
        simp only [allNeed, Bool.and_eq_true, Bool.or_eq_true, decide_eq_true_eq, Bool.not_eq_true', and_true] at hneed
        refine ⟨⟨hneed.1.1, hneed.1.2.1, hneed.1.2.2⟩, fun hm => ?_, rfl, .inl ⟨rfl, rfl⟩⟩
        rcases hneed.2 with h2 | h2
        · rw [h2] at hm; cases hm
        · exact h2
      | false =>
        rw [hz] at h; cases h
        simp only [allNeed, Bool.and_eq_true, Bool.or_eq_true, decide_eq_true_eq, Bool.not_eq_true', and_true] at hneed
        refine ⟨⟨hneed.1.1, hneed.1.2.1, hneed.1.2.2⟩, fun hm => ?_, rfl, .inr rfl⟩
        rcases hneed.2 with h2 | h2
        · rw [h2] at hm; cases hm
        · exact h2
    obtain ⟨⟨h1, h2, h3⟩, hmm, heff, hval⟩ := hneed'
    -- the third bound
    have hM : ∃ M : Int, ((max = none ∧ M = c) ∨ ∃ y k, max = some y ∧ ev y = .int k M) ∧ hh ≤ M ∧ M ≤ (c : Int) ∧ (max.isSome = true → M = hh) ∧ (max = none → M = c) := by
      rcases optI_ev hmx EV with ⟨rfl, rfl⟩ | ⟨y, k, rfl, hy⟩
      · exact ⟨c, .inl ⟨rfl, rfl⟩, by omega, Int.le_refl _, (by intro h; cases h), fun _ => rfl⟩
      · have := hmm rfl
        subst this
        exact ⟨m, .inr ⟨y, k, rfl, hy⟩, Int.le_refl _, by omega, fun _ => rfl, (by intro h; cases h)⟩
    obtain ⟨M, hM1, hM2, hM3, hM4, hM5⟩ := hM
    have hrun := slice_run (P := P) ho hu hsz hvx (optI_ev hl EV) (optI_ev hhi EV) hM1 hmh ⟨h1, h2, hM2, hM3⟩ w
    obtain ⟨ps, rv, re⟩ := r
    simp only at heff hval
    subst heff
    refine went_pure D hrun ?_
    rcases hval with ⟨hz, rfl⟩ | rfl
    · -- no room at all
      unfold zeroMax at hz
      split at hz
      · rename_i y
        split at hz
        · rename_i k hyv
          have hyv' := EV y
          rw [hyv] at hyv'
          simp only [DV] at hyv'
          have hM0 : M = 0 := by
            rcases hM1 with ⟨h4, _⟩ | ⟨y', k', h4, h5⟩
            · cases h4
            · cases h4; rw [hyv'] at h5; cases h5; rfl
          have hl0 : l = 0 := by omega
          have hh0 : hh = 0 := by omega
          subst hM0 hl0 hh0
          simp only [DV]
          exact ⟨_, rfl⟩
        · cases hz
      · cases hz
    · simp only [DV]
      refine ⟨p, _, _, hp', by rw [show hh.toNat - l.toNat = (hh - l).toNat by omega], by omega, by omega, fun hfu => ?_, ?_⟩
      · rw [Bool.or_eq_true, Bool.and_eq_true, Bool.not_eq_true'] at hfu
        cases hms : max with
        | some y =>
          have := hM4 (by rw [hms]; rfl)
          omega
        | none =>
          rw [hms] at hfu
          rcases hfu with h4 | ⟨h4, h5⟩
          · cases h4
          · have h6 := hfull h4
            have h7 := hM5 hms
            rcases optI_ev hhi EV with ⟨_, h8⟩ | ⟨y, k, h8, _⟩
            · omega
            · rw [h8] at h5; cases h5
      · by_cases h0 : (hh - l).toNat = 0
        · exact .inl h0
        · rcases haddr with h4 | ⟨g, off, m2, c0, x1, rfl, x3, x4⟩
          · omega
          · right
            refine ⟨g, off, m2, c0, x1, ?_, by omega, by omega⟩
            rw [if_neg (by omega), Option.map_some, addr_add, hbk, Nat.add_mul, Nat.add_assoc]
  · cases h

theorem constI_ev {x : Option Operand} {d n : Int} (h : constI e x d = some n) (EV : ∀ x, DV ρ (e x) (ev x)) : (x = none ∧ n = d) ∨ ∃ y k, x = some y ∧ ev y = .int k n := by
  unfold constI at h
  split at h
  · rename_i y
    split at h
    · rename_i k m hm
      cases h
      have := EV y
      rw [hm] at this
      exact .inr ⟨y, k, rfl, by simpa only [DV] using this⟩
    · cases h
  · cases h; exact .inl ⟨rfl, rfl⟩

theorem ok_slSl {t el : TypeId} {x : Operand} {low high max : Option Operand} {i of n c : Nat} (ho : o.op = .slice t x low high max) (hu : P.underlying t = some (.slice el)) (hx : e x = .sl i of n c)
    (h : slS P e el i of n c low high max = some r) (hmh : max.isSome = true → high.isSome = true) (EV : ∀ x, DV ρ (e x) (ev x)) (D : DH E ρ hp w) : Went P E ρ hp w o ev r := by
  have hv := EV x
  rw [hx] at hv
  simp only [DV] at hv
  obtain ⟨p, hp', hnc, hv⟩ := hv
  unfold slS at h
  split at h
  · rename_i l hh m sz hl hhi hmx hsz
    obtain ⟨hc, h⟩ := cond_none h
    simp only [decide_eq_true_eq] at hc
    have hrun := slice_run (P := P) ho hu hsz hv (constI_ev hl EV) (constI_ev hhi EV) (constI_ev hmx EV) hmh hc w
    cases hz : decide (m = l) with
    | true =>
      rw [hz] at h
      cases h
      have hz := of_decide_eq_true hz
      subst hz
      refine went_pure D hrun ?_
      simp only [DV]
      exact ⟨_, by rw [show hh.toNat - m.toNat = 0 by omega, show m.toNat - m.toNat = 0 by omega]⟩
    | false =>
      rw [hz] at h
      cases h
      have hz := of_decide_eq_false hz
      refine went_pure D hrun ?_
      simp only [DV]
      refine ⟨p, hp', by omega, ?_⟩
      rw [if_neg (by omega), Option.map_some, addr_add, show hh.toNat - l.toNat = (hh - l).toNat by omega, show m.toNat - l.toNat = (m - l).toNat by omega]
  · cases h

theorem ok_empS {t el : TypeId} {x : Operand} {low high max : Option Operand} (ho : o.op = .slice t x low high max) (hu : P.underlying t = some (.slice el)) (hx : ∃ a, ev x = .slice a 0 0)
    (h : empS P e el low high max = some r) (hneed : allNeed r.need) (hmh : max.isSome = true → high.isSome = true) (EV : ∀ x, DV ρ (e x) (ev x)) (D : DH E ρ hp w) : Went P E ρ hp w o ev r := by
  obtain ⟨a, hv⟩ := hx
  unfold empS at h
  split at h
  · rename_i l hh m sz hl hhi hmx hsz
    cases h
    simp only [allNeed, Bool.and_eq_true, decide_eq_true_eq, and_true] at hneed
    obtain ⟨rfl, rfl, rfl⟩ := hneed
    have hrun := slice_run (P := P) ho hu hsz hv (optI_ev hl EV) (optI_ev hhi EV) (optI_ev hmx EV) hmh (by omega) w
    refine went_pure D hrun ?_
    simp only [DV]
    exact ⟨_, rfl⟩
  · cases h

theorem hiOf_ev {x : Option Operand} {d n : Int} (h : optI e x d = some n) (EV : ∀ x, DV ρ (e x) (ev x)) (k : Int) (hk : d ≤ k) : n ≤ hiOf e x k := by
  unfold optI at h
  unfold hiOf
  split at h
  · rename_i y
    split at h
    · rename_i kk m lo hi hm; cases h; exact (intOf_ev hm EV).2.2
    · cases h
  · cases h; exact hk

theorem ok_subStr {t : TypeId} {x : Operand} {low high : Option Operand} {y : ByteArray} {hi : Int} (ho : o.op = .slice t x low high none) (hu : P.underlying t = some .string) (hx : ev x = .string y) (hy : (y.size : Int) ≤ hi)
    (h : subStr e y hi low high = some r) (hneed : allNeed r.need) (EV : ∀ x, DV ρ (e x) (ev x)) (D : DH E ρ hp w) : Went P E ρ hp w o ev r := by
  unfold subStr at h
  split at h
  · rename_i l hh hl hhi
    cases h
    simp only [allNeed, Bool.and_eq_true, decide_eq_true_eq, and_true] at hneed
    have hb := bounds_run (P := P) (w := w) (s := false) (optI_ev hl EV) (optI_ev hhi EV) (.inl ⟨rfl, rfl⟩) (fun h => by cases h) (cap := y.size) ⟨hneed.1, hneed.2.1, hneed.2.2, Int.le_refl _⟩
    rw [Option.map_none] at hb
    refine went_pure D (y := .string (y.extract l.toNat hh.toNat)) ?_ ?_
    · simp [execOp, ho, Instr.sliceAt, Instr.slice, hx, run_underlying hu, hb]
    · simp only [DV]
      refine ⟨trivial, ?_⟩
      have h1 := hiOf_ev hhi EV hi hy
      have h2 : (y.extract l.toNat hh.toNat).size ≤ hh.toNat := by
        rw [ByteArray.size_extract]; omega
      have h3 : (y.extract l.toNat hh.toNat).size ≤ y.size := by
        rw [ByteArray.size_extract]; omega
      omega
  · cases h

theorem ok_make {t : TypeId} {l c : Operand} (ho : o.op = .makeSlice t l c) (h : makeS P t (e l) (e c) nx = some r) (hneed : allNeed r.need) (EV : ∀ x, DV ρ (e x) (ev x)) (D : DH E ρ hp w) (f : Free hp nx) : Went P E ρ hp w o ev r := by
  have hMx : maxLen = 9223372036854775807 := by decide
  unfold makeS at h
  split at h
  · rename_i el hu
    split at h
    · rename_i kd bytes z kl n _ _ kc m _ _ hrow hz hn hm
      split at h
      · rename_i v hv
        cases h
        simp only [allNeed, Bool.and_eq_true, decide_eq_true_eq, and_true] at hneed
        obtain ⟨h1, rfl, h3⟩ := hneed
        obtain ⟨i, z0, hi, hz0, hsz, hby, hk0, hzs, hb0, hpl, _⟩ := rowT_ok hrow
        have hnv := (intOf_ev hn EV).1
        have hcv := (intOf_ev hm EV).1
        obtain ⟨k, rfl⟩ := Int.eq_ofNat_of_zero_le h1
        have hz' : z = z0.cells.toList.map .v := by
          simp only [zeroSV, hi, Option.bind_some, hz0, Option.map_some, Option.some.injEq] at hz
          exact hz.symm
        subst hz'
        obtain ⟨hve, hvw⟩ := elemK_ok (ρ := ρ) hv (DL_map_v _)
        subst hve
        have hkb : k * bytes ≤ 140737488355328 := by
          have : ((k * bytes : Nat) : Int) ≤ 140737488355328 := by rw [Int.natCast_mul]; exact h3
          omega
        have hkm : k ≤ k * bytes := Nat.le_mul_of_pos_right k hb0
        obtain ⟨w', hr, hown, hg⟩ := run_make_full (P := P) w 0 t el i z0 kd.length hu hi hz0 hsz kl kc k (by rw [hby, Nat.mul_comm]; omega) (by omega) (Nat.zero_le _)
        have hrep := made_repeat z0.cells (by omega) k
        have hex : (execOp ev o).run P w = .ok (.value (.slice (some ⟨w.heap.size, 0, none⟩) k k)) w' := by
          simp [execOp, ho, hnv, hcv, hr]
        have hfl : (List.replicate k z0.cells.toList).flatten = repeatL k z0.cells.toList := rfl
        have hwx : ∀ x ∈ List.replicate k z0.cells.toList, Wk kd x := fun x hx => by rw [List.eq_of_mem_replicate hx]; exact hvw
        have hlen : (List.replicate k z0.cells.toList).length = k := by simp
        have hO : OwnP w' el kd.length (.slice (some ⟨w.heap.size, 0, none⟩) k k) (List.replicate k z0.cells.toList).length (List.replicate k z0.cells.toList).flatten := by
          refine ⟨flatten_length fun x hx => (hwx x hx).length, ?_⟩
          rw [hlen]
          cases k with
          | zero => exact .inl ⟨_, rfl, rfl⟩
          | succ k =>
            rcases hown.2 with ⟨e1, _⟩ | ⟨g, cap, cur, e1, _, k1, k2, k3, k4, k5⟩
            · cases e1
            · cases e1
              refine .inr ⟨_, 0, k, cur, rfl, k1, Nat.le_refl _, k3, by omega, ?_⟩
              rw [List.drop_zero, k5, hfl, ← hrep, hzs, hsz]
        have hhs : w.heap.size < w'.heap.size := by
          rcases hown.2 with ⟨e1, _⟩ | ⟨g, cap, cur, e1, _, k1, _⟩
          · cases e1
          · cases e1; exact (Array.getElem?_eq_some_iff.1 k1).1
        refine ⟨_, w', upd ρ nx ⟨kd.length, .slice (some ⟨w.heap.size, 0, none⟩) k k⟩, .inl hex, upd_ext (f.none D), ?_, ?_⟩
        · simp only [DV]; exact ⟨_, _, _, _, upd_same _ _, rfl, rfl⟩
        · refine D.newRow f hk0 hwx hO ⟨hg.os, hg.tape, hg.output, hg.size, Stat.of_block fun j hj => hg.block j hj (by simp)⟩ (fun j hj => .inl (hg.block j hj (by simp))) (fun j hj => .inl ?_)
          cases k with
          | zero => simp [sliceB] at hj
          | succ k => simp only [sliceB, Option.some.injEq] at hj; omega
      · cases h
    · cases h
  · cases h

theorem ok_strIdx {t : TypeId} {x ix : Operand} {k : IntKind} {n : Int} {y : ByteArray} {ps : List Bool} (ho : o.op = .index t x ix) (hu : P.underlying t = some .string) (hx : ev x = .string y) (hix : ev ix = .int k n) (hb : 0 ≤ n ∧ n < (y.size : Int))
    (D : DH E ρ hp w) : Went P E ρ hp w o ev ⟨ps, .i .u8 ((y.data.toList.getD n.toNat 0).toNat : Int) 0 255, []⟩ := by
  have hlt : n.toNat < y.size := by omega
  have hget : y[n.toNat]? = some (y.data.toList.getD n.toNat 0) := by
    rw [ByteArray.getElem?_lt' y n.toNat hlt]
    have h2 : n.toNat < y.data.toList.length := by simpa using hlt
    rw [List.getD_eq_getElem?_getD, List.getElem?_eq_getElem h2]
    rfl
  have hu8 := (y.data.toList.getD n.toNat 0).toNat_lt
  refine went_pure D (y := .int .u8 ((y.data.toList.getD n.toNat 0).toNat : Int)) ?_ (by simp only [DV]; exact ⟨trivial, by omega, by omega⟩)
  simp [execOp, ho, Instr.index, hx, hix, asIntOf, run_underlying hu, hb.1, hget]

/-- ALL OF THEM. -/
theorem opR_ok (hwf : ∀ t x low high max, o.op = .slice t x low high max → max.isSome = true → high.isSome = true) (h : opR P o e hp nx = some r) (hneed : allNeed r.need) (EV : ∀ x, DV ρ (e x) (ev x)) (D : DH E ρ hp w) (f : Free hp nx) : Went P E ρ hp w o ev r := by
  unfold opR at h
  split at h
  · rename_i c ho
    split at h
    · rename_i s x t tx hc ha hty
      obtain ⟨s', x', ha', rfl, rfl⟩ := map_two ha
      exact ok_append ho hc ha' hty h hneed EV D f
    · cases h
  · rename_i t a ho
    split at h
    · rename_i i k of ha
      split at h
      · rename_i kd xs hs
        simp only [Option.bind_eq_some_iff, ret, Option.some.injEq] at h
        obtain ⟨z, hz, rfl⟩ := h
        exact ok_loadRow ho ha hs hz EV D
      · cases h
    · cases h
  · rename_i t a x ho
    split at h
    · rename_i i k of ha
      split at h
      · rename_i el kd xs hi
        simp only [Option.bind_eq_some_iff, Option.some.injEq] at h
        obtain ⟨cs, hcs, v, hv, rfl⟩ := h
        exact ok_storeRow ho ha hi hcs hv EV D
      · cases h
    · cases h
  · rename_i x ho
    split at h
    · rename_i i k of hx; cases h; exact ok_nilRow ho hx EV D
    · cases h
  · rename_i t x fi ho
    split at h
    · rename_i i k of hx
      split at h
      · rename_i fs hu
        split at h
        · rename_i fd hf
          split at h
          · rename_i n hn; cases h; exact ok_fieldRow ho hu hf hn hx EV D
          · cases h
        · cases h
      · cases h
    · cases h
  · rename_i t x ix ho
    split at h
    · rename_i el i k n _ _ hu hx hix
      split at h
      · rename_i kd xs sz hs hsz
        obtain ⟨hk, h⟩ := cond_none h
        cases h
        have := ok_idxRow (ps := [inB n xs.length]) ho (intOf_ev hix EV).1 hu hsz (of_decide_eq_true hk) hs (inB_iff hneed.1) (.inl ⟨hx, rfl, rfl⟩) EV D
        simpa using this
      · cases h
    · rename_i el i lo m ff k n _ _ hu hx hix
      split at h
      · rename_i kd xs sz hs hsz
        obtain ⟨hk, h⟩ := cond_none h
        cases h
        exact ok_idxRow ho (intOf_ev hix EV).1 hu hsz (of_decide_eq_true hk) hs (inB_iff hneed.1) (.inr ⟨ff, hx⟩) EV D
      · cases h
    · rename_i m el i kk of k n _ _ hu hx hix
      split at h
      · rename_i sz hsz
        cases h
        exact ok_idxArr ho (intOf_ev hix EV).1 hu hsz (inB_iff hneed.1) hx EV D
      · cases h
    · cases h
  · rename_i t x low high max ho
    have hmh := hwf t x low high max ho
    unfold sliceS at h
    split at h
    · rename_i el hu
      split at h
      · rename_i i hx
        split at h
        · rename_i kd xs hs
          split at h
          · rename_i sz hsz
            obtain ⟨hk, h⟩ := cond_none h
            exact ok_part ho hu hsz (of_decide_eq_true hk) hs (.inl ⟨hx, rfl, rfl, fun h => h⟩) h hneed hmh EV D
          · cases h
        · cases h
      · rename_i i lo n ff hx
        split at h
        · rename_i kd xs hs
          split at h
          · rename_i sz hsz
            obtain ⟨hk, h⟩ := cond_none h
            exact ok_part ho hu hsz (of_decide_eq_true hk) hs (.inr hx) h hneed hmh EV D
          · cases h
        · cases h
      · rename_i i of n c hx
        exact ok_slSl ho hu hx h hmh EV D
      · rename_i hx
        have hv := EV x
        rw [hx] at hv
        simp only [DV] at hv
        exact ok_empS ho hu hv h hneed hmh EV D
      · rename_i hx
        have hv := EV x
        rw [hx] at hv
        simp only [DV] at hv
        exact ok_empS ho hu ⟨none, hv⟩ h hneed hmh EV D
      · cases h
    · rename_i hu
      split at h
      · rename_i y hi hx
        have hv := EV x
        rw [hx] at hv
        simp only [DV] at hv
        exact ok_subStr ho hu hv.1 hv.2 h hneed EV D
      · rename_i y hx
        have hv := EV x
        rw [hx] at hv
        simp only [DV] at hv
        exact ok_subStr ho hu hv (Int.le_refl _) h hneed EV D
      · cases h
    · cases h
  · rename_i t l c ho
    exact ok_make ho h hneed EV D f
  · rename_i op t x y t' ho
    split at h
    · split at h
      · rename_i b hb
        cases h
        have := ok_nil (.inl rfl) ho hb EV D
        simpa using this
      · split at h
        · rename_i p hp
          cases h
          have := ok_er (.inl rfl) ho hp EV D
          simpa using this
        · simp only [Option.bind_eq_some_iff, ret, Option.some.injEq] at h
          obtain ⟨p, hp, rfl⟩ := h
          have := ok_nilQ (.inl rfl) ho hp EV D
          simpa using this
    · split at h
      · rename_i b hb
        cases h
        have := ok_nil (.inr rfl) ho hb EV D
        simpa using this
      · split at h
        · rename_i p hp
          cases h
          have := ok_er (.inr rfl) ho hp EV D
          simpa using this
        · simp only [Option.bind_eq_some_iff, ret, Option.some.injEq] at h
          obtain ⟨p, hp, rfl⟩ := h
          have := ok_nilQ (.inr rfl) ho hp EV D
          simpa using this
    · cases h
  · rename_i t x ix ho
    split at h
    · rename_i y _ k n _ _ hu hx hix
      cases h
      have hv := EV x
      rw [hx] at hv
      simp only [DV] at hv
      exact ok_strIdx ho hu hv.1 (intOf_ev hix EV).1 (inB_iff hneed.1) D
    · rename_i y k n _ _ hu hx hix
      cases h
      have hv := EV x
      rw [hx] at hv
      simp only [DV] at hv
      exact ok_strIdx ho hu hv (intOf_ev hix EV).1 (inB_iff hneed.1) D
    · cases h
  · cases h

/-- The operation's form is right: a third bound goes with a second one. -/
def wfB (o : Oper) : Bool := match o.op with
  | .slice _ _ _ high max => !max.isSome || high.isSome
  | _ => true
theorem wfB_ok (h : wfB o = true) : ∀ t x low high max, o.op = .slice t x low high max → max.isSome = true → high.isSome = true := by
  intro t x low high max ho hm
  unfold wfB at h
  rw [ho] at h
  simp only [hm, Bool.not_true, Bool.false_or] at h
  exact h

end
end Go.Eng
