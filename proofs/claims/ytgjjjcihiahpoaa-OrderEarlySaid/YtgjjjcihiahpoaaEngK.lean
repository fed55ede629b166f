/- The engine: functions, and contracts of functions that only compute. No condition. -/
import Derived.Test.YtgjjjcihiahpoaaEngJ
namespace Go.Eng

/-- A function, run by the engine. -/
def fnS (P : Program) (Γ : PC) (Λ : LoopSpecs) (n : Nat) (g : FuncId) (args : List SV) (h : List Blk) (K' : SV → List Blk → Prop) : Prop :=
  match P.funcs[g]? with
  | some fn => match fn.body with
    | some body => bareSt ⟨args ++ List.replicate (fn.ntmps - args.length) (.v undef), h⟩ fun st0 => wpS P Γ Λ n g body st0 fun e st' => match e with
      | .exit _ => Stuck "exit" fn.name
      | _ => match resAll P st' fn.results.toList with
        | some [v] => K' v st'.heap
        | some l => K' (.tup l) st'.heap
        | none => Stuck "results" fn.name
    | none => Stuck "body" fn.name
  | none => Stuck "function" ""

section
variable {P : Program} {Γ : PC} {Λ : LoopSpecs}

theorem fnS_ok (hΓ : PCok P Γ) (hm : P.follows .mixedOrders = true) (E : Env) (n : Nat) : CSok P E (fnS P Γ Λ n) :=
  calls_of_wpS fun f c st K ρ a w Q h D hQ => wpS_ok hΓ hm n f c st K ρ a w Q h D hQ

/-- The environment of a call: all that is there is fixed. -/
def envOf (w : World) : Env := ⟨w.heap.size, w, []⟩

theorem envOf_fixed {w : World} {b : Nat} : (envOf w).fixed b ↔ b < w.heap.size := by simp [envOf, Env.fixed]

theorem DH.start (w : World) : DH (envOf w) (fun _ => none) [] w :=
  ⟨Same.refl w, Nat.le_refl _, fun _ _ => rfl, fun _ _ => rfl, fun i b h => by simp at h, fun i b n h => by simp at h, fun i j b c n _ h => by simp at h⟩

theorem DH.below_of {w w' : World} {ρ : Rho} {h : List Blk} (D : DH (envOf w) ρ h w') : RowKit.Below w.heap.size w w' :=
  ⟨D.same.os, D.same.tape, D.same.output, D.same.size, fun k hk => D.old k (envOf_fixed.2 hk)⟩

/-- A function that only computes. -/
theorem fnS_pure (hΓ : PCok P Γ) (hm : P.follows .mixedOrders = true) {n : Nat} {g : FuncId} {args : List SV} {R : SV → List Blk → Prop} (h : fnS P Γ Λ n g args [] R) (w : World) {vs : List Value}
    (hargs : DL (envOf w) (fun _ => none) args vs) :
    Calls P g vs.toArray w fun e w' => ∃ y v h' ρ', e = .returned y ∧ DV (envOf w) ρ' v y ∧ R v h' ∧ DH (envOf w) ρ' h' w' ∧ RowKit.Below w.heap.size w w' :=
  (fnS_ok hΓ hm (envOf w) n g args [] R h _ w vs (DH.start w) hargs).mono fun _ _ ⟨y, v, h', ρ', he, _, hy, hD, hr⟩ => ⟨y, v, h', ρ', he, hy, hr, hD, hD.below_of⟩

/-- What is named by slots, as memory that is read alone. -/
def freeze (h : List Blk) : Nat → SV → SV
  | 0, _ => .any
  | n + 1, s => match s with
    | .ptr i o => match h[i]? with
      | some (.cells _ cs) => .rop ((cs.map (freeze h n)).drop o)
      | _ => .any
    | .sl i o m _ => match h[i]? with
      | some (.cells _ cs) => .rs ((cs.map (freeze h n)).drop o) m
      | _ => .any
    | .row i => match h[i]? with
      | some (.row _ kd xs) => .ro kd xs
      | _ => .any
    | .agg l => .agg (l.map (freeze h n))
    | .tup l => .tup (l.map (freeze h n))
    | .fn f a b => .fn f (a.map (freeze h n)) (b.map (freeze h n))
    | .ifc t x => .ifc t (freeze h n x)
    | .rop cs => .rop (cs.map (freeze h n))
    | .rs cs m => .rs (cs.map (freeze h n)) m
    | .v x => .v x
    | .i k x lo hi => .i k x lo hi
    | .b p => .b p
    | .s x hi => .s x hi
    | .t x => .t x
    | .ro kd xs => .ro kd xs
    | .any => .any
    | .opt _ _ => .any
    | .rowp _ _ _ => .any
    | .part _ _ _ => .any
def freezes (h : List Blk) (n : Nat) (l : List SV) : List SV := l.map (freeze h n)

theorem RoAt.move {E : Env} {ρ : Rho} {h : List Blk} {w : World} (D : DH E ρ h w) {b off : Nat} {cs : List Value} (hr : RoAt E b off cs) : RoAt (envOf w) b off cs :=
  ⟨envOf_fixed.2 (fixed_lt D hr.1), fun j u hu => by
    show w.cell? _ = _
    rw [World.cell?_of_block (w := E.w0) (D.old b hr.1)]; exact hr.2 j u hu⟩

theorem DL_any {E : Env} {ρ : Rho} : ∀ (l : List SV) (ys : List Value), ys.length = l.length → DL E ρ (l.map fun _ => .any) ys := fun l ys h => by
  refine DL.mk' (by simp [h]) fun i s y hs hy => ?_
  simp only [List.getElem?_map, Option.map_eq_some_iff] at hs
  obtain ⟨_, _, rfl⟩ := hs
  simp [DV]

theorem block_ro {w : World} {b : Nat} {vs : Array Value} {e : TypeId} (hb : w.heap[b]? = some (.cells vs e (0, 0))) (o : Nat) : RoAt (envOf w) b o (vs.toList.drop o) :=
  ⟨envOf_fixed.2 (Array.getElem?_eq_some_iff.1 hb).1, fun j u hu => by
    show w.cell? _ = _
    rw [cell_of_row w b (o + j) vs e _ hb]
    simpa [List.getElem?_drop] using hu⟩

theorem map_DL {E E' : Env} {ρ ρ' : Rho} {f : SV → SV} (hf : ∀ s y, DV E ρ s y → DV E' ρ' (f s) y) : ∀ (l : List SV) (ys : List Value), DL E ρ l ys → DL E' ρ' (l.map f) ys
  | [], _, hd => by simpa [DL] using hd
  | s :: l, ys, hd => by
    simp only [List.map_cons, DL] at hd ⊢
    obtain ⟨y, t, e, hy, ht⟩ := hd
    exact ⟨y, t, e, hf s y hy, map_DL hf l t ht⟩

theorem freeze_DV {E : Env} {ρ : Rho} {h : List Blk} {w : World} (D : DH E ρ h w) (ρ' : Rho) : ∀ (n : Nat) (s : SV) (y : Value), DV E ρ s y → DV (envOf w) ρ' (freeze h n s) y
  | 0, _, _, _ => by simp [freeze, DV]
  | n + 1, s, y, hd => by
    have ih : ∀ (l : List SV) (ys : List Value), DL E ρ l ys → DL (envOf w) ρ' (l.map (freeze h n)) ys := map_DL (freeze_DV D ρ' n)
    cases s with
    | ptr i o =>
      simp only [freeze]
      split
      · rename_i el cs hi
        simp only [DV] at hd ⊢
        obtain ⟨p, hp, rfl⟩ := hd
        obtain ⟨q, vs, hq, hb, hl⟩ := D.ok i _ hi
        rw [hp] at hq; cases hq
        exact ⟨p.block, o, _, rfl, (ih cs _ hl).drop o, block_ro hb o⟩
      · simp [DV]
    | sl i o m c =>
      simp only [freeze]
      split
      · rename_i el cs hi
        simp only [DV] at hd ⊢
        obtain ⟨p, hp, hmc, rfl⟩ := hd
        obtain ⟨q, vs, hq, hb, hl⟩ := D.ok i _ hi
        rw [hp] at hq; cases hq
        exact ⟨_, _, _, rfl, hmc, (ih cs _ hl).drop o, .inr ⟨p.block, o, rfl, block_ro hb o⟩⟩
      · simp [DV]
    | row i =>
      simp only [freeze]
      split
      · rename_i el kd xs hi
        simp only [DV, isRo] at hd ⊢
        obtain ⟨p, a, m, c, hp, hy, hs⟩ := hd
        obtain ⟨q, hq, hk, hk0, hwk, hown⟩ := D.ok i _ hi
        rw [hp] at hq; cases hq
        rcases hown.2 with ⟨h1, h2⟩ | ⟨g, cap, cur, h1, _, hg, h2, h3, h4, h5⟩
        · rw [hy, h1]
          have : xs = [] := List.eq_nil_of_length_eq_zero h2
          subst this
          exact ⟨none, 0, rfl, Nat.le_refl _, Nat.zero_le _, hwk, .inl rfl⟩
        · rw [hy, h1]
          refine ⟨_, cap, rfl, h2, by omega, hwk, .inr ⟨g, 0, rfl, envOf_fixed.2 (Array.getElem?_eq_some_iff.1 hg).1, fun j u hu => ?_⟩⟩
          show w.cell? _ = _
          rw [cell_of_row w g (0 + j) cur el _ hg, Nat.zero_add]
          rw [← h5, List.getElem?_take] at hu
          split at hu
          · simpa using hu
          · cases hu
      · simp [DV]
    | agg l =>
      simp only [freeze, DV] at hd ⊢
      obtain ⟨a, e, hl⟩ := hd
      exact ⟨a, e, ih l _ hl⟩
    | tup l =>
      simp only [freeze, DV] at hd ⊢
      obtain ⟨a, e, hl⟩ := hd
      exact ⟨a, e, ih l _ hl⟩
    | fn f p q =>
      simp only [freeze, DV] at hd ⊢
      obtain ⟨a, b, e, ha, hb⟩ := hd
      exact ⟨a, b, e, ih p _ ha, ih q _ hb⟩
    | ifc t x =>
      simp only [freeze, DV] at hd ⊢
      obtain ⟨z, e, hz⟩ := hd
      exact ⟨z, e, freeze_DV D ρ' n x z hz⟩
    | rop cs =>
      simp only [freeze, DV] at hd ⊢
      obtain ⟨b, off, vs, e, hl, hr⟩ := hd
      exact ⟨b, off, vs, e, ih cs vs hl, hr.move D⟩
    | rs cs m =>
      simp only [freeze, DV] at hd ⊢
      obtain ⟨a, cap, vs, e, hc, hl, hr⟩ := hd
      refine ⟨a, cap, vs, e, hc, ih cs vs hl, ?_⟩
      rcases hr with hr | ⟨b, off, ha, hr⟩
      · exact .inl hr
      · exact .inr ⟨b, off, ha, hr.move D⟩
    | ro kd xs =>
      simp only [freeze, DV, isRo] at hd ⊢
      obtain ⟨a, cap, e, hc, hm, hw, hr⟩ := hd
      refine ⟨a, cap, e, hc, hm, hw, ?_⟩
      rcases hr with hr | ⟨b, off, ha, hr⟩
      · exact .inl hr
      · exact .inr ⟨b, off, ha, hr.move D⟩
    | v _ => simpa [freeze, DV] using hd
    | i => simpa [freeze, DV] using hd
    | b _ => simpa [freeze, DV] using hd
    | s => simpa [freeze, DV] using hd
    | t _ => simpa [freeze, DV] using hd
    | any => simp [freeze, DV]
    | opt => simp [freeze, DV]
    | rowp => simp [freeze, DV]
    | part => simp [freeze, DV]

theorem freezes_DL {E : Env} {ρ : Rho} {h : List Blk} {w : World} (D : DH E ρ h w) (ρ' : Rho) (n : Nat) (l : List SV) (ys : List Value) (hd : DL E ρ l ys) : DL (envOf w) ρ' (freezes h n l) ys :=
  map_DL (freeze_DV D ρ' n) l ys hd

mutual
/-- Nothing but values. -/
def solid : SV → Bool
  | .v _ => true
  | .i .. => true
  | .b _ => true
  | .s .. => true
  | .t _ => true
  | .opt _ s => solid s
  | .agg l => solids l
  | .tup l => solids l
  | .fn _ a b => solids a && solids b
  | .ifc _ x => solid x
  | _ => false
def solids : List SV → Bool
  | [] => true
  | s :: l => solid s && solids l
end

mutual
theorem solid_any {E E' : Env} {ρ ρ' : Rho} : ∀ (s : SV) (y : Value), solid s = true → DV E ρ s y → DV E' ρ' s y
  | .v _, _, _, h => by simpa [DV] using h
  | .i .., _, _, h => by simpa [DV] using h
  | .b _, _, _, h => by simpa [DV] using h
  | .s .., _, _, h => by simpa [DV] using h
  | .t _, _, _, h => by simpa [DV] using h
  | .opt p s, y, hf, h => by
    simp only [solid] at hf
    simp only [DV] at h ⊢
    exact ⟨fun e => solid_any s y hf (h.1 e), h.2⟩
  | .agg l, y, hf, h => by
    simp only [solid] at hf
    simp only [DV] at h ⊢
    obtain ⟨a, e, hl⟩ := h
    exact ⟨a, e, solids_any l _ hf hl⟩
  | .tup l, y, hf, h => by
    simp only [solid] at hf
    simp only [DV] at h ⊢
    obtain ⟨a, e, hl⟩ := h
    exact ⟨a, e, solids_any l _ hf hl⟩
  | .fn f p q, y, hf, h => by
    simp only [solid, Bool.and_eq_true] at hf
    simp only [DV] at h ⊢
    obtain ⟨a, b, e, ha, hb⟩ := h
    exact ⟨a, b, e, solids_any p _ hf.1 ha, solids_any q _ hf.2 hb⟩
  | .ifc t x, y, hf, h => by
    simp only [solid] at hf
    simp only [DV] at h ⊢
    obtain ⟨z, e, hz⟩ := h
    exact ⟨z, e, solid_any x z hf hz⟩
  | .ro .., _, hf, _ | .rop .., _, hf, _ | .rs .., _, hf, _ | .any, _, hf, _ | .ptr .., _, hf, _ | .row .., _, hf, _ | .rowp .., _, hf, _ | .sl .., _, hf, _ | .part .., _, hf, _ => by simp [solid] at hf
theorem solids_any {E E' : Env} {ρ ρ' : Rho} : ∀ (l : List SV) (ys : List Value), solids l = true → DL E ρ l ys → DL E' ρ' l ys
  | [], _, _, h => by simpa [DL] using h
  | s :: l, ys, hf, h => by
    simp only [solids, Bool.and_eq_true] at hf
    simp only [DL] at h ⊢
    obtain ⟨y, t, e, hy, ht⟩ := h
    exact ⟨y, t, e, solid_any s y hf.1 hy, solids_any l t hf.2 ht⟩
end

/-- A contract is good: for arguments that read so when all memory is read alone, the engine's run gives its result, or knows more. -/
def Pure (P : Program) (Γ : PC) (g : FuncId) (k : List SV → List Blk → Option (List Bool × SV)) : Prop :=
  ∀ args h ps v, k args h = some (ps, v) → allNeed ps → ∀ E ρ vs, DL E ρ (freezes h 9 args) vs → solid v = true ∧ ∃ args' v' Λ n, DL E ρ args' vs ∧ (∀ E ρ y, DV E ρ v' y → DV E ρ v y) ∧ fnS P Γ Λ n g args' [] fun u _ => leSV u v'

theorem pc_ok (hΓ : PCok P Γ) (hm : P.follows .mixedOrders = true) {g : FuncId} {k : List SV → List Blk → Option (List Bool × SV)} (hk : Pure P Γ g k) :
    ∀ E ρ h w args vs ps v, DH E ρ h w → DL E ρ args vs → k args h = some (ps, v) → allNeed ps →
      Calls P g vs.toArray w fun e w' => ∃ y, e = .returned y ∧ DV E ρ v y ∧ RowKit.Below w.heap.size w w' := by
  intro E ρ h w args vs ps v D hargs hkv hps
  obtain ⟨h2, args', v', Λ, n, h4, h6, h5⟩ := hk args h ps v hkv hps _ _ vs (freezes_DL D (fun _ => none) 9 args vs hargs)
  refine (fnS_pure hΓ hm h5 w h4).mono ?_
  rintro e w' ⟨y, u, h', ρ', rfl, hy, hu, _, hb⟩
  exact ⟨y, rfl, solid_any _ _ h2 (h6 _ _ _ (leSV_DV _ _ _ hu hy)), hb⟩

/-- One contract more. -/
def addPC (Γ : PC) (g : FuncId) (k : List SV → List Blk → Option (List Bool × SV)) : PC := fun f => if f = g then some k else Γ f

theorem addPC_ok (hΓ : PCok P Γ) (hm : P.follows .mixedOrders = true) {g : FuncId} {k : List SV → List Blk → Option (List Bool × SV)} (hk : Pure P Γ g k) : PCok P (addPC Γ g k) := by
  intro g' k' hg
  unfold addPC at hg
  split at hg
  · subst_vars; cases hg; exact pc_ok hΓ hm hk
  · exact hΓ g' k' hg

def noPC : PC := fun _ => none
theorem noPC_ok : PCok P noPC := fun _ _ h => by cases h
def noLoops : LoopSpecs := fun _ _ => none


/-! ### Contracts by shape -/

/-- A shape of symbolic values: reads them into plain data, of which something is known, and back. -/
structure Par (α : Type) where
  get : SV → Option α
  put : α → SV
  fact : α → Prop
  ok : ∀ s x, get s = some x → ∀ E ρ y, DV E ρ s y → DV E ρ (put x) y ∧ fact x

structure ParL (α : Type) where
  get : List SV → Option α
  put : α → List SV
  fact : α → Prop
  ok : ∀ s x, get s = some x → ∀ E ρ y, DL E ρ s y → DL E ρ (put x) y ∧ fact x

def intIn (k : IntKind) (lo hi : Int) (s : SV) : Option Int := match intOf s with
  | some (k', n, lo', hi') => cond (decide (k' = k) && (decide (lo ≤ lo') && decide (hi' ≤ hi))) (some n) none
  | none => none

/-- A number of a kind, between two numerals. -/
def Par.int (k : IntKind) (lo hi : Int) : Par Int where
  get s := intIn k lo hi s
  put n := .i k n lo hi
  fact n := lo ≤ n ∧ n ≤ hi
  ok s x h := by
    intro E ρ y hd
    unfold intIn at h
    split at h
    · rename_i k' n lo' hi' hi_
      obtain ⟨rfl, h2⟩ := intOf_DV hi_ hd
      cases hc : (decide (k' = k) && (decide (lo ≤ lo') && decide (hi' ≤ hi))) with
      | false => rw [hc] at h; cases h
      | true =>
        rw [hc] at h
        cases h
        simp only [Bool.and_eq_true, decide_eq_true_eq] at hc
        obtain ⟨rfl, hc⟩ := hc
        simp only [DV]
        exact ⟨⟨trivial, by omega, by omega⟩, by omega, by omega⟩
    · cases h

/-- A number between two numerals, with its own ones. -/
def Par.intR (k : IntKind) (lo hi : Int) : Par (Int × Int × Int) where
  get s := match intOf s with
    | some (k', n, l, h) => cond (decide (k' = k) && (decide (lo ≤ l) && decide (h ≤ hi))) (some (n, l, h)) none
    | none => none
  put n := .i k n.1 lo hi
  fact n := (n.2.1 ≤ n.1 ∧ n.1 ≤ n.2.2) ∧ lo ≤ n.2.1 ∧ n.2.2 ≤ hi
  ok s x h := by
    intro E ρ y hd
    split at h
    · rename_i k' n l u hi_
      obtain ⟨rfl, h2⟩ := intOf_DV hi_ hd
      cases hc : (decide (k' = k) && (decide (lo ≤ l) && decide (u ≤ hi))) with
      | false => rw [hc] at h; cases h
      | true =>
        rw [hc] at h
        cases h
        simp only [Bool.and_eq_true, decide_eq_true_eq] at hc
        obtain ⟨rfl, hc⟩ := hc
        simp only [DV]
        exact ⟨⟨trivial, by omega, by omega⟩, by omega, by omega, by omega⟩
    · cases h

def kdEq (a b : List Kd) : Bool := decide (a = b)
theorem kdEq_eq {a b : List Kd} (h : kdEq a b = true) : a = b := of_decide_eq_true h

/-- A number with its numerals. -/
def Par.intAny (k : IntKind) : Par (Int × Int × Int) where
  get s := match intOf s with
    | some (k', n, lo, hi) => cond (decide (k' = k) && inK k lo hi) (some (n, lo, hi)) none
    | none => none
  put n := .i k n.1 (kmin k) (kmax k)
  fact n := (n.2.1 ≤ n.1 ∧ n.1 ≤ n.2.2) ∧ kmin k ≤ n.1 ∧ n.1 ≤ kmax k
  ok s x h := by
    intro E ρ y hd
    split at h
    · rename_i k' n lo hi hi_
      obtain ⟨rfl, h2⟩ := intOf_DV hi_ hd
      cases hc : (decide (k' = k) && inK k lo hi) with
      | false => rw [hc] at h; cases h
      | true =>
        rw [hc] at h
        simp only [Bool.and_eq_true, decide_eq_true_eq] at hc
        obtain ⟨rfl, hc⟩ := hc
        have := inK_iff hc
        cases h
        simp only [DV]
        exact ⟨⟨trivial, by omega, by omega⟩, h2, by omega, by omega⟩
    · cases h

def Par.bool : Par Bool where
  get s := match s with
    | .v (.bool b) => some b
    | .b b => some b
    | _ => none
  put b := .b b
  fact _ := True
  ok s x h := by
    intro E ρ y hd
    split at h
    · cases h; simpa [DV] using hd
    · cases h; simpa [DV] using hd
    · cases h

/-- A string, no longer than a numeral. -/
def Par.str (hi : Int) : Par ByteArray where
  get s := match s with
    | .v (.string b) => cond (decide ((b.size : Int) ≤ hi)) (some b) none
    | .s b hi' => cond (decide (hi' ≤ hi)) (some b) none
    | _ => none
  put b := .s b hi
  fact b := (b.size : Int) ≤ hi
  ok s x h := by
    intro E ρ y hd
    split at h
    · rename_i b
      cases hc : decide ((b.size : Int) ≤ hi) with
      | false => rw [hc] at h; cases h
      | true => rw [hc] at h; cases h; simp only [decide_eq_true_eq] at hc; simp only [DV] at hd ⊢; exact ⟨⟨hd, hc⟩, hc⟩
    · rename_i b hi'
      cases hc : decide (hi' ≤ hi) with
      | false => rw [hc] at h; cases h
      | true => rw [hc] at h; cases h; simp only [decide_eq_true_eq] at hc; simp only [DV] at hd ⊢; exact ⟨⟨hd.1, by omega⟩, by omega⟩
    · cases h

/-- A slice of plain elements that is read alone. -/
def Par.ro (kd : List Kd) : Par (List (List Value)) where
  get s := match s with
    | .ro kd' xs => cond (kdEq kd' kd) (some xs) none
    | _ => none
  put xs := .ro kd xs
  fact xs := (∀ x ∈ xs, Wk kd x) ∧ xs.length ≤ maxLen
  ok s x h := by
    intro E ρ y hd
    split at h
    · rename_i kd' xs
      cases hc : kdEq kd' kd with
      | false => rw [hc] at h; cases h
      | true =>
        rw [hc] at h
        cases h
        have := kdEq_eq hc
        subst this
        refine ⟨hd, ?_⟩
        simp only [DV, isRo] at hd
        obtain ⟨_, _, _, _, h1, h2, _⟩ := hd
        exact ⟨h2, h1⟩
    · cases h

/-- A slice of so many elements, its cells known. -/
def Par.rs {α : Type} (q : ParL α) (n : Nat) : Par α where
  get s := match s with
    | .rs l m => cond (Nat.beq m n) (q.get l) none
    | _ => none
  put x := .rs (q.put x) n
  fact := q.fact
  ok s x h := by
    intro E ρ y hd
    split at h
    · rename_i l m
      cases hc : Nat.beq m n with
      | false => rw [hc] at h; cases h
      | true =>
        rw [hc] at h
        have := Nat.eq_of_beq_eq_true hc
        subst this
        simp only [DV] at hd ⊢
        obtain ⟨a, cap, vs, e, h1, hl, h2⟩ := hd
        have := q.ok _ _ h E ρ _ hl
        exact ⟨⟨a, cap, vs, e, h1, this.1, h2⟩, this.2⟩
    · cases h

/-- A pointer to known cells. -/
def Par.rop {α : Type} (q : ParL α) : Par α where
  get s := match s with
    | .rop l => q.get l
    | _ => none
  put x := .rop (q.put x)
  fact := q.fact
  ok s x h := by
    intro E ρ y hd
    split at h
    · simp only [DV] at hd ⊢
      obtain ⟨b, off, vs, e, hl, hr⟩ := hd
      have := q.ok _ _ h E ρ _ hl
      exact ⟨⟨b, off, vs, e, this.1, hr⟩, this.2⟩
    · cases h

def ParL.nil : ParL Unit where
  get l := match l with
    | [] => some ()
    | _ => none
  put _ := []
  fact _ := True
  ok s x h := by
    intro E ρ y hd
    split at h
    · exact ⟨hd, trivial⟩
    · cases h

def ParL.cons {α β : Type} (p : Par α) (q : ParL β) : ParL (α × β) where
  get l := match l with
    | s :: r => match p.get s, q.get r with
      | some x, some y => some (x, y)
      | _, _ => none
    | _ => none
  put x := p.put x.1 :: q.put x.2
  fact x := p.fact x.1 ∧ q.fact x.2
  ok s x h := by
    intro E ρ y hd
    split at h
    · split at h
      · rename_i hx hy
        cases h
        simp only [DL] at hd ⊢
        obtain ⟨z, t, rfl, hz, ht⟩ := hd
        have h1 := p.ok _ _ hx E ρ z hz
        have h2 := q.ok _ _ hy E ρ t ht
        exact ⟨⟨z, t, rfl, h1.1, h2.1⟩, h1.2, h2.2⟩
      · cases h
    · cases h

def Par.agg {α : Type} (q : ParL α) : Par α where
  get s := match s with
    | .agg l => q.get l
    | _ => none
  put x := .agg (q.put x)
  fact := q.fact
  ok s x h := by
    intro E ρ y hd
    split at h
    · simp only [DV] at hd ⊢
      obtain ⟨a, rfl, hl⟩ := hd
      have := q.ok _ _ h E ρ _ hl
      exact ⟨⟨a, rfl, this.1⟩, this.2⟩
    · cases h

mutual
/-- As if all were known outright. -/
def concS : SV → SV
  | .i k n _ _ => .v (.int k n)
  | .b p => .v (.bool p)
  | .s x _ => .v (.string x)
  | .t x => .v x
  | .agg l => .agg (concL l)
  | .tup l => .tup (concL l)
  | s => s
def concL : List SV → List SV
  | [] => []
  | s :: l => concS s :: concL l
end
mutual
theorem concS_DV {E : Env} {ρ : Rho} : ∀ (s : SV) (y : Value), DV E ρ s y → DV E ρ (concS s) y
  | .i .., y, h => by simp only [concS, DV] at *; exact h.1
  | .b _, y, h => by simpa only [concS, DV] using h
  | .s .., y, h => by simp only [concS, DV] at *; exact h.1
  | .t _, y, h => by simpa only [concS, DV] using h
  | .agg l, y, h => by simp only [concS, DV] at *; obtain ⟨a, e, hl⟩ := h; exact ⟨a, e, concL_DL l _ hl⟩
  | .tup l, y, h => by simp only [concS, DV] at *; obtain ⟨a, e, hl⟩ := h; exact ⟨a, e, concL_DL l _ hl⟩
  | .any, _, h | .v _, _, h | .opt .., _, h | .ptr .., _, h | .fn .., _, h | .ifc .., _, h | .ro .., _, h | .rop .., _, h | .rs .., _, h | .row .., _, h | .rowp .., _, h | .sl .., _, h | .part .., _, h => by simpa only [concS] using h
theorem concL_DL {E : Env} {ρ : Rho} : ∀ (l : List SV) (ys : List Value), DL E ρ l ys → DL E ρ (concL l) ys
  | [], _, h => by simpa [concL] using h
  | s :: l, ys, h => by
    simp only [concL, DL] at *
    obtain ⟨y, t, e, hy, ht⟩ := h
    exact ⟨y, t, e, concS_DV s y hy, concL_DL l t ht⟩
end
mutual
theorem concS_solid : ∀ (s : SV), solid s = true → solid (concS s) = true
  | .agg l, h => by simp only [concS, solid] at *; exact concL_solid l h
  | .tup l, h => by simp only [concS, solid] at *; exact concL_solid l h
  | .i .., _ | .b _, _ | .s .., _ | .t _, _ => by simp [concS, solid]
  | .any, h | .v _, h | .opt .., h | .ptr .., h | .fn .., h | .ifc .., h | .ro .., h | .rop .., h | .rs .., h | .row .., h | .rowp .., h | .sl .., h | .part .., h => by simpa only [concS] using h
theorem concL_solid : ∀ (l : List SV), solids l = true → solids (concL l) = true
  | [], h => by simpa [concL] using h
  | s :: l, h => by
    simp only [concL, solids, Bool.and_eq_true] at *
    exact ⟨concS_solid s h.1, concL_solid l h.2⟩
end

/-- A contract by the arguments' shape: of arguments that are known outright, so is the result. -/
def kOf {α : Type} (p : ParL α) (f : α → List Bool × SV) : List SV → List Blk → Option (List Bool × SV) := fun args h => (p.get (freezes h 9 args)).map fun x => ((f x).1, cond (symbs (freezes h 9 args)) (f x).2 (concS (f x).2))

theorem pure_of {α : Type} {p : ParL α} {f : α → List Bool × SV} (Λ : α → LoopSpecs) (n : Nat) {g : FuncId} (h : ∀ x, p.fact x → allNeed (f x).1 → solid (f x).2 = true ∧ fnS P Γ (Λ x) n g (p.put x) [] fun u _ => leSV u (f x).2) :
    Pure P Γ g (kOf p f) := by
  intro args hp ps v hk hn
  simp only [kOf, Option.map_eq_some_iff] at hk
  obtain ⟨x, hx, he⟩ := hk
  have h1 : (f x).1 = ps := congrArg Prod.fst he
  have h2 : cond (symbs (freezes hp 9 args)) (f x).2 (concS (f x).2) = v := congrArg Prod.snd he
  subst h1 h2
  intro E ρ vs hd
  obtain ⟨h1, h2⟩ := p.ok _ _ hx E ρ vs hd
  obtain ⟨k1, k2⟩ := h x h2 hn
  refine ⟨?_, p.put x, (f x).2, Λ x, n, h1, fun E ρ y hy => ?_, k2⟩
  · cases symbs (freezes hp 9 args)
    · exact concS_solid _ k1
    · exact k1
  · cases symbs (freezes hp 9 args)
    · exact concS_DV _ _ hy
    · exact hy

/-- One contract, or the other one. -/
def kOr (k l : List SV → List Blk → Option (List Bool × SV)) : List SV → List Blk → Option (List Bool × SV) := fun args h => match k args h with
  | some r => some r
  | none => l args h
theorem pure_or {g : FuncId} {k l : List SV → List Blk → Option (List Bool × SV)} (hk : Pure P Γ g k) (hl : Pure P Γ g l) : Pure P Γ g (kOr k l) := by
  intro args h ps v hkv
  unfold kOr at hkv
  split at hkv
  · rename_i r hr; cases hkv; exact hk args h ps v hr
  · exact hl args h ps v hkv

/-- A number that may have wrapped, as omega takes it. -/
theorem wrE (x : Int) : ∃ j : Int, IntKind.i64.wrap x = x + 18446744073709551616 * j ∧ -9223372036854775808 ≤ IntKind.i64.wrap x ∧ IntKind.i64.wrap x ≤ 9223372036854775807 := by
  have : (2 : Int) ^ 64 = 18446744073709551616 := by decide
  have h63 : (2 : Int) ^ 63 = 9223372036854775808 := by decide
  simp only [IntKind.wrap, IntKind.bits, IntKind.signed, this, Bool.true_and, show 64 - 1 = 63 from rfl, h63, ge_iff_le, decide_eq_true_eq]
  split
  · exact ⟨-(x / 18446744073709551616) - 1, by omega⟩
  · exact ⟨-(x / 18446744073709551616), by omega⟩
theorem introW64 {x : Int} {p : Int → Prop} (h : ∀ z j : Int, z = x + 18446744073709551616 * j → -9223372036854775808 ≤ z → z ≤ 9223372036854775807 → p z) : ∀ z : Int, z = IntKind.i64.wrap x → p z := by
  rintro _ rfl
  obtain ⟨j, h1, h2, h3⟩ := wrE x
  exact h _ j h1 h2 h3
theorem introWu64 {x : Int} {p : Int → Prop} (h : ∀ z : Int, z = x % 18446744073709551616 → p z) : ∀ z : Int, z = IntKind.u64.wrap x → p z := by
  rintro _ rfl
  exact h _ (by have : (2 : Int) ^ 64 = 18446744073709551616 := by decide
                simp only [IntKind.wrap, IntKind.bits, IntKind.signed, this, Bool.false_and, Bool.false_eq_true, if_false])

theorem wr64 (x : Int) : (-9223372036854775808 ≤ x ∧ x < 9223372036854775808) → IntKind.i64.wrap x = x := by
  intro h
  have : (2 : Int) ^ 64 = 18446744073709551616 := by decide
  have h63 : (2 : Int) ^ 63 = 9223372036854775808 := by decide
  simp only [IntKind.wrap, IntKind.bits, IntKind.signed, this, Bool.true_and, show 64 - 1 = 63 from rfl, h63, ge_iff_le, decide_eq_true_eq]
  split <;> omega
theorem introWx {x : Int} {p : Int → Prop} (hb : -9223372036854775808 ≤ x ∧ x < 9223372036854775808) (h : ∀ z : Int, z = x → p z) : ∀ z : Int, z = IntKind.i64.wrap x → p z := by
  rintro _ rfl
  exact h _ (wr64 x hb)
theorem introB {e : Bool} {p : Bool → Prop} (h : p e) : ∀ b : Bool, b = e → p b := by rintro _ rfl; exact h
theorem bif_intro {b : Bool} {p q : Prop} (h1 : b = true → p) (h2 : b = false → q) : cond b p q := by
  cases b
  · exact h2 rfl
  · exact h1 rfl

theorem cond_or {p q : Prop} [Decidable p] : (cond (decide p) True q) = (p ∨ q) := by
  by_cases h : p <;> simp [h]
/-- What is owed, paid; what follows. -/
theorem bif_need {b : Bool} {p : Prop} (h1 : b = true) (h2 : p) : cond b p False := by subst h1; exact h2
theorem need1 {b : Bool} {p : Prop} (h : p) : cond (b || !b) p False := by cases b <;> exact h
theorem need2 {b c : Bool} {p : Prop} (h : p) : cond ((cond c b true) || !b) p False := by cases b <;> cases c <;> exact h
theorem need3 {b : Bool} {p : Prop} (h : p) : cond (cond b true true) p False := by cases b <;> exact h
theorem need4 {b : Bool} {p : Prop} (h : p) : cond (cond b b true) p False := by cases b <;> exact h
theorem need5 {b : Bool} {p : Prop} (h : p) : cond (cond b true (!b)) p False := by cases b <;> exact h
theorem need6 {b c : Bool} {p : Prop} (h : p) : cond ((cond c (b && c) true) || !b) p False := by cases b <;> cases c <;> exact h
theorem need7 {b c : Bool} {p : Prop} (h : p) : cond ((cond c true true) || !b) p False := by cases b <;> cases c <;> exact h

/-- The law says so. -/
def isYes : SV → Prop
  | .v (.bool b) => b = true
  | .b b => b = true
  | _ => False
theorem isYes_DV {E : Env} {ρ : Rho} {s : SV} {y : Value} (h : isYes s) (hd : DV E ρ s y) : y = .bool true := by
  unfold isYes at h
  split at h
  · subst h; simpa only [DV] using hd
  · subst h; simpa only [DV] using hd
  · exact h.elim


end

attribute [irreducible] fnS
end Go.Eng
