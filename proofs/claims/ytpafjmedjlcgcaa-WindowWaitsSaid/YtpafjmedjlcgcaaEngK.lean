/- The engine: functions, and contracts of functions that only compute. No condition. -/
import Derived.Test.YtpafjmedjlcgcaaEngJ
namespace Go.Eng

/-- A function, run by the engine. -/
def fnS (P : Program) (Γ : PC) (Λ : LoopSpecs) (n : Nat) (g : FuncId) (args : List SV) (h : List Blk) (K' : SV → List Blk → Prop) : Prop :=
  match P.funcs[g]? with
  | some fn => match fn.body with
    | some body => bareSt ⟨args ++ List.replicate (fn.ntmps - args.length) (.v undef), h⟩ fun st0 => wpS P Γ Λ n g body st0 fun e st' => match e with
      | .exit _ => Stuck "exit" fn.name
      | _ => match resAll P st' fn.results.toList with
        | some [v] => K' v st'.heap
        | some l => K' (.tup l) st'.heap
        | none => Stuck "results" fn.name
    | none => Stuck "body" fn.name
  | none => Stuck "function" ""

section
variable {P : Program} {Γ : PC} {Λ : LoopSpecs}

theorem fnS_ok (hΓ : PCok P Γ) (hm : P.follows .mixedOrders = true) (E : Env) (n : Nat) : CSok P E (fnS P Γ Λ n) :=
  calls_of_wpS fun f c st K ρ a w Q h D hQ => wpS_ok hΓ hm n f c st K ρ a w Q h D hQ

/-- The environment of a call: all that is there is fixed. -/
def envOf (w : World) : Env := ⟨w.heap.size, w, []⟩

theorem envOf_fixed {w : World} {b : Nat} : (envOf w).fixed b ↔ b < w.heap.size := by simp [envOf, Env.fixed]

theorem DH.start (w : World) : DH (envOf w) (fun _ => none) [] w :=
  ⟨Same.refl w, Nat.le_refl _, fun _ _ => rfl, fun _ _ => rfl, fun i b h => by simp at h, fun i b n h => by simp at h, fun i j b c n _ h => by simp at h⟩

theorem DH.below_of {w w' : World} {ρ : Rho} {h : List Blk} (D : DH (envOf w) ρ h w') : RowKit.Below w.heap.size w w' :=
  ⟨D.same.os, D.same.tape, D.same.output, D.same.size, fun k hk => D.old k (envOf_fixed.2 hk)⟩

/-- A function that only computes. -/
theorem fnS_pure (hΓ : PCok P Γ) (hm : P.follows .mixedOrders = true) {n : Nat} {g : FuncId} {args : List SV} {R : SV → List Blk → Prop} (h : fnS P Γ Λ n g args [] R) (w : World) {vs : List Value}
    (hargs : DL (envOf w) (fun _ => none) args vs) :
    Calls P g vs.toArray w fun e w' => ∃ y v h' ρ', e = .returned y ∧ DV (envOf w) ρ' v y ∧ R v h' ∧ DH (envOf w) ρ' h' w' ∧ RowKit.Below w.heap.size w w' :=
  (fnS_ok hΓ hm (envOf w) n g args [] R h _ w vs (DH.start w) hargs).mono fun _ _ ⟨y, v, h', ρ', he, _, hy, hD, hr⟩ => ⟨y, v, h', ρ', he, hy, hr, hD, hD.below_of⟩

mutual
/-- It names no slot. -/
def flat : SV → Bool
  | .v _ => true
  | .agg l => flats l
  | .tup l => flats l
  | .fn _ a b => flats a && flats b
  | .ifc _ x => flat x
  | .ro _ _ => true
  | .rop _ => true
  | _ => false
def flats : List SV → Bool
  | [] => true
  | s :: l => flat s && flats l
end

theorem RoAt.move {E : Env} {ρ : Rho} {h : List Blk} {w : World} (D : DH E ρ h w) {b off : Nat} {cs : List Value} (hr : RoAt E b off cs) : RoAt (envOf w) b off cs :=
  ⟨envOf_fixed.2 (fixed_lt D hr.1), fun j u hu => by
    show w.cell? _ = _
    rw [World.cell?_of_block (w := E.w0) (D.old b hr.1)]; exact hr.2 j u hu⟩

mutual
theorem flat_move {E : Env} {ρ : Rho} {h : List Blk} {w : World} (D : DH E ρ h w) (ρ' : Rho) : ∀ (s : SV) (y : Value), flat s = true → DV E ρ s y → DV (envOf w) ρ' s y
  | .v _, _, _, h => by simpa [DV] using h
  | .agg l, y, hf, h => by
    simp only [flat] at hf
    simp only [DV] at h ⊢
    obtain ⟨a, e, hl⟩ := h
    exact ⟨a, e, flats_move D ρ' l _ hf hl⟩
  | .tup l, y, hf, h => by
    simp only [flat] at hf
    simp only [DV] at h ⊢
    obtain ⟨a, e, hl⟩ := h
    exact ⟨a, e, flats_move D ρ' l _ hf hl⟩
  | .fn f p q, y, hf, h => by
    simp only [flat, Bool.and_eq_true] at hf
    simp only [DV] at h ⊢
    obtain ⟨a, b, e, ha, hb⟩ := h
    exact ⟨a, b, e, flats_move D ρ' p _ hf.1 ha, flats_move D ρ' q _ hf.2 hb⟩
  | .ifc t x, y, hf, h => by
    simp only [flat] at hf
    simp only [DV] at h ⊢
    obtain ⟨z, e, hz⟩ := h
    exact ⟨z, e, flat_move D ρ' x z hf hz⟩
  | .ro kd xs, y, _, h => by
    simp only [DV, isRo] at h ⊢
    obtain ⟨a, cap, e, hc, hw, hr⟩ := h
    refine ⟨a, cap, e, hc, hw, ?_⟩
    rcases hr with hr | ⟨b, off, ha, hr⟩
    · exact .inl hr
    · exact .inr ⟨b, off, ha, hr.move D⟩
  | .rop cs, y, _, h => by
    simp only [DV] at h ⊢
    obtain ⟨b, off, e, hr⟩ := h
    exact ⟨b, off, e, hr.move D⟩
  | .any, _, hf, _ | .ptr .., _, hf, _ | .row .., _, hf, _ | .rowp .., _, hf, _ | .sl .., _, hf, _ | .part .., _, hf, _ => by simp [flat] at hf
theorem flats_move {E : Env} {ρ : Rho} {h : List Blk} {w : World} (D : DH E ρ h w) (ρ' : Rho) : ∀ (l : List SV) (ys : List Value), flats l = true → DL E ρ l ys → DL (envOf w) ρ' l ys
  | [], _, _, h => by simpa [DL] using h
  | s :: l, ys, hf, h => by
    simp only [flats, Bool.and_eq_true] at hf
    simp only [DL] at h ⊢
    obtain ⟨y, t, e, hy, ht⟩ := h
    exact ⟨y, t, e, flat_move D ρ' s y hf.1 hy, flats_move D ρ' l t hf.2 ht⟩
end

mutual
/-- Nothing but values. -/
def solid : SV → Bool
  | .v _ => true
  | .agg l => solids l
  | .tup l => solids l
  | .fn _ a b => solids a && solids b
  | .ifc _ x => solid x
  | _ => false
def solids : List SV → Bool
  | [] => true
  | s :: l => solid s && solids l
end

mutual
theorem solid_any {E E' : Env} {ρ ρ' : Rho} : ∀ (s : SV) (y : Value), solid s = true → DV E ρ s y → DV E' ρ' s y
  | .v _, _, _, h => by simpa [DV] using h
  | .agg l, y, hf, h => by
    simp only [solid] at hf
    simp only [DV] at h ⊢
    obtain ⟨a, e, hl⟩ := h
    exact ⟨a, e, solids_any l _ hf hl⟩
  | .tup l, y, hf, h => by
    simp only [solid] at hf
    simp only [DV] at h ⊢
    obtain ⟨a, e, hl⟩ := h
    exact ⟨a, e, solids_any l _ hf hl⟩
  | .fn f p q, y, hf, h => by
    simp only [solid, Bool.and_eq_true] at hf
    simp only [DV] at h ⊢
    obtain ⟨a, b, e, ha, hb⟩ := h
    exact ⟨a, b, e, solids_any p _ hf.1 ha, solids_any q _ hf.2 hb⟩
  | .ifc t x, y, hf, h => by
    simp only [solid] at hf
    simp only [DV] at h ⊢
    obtain ⟨z, e, hz⟩ := h
    exact ⟨z, e, solid_any x z hf hz⟩
  | .ro .., _, hf, _ | .rop .., _, hf, _ | .any, _, hf, _ | .ptr .., _, hf, _ | .row .., _, hf, _ | .rowp .., _, hf, _ | .sl .., _, hf, _ | .part .., _, hf, _ => by simp [solid] at hf
theorem solids_any {E E' : Env} {ρ ρ' : Rho} : ∀ (l : List SV) (ys : List Value), solids l = true → DL E ρ l ys → DL E' ρ' l ys
  | [], _, _, h => by simpa [DL] using h
  | s :: l, ys, hf, h => by
    simp only [solids, Bool.and_eq_true] at hf
    simp only [DL] at h ⊢
    obtain ⟨y, t, e, hy, ht⟩ := h
    exact ⟨y, t, e, solid_any s y hf.1 hy, solids_any l t hf.2 ht⟩
end

/-- A contract is good: for arguments that name no slot, the engine's run gives its result. -/
def Pure (P : Program) (Γ : PC) (Λ : LoopSpecs) (n : Nat) (g : FuncId) (k : List SV → List Blk → Option (List Bool × SV)) : Prop :=
  ∀ args h ps v, k args h = some (ps, v) → allNeed ps → flats args = true ∧ solid v = true ∧ fnS P Γ Λ n g args [] fun u _ => u = v

theorem pc_ok (hΓ : PCok P Γ) (hm : P.follows .mixedOrders = true) {n : Nat} {g : FuncId} {k : List SV → List Blk → Option (List Bool × SV)} (hk : Pure P Γ Λ n g k) :
    ∀ E ρ h w args vs ps v, DH E ρ h w → DL E ρ args vs → k args h = some (ps, v) → allNeed ps →
      Calls P g vs.toArray w fun e w' => ∃ y, e = .returned y ∧ DV E ρ v y ∧ RowKit.Below w.heap.size w w' := by
  intro E ρ h w args vs ps v D hargs hkv hps
  obtain ⟨h1, h2, h3⟩ := hk args h ps v hkv hps
  refine (fnS_pure hΓ hm h3 w (flats_move D _ args vs h1 hargs)).mono ?_
  rintro e w' ⟨y, u, h', ρ', rfl, hy, rfl, _, hb⟩
  exact ⟨y, rfl, solid_any _ _ h2 hy, hb⟩

/-- One contract more. -/
def addPC (Γ : PC) (g : FuncId) (k : List SV → List Blk → Option (List Bool × SV)) : PC := fun f => if f = g then some k else Γ f

theorem addPC_ok (hΓ : PCok P Γ) (hm : P.follows .mixedOrders = true) {n : Nat} {g : FuncId} {k : List SV → List Blk → Option (List Bool × SV)} (hk : Pure P Γ Λ n g k) : PCok P (addPC Γ g k) := by
  intro g' k' hg
  unfold addPC at hg
  split at hg
  · subst_vars; cases hg; exact pc_ok hΓ hm hk
  · exact hΓ g' k' hg

def noPC : PC := fun _ => none
theorem noPC_ok : PCok P noPC := fun _ _ h => by cases h
def noLoops : LoopSpecs := fun _ _ => none


/-! ### Contracts by shape -/

/-- A shape of symbolic values: reads them into plain data, and back. -/
structure Par (α : Type) where
  get : SV → Option α
  put : α → SV
  ok : ∀ s x, get s = some x → s = put x

structure ParL (α : Type) where
  get : List SV → Option α
  put : α → List SV
  ok : ∀ s x, get s = some x → s = put x

def Par.int (k : IntKind) : Par Int where
  get s := match s with
    | .v (.int k' n) => cond (decide (k' = k)) (some n) none
    | _ => none
  put n := .v (.int k n)
  ok s x h := by
    split at h
    · rename_i k' n
      by_cases e : k' = k
      · subst e; simp at h; rw [h]
      · simp [e] at h
    · cases h

def Par.bool : Par Bool where
  get s := match s with
    | .v (.bool b) => some b
    | _ => none
  put b := .v (.bool b)
  ok s x h := by
    split at h
    · cases h; rfl
    · cases h

def Par.str : Par ByteArray where
  get s := match s with
    | .v (.string b) => some b
    | _ => none
  put b := .v (.string b)
  ok s x h := by
    split at h
    · cases h; rfl
    · cases h

def ParL.nil : ParL Unit where
  get l := match l with
    | [] => some ()
    | _ => none
  put _ := []
  ok s x h := by
    split at h
    · rfl
    · cases h

def ParL.cons {α β : Type} (p : Par α) (q : ParL β) : ParL (α × β) where
  get l := match l with
    | s :: r => match p.get s, q.get r with
      | some x, some y => some (x, y)
      | _, _ => none
    | _ => none
  put x := p.put x.1 :: q.put x.2
  ok s x h := by
    split at h
    · split at h
      · rename_i hx hy
        cases h
        rw [p.ok _ _ hx, q.ok _ _ hy]
      · cases h
    · cases h

def Par.agg {α : Type} (q : ParL α) : Par α where
  get s := match s with
    | .agg l => q.get l
    | _ => none
  put x := .agg (q.put x)
  ok s x h := by
    split at h
    · rw [q.ok _ _ h]
    · cases h

/-- A contract by the arguments' shape. -/
def kOf {α : Type} (p : ParL α) (f : α → List Bool × SV) : List SV → List Blk → Option (List Bool × SV) := fun args _ => (p.get args).map f

theorem pure_of {α : Type} {p : ParL α} {f : α → List Bool × SV} {n : Nat} {g : FuncId} (h : ∀ x, allNeed (f x).1 → flats (p.put x) = true ∧ solid (f x).2 = true ∧ fnS P Γ Λ n g (p.put x) [] fun u _ => u = (f x).2) :
    Pure P Γ Λ n g (kOf p f) := by
  intro args hp ps v hk hn
  simp only [kOf, Option.map_eq_some_iff] at hk
  obtain ⟨x, hx, he⟩ := hk
  have hx' := p.ok _ _ hx
  subst hx'
  have h1 : (f x).1 = ps := by rw [he]
  have h2 : (f x).2 = v := by rw [he]
  subst h1 h2
  exact h x hn

theorem bif_intro {b : Bool} {p q : Prop} (h1 : b = true → p) (h2 : b = false → q) : cond b p q := by
  cases b
  · exact h2 rfl
  · exact h1 rfl

theorem wr64 (x : Int) : (-9223372036854775808 ≤ x ∧ x < 9223372036854775808) → IntKind.i64.wrap x = x := by
  intro h
  have : (2 : Int) ^ 64 = 18446744073709551616 := by decide
  have h63 : (2 : Int) ^ 63 = 9223372036854775808 := by decide
  simp only [IntKind.wrap, IntKind.bits, IntKind.signed, this, Bool.true_and, show 64 - 1 = 63 from rfl, h63, ge_iff_le, decide_eq_true_eq]
  split <;> omega

end

attribute [irreducible] fnS
end Go.Eng
