/- The engine: functions, and contracts of functions that read alone and make new memory. No condition. -/
import Derived.Test.YtafmknblnamegaaDoorV8J
namespace Go.Eng

/-- A function, run by the engine. -/
def fnS (P : Program) (Γ : PC) (Λ : LoopSpecs) (n : Nat) (g : FuncId) (args : List SV) (h : List Blk) (K' : SV → List Blk → Prop) : Prop :=
  match P.funcs[g]? with
  | some fn => match fn.body with
    | some body => bareSt ⟨args ++ List.replicate (fn.ntmps - args.length) (.v undef), h, []⟩ fun st0 => wpS P Γ Λ n g body st0 fun e st' => match e with
      | .exit _ => Stuck "exit" fn.name
      | _ => leaveS P fn st' K'
    | none => Stuck "body" fn.name
  | none => Stuck "function" ""

section
variable {P : Program} {Γ : PC} {Λ : LoopSpecs}

theorem fnS_ok (hΓ : PCok P Γ) (hm : P.follows .mixedOrders = true) (E : Env) (n : Nat) : CSok P E (fnS P Γ Λ n) :=
  calls_of_wpS (wpS_ok hΓ hm n E)

/-- The environment of a call: all that is there is fixed. -/
def envOf (w : World) : Env := ⟨w.heap.size, w, []⟩

theorem envOf_fixed {w : World} {b : Nat} : (envOf w).fixed b ↔ b < w.heap.size := by simp [envOf, Env.fixed]

theorem DH.globAt {E : Env} {ρ : Rho} {h : List Blk} {w : World} (D : DH E ρ h w) : GlobOk (envOf w) := fun x hx => by
  obtain ⟨h1, h2⟩ := D.glob x hx
  exact ⟨(cell?_at (D.old 0 h2)).trans h1, envOf_fixed.2 (fixed_lt D h2)⟩
theorem DH.start (w : World) (hg : GlobOk (envOf w)) : DH (envOf w) (fun _ => none) [] w :=
  ⟨Same.refl w, Nat.le_refl _, hg, fun _ _ => rfl, fun _ _ => rfl, fun i b h => by simp at h, fun i b n h => by simp at h, fun i j b c n _ h => by simp at h⟩

theorem DH.below_of {w w' : World} {ρ : Rho} {h : List Blk} (D : DH (envOf w) ρ h w') : RowKit.Below w.heap.size w w' :=
  ⟨D.same.os, D.same.tape, D.same.output, D.same.size, fun k hk => D.old k (envOf_fixed.2 hk)⟩

/-! ### What a function answers: data, and new memory -/

structure Out where
  need : List Bool
  val : SV
  news : List Blk := []

def Out.pat (o : Out) : Pat := ⟨[(0, o.val)], [], [], o.news⟩
def ownB : Blk → Bool
  | .cells .. => true
  | .row .. => true
  | .rr .. => true
  | .fam .. => true
  | _ => false
/-- New memory that a contract may answer. -/
def ownN : Blk → Bool
  | .der .. => true
  | .opq _ => true
  | b => ownB b
theorem ownN_of {b : Blk} (h : ownB b = true) : ownN b = true := by cases b <;> first | exact h | rfl
def outOk (o : Out) : Bool := specOk [0] o.pat ⟨[.any], [], []⟩ && o.news.all ownB
/-- The function's end is as is said. -/
def fitOut (o : Out) (u : SV) (h : List Blk) : Prop := bareX (unifS o.news [(0, o.val)] [] ⟨[u], h, []⟩) fun x => fits o.pat ⟨[.any], [], []⟩ x

theorem fitOut_ok {o : Out} (ho : outOk o = true) {u : SV} {h : List Blk} (hf : fitOut o u h) {w w' : World} {ρ : Rho} {y : Value} (D : DH (envOf w) ρ h w') (hd : DV ρ u y) :
    ∃ ρh, DV ρh (ren (cod 0) o.val) y ∧ DH (envOf w) ρh (o.news.map (renB (cod 0))) w' := by
  unfold fitOut at hf
  rw [bareX_eq] at hf
  simp only [outOk, Bool.and_eq_true] at ho
  obtain ⟨_, _, _, hS⟩ := unifS_ok o.news [(0, o.val)] [] ⟨[u], h, []⟩
  obtain ⟨ρ1, x1, D1⟩ := hS (envOf w) ρ ⟨#[y], []⟩ w' ⟨DL.cons hd DL.nil, D, rfl⟩
  have D0 : Den (envOf w) (fun _ => none) ⟨[.any], [], []⟩ ⟨#[y], []⟩ w := ⟨DL.cons (by simp [DV]) DL.nil, DH.start w D.glob, rfl⟩
  obtain ⟨ρh, _, Dh⟩ := headOf_den (asg := [0]) D0 D1 (fun i l h => by cases h) (Fr.refl _ _) D.same.stat ho.1 hf
  refine ⟨ρh, ?_, ?_⟩
  · have := Dh.regs
    simp only [headOf, Out.pat, List.map_cons, List.map_nil, lay, havoc] at this
    have h1 := this.getD 0 undef
    simpa using h1
  · have := Dh.heap
    simpa [headOf, Out.pat, layH, restr] using this

theorem cod_shift (n0 n1 i : Nat) : (i < 1000000 → cod n0 i = i ∧ cod n1 i = i) ∧ (1000000 ≤ i → cod n1 i + n0 = cod n0 i + n1) := by
  rw [cod_unf, cod_unf]
  generalize 1000000 = M
  refine ⟨fun h => ?_, fun h => ?_⟩
  · rw [cond_f _ (ble_f M i h), cond_f _ (ble_f M i h)]; exact ⟨rfl, rfl⟩
  · rw [cond_t _ (Nat.ble_eq_true_of_le h), cond_t _ (Nat.ble_eq_true_of_le h)]; omega

theorem refOk_cod {m : Nat} {l : List Nat} (h : refOk 0 m l = true) (nx : Nat) : ∀ i ∈ l, cod nx i = nx + cod 0 i ∧ cod 0 i < m := fun i hi => by
  obtain ⟨d, hd⟩ := refOk_ren [] 0 m
  rcases hd l h i hi with ⟨h1, _⟩ | ⟨_, h2, _⟩
  · exact absurd h1 (Nat.not_lt_zero _)
  · refine ⟨?_, h2⟩
    rcases refOk_iff h i hi with ⟨_, h3⟩ | ⟨h3, _⟩
    · exact absurd h3 (Nat.not_lt_zero _)
    · have := (cod_shift nx 0 i).2 h3
      omega

def effs : Nat → List Blk → List (Nat × Blk)
  | _, [] => []
  | n, b :: l => (n, b) :: effs (n + 1) l

theorem effs_get : ∀ (l : List Blk) (nx : Nat) (h : List Blk), (nx + l.length ≤ h.length) ∨ nx = h.length → h.length ≤ (applyEff (effs nx l) h).length ∧
    ∀ k, (applyEff (effs nx l) h)[k]? = if nx ≤ k ∧ k < nx + l.length then l[k - nx]? else h[k]?
  | [], nx, h, _ => ⟨Nat.le_refl _, fun k => by rw [if_neg (by simp)]; rfl⟩
  | b :: l, nx, h, hn => by
    have hlc : (b :: l).length = l.length + 1 := rfl
    have hle : nx ≤ h.length := by omega
    have hstep : applyEff (effs nx (b :: l)) h = applyEff (effs (nx + 1) l) (putB nx b h) := rfl
    have hlen := putB_length (i := nx) (b := b) (h := h)
    have hc : (nx + 1 + l.length ≤ (putB nx b h).length) ∨ nx + 1 = (putB nx b h).length := by
      rcases hn with h1 | h1
      · simp only [List.length_cons] at h1
        refine .inl ?_
        omega
      · right
        unfold putB
        rw [if_neg (by omega)]
        simp [h1]
    obtain ⟨i1, i2⟩ := effs_get l (nx + 1) (putB nx b h) hc
    rw [hstep]
    refine ⟨Nat.le_trans hlen i1, fun k => ?_⟩
    rw [i2 k, putB_get hle]
    by_cases e : k = nx
    · subst e
      rw [if_neg (by omega), if_pos rfl, if_pos (by simp)]
      simp
    · rw [if_neg e]
      by_cases e2 : nx + 1 ≤ k ∧ k < nx + 1 + l.length
      · rw [if_pos e2, if_pos (by simp only [List.length_cons]; omega)]
        rw [show k - nx = (k - (nx + 1)) + 1 by omega, List.getElem?_cons_succ]
      · rw [if_neg e2, if_neg (by simp only [List.length_cons]; omega)]

/-- A function's new memory, laid into its caller's view. -/
theorem DH.graft {E : Env} {ρ ρh : Rho} {h : List Blk} {w w' : World} {o : Out} {nx : Nat} (D : DH E ρ h w) (Dh : DH (envOf w) ρh (o.news.map (renB (cod 0))) w') (ho : outOk o = true) (f : Free h nx)
    (hn : o.news.length ≤ 4 ∨ nx = h.length) {y : Value} (hy : DV ρh (ren (cod 0) o.val) y) :
    ∃ ρ', Ext ρ ρ' ∧ DV ρ' (ren (cod nx) o.val) y ∧ DH E ρ' (applyEff (effs nx (o.news.map (renB (cod nx)))) h) w' := by
  simp only [outOk, specOk, Out.pat, Bool.and_eq_true, List.all_eq_true, List.all_cons, List.all_nil, List.length_nil] at ho
  have hval : refOk 0 o.news.length (refs o.val) = true := ho.1.1.1.1.1.1.1.1.1.1.1
  have hnews : ∀ b ∈ o.news, refOk 0 o.news.length (blkRefs b) = true := fun b hb => (ho.1.1.1.1.1.2 b hb).1
  have hown := ho.2
  obtain ⟨ρ', hρ'⟩ : ∃ ρ' : Rho, ρ' = fun k => if nx ≤ k ∧ k < nx + o.news.length then ρh (k - nx) else ρ k := ⟨_, rfl⟩
  have hin : ∀ k, nx ≤ k → k < nx + o.news.length → ρ k = none := fun k h1 h2 => by
    exact f.nones D hn h1 h2
  have hx : Ext ρ ρ' := fun k l hk => by
    rw [hρ']; simp only
    split
    · rename_i hc; rw [hin k hc.1 hc.2] at hk; cases hk
    · exact hk
  have hnew : ∀ j, j < o.news.length → ρ' (nx + j) = ρh j := fun j hj => by
    rw [hρ']; simp only
    rw [if_pos (by omega), Nat.add_sub_cancel_left]
  have hout : ∀ k, ¬ (nx ≤ k ∧ k < nx + o.news.length) → ρ' k = ρ k := fun k hk => by rw [hρ']; simp only; rw [if_neg hk]
  have hren : ∀ l, refOk 0 o.news.length l = true → ∀ i ∈ l, ∀ p, ρh (cod 0 i) = some p → ρ' (cod nx i) = some p := fun l hl i hi p hp => by
    obtain ⟨h1, h2⟩ := refOk_cod hl nx i hi
    rw [h1, hnew _ h2]; exact hp
  obtain ⟨hlen, hget⟩ := effs_get (o.news.map (renB (cod nx))) nx h (by simpa using f.room hn)
  simp only [List.length_map] at hget
  have B := Dh.below_of
  -- the new ones
  have new : ∀ k b, nx ≤ k → k < nx + o.news.length → (o.news.map (renB (cod nx)))[k - nx]? = some b → ∃ c, (o.news.map (renB (cod 0)))[k - nx]? = some c ∧ BlkOk E ρ' w' k b ∧ ∀ n, takes ρ' k b n → takes ρh (k - nx) c n := fun k b h1 h2 hb => by
    rw [List.getElem?_map] at hb
    obtain ⟨b0, hb0, rfl⟩ := Option.map_eq_some_iff.1 hb
    have hm := List.mem_of_getElem? hb0
    have hc : (o.news.map (renB (cod 0)))[k - nx]? = some (renB (cod 0) b0) := by rw [List.getElem?_map, hb0]; rfl
    have ok := Dh.ok _ _ hc
    have ow := hown b0 hm
    obtain ⟨ok', tk⟩ := BlkOk_ren (i := k - nx) (j := k) (cod 0) (cod nx) (b := b0) (by rintro rfl; cases ow) (fun p hp => by
      have := hnew (k - nx) (by omega)
      rw [show nx + (k - nx) = k by omega] at this
      rw [this]; exact hp) (hren _ (hnews b0 hm)) ok
    refine ⟨_, hc, ?_, tk⟩
    cases b0 with
    | cells e cs => exact ok'
    | row e kd xs => exact ok'
    | rr e g => exact ok'
    | fam kf css l => exact ok'
    | _ => cases ow
  refine ⟨ρ', hx, DV_ren (cod 0) (cod nx) _ _ (hren _ hval) hy, ⟨D.same.trans ⟨B.os, B.tape, B.output, B.size, Stat.of_block B.block⟩, D.base, D.glob, fun k hk => ?_, fun k hk => ?_, fun k b hk => ?_, fun k b n hk ht => ?_, fun i j b c n hne hi hj ht ht' => ?_⟩⟩
  · rw [← D.old k hk]; exact B.block k (fixed_lt D hk)
  · have h1 : (applyEff (effs nx (o.news.map (renB (cod nx)))) h)[k]? = none := List.getElem?_eq_none hk
    rw [hget k] at h1
    split at h1
    · rename_i hc
      exfalso
      rw [List.getElem?_eq_none_iff, List.length_map] at h1
      omega
    · rename_i hc
      rw [hout k hc]; exact D.fresh k (Nat.le_trans hlen hk)
  · rw [hget k] at hk
    split at hk
    · rename_i hc
      obtain ⟨_, _, ok, _⟩ := new k b hc.1 hc.2 hk
      exact ok
    · rename_i hc
      exact (D.ok k b hk).keep hx (fun e => by rw [hout k hc]; subst e; exact D.ok k _ hk) fun n hn => B.block n (D.own k b n hk hn).2
  · rw [hget k] at hk
    split at hk
    · rename_i hc
      obtain ⟨c, hc', _, tk⟩ := new k b hc.1 hc.2 hk
      have := Dh.own _ c n hc' (tk n ht)
      refine ⟨fun hf => this.1 (envOf_fixed.2 (fixed_lt D hf)), this.2⟩
    · have := D.own k b n hk (takes.back hx (D.ok k b hk) ht)
      exact ⟨this.1, Nat.lt_of_lt_of_le this.2 B.size⟩
  · rw [hget i] at hi
    rw [hget j] at hj
    have big : ∀ k b, nx ≤ k → k < nx + o.news.length → (o.news.map (renB (cod nx)))[k - nx]? = some b → takes ρ' k b n → ¬ n < w.heap.size := fun k b h1 h2 hb ht hlt => by
      obtain ⟨c, hc', _, tk⟩ := new k b h1 h2 hb
      exact (Dh.own _ c n hc' (tk n ht)).1 (envOf_fixed.2 hlt)
    have small : ∀ k b, h[k]? = some b → takes ρ' k b n → n < w.heap.size := fun k b hk ht => (D.own k b n hk (takes.back hx (D.ok k b hk) ht)).2
    split at hi <;> split at hj
    · rename_i h1 h2
      obtain ⟨b', hb', _, t1⟩ := new i b h1.1 h1.2 hi
      obtain ⟨c', hc', _, t2⟩ := new j c h2.1 h2.2 hj
      exact Dh.apart (i - nx) (j - nx) b' c' n (by omega) hb' hc' (t1 n ht) (t2 n ht')
    · rename_i h1 h2
      exact big i b h1.1 h1.2 hi ht (small j c hj ht')
    · rename_i h1 h2
      exact big j c h2.1 h2.2 hj ht' (small i b hi ht)
    · exact D.apart i j b c n hne hi hj (takes.back hx (D.ok i b hi) ht) (takes.back hx (D.ok j c hj) ht')

/-! ### Contracts -/

abbrev Ctr := List SV → List Blk → Nat → Option Res
def CtrOk (P : Program) (g : FuncId) (k : Ctr) : Prop := ∀ E ρ h hr w args vs nx r, DH E ρ h w → Sub hr h → Free h nx → DL ρ args vs → k args hr nx = some r → allNeed r.need →
  Calls P g vs.toArray w fun e w' => ∃ y ρ', e = .returned y ∧ Ext ρ ρ' ∧ DV ρ' r.val y ∧ DH E ρ' (applyEff r.eff h) w'

/-- One contract more. -/
def addPC (Γ : PC) (g : FuncId) (k : Ctr) : PC := fun f => if f = g then some k else Γ f
theorem addPC_ok (hΓ : PCok P Γ) {g : FuncId} {k : Ctr} (hk : CtrOk P g k) : PCok P (addPC Γ g k) := by
  intro g' k' hg
  unfold addPC at hg
  split at hg
  · subst_vars; cases hg; exact hk
  · exact hΓ g' k' hg
def noPC : PC := fun _ => none
theorem noPC_ok : PCok P noPC := fun _ _ h => by cases h
def noLoops : LoopSpecs := fun _ _ => none

/-- One contract, or the other one. -/
def kOr (k l : Ctr) : Ctr := fun args h nx => match k args h nx with
  | some r => some r
  | none => l args h nx
theorem good_or {g : FuncId} {k l : Ctr} (hk : CtrOk P g k) (hl : CtrOk P g l) : CtrOk P g (kOr k l) := by
  intro E ρ h hr w args vs nx r D s f hd hkv
  unfold kOr at hkv
  split at hkv
  · rename_i r2 hr2; cases hkv; exact hk E ρ h hr w args vs nx _ D s f hd hr2
  · exact hl E ρ h hr w args vs nx r D s f hd hkv

/-- A shape of arguments: reads them into plain data, of which something is known, and back, with the memory that they need. -/
structure Par (α : Type) where
  get : List Blk → SV → Option α
  put : Nat → α → SV × List Blk
  fact : α → Prop
  ok : ∀ h s x, get h s = some x → ∀ E ρ w y, DH E ρ h w → DV ρ s y → fact x ∧ ∀ ρ0 h0, DH (envOf w) ρ0 h0 w → ∃ ρ1, Ext ρ0 ρ1 ∧ DV ρ1 (put h0.length x).1 y ∧ DH (envOf w) ρ1 (h0 ++ (put h0.length x).2) w

structure ParL (α : Type) where
  get : List Blk → List SV → Option α
  put : Nat → α → List SV × List Blk
  fact : α → Prop
  ok : ∀ h s x, get h s = some x → ∀ E ρ w y, DH E ρ h w → DL ρ s y → fact x ∧ ∀ ρ0 h0, DH (envOf w) ρ0 h0 w → ∃ ρ1, Ext ρ0 ρ1 ∧ DL ρ1 (put h0.length x).1 y ∧ DH (envOf w) ρ1 (h0 ++ (put h0.length x).2) w

/-- A shape that needs no memory. -/
def Par.leaf {α : Type} (get : SV → Option α) (put : α → SV) (fact : α → Prop) (ok : ∀ s x, get s = some x → ∀ ρ y, DV ρ s y → fact x ∧ ∀ ρ', DV ρ' (put x) y) : Par α where
  get _ s := get s
  put _ x := (put x, [])
  fact := fact
  ok h s x hg E ρ w y _ hd := ⟨(ok s x hg ρ y hd).1, fun ρ0 h0 D => ⟨ρ0, Ext.refl _, (ok s x hg ρ y hd).2 ρ0, by simpa using D⟩⟩

def intIn (k : IntKind) (lo hi : Int) (s : SV) : Option Int := match intOf s with
  | some (k', n, lo', hi') => cond (decide (k' = k) && (decide (lo ≤ lo') && decide (hi' ≤ hi))) (some n) none
  | none => none

/-- A number of a kind, between two numerals. -/
def Par.int (k : IntKind) (lo hi : Int) : Par Int := .leaf (intIn k lo hi) (fun n => .i k n lo hi) (fun n => lo ≤ n ∧ n ≤ hi) fun s x h ρ y hd => by
  unfold intIn at h
  split at h
  · rename_i k' n lo' hi' hi_
    obtain ⟨rfl, h2⟩ := intOf_DV hi_ hd
    obtain ⟨hc, rfl⟩ := cond_some h
    simp only [Bool.and_eq_true, decide_eq_true_eq] at hc
    obtain ⟨rfl, hc⟩ := hc
    exact ⟨by omega, fun ρ' => by simp only [DV]; exact ⟨trivial, by omega, by omega⟩⟩
  · cases h

/-- A number with its numerals. -/
def Par.intAny (k : IntKind) : Par (Int × Int × Int) := .leaf (fun s => match intOf s with
    | some (k', n, lo, hi) => cond (decide (k' = k) && inK k lo hi) (some (n, lo, hi)) none
    | none => none) (fun n => .i k n.1 (kmin k) (kmax k)) (fun n => (n.2.1 ≤ n.1 ∧ n.1 ≤ n.2.2) ∧ kmin k ≤ n.1 ∧ n.1 ≤ kmax k) fun s x h ρ y hd => by
  split at h
  · rename_i k' n lo hi hi_
    obtain ⟨rfl, h2⟩ := intOf_DV hi_ hd
    obtain ⟨hc, rfl⟩ := cond_some h
    simp only [Bool.and_eq_true, decide_eq_true_eq] at hc
    obtain ⟨rfl, hc⟩ := hc
    have := inK_iff hc
    exact ⟨⟨h2, by omega, by omega⟩, fun ρ' => by simp only [DV]; exact ⟨trivial, by omega, by omega⟩⟩
  · cases h

/-- A number between two numerals, with its own ones. -/
def Par.intR (k : IntKind) (lo hi : Int) : Par (Int × Int × Int) := .leaf (fun s => match intOf s with
    | some (k', n, l, h) => cond (decide (k' = k) && (decide (lo ≤ l) && decide (h ≤ hi))) (some (n, l, h)) none
    | none => none) (fun n => .i k n.1 lo hi) (fun n => (n.2.1 ≤ n.1 ∧ n.1 ≤ n.2.2) ∧ lo ≤ n.2.1 ∧ n.2.2 ≤ hi) fun s x h ρ y hd => by
  split at h
  · rename_i k' n l u hi_
    obtain ⟨rfl, h2⟩ := intOf_DV hi_ hd
    obtain ⟨hc, rfl⟩ := cond_some h
    simp only [Bool.and_eq_true, decide_eq_true_eq] at hc
    obtain ⟨rfl, hc⟩ := hc
    exact ⟨⟨h2, hc⟩, fun ρ' => by simp only [DV]; exact ⟨trivial, by omega, by omega⟩⟩
  · cases h

def Par.bool : Par Bool := .leaf (fun s => match s with
    | .v (.bool b) => some b
    | .b b => some b
    | _ => none) (fun b => .b b) (fun _ => True) fun s x h ρ y hd => by
  split at h
  · cases h; simp only [DV] at hd; exact ⟨trivial, fun ρ' => by simpa only [DV] using hd⟩
  · cases h; simp only [DV] at hd; exact ⟨trivial, fun ρ' => by simpa only [DV] using hd⟩
  · cases h

/-- A string, no longer than a numeral. -/
def Par.str (hi : Int) : Par ByteArray := .leaf (fun s => match s with
    | .v (.string b) => cond (decide ((b.size : Int) ≤ hi)) (some b) none
    | .s b hi' => cond (decide (hi' ≤ hi)) (some b) none
    | _ => none) (fun b => .s b hi) (fun b => (b.size : Int) ≤ hi) fun s x h ρ y hd => by
  split at h
  · obtain ⟨hc, rfl⟩ := cond_some h
    simp only [decide_eq_true_eq] at hc
    simp only [DV] at hd
    exact ⟨hc, fun ρ' => by simp only [DV]; exact ⟨hd, hc⟩⟩
  · obtain ⟨hc, rfl⟩ := cond_some h
    simp only [decide_eq_true_eq] at hc
    simp only [DV] at hd
    exact ⟨by omega, fun ρ' => by simp only [DV]; exact ⟨hd.1, by omega⟩⟩
  · cases h

/-- The pointer to nothing. -/
def Par.nilptr : Par Unit := .leaf (fun s => match s with
    | .v (.pointer none) => some ()
    | _ => none) (fun _ => .v (.pointer none)) (fun _ => True) fun s x h ρ y hd => by
  split at h
  · simp only [DV] at hd; exact ⟨trivial, fun ρ' => by simpa only [DV] using hd⟩
  · cases h

/-- More that is read alone. -/
theorem DH.addRo {w : World} {ρ0 : Rho} {h0 : List Blk} (D : DH (envOf w) ρ0 h0 w) {b : Blk} {l : Loc} (hb : BlkOk (envOf w) (upd ρ0 h0.length l) w h0.length b) (ht : ∀ ρ i n, ¬ takes ρ i b n) :
    Ext ρ0 (upd ρ0 h0.length l) ∧ DH (envOf w) (upd ρ0 h0.length l) (h0 ++ [b]) w := by
  have f : Free h0 h0.length := .inl rfl
  have hx := upd_ext (l := l) (f.none D)
  refine ⟨hx, ?_⟩
  have := D.put h0.length b (Nat.le_refl _) hx (fun k hk hn => upd_other hk hn) (Same.refl w) (fun _ _ => rfl) (fun _ _ _ _ _ _ => rfl) hb fun n hn => absurd hn (ht _ _ _)
  rwa [putB, if_neg (Nat.lt_irrefl _)] at this

/-- A slice of plain elements, read alone. -/
def Par.row (kd : List Kd) : Par (List (List Value)) where
  get h s := cond (Nat.ble 1 kd.length) (viewS kd s h) none
  put n xs := (.row n, [.ror kd xs false])
  fact xs := (∀ x ∈ xs, Wk kd x) ∧ xs.length ≤ maxLen
  ok h s xs hg E ρ w y D hd := by
    obtain ⟨hk, hg⟩ := cond_none hg
    have hk := Nat.le_of_ble_eq_true hk
    obtain ⟨a, c, e, h1, h2, h3, h4⟩ := view_ok D hg hd
    refine ⟨⟨h3, h2⟩, fun ρ0 h0 D0 => ?_⟩
    have := D0.addRo (b := .ror kd xs false) (l := ⟨kd.length, y⟩) ⟨_, upd_same _ _, rfl, hk, a, c, e, h1, (fun h => by cases h), h2, h3, by
      rcases h4 with h4 | ⟨g, off, ha, hc⟩
      · exact .inl h4
      · rcases Nat.eq_zero_or_pos xs.length with h0 | h0
        · exact .inl (List.eq_nil_of_length_eq_zero h0)
        · refine .inr ⟨g, off, ha, envOf_fixed.2 ?_, hc⟩
          have hfl := flatten_length (fun x hx => (h3 x hx).length)
          have hpos : 0 < xs.flatten.length := by rw [hfl]; exact Nat.mul_pos h0 hk
          have h5 := hc 0 _ (List.getElem?_eq_getElem hpos)
          exact World.block_lt_of_cell? w ⟨g, off + 0, none⟩ h5⟩ (fun _ _ _ h => h)
    exact ⟨_, this.1, by simp only [DV]; exact ⟨_, a, _, c, upd_same _ _, rfl, e⟩, this.2⟩

/-- A pointer to a block's cell, the block known cell by cell. -/
def Par.ptr {α : Type} (q : ParL α) (off : Nat := 0) : Par α where
  get h s := match s with
    | .ptr i o => cond (Nat.beq o off) (match h[i]? with
      | some (.cells _ cs) => q.get h cs
      | some (.rcells cs) => q.get h cs
      | _ => none) none
    | _ => none
  put n x := (.ptr (n + (q.put n x).2.length) off, (q.put n x).2 ++ [.rcells (q.put n x).1])
  fact := q.fact
  ok h s x hg E ρ w y D hd := by
    split at hg
    · rename_i i o
      replace hg := cond_none hg
      obtain ⟨ho, hg⟩ := hg
      replace ho := Nat.eq_of_beq_eq_true ho
      subst ho
      simp only [DV] at hd
      obtain ⟨p, hp, rfl⟩ := hd
      have key : ∀ cs vs e, q.get h cs = some x → w.heap[p.block]? = some (.cells vs e (0, 0)) → DL ρ cs vs.toList → q.fact x ∧ ∀ ρ0 h0, DH (envOf w) ρ0 h0 w → ∃ ρ1, Ext ρ0 ρ1 ∧
          DV ρ1 (.ptr (h0.length + (q.put h0.length x).2.length) o) (.pointer (some ⟨p.block, o, none⟩)) ∧ DH (envOf w) ρ1 (h0 ++ ((q.put h0.length x).2 ++ [.rcells (q.put h0.length x).1])) w := fun cs vs e hg hw hl => by
        obtain ⟨h1, h2⟩ := q.ok h cs x hg E ρ w _ D hl
        refine ⟨h1, fun ρ0 h0 D0 => ?_⟩
        obtain ⟨ρ1, x1, d1, D1⟩ := h2 ρ0 h0 D0
        have hlt := (Array.getElem?_eq_some_iff.1 hw).1
        have f : Free (h0 ++ (q.put h0.length x).2) (h0 ++ (q.put h0.length x).2).length := .inl rfl
        have hx := upd_ext (l := p) (f.none D1)
        have := D1.addRo (b := .rcells (q.put h0.length x).1) (l := p) ⟨p, vs, e, upd_same _ _, envOf_fixed.2 hlt, hw, DL.mono hx _ _ d1⟩ (fun _ _ _ h => h)
        rw [List.length_append] at this
        refine ⟨_, x1.trans this.1, ?_, by rw [← List.append_assoc]; exact this.2⟩
        simp only [DV]; exact ⟨p, upd_same _ _, rfl⟩
      split at hg
      · rename_i e cs hi
        obtain ⟨p', vs, hp', hw, hl⟩ := D.ok i _ hi
        rw [hp] at hp'; cases hp'
        exact key cs vs e hg hw hl
      · rename_i cs hi
        obtain ⟨p', vs, e, hp', hfx, hw, hl⟩ := D.ok i _ hi
        rw [hp] at hp'; cases hp'
        exact key cs vs e hg (by rw [D.old _ hfx]; exact hw) hl
      · cases hg
    · cases hg

def ParL.nil : ParL Unit where
  get _ l := match l with
    | [] => some ()
    | _ => none
  put _ _ := ([], [])
  fact _ := True
  ok h s x hg E ρ w y D hd := by
    split at hg
    · simp only [DL] at hd; subst hd
      exact ⟨trivial, fun ρ0 h0 D0 => ⟨ρ0, Ext.refl _, DL.nil, by simpa using D0⟩⟩
    · cases hg

def ParL.cons {α β : Type} (p : Par α) (q : ParL β) : ParL (α × β) where
  get h l := match l with
    | s :: r => match p.get h s, q.get h r with
      | some x, some y => some (x, y)
      | _, _ => none
    | _ => none
  put n x := ((p.put n x.1).1 :: (q.put (n + (p.put n x.1).2.length) x.2).1, (p.put n x.1).2 ++ (q.put (n + (p.put n x.1).2.length) x.2).2)
  fact x := p.fact x.1 ∧ q.fact x.2
  ok h s x hg E ρ w y D hd := by
    split at hg
    · split at hg
      · rename_i hx hy
        cases hg
        simp only [DL] at hd
        obtain ⟨z, t, rfl, hz, ht⟩ := hd
        obtain ⟨f1, g1⟩ := p.ok _ _ _ hx E ρ w z D hz
        obtain ⟨f2, g2⟩ := q.ok _ _ _ hy E ρ w t D ht
        refine ⟨⟨f1, f2⟩, fun ρ0 h0 D0 => ?_⟩
        obtain ⟨ρ1, x1, d1, D1⟩ := g1 ρ0 h0 D0
        obtain ⟨ρ2, x2, d2, D2⟩ := g2 ρ1 _ D1
        rw [List.length_append] at d2 D2
        exact ⟨ρ2, x1.trans x2, DL.cons (DV.mono x2 _ _ d1) d2, by rw [← List.append_assoc]; exact D2⟩
      · cases hg
    · cases hg

def Par.agg {α : Type} (q : ParL α) : Par α where
  get h s := match s with
    | .agg l => q.get h l
    | _ => none
  put n x := (.agg (q.put n x).1, (q.put n x).2)
  fact := q.fact
  ok h s x hg E ρ w y D hd := by
    split at hg
    · simp only [DV] at hd
      obtain ⟨a, rfl, hl⟩ := hd
      obtain ⟨h1, h2⟩ := q.ok _ _ _ hg E ρ w _ D hl
      refine ⟨h1, fun ρ0 h0 D0 => ?_⟩
      obtain ⟨ρ1, x1, d1, D1⟩ := h2 ρ0 h0 D0
      exact ⟨ρ1, x1, by simp only [DV]; exact ⟨a, rfl, d1⟩, D1⟩
    · cases hg

/-- A function's value: which one, what is set first, what it holds. -/
def Par.fn {α β : Type} (g : FuncId) (p : ParL α) (q : ParL β) : Par (α × β) where
  get h s := match s with
    | .fn (.func g') a b => cond (Nat.beq g' g) (match p.get h a, q.get h b with
      | some x, some y => some (x, y)
      | _, _ => none) none
    | _ => none
  put n x := (.fn (.func g) (p.put n x.1).1 (q.put (n + (p.put n x.1).2.length) x.2).1, (p.put n x.1).2 ++ (q.put (n + (p.put n x.1).2.length) x.2).2)
  fact x := p.fact x.1 ∧ q.fact x.2
  ok h s x hg E ρ w y D hd := by
    split at hg
    · replace hg := cond_none hg
      obtain ⟨hgg, hg⟩ := hg
      replace hgg := Nat.eq_of_beq_eq_true hgg
      subst hgg
      split at hg
      · rename_i hx hy
        cases hg
        simp only [DV] at hd
        obtain ⟨a, b, rfl, ha, hb⟩ := hd
        obtain ⟨f1, g1⟩ := p.ok _ _ _ hx E ρ w _ D ha
        obtain ⟨f2, g2⟩ := q.ok _ _ _ hy E ρ w _ D hb
        refine ⟨⟨f1, f2⟩, fun ρ0 h0 D0 => ?_⟩
        obtain ⟨ρ1, x1, d1, D1⟩ := g1 ρ0 h0 D0
        obtain ⟨ρ2, x2, d2, D2⟩ := g2 ρ1 _ D1
        rw [List.length_append] at d2 D2
        exact ⟨ρ2, x1.trans x2, by simp only [DV]; exact ⟨a, b, rfl, DL.mono x2 _ _ d1, d2⟩, by rw [← List.append_assoc]; exact D2⟩
      · cases hg
    · cases hg

def kRes (nx : Nat) (sy : Bool) (o : Out) : Res := ⟨o.need, cond sy (ren (cod nx) o.val) (concS (ren (cod nx) o.val)), effs nx (o.news.map (renB (cod nx)))⟩
def isNone : List Nat → Bool
  | [] => true
  | _ => false

/-- A contract by the arguments' shape: of arguments that are known outright, so is the result. -/
def kOf {α : Type} (p : ParL α) (f : α → Out) : Ctr := fun args h nx => (p.get h args).bind fun x =>
  cond (Nat.ble (f x).news.length 4 || Nat.beq nx h.length) (some (kRes nx (symbs args || !isNone (refsL args)) (f x))) none

theorem good_of {α : Type} (hΓ : PCok P Γ) (hm : P.follows .mixedOrders = true) {p : ParL α} {f : α → Out} (Λ : α → LoopSpecs) (n : Nat) {g : FuncId}
    (h : ∀ x, p.fact x → allNeed (f x).need → outOk (f x) = true ∧ fnS P Γ (Λ x) n g (p.put 0 x).1 (p.put 0 x).2 (fitOut (f x))) : CtrOk P g (kOf p f) := by
  intro E ρ hh hr w args vs nx r D hsub hfree hd hk hneed
  simp only [kOf, Option.bind_eq_some_iff] at hk
  obtain ⟨x, hx, hk⟩ := hk
  obtain ⟨hc, rfl⟩ := cond_some hk
  have Dr : DH E ρ hr w := D.forget hsub.1 hsub.2
  obtain ⟨hfact, hput⟩ := p.ok hr args x hx E ρ w vs Dr hd
  obtain ⟨ρ1, _, d1, D1⟩ := hput _ _ (DH.start w Dr.globAt)
  simp only [List.length_nil, List.nil_append] at d1 D1
  obtain ⟨ho, hrun⟩ := h x hfact hneed
  refine (fnS_ok hΓ hm (envOf w) n g _ _ _ hrun ρ1 w vs D1 d1).mono ?_
  rintro e w' ⟨y, v, h', ρ2, rfl, _, hy, hD, hfit⟩
  obtain ⟨ρh, dh, Dh⟩ := fitOut_ok ho hfit hD hy
  have hn : (f x).news.length ≤ 4 ∨ nx = hh.length := by
    simp only [Bool.or_eq_true] at hc
    rcases hc with h1 | h1
    · exact .inl (Nat.le_of_ble_eq_true h1)
    · rw [← hsub.1]; exact .inr (Nat.eq_of_beq_eq_true h1)
  obtain ⟨ρ', hx', hv, hD'⟩ := D.graft Dh ho hfree hn dh
  refine ⟨y, ρ', rfl, hx', ?_, hD'⟩
  unfold kRes
  cases (symbs args || !isNone (refsL args))
  · exact concS_DV _ _ hv
  · exact hv

/-- All is known outright. -/
def litPC (Γ : PC) : PC := addPC Γ 1000000007 fun _ _ _ => none
theorem litPC_ok (hΓ : PCok P Γ) : PCok P (litPC Γ) := addPC_ok hΓ fun E ρ h hr w args vs nx r _ _ _ _ hk => by cases hk

end

attribute [irreducible] fnS
end Go.Eng
