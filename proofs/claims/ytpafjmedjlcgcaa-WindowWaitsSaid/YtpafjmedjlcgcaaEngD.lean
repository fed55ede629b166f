/- The engine: operations with calls by contract, and regions that draw their order. No condition. -/
import Derived.Test.YtpafjmedjlcgcaaEngC
import Derived.Orders
namespace Go.Eng

structure St where
  regs : List SV
  heap : List Blk

/-! ### Laid bare: the kernel works a thing out once, ahead of what follows -/
def bareL {α : Type} (l : List α) : (List α → Prop) → Prop := List.rec (motive := fun _ => (List α → Prop) → Prop) (fun k => k []) (fun x _ ih k => ih fun r => k (x :: r)) l
theorem bareL_eq {α : Type} : ∀ (l : List α) (k : List α → Prop), bareL l k = k l
  | [], _ => rfl
  | x :: l, k => bareL_eq l fun r => k (x :: r)
def bareV (s : SV) (k : SV → Prop) : Prop := match s with
  | .any => k .any
  | .v x => k (.v x)
  | .ptr i o => k (.ptr i o)
  | .agg l => bareL l fun l => k (.agg l)
  | .tup l => bareL l fun l => k (.tup l)
  | .fn f a b => k (.fn f a b)
  | .ifc t x => k (.ifc t x)
  | .ro kd xs => k (.ro kd xs)
  | .rop cs => k (.rop cs)
  | .row i => k (.row i)
  | .rowp i e o => k (.rowp i e o)
  | .sl i o n c => k (.sl i o n c)
  | .part i lo n => k (.part i lo n)
theorem bareV_eq (s : SV) (k : SV → Prop) : bareV s k = k s := by
  cases s <;> simp only [bareV, bareL_eq]
def bareVs (l : List SV) : (List SV → Prop) → Prop := List.rec (motive := fun _ => (List SV → Prop) → Prop) (fun k => k []) (fun x _ ih k => bareV x fun y => ih fun r => k (y :: r)) l
theorem bareVs_eq : ∀ (l : List SV) (k : List SV → Prop), bareVs l k = k l
  | [], _ => rfl
  | x :: l, k => by
    show bareV x (fun y => bareVs l fun r => k (y :: r)) = _
    rw [bareV_eq, bareVs_eq]
def bareB (b : Blk) (k : Blk → Prop) : Prop := match b with
  | .hole => k .hole
  | .dead => k .dead
  | .cells e cs => bareVs cs fun cs => k (.cells e cs)
  | .row e kd xs => k (.row e kd xs)
theorem bareB_eq (b : Blk) (k : Blk → Prop) : bareB b k = k b := by
  cases b <;> simp only [bareB, bareVs_eq]
def bareH (l : List Blk) : (List Blk → Prop) → Prop := List.rec (motive := fun _ => (List Blk → Prop) → Prop) (fun k => k []) (fun x _ ih k => bareB x fun y => ih fun r => k (y :: r)) l
theorem bareH_eq : ∀ (l : List Blk) (k : List Blk → Prop), bareH l k = k l
  | [], _ => rfl
  | x :: l, k => by
    show bareB x (fun y => bareH l fun r => k (y :: r)) = _
    rw [bareB_eq, bareH_eq]
def bareSt (st : St) (k : St → Prop) : Prop := bareL st.regs fun r => bareH st.heap fun h => k ⟨r, h⟩
theorem bareSt_eq (st : St) (k : St → Prop) : bareSt st k = k st := by simp only [bareSt, bareL_eq, bareH_eq]

def evR (r : List SV) : Operand → SV
  | .tmp t => r.getD t .any
  | .const x => lift x
  | .func f => .fn (.func f) [] []
  | .global _ => .any

def setR (r : List SV) (d : Option Tmp) (s : SV) : List SV := match d with
  | some d => r.set d s
  | none => r

structure Den (E : Env) (ρ : Rho) (st : St) (a : Act) (w : World) : Prop where
  regs : DL E ρ st.regs a.tmps.toList
  heap : DH E ρ st.heap w
  defers : a.defers = []

mutual
/-- The slots that a symbolic value names. -/
def refs : SV → List Nat
  | .ptr i _ => [i]
  | .agg l => refsL l
  | .tup l => refsL l
  | .fn _ a b => refsL a ++ refsL b
  | .ifc _ x => refs x
  | .row i => [i]
  | .rowp i _ _ => [i]
  | .sl i _ _ _ => [i]
  | .part i _ _ => [i]
  | .any => []
  | .v _ => []
  | .ro _ _ => []
  | .rop _ => []
def refsL : List SV → List Nat
  | [] => []
  | s :: l => refs s ++ refsL l
end

/-- The slots of a list alone. -/
def restr (l : List Nat) : Nat → List Blk → List Blk
  | _, [] => []
  | i, b :: r => (if l.contains i then b else .dead) :: restr l (i + 1) r

/-- Contracts of functions that only compute: of the arguments, and of the slots that they name, the result. -/
abbrev PC := FuncId → Option (List SV → List Blk → Option (List Bool × SV))

def enterOk (P : Program) (g : FuncId) : Bool := match P.funcs[g]? with
  | some fn => fn.body.isSome && !(fn.name == "runtime.NumGoroutine")
  | none => false

/-- Function and arguments of a call of a known function. -/
def callOf (o : Oper) (e : Operand → SV) : Option (FuncId × List SV) := match o.op with
  | .call c => match c.callee with
    | .value f => match e f with
      | .fn (.func g) first cap => some (g, first ++ c.args.toList.map e ++ cap)
      | _ => none
    | _ => none
  | _ => none

def opC (P : Program) (Γ : PC) (o : Oper) (e : Operand → SV) (h : List Blk) (nx : Nat) : Option Res :=
  match callOf o e with
  | some (g, args) => match Γ g with
    | some k => if enterOk P g = true then (k args (restr (refsL args) 0 h)).bind fun q => some ⟨q.1, q.2, []⟩ else none
    | none => none
  | none => opS P o e h nx

def PCok (P : Program) (Γ : PC) : Prop := ∀ g k, Γ g = some k → ∀ E ρ h w args vs ps v, DH E ρ h w → DL E ρ args vs → k args h = some (ps, v) → allNeed ps →
  Calls P g vs.toArray w fun e w' => ∃ y, e = .returned y ∧ DV E ρ v y ∧ RowKit.Below w.heap.size w w'

section
variable {P : Program} {Γ : PC} {E : Env} {ρ : Rho} {w : World} {a : Act} {st : St}

theorem DL.getD {l : List SV} {ys : List Value} (h : DL E ρ l ys) (i : Nat) (d : Value) : DV E ρ (l.getD i .any) (ys.getD i d) := by
  rw [List.getD_eq_getElem?_getD, List.getD_eq_getElem?_getD]
  cases hs : l[i]? with
  | none => simp [DV]
  | some s =>
    obtain ⟨y, hy, hd⟩ := h.get hs
    simpa [hy] using hd

theorem Den.ev (D : Den E ρ st a w) (x : Operand) : DV E ρ (evR st.regs x) (a.eval x) := by
  cases x with
  | tmp t =>
    have := D.regs.getD t undef
    simp only [evR, Act.eval]
    simpa [Array.getD_eq_getD_getElem?, List.getD_eq_getElem?_getD] using this
  | const v => exact lift_DV v
  | func f => simp only [evR, Act.eval, DV]; exact ⟨#[], #[], rfl, DL.nil, DL.nil⟩
  | global g => simp [evR, DV]

theorem DL.setR {l : List SV} {a : Act} (h : DL E ρ l a.tmps.toList) (d : Option Tmp) {s : SV} {y : Value} (hy : DV E ρ s y) : DL E ρ (setR l d s) (a.put d y).tmps.toList := by
  cases d with
  | none => simpa [Eng.setR, Act.put] using h
  | some d => simpa [Eng.setR, Act.put] using h.set d hy

theorem put_defers (a : Act) (d : Option Tmp) (y : Value) : (a.put d y).defers = a.defers := by cases d <;> rfl

theorem DH.below {h : List Blk} {w' : World} (D : DH E ρ h w) (hb : RowKit.Below w.heap.size w w') : DH E ρ h w' :=
  ⟨D.same.trans ⟨hb.os, hb.tape, hb.output, hb.size⟩, D.base, fun k hk => (hb.block k (fixed_lt D hk)).trans (D.old k hk), D.fresh,
    fun i b hi => (D.ok i b hi).keep (Ext.refl _) (fun e => by subst e; exact D.ok i _ hi) fun n hn => hb.block n (D.own i b n hi hn).2,
    fun i b n hi ht => ⟨(D.own i b n hi ht).1, Nat.lt_of_lt_of_le (D.own i b n hi ht).2 hb.size⟩, D.apart⟩

/-- A slot forgotten. -/
theorem DH.forget {h h' : List Blk} (D : DH E ρ h w) (hl : h'.length = h.length) (hs : ∀ (i : Nat) (b : Blk), h'[i]? = some b → h[i]? = some b ∨ b = .dead) : DH E ρ h' w := by
  refine ⟨D.same, D.base, D.old, fun i hi => D.fresh i (by omega), fun i b hi => ?_, fun i b n hi ht => ?_, fun i j b c n hne hi hj ht ht' => ?_⟩
  · rcases hs i b hi with h | rfl
    · exact D.ok i b h
    · trivial
  · rcases hs i b hi with h | rfl
    · exact D.own i b n h ht
    · exact ht.elim
  · rcases hs i b hi with h | rfl
    · rcases hs j c hj with k | rfl
      · exact D.apart i j b c n hne h k ht ht'
      · exact ht'.elim
    · exact ht.elim

theorem restr_length (l : List Nat) : ∀ (h : List Blk) (i : Nat), (restr l i h).length = h.length
  | [], _ => rfl
  | _ :: r, i => by simp [restr, restr_length l r]

theorem restr_get (l : List Nat) : ∀ (h : List Blk) (i k : Nat), (restr l i h)[k]? = (h[k]?).map fun b => if l.contains (i + k) then b else .dead
  | [], _, _ => by simp [restr]
  | b :: r, i, 0 => by simp [restr]
  | b :: r, i, k + 1 => by
    simp only [restr, List.getElem?_cons_succ, restr_get l r (i + 1) k]
    rw [show i + 1 + k = i + (k + 1) by omega]

theorem DH.restr {h : List Blk} (D : DH E ρ h w) (l : List Nat) : DH E ρ (restr l 0 h) w := by
  refine D.forget (restr_length l h 0) fun i b hi => ?_
  rw [restr_get] at hi
  simp only [Option.map_eq_some_iff] at hi
  obtain ⟨c, hc, rfl⟩ := hi
  split
  · exact .inl hc
  · exact .inr rfl

/-- An operation of the machine's, by what the engine says. -/
theorem opC_wp (hΓ : PCok P Γ) {o : Oper} {nx : Nat} {r : Res} (h : opC P Γ o (evR st.regs) st.heap nx = some r) (hneed : allNeed r.need) (D : Den E ρ st a w) (f : Free st.heap nx)
    {next : Act → World → Prop} {Q : Exit → Act → World → Prop}
    (hn : ∀ y w' ρ', Ext ρ ρ' → DV E ρ' r.val y → DH E ρ' (applyEff r.eff st.heap) w' → next (a.put o.dst y) w') : o.wp P a w next Q := by
  unfold opC at h
  split at h
  · rename_i g args hc
    split at h
    · rename_i k hk
      split at h
      · rename_i hen
        simp only [Option.bind_eq_some_iff, Option.some.injEq, Prod.exists] at h
        obtain ⟨ps, v, hkv, rfl⟩ := h
        unfold callOf at hc
        split at hc
        · rename_i c ho
          split at hc
          · rename_i fo hcal
            split at hc
            · rename_i g' first cap hf
              cases hc
              have hfv := D.ev fo
              rw [hf] at hfv
              simp only [DV] at hfv
              obtain ⟨va, vb, hfe, hda, hdb⟩ := hfv
              have hargs : DL E ρ (first ++ c.args.toList.map (evR st.regs) ++ cap) (va.toList ++ (c.args.map a.eval).toList ++ vb.toList) := by
                refine (hda.append ?_).append hdb
                simpa using DL_map _ _ _ D.ev
              have hcalls := hΓ _ _ hk E ρ _ w _ _ ps v (D.heap.restr _) hargs hkv hneed
              have hrun : (execOp a.eval o).run P w = .ok (.enter g (va.toList ++ (c.args.map a.eval).toList ++ vb.toList).toArray) w := by
                obtain ⟨cal, cargs, ts⟩ := c
                simp only at hcal
                subst hcal
                unfold enterOk at hen
                split at hen
                · rename_i fn hfn
                  simp only [Bool.and_eq_true, Bool.not_eq_true'] at hen
                  have hb : fn.body.isNone = false := by cases hx : fn.body <;> simp [hx] at hen ⊢
                  simp only [execOp, ho, resolve, hfe, Deferred.ofValue, Sem.run_bind, Sem.run_pure, Result.andThen_ok, invoke, callFunc, run_program, hfn, hen.2, Bool.false_eq_true, if_false, hb]
                  congr 2
                  apply Array.ext'
                  simp
                · cases hen
              unfold Oper.wp
              rw [hrun]
              simp only [Oper.upon]
              refine hcalls.mono ?_
              rintro e w' ⟨y, rfl, hy, hb⟩
              exact hn y w' ρ (Ext.refl _) hy (D.heap.below hb)
            · cases hc
          · cases hc
        · cases hc
      · cases h
    · cases h
  · obtain ⟨y, w', ρ', hdid, hx, hy, hD⟩ := opS_ok h hneed D.ev D.heap f
    unfold Oper.wp
    rcases hdid with hr | ⟨hr, rfl⟩ <;> rw [hr] <;> exact hn _ w' ρ' hx hy hD

/-! ### Guards -/

inductive GV where
  | go | no | bad

def gv (ops : Array Oper) (o : Oper) (r : List SV) : GV := match o.guard with
  | none => .go
  | some (j, want) => match (ops[j]?).bind (·.dst) with
    | none => .bad
    | some t => match r[t]? with
      | some (.v (.bool b)) => cond (b == want) .go .no
      | some (.v _) => .no
      | _ => .bad

theorem gv_go {ops : Array Oper} {o : Oper} (D : DL E ρ st.regs a.tmps.toList) (h : gv ops o st.regs = .go) : Region.wanted o (yielded ops a.tmps) = true := by
  unfold gv at h
  unfold Region.wanted
  cases hg : o.guard with
  | none => rfl
  | some jw =>
    obtain ⟨j, want⟩ := jw
    simp only [hg] at h
    split at h
    · cases h
    · rename_i t ht
      split at h
      · rename_i b hb
        obtain ⟨y, hy, hd⟩ := D.get hb
        simp only [DV] at hd
        subst hd
        have hy' : a.tmps[t]? = some (.bool b) := by simpa using hy
        cases b <;> cases want <;> simp at h <;> simp [yielded, ht, hy']
      · cases h
      · cases h

theorem gv_no {ops : Array Oper} {o : Oper} (D : DL E ρ st.regs a.tmps.toList) (h : gv ops o st.regs = .no) : Region.wanted o (yielded ops a.tmps) = false := by
  unfold gv at h
  unfold Region.wanted
  cases hg : o.guard with
  | none => simp [hg] at h
  | some jw =>
    obtain ⟨j, want⟩ := jw
    simp only [hg] at h
    split at h
    · cases h
    · rename_i t ht
      split at h
      · rename_i b hb
        obtain ⟨y, hy, hd⟩ := D.get hb
        simp only [DV] at hd
        subst hd
        have hy' : a.tmps[t]? = some (.bool b) := by simpa using hy
        cases b <;> cases want <;> simp at h <;> simp [yielded, ht, hy']
      · rename_i v hnb hb
        obtain ⟨y, hy, hd⟩ := D.get hb
        simp only [DV] at hd
        subst hd
        have hy' : a.tmps[t]? = some y := by simpa using hy
        cases y <;> simp [yielded, ht, hy']
        rename_i b
        exact absurd rfl (hnb b)
      · cases h

end
end Go.Eng
