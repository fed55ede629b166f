/- The engine: operations with calls by contract, and regions that draw their order. No condition. -/
import Derived.Test.YtafmknblnamegaaDoorV8V
import Derived.OrdersIn
namespace Go.Eng

/-- The frame's slots, memory's slots, and those of memory's slots that stand for calls put off. -/
structure St where
  regs : List SV
  heap : List Blk
  df : List Nat

/-! ### Laid bare: the kernel works a thing out once, ahead of what follows -/
def bareL {α : Type} (l : List α) : (List α → Prop) → Prop := List.rec (motive := fun _ => (List α → Prop) → Prop) (fun k => k []) (fun x _ ih k => ih fun r => k (x :: r)) l
theorem bareL_eq {α : Type} : ∀ (l : List α) (k : List α → Prop), bareL l k = k l
  | [], _ => rfl
  | x :: l, k => bareL_eq l fun r => k (x :: r)
/-- A numeral, worked out. -/
def bareN (n : Nat) (k : Nat → Prop) : Prop := match n with
  | 0 => k 0
  | m + 1 => k (Nat.succ m)
theorem bareN_eq (n : Nat) (k : Nat → Prop) : bareN n k = k n := by cases n <;> rfl
def bareI (n : Int) (k : Int → Prop) : Prop := match n with
  | .ofNat m => bareN m fun m => k (.ofNat m)
  | .negSucc m => bareN m fun m => k (.negSucc m)
theorem bareI_eq (n : Int) (k : Int → Prop) : bareI n k = k n := by cases n <;> simp only [bareI, bareN_eq]
def bareNs (l : List Nat) : (List Nat → Prop) → Prop := List.rec (motive := fun _ => (List Nat → Prop) → Prop) (fun k => k []) (fun x _ ih k => bareN x fun y => ih fun r => k (y :: r)) l
theorem bareNs_eq : ∀ (l : List Nat) (k : List Nat → Prop), bareNs l k = k l
  | [], _ => rfl
  | x :: l, k => by
    show bareN x (fun y => bareNs l fun r => k (y :: r)) = _
    rw [bareN_eq, bareNs_eq]
def bareV (s : SV) (k : SV → Prop) : Prop := match s with
  | .any => k .any
  | .v x => k (.v x)
  | .i a x lo hi => bareI lo fun lo => bareI hi fun hi => k (.i a x lo hi)
  | .b p => k (.b p)
  | .s x hi => bareI hi fun hi => k (.s x hi)
  | .t x => k (.t x)
  | .opt p s => k (.opt p s)
  | .ptr i o => bareN i fun i => bareN o fun o => k (.ptr i o)
  | .agg l => bareL l fun l => k (.agg l)
  | .tup l => bareL l fun l => k (.tup l)
  | .fn f a b => k (.fn f a b)
  | .ifc t x => k (.ifc t x)
  | .row i => bareN i fun i => k (.row i)
  | .rowp i e o => k (.rowp i e o)
  | .sl i o n c => k (.sl i o n c)
  | .part i lo n f => k (.part i lo n f)
  | .emp => k .emp
  | .yl i => bareN i fun i => k (.yl i)
  | .mp i => bareN i fun i => k (.mp i)
  | .er p t ag i => bareN i fun i => k (.er p t ag i)
  | .q a b => k (.q a b)
theorem bareV_eq (s : SV) (k : SV → Prop) : bareV s k = k s := by
  cases s <;> simp only [bareV, bareL_eq, bareI_eq, bareN_eq]
def bareVs (l : List SV) : (List SV → Prop) → Prop := List.rec (motive := fun _ => (List SV → Prop) → Prop) (fun k => k []) (fun x _ ih k => bareV x fun y => ih fun r => k (y :: r)) l
theorem bareVs_eq : ∀ (l : List SV) (k : List SV → Prop), bareVs l k = k l
  | [], _ => rfl
  | x :: l, k => by
    show bareV x (fun y => bareVs l fun r => k (y :: r)) = _
    rw [bareV_eq, bareVs_eq]
def bareEx (l : List (Nat × Nat × SV)) : (List (Nat × Nat × SV) → Prop) → Prop := List.rec (motive := fun _ => (List (Nat × Nat × SV) → Prop) → Prop) (fun k => k []) (fun x _ ih k => match x with
  | (a, o, s) => bareN o fun o => bareV s fun s => ih fun r => k ((a, o, s) :: r)) l
theorem bareEx_eq : ∀ (l : List (Nat × Nat × SV)) (k : List (Nat × Nat × SV) → Prop), bareEx l k = k l
  | [], _ => rfl
  | (a, o, s) :: l, k => by
    show bareN o (fun o => bareV s fun s => bareEx l fun r => k ((a, o, s) :: r)) = _
    rw [bareN_eq, bareV_eq, bareEx_eq]
def bareB (b : Blk) (k : Blk → Prop) : Prop := match b with
  | .hole => k .hole
  | .dead => k .dead
  | .cells e cs => bareVs cs fun cs => k (.cells e cs)
  | .row e kd xs => k (.row e kd xs)
  | .rcells cs => bareVs cs fun cs => k (.rcells cs)
  | .ror kd xs f => k (.ror kd xs f)
  | .dfr => k .dfr
  | .map a b c m => k (.map a b c m)
  | .iter mi n seen => bareN mi fun mi => k (.iter mi n seen)
  | .rr e g => bareN g fun g => k (.rr e g)
  | .fam a b c => k (.fam a b c)
  | .ali g a b c => bareN g fun g => k (.ali g a b c)
  | .der n g a b => bareN g fun g => bareEx b fun b => k (.der n g a b)
  | .rfm a b => k (.rfm a b)
  | .rof g => bareN g fun g => k (.rof g)
  | .opq n => k (.opq n)
  | .loop f regs ps a b s p d => bareVs regs fun regs => k (.loop f regs ps a b s p d)
def bareEff (l : List (Nat × Blk)) : (List (Nat × Blk) → Prop) → Prop := List.rec (motive := fun _ => (List (Nat × Blk) → Prop) → Prop) (fun k => k []) (fun x _ ih k => bareN x.1 fun i => bareB x.2 fun b => ih fun r => k ((i, b) :: r)) l
theorem bareB_eq (b : Blk) (k : Blk → Prop) : bareB b k = k b := by
  cases b <;> simp only [bareB, bareVs_eq, bareN_eq, bareEx_eq]
theorem bareEff_eq : ∀ (l : List (Nat × Blk)) (k : List (Nat × Blk) → Prop), bareEff l k = k l
  | [], _ => rfl
  | x :: l, k => by
    show bareN x.1 (fun i => bareB x.2 fun b => bareEff l fun r => k ((i, b) :: r)) = _
    rw [bareN_eq, bareB_eq, bareEff_eq]
def bareH (l : List Blk) : (List Blk → Prop) → Prop := List.rec (motive := fun _ => (List Blk → Prop) → Prop) (fun k => k []) (fun x _ ih k => bareB x fun y => ih fun r => k (y :: r)) l
theorem bareH_eq : ∀ (l : List Blk) (k : List Blk → Prop), bareH l k = k l
  | [], _ => rfl
  | x :: l, k => by
    show bareB x (fun y => bareH l fun r => k (y :: r)) = _
    rw [bareB_eq, bareH_eq]
/-- A state, laid bare to the last cell. -/
def bareStF (st : St) (k : St → Prop) : Prop := bareL st.regs fun r => bareH st.heap fun h => k ⟨r, h, st.df⟩
theorem bareStF_eq (st : St) (k : St → Prop) : bareStF st k = k st := by simp only [bareStF, bareL_eq, bareH_eq]
/-- Its rows alone: what lies in memory is bare as it is. -/
def bareSt (st : St) (k : St → Prop) : Prop := bareL st.regs fun r => bareL st.heap fun h => k ⟨r, h, st.df⟩
theorem bareSt_eq (st : St) (k : St → Prop) : bareSt st k = k st := by simp only [bareSt, bareL_eq]

def evR (r : List SV) : Operand → SV
  | .tmp t => r.getD t .any
  | .const x => lift x
  | .func f => .fn (.func f) [] []
  | .global _ => .any

def setR (r : List SV) (d : Option Tmp) (s : SV) : List SV := match d with
  | some d => r.set d s
  | none => r

/-- The calls put off: all of them stand for nothing. -/
def DF (ρ : Rho) : List Nat → List Deferred → Prop
  | [], ds => ds = []
  | i :: l, ds => ∃ p r, ρ i = some p ∧ ds = { target := .collected p.block, args := #[] } :: r ∧ DF ρ l r
theorem DF.mono {ρ ρ' : Rho} (hx : Ext ρ ρ') : ∀ {l : List Nat} {ds : List Deferred}, DF ρ l ds → DF ρ' l ds
  | [], _, h => h
  | i :: l, ds, h => by
    obtain ⟨p, r, hp, e, h⟩ := h
    exact ⟨p, r, hx _ _ hp, e, DF.mono hx h⟩

structure Den (E : Env) (ρ : Rho) (st : St) (a : Act) (w : World) : Prop where
  regs : DL ρ st.regs a.tmps.toList
  heap : DH E ρ st.heap w
  defers : DF ρ st.df a.defers

mutual
/-- The slots that a symbolic value names. -/
def refs : SV → List Nat
  | .ptr i _ => [i]
  | .agg l => refsL l
  | .tup l => refsL l
  | .fn _ a b => refsL a ++ refsL b
  | .ifc _ x => refs x
  | .row i => [i]
  | .rowp i _ _ => [i]
  | .sl i _ _ _ => [i]
  | .part i _ _ _ => [i]
  | .emp => []
  | .yl i => [i]
  | .mp i => [i]
  | .er _ _ _ i => [i]
  | .q .. => []
  | .any => []
  | .v _ => []
  | .i .. => []
  | .b _ => []
  | .s .. => []
  | .t _ => []
  | .opt _ s => refs s
def refsL : List SV → List Nat
  | [] => []
  | s :: l => refs s ++ refsL l
end

/-- The slots of a list alone. -/
def restr (l : List Nat) : Nat → List Blk → List Blk
  | _, [] => []
  | i, b :: r => (if l.contains i then b else .dead) :: restr l (i + 1) r

/-- The slots that a block's cells name. -/
def blkRefs : Blk → List Nat
  | .cells _ cs => refsL cs
  | .rcells cs => refsL cs
  | .loop _ regs _ _ _ _ _ d => d :: refsL regs
  | .iter mi _ _ => [mi]
  | .rr _ g => [g]
  | .ali g _ _ _ => [g]
  | .der _ g _ exc => g :: refsL (exc.map fun e => e.2.2)
  | .rof g => [g]
  | _ => []

/-- The slots that are reached from some. -/
def reach (h : List Blk) : Nat → List Nat → List Nat
  | 0, l => l
  | n + 1, l => l ++ reach h n (l.flatMap fun i => blkRefs (h.getD i .dead))

theorem reach_congr {h h' : List Blk} : ∀ (n : Nat) (l : List Nat), (∀ i ∈ reach h n l, h[i]? = h'[i]?) → reach h n l = reach h' n l
  | 0, _, _ => rfl
  | n + 1, l, hh => by
    have e : l.flatMap (fun i => blkRefs (h.getD i .dead)) = l.flatMap (fun i => blkRefs (h'.getD i .dead)) := by
      rw [List.flatMap_def, List.flatMap_def]
      congr 1
      refine List.map_congr_left fun i hi => ?_
      rw [List.getD_eq_getElem?_getD, List.getD_eq_getElem?_getD, hh i (List.mem_append_left _ hi)]
    simp only [reach]
    rw [← e, reach_congr n _ fun i hi => hh i (List.mem_append_right _ hi)]

/-- Contracts: of the arguments, the slots that they name, and a slot that may be taken, what is owed, the result, and what turns. -/
abbrev PC := FuncId → Option (List SV → List Blk → Nat → Option Res)

def enterOk (P : Program) (g : FuncId) : Bool := match P.funcs[g]? with
  | some fn => fn.body.isSome && !(fn.name == "runtime.NumGoroutine")
  | none => false

/-- Function and arguments of a call of a known function. -/
def callOf (o : Oper) (e : Operand → SV) : Option (FuncId × List SV) := match o.op with
  | .call c => match c.callee with
    | .value f => match e f with
      | .fn (.func g) first cap => some (g, first ++ c.args.toList.map e ++ cap)
      | _ => none
    | _ => none
  | _ => none

def opC (P : Program) (Γ : PC) (o : Oper) (e : Operand → SV) (h : List Blk) (nx : Nat) : Option Res :=
  match callOf o e with
  | some (g, args) => match Γ g with
    | some k => if enterOk P g = true then k args (restr (reach h 4 (refsL args)) 0 h) nx else none
    | none => none
  | none => opA P o e h nx

/-- Some slots are forgotten. -/
def Sub (hr h : List Blk) : Prop := hr.length = h.length ∧ ∀ (i : Nat) (b : Blk), hr[i]? = some b → h[i]? = some b ∨ b = .dead

def PCok (P : Program) (Γ : PC) : Prop := ∀ g k, Γ g = some k → ∀ E ρ h hr w args vs nx r, DH E ρ h w → Sub hr h → Free h nx → DL ρ args vs → k args hr nx = some r → allNeed r.need →
  Calls P g vs.toArray w fun e w' => ∃ y ρ', e = .returned y ∧ Ext ρ ρ' ∧ DV ρ' r.val y ∧ DH E ρ' (applyEff r.eff h) w'

/-- No fence at all, in a round or not. -/
abbrev FW (ro : Option Nat) : Fence := { fn := fun _ => True, depth := none, alive := false, round := ro }
theorem callsIn_fw {P : Program} {ro : Option Nat} {n : Nat} {f : FuncId} {args : Array Value} {w : World} {R : Ending → World → Prop} (h : Calls P f args w R) : CallsIn (FW ro) n P f args w R :=
  (callsIn_wide (n := n)).2 h
theorem calls_of_fw {P : Program} {n : Nat} {f : FuncId} {args : Array Value} {w : World} {R : Ending → World → Prop} (h : CallsIn (FW none) n P f args w R) : Calls P f args w R := callsIn_wide.1 h

section
variable {P : Program} {Γ : PC} {E : Env} {ρ : Rho} {w : World} {a : Act} {st : St}

theorem DL.getD {l : List SV} {ys : List Value} (h : DL ρ l ys) (i : Nat) (d : Value) : DV ρ (l.getD i .any) (ys.getD i d) := by
  rw [List.getD_eq_getElem?_getD, List.getD_eq_getElem?_getD]
  cases hs : l[i]? with
  | none => simp [DV]
  | some s =>
    obtain ⟨y, hy, hd⟩ := h.get hs
    simpa [hy] using hd

theorem Den.ev (D : Den E ρ st a w) (x : Operand) : DV ρ (evR st.regs x) (a.eval x) := by
  cases x with
  | tmp t =>
    have := D.regs.getD t undef
    simp only [evR, Act.eval]
    simpa [Array.getD_eq_getD_getElem?, List.getD_eq_getElem?_getD] using this
  | const v => exact lift_DV v
  | func f => simp only [evR, Act.eval, DV]; exact ⟨#[], #[], rfl, DL.nil, DL.nil⟩
  | global g => simp [evR, DV]

theorem DL.setR {l : List SV} {a : Act} (h : DL ρ l a.tmps.toList) (d : Option Tmp) {s : SV} {y : Value} (hy : DV ρ s y) : DL ρ (setR l d s) (a.put d y).tmps.toList := by
  cases d with
  | none => simpa [Eng.setR, Act.put] using h
  | some d => simpa [Eng.setR, Act.put] using h.set d hy

theorem put_defers (a : Act) (d : Option Tmp) (y : Value) : (a.put d y).defers = a.defers := by cases d <;> rfl

theorem DH.below {h : List Blk} {w' : World} (D : DH E ρ h w) (hb : RowKit.Below w.heap.size w w') : DH E ρ h w' :=
  ⟨D.same.trans ⟨hb.os, hb.tape, hb.output, hb.size, Stat.of_block hb.block⟩, D.base, D.glob, fun k hk => (hb.block k (fixed_lt D hk)).trans (D.old k hk), D.fresh,
    fun i b hi => (D.ok i b hi).keep (Ext.refl _) (fun e => by subst e; exact D.ok i _ hi) fun n hn => hb.block n (D.own i b n hi hn).2,
    fun i b n hi ht => ⟨(D.own i b n hi ht).1, Nat.lt_of_lt_of_le (D.own i b n hi ht).2 hb.size⟩, D.apart⟩

theorem restr_length (l : List Nat) : ∀ (h : List Blk) (i : Nat), (restr l i h).length = h.length
  | [], _ => rfl
  | _ :: r, i => by simp [restr, restr_length l r]

theorem restr_get (l : List Nat) : ∀ (h : List Blk) (i k : Nat), (restr l i h)[k]? = (h[k]?).map fun b => if l.contains (i + k) then b else .dead
  | [], _, _ => by simp [restr]
  | b :: r, i, 0 => by simp [restr]
  | b :: r, i, k + 1 => by
    simp only [restr, List.getElem?_cons_succ, restr_get l r (i + 1) k]
    rw [show i + 1 + k = i + (k + 1) by omega]

theorem Sub.restr (l : List Nat) (h : List Blk) : Sub (restr l 0 h) h := ⟨restr_length l h 0, fun i b hi => by
  rw [restr_get] at hi
  simp only [Option.map_eq_some_iff] at hi
  obtain ⟨c, hc, rfl⟩ := hi
  split
  · exact .inl hc
  · exact .inr rfl⟩

theorem DH.restr {h : List Blk} (D : DH E ρ h w) (l : List Nat) : DH E ρ (restr l 0 h) w := by
  refine D.forget (restr_length l h 0) fun i b hi => ?_
  rw [restr_get] at hi
  simp only [Option.map_eq_some_iff] at hi
  obtain ⟨c, hc, rfl⟩ := hi
  split
  · exact .inl hc
  · exact .inr rfl

theorem opA_nodefer {o : Oper} {e : Operand → SV} {h : List Blk} {nx : Nat} {r : Res} (hr : opA P o e h nx = some r) (c : Call) : o.op ≠ .defer c := fun ho => by
  simp [opA, opS, opR, opV, opW, opX, ho, wfB] at hr

/-- The machine's own word, in a round or not. -/
theorem wpIn_of_run {ro : Option Nat} {n : Nat} {o : Oper} {next : Act → World → Prop} {Q : Exit → Act → World → Prop} (hnd : ∀ c, o.op ≠ .defer c) (h : o.uponIn (FW ro) n P a next Q ((execOp a.eval o).run P w)) : o.wpIn (FW ro) n P a w next Q :=
  ⟨fun _ _ => trivial, by rw [Oper.semAt_eq _ _ _ hnd]; exact h⟩

theorem call_enter {o : Oper} {e : Operand → SV} {ev : Operand → Value} {ρ : Rho} {g : FuncId} {args : List SV} (h : callOf o e = some (g, args)) (hen : enterOk P g = true) (EV : ∀ x, DV ρ (e x) (ev x)) (w : World) :
    ∃ vs : List Value, DL ρ args vs ∧ (execOp ev o).run P w = .ok (.enter g vs.toArray) w := by
  unfold callOf at h
  split at h
  · rename_i c ho
    split at h
    · rename_i fo hcal
      split at h
      · rename_i g' first cap hf
        cases h
        have hfv := EV fo
        rw [hf] at hfv
        simp only [DV] at hfv
        obtain ⟨va, vb, hfe, hda, hdb⟩ := hfv
        refine ⟨va.toList ++ (c.args.map ev).toList ++ vb.toList, ?_, ?_⟩
        · refine (hda.append ?_).append hdb
          simpa using DL_map _ _ _ EV
        · obtain ⟨cal, cargs, ts⟩ := c
          simp only at hcal
          subst hcal
          unfold enterOk at hen
          split at hen
          · rename_i fn hfn
            simp only [Bool.and_eq_true, Bool.not_eq_true'] at hen
            have hb : fn.body.isNone = false := by cases hx : fn.body <;> simp [hx] at hen ⊢
            simp only [execOp, ho, resolve, hfe, Deferred.ofValue, Sem.run_bind, Sem.run_pure, Result.andThen_ok, invoke, callFunc, run_program, hfn, hen.2, Bool.false_eq_true, if_false, hb]
            congr 2
            apply Array.ext'
            simp
          · cases hen
      · cases h
    · cases h
  · cases h
theorem callOf_nodefer {o : Oper} {e : Operand → SV} {x : FuncId × List SV} (h : callOf o e = some x) (c : Call) : o.op ≠ .defer c := fun ho => by simp [callOf, ho] at h

/-- An operation of the machine's, with those operands alone that it looks at. -/
theorem opC_wp' (hΓ : PCok P Γ) {ro : Option Nat} {n : Nat} {o : Oper} {nx : Nat} {r : Res} {e : Operand → SV} (h : opC P Γ o e st.heap nx = some r) (hneed : allNeed r.need) (EV : ∀ x, DV ρ (e x) (a.eval x)) (DH' : DH E ρ st.heap w) (f : Free st.heap nx)
    {next : Act → World → Prop} {Q : Exit → Act → World → Prop}
    (hn : ∀ y w' ρ', Ext ρ ρ' → DV ρ' r.val y → DH E ρ' (applyEff r.eff st.heap) w' → next (a.put o.dst y) w') : o.wpIn (FW ro) n P a w next Q := by
  unfold opC at h
  split at h
  · rename_i g args hc
    split at h
    · rename_i k hk
      split at h
      · rename_i hen
        obtain ⟨vs, hargs, hrun⟩ := call_enter hc hen EV w
        have hcalls := hΓ _ _ hk E ρ _ _ w _ _ nx r DH' (Sub.restr _ _) f hargs h hneed
        refine wpIn_of_run (callOf_nodefer hc) ?_
        rw [hrun]
        refine ⟨by simp, callsIn_fw (hcalls.mono ?_)⟩
        rintro e w' ⟨y, ρ', rfl, hx, hy, hD⟩
        exact hn y w' ρ' hx hy hD
      · cases h
    · cases h
  · obtain ⟨y, w', ρ', hdid, hx, hy, hD⟩ := opA_ok h hneed EV DH' f
    refine wpIn_of_run (opA_nodefer h) ?_
    rcases hdid with hr | ⟨hr, rfl⟩ <;> rw [hr] <;> exact hn _ w' ρ' hx hy hD

/-! ### What may not have been done -/

def strip : SV → SV
  | .opt _ s => s
  | s => s
def sneed : SV → List Bool
  | .opt p _ => [p]
  | _ => []
/-- A bool, and when it is one. -/
def boolOf : SV → Option (Bool × Bool)
  | .v (.bool p) => some (true, p)
  | .b p => some (true, p)
  | .opt g (.v (.bool p)) => some (g, p)
  | .opt g (.b p) => some (g, p)
  | _ => none

def pickS (c a b : SV) : Option Res := match strip c with
  | .v (.bool t) => some ⟨sneed c, cond t a b, []⟩
  | .b t => match boolOf a, boolOf b with
    | some (ga, p), some (gb, q) => some ⟨sneed c ++ [cond t ga true, cond t true gb], .b (cond t p q), []⟩
    | _, _ => none
  | _ => none

mutual
/-- As if all were known outright. -/
def concS : SV → SV
  | .i k n _ _ => .v (.int k n)
  | .b p => .v (.bool p)
  | .s x _ => .v (.string x)
  | .t x => .v x
  | .agg l => .agg (concL l)
  | .tup l => .tup (concL l)
  | s => s
def concL : List SV → List SV
  | [] => []
  | s :: l => concS s :: concL l
end
mutual
theorem concS_DV {ρ : Rho} : ∀ (s : SV) (y : Value), DV ρ s y → DV ρ (concS s) y
  | .i .., y, h => by simp only [concS, DV] at *; exact h.1
  | .b _, y, h => by simpa only [concS, DV] using h
  | .s .., y, h => by simp only [concS, DV] at *; exact h.1
  | .t _, y, h => by simpa only [concS, DV] using h
  | .agg l, y, h => by simp only [concS, DV] at *; obtain ⟨a, e, hl⟩ := h; exact ⟨a, e, concL_DL l _ hl⟩
  | .tup l, y, h => by simp only [concS, DV] at *; obtain ⟨a, e, hl⟩ := h; exact ⟨a, e, concL_DL l _ hl⟩
  | .any, _, h | .v _, _, h | .opt .., _, h | .ptr .., _, h | .fn .., _, h | .ifc .., _, h | .row .., _, h | .rowp .., _, h | .sl .., _, h | .part .., _, h | .emp, _, h | .mp .., _, h | .er .., _, h | .yl .., _, h | .q .., _, h => by simpa only [concS] using h
theorem concL_DL {ρ : Rho} : ∀ (l : List SV) (ys : List Value), DL ρ l ys → DL ρ (concL l) ys
  | [], _, h => by simpa [concL] using h
  | s :: l, ys, h => by
    simp only [concL, DL] at *
    obtain ⟨y, t, e, hy, ht⟩ := h
    exact ⟨y, t, e, concS_DV s y hy, concL_DL l t ht⟩
end

/-- Is all known outright? A mark of the contracts'. -/
def litP (Γ : PC) : Bool := match Γ 1000000007 with
  | some _ => true
  | none => false
def litR (Γ : PC) (s : SV) : SV := cond (litP Γ) (concS s) s
theorem litR_DV {Γ : PC} {ρ : Rho} {s : SV} {y : Value} (h : DV ρ s y) : DV ρ (litR Γ s) y := by
  unfold litR
  cases litP Γ
  · exact h
  · exact concS_DV s y h
/-- An operation whose operands may not have been worked out. -/
def opO (P : Program) (Γ : PC) (o : Oper) (e : Operand → SV) (h : List Blk) (nx : Nat) : Option Res :=
  match o.op with
  | .pick c a b => pickS (e c) (e a) (e b)
  | _ => (opC P Γ o (fun x => strip (e x)) h nx).map fun q => ⟨o.op.operands.toList.flatMap (fun x => sneed (e x)) ++ q.need, litR Γ q.val, q.eff⟩

section
variable {P : Program} {Γ : PC} {E : Env} {ρ : Rho} {w : World} {a : Act} {st : St}

theorem allNeed_iff {l : List Bool} : allNeed l ↔ ∀ p ∈ l, p = true := by
  induction l with
  | nil => simp [allNeed]
  | cons p l ih => simp [allNeed, ih]

theorem strip_DV {s : SV} {y : Value} (h : allNeed (sneed s)) (hd : DV ρ s y) : DV ρ (strip s) y := by
  cases s with
  | opt p s => simp only [DV] at hd; exact hd.1 h.1
  | _ => exact hd

theorem boolOf_DV {s : SV} {y : Value} {g p : Bool} (h : boolOf s = some (g, p)) (hg : g = true) (hd : DV ρ s y) : y = .bool p := by
  unfold boolOf at h
  split at h
  · cases h; simpa only [DV] using hd
  · cases h; simpa only [DV] using hd
  · cases h; simp only [DV] at hd; exact hd.1 hg
  · cases h; simp only [DV] at hd; exact hd.1 hg
  · cases h

/-- The same, where that is known; else nothing. -/
def stripT : SV → SV
  | .opt p s => cond p s .any
  | s => s
theorem stripT_DV {s : SV} {y : Value} (hd : DV ρ s y) : DV ρ (stripT s) y := by
  cases s with
  | opt p s =>
    simp only [DV] at hd
    cases p with
    | true => exact hd.1 rfl
    | false => simp [stripT, DV]
  | _ => exact hd
theorem stripT_eq {s : SV} (h : allNeed (sneed s)) : stripT s = strip s := by
  cases s with
  | opt p s => have := h.1; subst this; rfl
  | _ => rfl

end
/-! ### Guards -/

inductive GV where
  | go | no | bad
  | spec (g : Bool)

def gSV (want : Bool) : SV → GV
  | .v (.bool b) => cond (b == want) .go .no
  | .v _ => .no
  | .b p => .spec (cond want p (!p))
  | .opt g (.b p) => .spec (g && cond want p (!p))
  | .opt g (.v (.bool b)) => cond (b == want) (.spec g) .no
  | _ => .bad

def gv (ops : Array Oper) (o : Oper) (r : List SV) : GV := match o.guard with
  | none => .go
  | some (j, want) => match (ops[j]?).bind (·.dst) with
    | none => .bad
    | some t => match r[t]? with
      | some s => gSV want s
      | none => .bad

theorem gSV_ok {want : Bool} {s : SV} {y : Value} (hd : DV ρ s y) : (gSV want s = .go → y = .bool want) ∧ (gSV want s = .no → y ≠ .bool want) ∧ ∀ g, gSV want s = .spec g → (g = true → y = .bool want) ∧ (g = false → y ≠ .bool want) := by
  unfold gSV
  split
  · simp only [DV] at hd
    subst hd
    rename_i b
    cases b <;> cases want <;> simp
  · simp only [DV] at hd
    subst hd
    rename_i h
    refine ⟨by simp, fun _ => fun e => h _ e, by simp⟩
  · simp only [DV] at hd
    subst hd
    rename_i b
    cases b <;> cases want <;> simp
  · simp only [DV] at hd
    rename_i g p
    refine ⟨by simp, by simp, ?_⟩
    rintro g' hg'
    cases hg'
    cases g with
    | false => simp [hd.2 rfl]; cases want <;> simp [undef]
    | true => have := hd.1 rfl; subst this; cases p <;> cases want <;> simp
  · simp only [DV] at hd
    rename_i g b
    cases g with
    | false => have := hd.2 rfl; subst this; cases b <;> cases want <;> simp [undef]
    | true => have := hd.1 rfl; subst this; cases b <;> cases want <;> simp
  · simp

theorem wanted_of {ops : Array Oper} {o : Oper} (D : DL ρ st.regs a.tmps.toList) : (gv ops o st.regs = .go → Region.wanted o (yielded ops a.tmps) = true) ∧ (gv ops o st.regs = .no → Region.wanted o (yielded ops a.tmps) = false) ∧
    ∀ g, gv ops o st.regs = .spec g → Region.wanted o (yielded ops a.tmps) = g := by
  unfold gv Region.wanted
  cases hg : o.guard with
  | none => simp
  | some jw =>
    obtain ⟨j, want⟩ := jw
    simp only
    cases ht : (ops[j]?).bind (·.dst) with
    | none => simp
    | some t =>
      simp only
      cases hs : st.regs[t]? with
      | none => simp
      | some s =>
        simp only
        obtain ⟨y, hy, hd⟩ := D.get hs
        have hy' : a.tmps[t]? = some y := by simpa using hy
        have hk := gSV_ok (want := want) hd
        have key : (y = .bool want → (yielded ops a.tmps j == some want) = true) ∧ (y ≠ .bool want → (yielded ops a.tmps j == some want) = false) := by
          cases y <;> simp [yielded, ht, hy']
        refine ⟨fun h => key.1 (hk.1 h), fun h => key.2 (hk.2.1 h), fun g h => ?_⟩
        cases g with
        | true => exact key.1 ((hk.2.2 _ h).1 rfl)
        | false => exact key.2 ((hk.2.2 _ h).2 rfl)

theorem gv_go {ops : Array Oper} {o : Oper} (D : DL ρ st.regs a.tmps.toList) (h : gv ops o st.regs = .go) : Region.wanted o (yielded ops a.tmps) = true := (wanted_of D).1 h
theorem gv_no {ops : Array Oper} {o : Oper} (D : DL ρ st.regs a.tmps.toList) (h : gv ops o st.regs = .no) : Region.wanted o (yielded ops a.tmps) = false := (wanted_of D).2.1 h
theorem gv_spec {ops : Array Oper} {o : Oper} {g : Bool} (D : DL ρ st.regs a.tmps.toList) (h : gv ops o st.regs = .spec g) : Region.wanted o (yielded ops a.tmps) = g := (wanted_of D).2.2 g h

/-! ### Names for what is worked out -/
def nameA (s : SV) (k : SV → Prop) : Prop := match s with
  | .i a x lo hi => ∀ z : Int, z = x → k (.i a z lo hi)
  | .b p => ∀ z : Bool, z = p → k (.b z)
  | .s x hi => ∀ z : ByteArray, z = x → k (.s z hi)
  | .t (.int a x) => ∀ z : Int, z = x → k (.t (.int a z))
  | s => k s
def nameL (l : List SV) : (List SV → Prop) → Prop := List.rec (motive := fun _ => (List SV → Prop) → Prop) (fun k => k []) (fun x _ ih k => nameA x fun y => ih fun r => k (y :: r)) l
def nameB (s : SV) (k : SV → Prop) : Prop := match s with
  | .agg l => nameL l fun l => k (.agg l)
  | s => nameA s k
def nameM (l : List SV) : (List SV → Prop) → Prop := List.rec (motive := fun _ => (List SV → Prop) → Prop) (fun k => k []) (fun x _ ih k => nameB x fun y => ih fun r => k (y :: r)) l
def nameV (s : SV) (k : SV → Prop) : Prop := match s with
  | .tup l => nameM l fun l => k (.tup l)
  | s => nameB s k
theorem nameA_elim {s : SV} {k : SV → Prop} (h : nameA s k) : k s := by
  unfold nameA at h
  split at h
  · exact h _ rfl
  · exact h _ rfl
  · exact h _ rfl
  · exact h _ rfl
  · exact h
theorem nameL_elim : ∀ {l : List SV} {k : List SV → Prop}, nameL l k → k l
  | [], k, h => h
  | x :: l, k, h => by
    have h1 : nameA x (fun y => nameL l fun r => k (y :: r)) := h
    exact nameL_elim (k := fun r => k (x :: r)) (nameA_elim h1)
theorem nameB_elim {s : SV} {k : SV → Prop} (h : nameB s k) : k s := by
  unfold nameB at h
  split at h
  · exact nameL_elim h
  · exact nameA_elim h
theorem nameM_elim : ∀ {l : List SV} {k : List SV → Prop}, nameM l k → k l
  | [], k, h => h
  | x :: l, k, h => by
    have h1 : nameB x (fun y => nameM l fun r => k (y :: r)) := h
    exact nameM_elim (k := fun r => k (x :: r)) (nameB_elim h1)
theorem nameV_elim {s : SV} {k : SV → Prop} (h : nameV s k) : k s := by
  unfold nameV at h
  split at h
  · exact nameM_elim h
  · exact nameB_elim h
/-- Is that what is worked out? -/
def isComp (o : Oper) (e : Operand → SV) : Bool := match o.op with
  | .binOp .. => true
  | .unOp .. => true
  | .convert .. => true
  | .call _ => true
  | .pick .. => true
  | .load _ x => match e x with
    | .rowp _ _ _ => true
    | _ => false
  | _ => false
def nameR (p : Bool) (s : SV) (k : SV → Prop) : Prop := cond p (nameV s k) (k s)
theorem nameR_elim {p : Bool} {s : SV} {k : SV → Prop} (h : nameR p s k) : k s := by
  cases p
  · exact h
  · exact nameV_elim h

end
end Go.Eng
