/- The engine: straight regions, code, loops, calls. No condition. -/
import Derived.Test.YtgjjjcihiahpoaaEngG
namespace Go.Eng

/-- A call handed on: function, arguments, slots, what must hold behind it. -/
abbrev CallS := FuncId → List SV → List Blk → (SV → List Blk → Prop) → Prop

/-- One operation of a straight run. -/
def stepOp (P : Program) (Γ : PC) (cs : CallS) (ops : Array Oper) (o : Oper) (st : St) (K : St → Prop) : Prop :=
  let no := goSt o (none, []) st K
  let go (r0 : Res) := conjB r0.need (nameR (isComp o (evR st.regs)) r0.val fun v => goSt o (some ⟨[], v, r0.eff⟩, []) st K)
  let enter := match callOf o (evR st.regs) with
    | some (g, args) => cond (enterOk P g) (cs g args st.heap fun v h' => goR st.regs o.dst v fun r => K ⟨r, h'⟩) (Stuck "enter" o.pos)
    | none => Stuck "op" o.pos
  match gv ops o st.regs with
  | .bad => Stuck "guard" o.pos
  | .no => no
  | .go => match opO P Γ o (evR st.regs) st.heap st.heap.length with
    | some r0 => go r0
    | none => enter
  | .spec g => match opO P Γ o (evR st.regs) st.heap st.heap.length with
    | some r0 => match r0.eff with
      | [] => conjB (under g r0.need) (nameR (isComp o (evR st.regs)) r0.val fun v => goSt o (some ⟨[], .opt g v, []⟩, []) st K)
      | _ :: _ => cond g (go r0) no
    | none => cond g enter no

def runOps (P : Program) (Γ : PC) (cs : CallS) (ops : Array Oper) : List Nat → St → (St → Prop) → Prop
  | [], st, K => K st
  | i :: r, st, K => match ops[i]? with
    | none => Stuck "index" ""
    | some o => stepOp P Γ cs ops o st fun st' => runOps P Γ cs ops r st' K

inductive Ex where
  | normal
  | exit (id : Nat)
  | ret

def Ex.den : Ex → Exit
  | .normal => .normal
  | .exit id => .exit id
  | .ret => .ret

/-- The slots of the frame that a piece of code writes. -/
def asgd : Code → List Tmp
  | .region _ ops _ => ops.toList.filterMap (·.dst)
  | .seq a b => asgd a ++ asgd b
  | .cond _ a b => asgd a ++ asgd b
  | .block _ c => asgd c
  | .loop c => asgd c
  | .scope c => asgd c
  | .rangeFunc _ ps a b => ps.toList ++ asgd a ++ asgd b
  | _ => []

/-! ### Matching a state with a pattern -/
def leVal : Value → Value → Prop
  | .int k a, .int k' b => cond (decide (k = k')) (a = b) False
  | .bool a, .bool b => a = b
  | .string a, .string b => a = b
  | a, b => a = b

mutual
/-- What is known by the first is known by the second. -/
def leSV (s : SV) : SV → Prop
  | .any => True
  | .v x => match s with
    | .v z => leVal z x
    | .i k z _ _ => match x with
      | .int k' n => cond (decide (k = k')) (z = n) False
      | _ => False
    | .b q => match x with
      | .bool p => q = p
      | _ => False
    | .s z _ => match x with
      | .string y => z = y
      | _ => False
    | .t z => z = x
    | _ => False
  | .i k x lo hi => match s with
    | .i k' z lo' hi' => cond (decide (k' = k)) (z = x ∧ cond (decide (lo ≤ lo') && decide (hi' ≤ hi)) True (lo ≤ x ∧ x ≤ hi)) False
    | .v (.int k' z) => cond (decide (k' = k)) (z = x ∧ lo ≤ x ∧ x ≤ hi) False
    | _ => False
  | .b p => match s with
    | .b q => q = p
    | .v (.bool q) => q = p
    | _ => False
  | .s x hi => match s with
    | .s z hi' => z = x ∧ cond (decide (hi' ≤ hi)) True ((x.size : Int) ≤ hi)
    | .v (.string z) => z = x ∧ (x.size : Int) ≤ hi
    | _ => False
  | .t x => match s with
    | .t z => z = x
    | .v z => z = x
    | _ => False
  | .opt p q => s = .opt p q
  | .ptr i o => match s with
    | .ptr j p => cond (decide (j = i) && decide (p = o)) True False
    | _ => False
  | .row i => match s with
    | .row j => cond (decide (j = i)) True False
    | _ => False
  | .agg m => match s with
    | .agg l => leSVs l m
    | _ => False
  | .tup m => match s with
    | .tup l => leSVs l m
    | _ => False
  | .fn f p q => s = .fn f p q
  | .ifc t x => s = .ifc t x
  | .ro kd xs => s = .ro kd xs
  | .rop cs => s = .rop cs
  | .rs cs n => s = .rs cs n
  | .rowp i k o => s = .rowp i k o
  | .sl i o n c => s = .sl i o n c
  | .part i lo n => s = .part i lo n
def leSVs (l : List SV) : List SV → Prop
  | [] => match l with
    | [] => True
    | _ => False
  | b :: m => match l with
    | a :: r => leSV a b ∧ leSVs r m
    | _ => False
end

def leBlk : Blk → Blk → Prop
  | _, .dead => True
  | .cells e cs, .cells e' cs' => cond (decide (e = e')) (leSVs cs cs') False
  | .row e kd xs, .row e' kd' xs' => cond (decide (e = e')) (kd = kd' ∧ xs = xs') False
  | _, _ => False

def matchRegs (r : List SV) : List (Nat × SV) → Prop → Prop
  | [], k => k
  | (t, s) :: l, k => leSV (r.getD t .any) s ∧ matchRegs r l k
def matchHeap (h : List Blk) : List (Nat × Blk) → Prop → Prop
  | [], k => k
  | (i, b) :: l, k => leBlk (h.getD i .dead) b ∧ matchHeap h l k

/-- What a loop holds: its letters, the frame's slots and memory's slots that go round, what is true of them at each round's head, what each round lowers. -/
structure LoopSpec : Type 1 where
  S : Type
  regs : S → List (Nat × SV)
  keep : List Nat
  heap : S → List (Nat × Blk)
  inv : S → Prop
  mu : S → Nat

/-- A spec names memory's slots by the frame's slots that point to them. -/
def slotOf (st : St) (t : Tmp) : Nat := (refs (st.regs.getD t .any)).headD st.heap.length
def LoopSpec.at_ (L : LoopSpec) (st : St) : LoopSpec :=
  ⟨L.S, L.regs, L.keep.flatMap fun t => refs (st.regs.getD t .any), fun s => (L.heap s).map fun x => (slotOf st x.1, x.2), L.inv, L.mu⟩

def havoc (asg : List Tmp) : Nat → List SV → List SV
  | _, [] => []
  | i, s :: r => (if asg.contains i then .any else s) :: havoc asg (i + 1) r

def lay (r : List SV) : List (Nat × SV) → List SV
  | [] => r
  | (t, s) :: l => (lay r l).set t s

def layH (h : List Blk) : List (Nat × Blk) → List Blk
  | [] => h
  | (i, b) :: l => (layH h l).set i b

def headOf (asg : List Tmp) (L : LoopSpec) (st : St) (s : L.S) : St :=
  ⟨lay (havoc asg 0 st.regs) (L.regs s), layH (restr L.keep 0 st.heap) (L.heap s)⟩

def belowL (n : Nat) (l : List Nat) : Bool := l.all fun i => decide (i < n)
def blkLive : Blk → Bool
  | .hole => false
  | _ => true
/-- All that goes round names slots below n alone. -/
def specOk (asg : List Tmp) (st : St) (regs : List (Nat × SV)) (heap : List (Nat × Blk)) (keep : List Nat) : Bool :=
  regs.all (fun x => belowL st.heap.length (refs x.2) && asg.contains x.1 && decide (x.1 < st.regs.length)) && heap.all (fun x => belowL st.heap.length (blkRefs x.2) && decide (x.1 < st.heap.length)) &&
    keep.all (fun i => belowL st.heap.length (blkRefs (st.heap.getD i .dead)) && decide (i < st.heap.length) && blkLive (st.heap.getD i .dead))

def keepL (st : St) (keep : List Nat) : List (Nat × Blk) := keep.map fun i => (i, st.heap.getD i .dead)

/-- The key of a loop: the number of its first region. -/
def keyOf : Code → Nat
  | .region id _ _ => id
  | .seq a _ => keyOf a
  | .block _ c => keyOf c
  | .loop c => keyOf c
  | .scope c => keyOf c
  | .cond _ a _ => keyOf a
  | _ => 0

def resOne (P : Program) (st : St) : ResultVar → Option SV
  | .tmp t => some (st.regs.getD t .any)
  | .cell a t => match st.regs.getD a .any with
    | .ptr i off => match st.heap[i]? with
      | some (.cells _ cs) => loadFrom P t cs off
      | _ => none
    | _ => none
def resAll (P : Program) (st : St) : List ResultVar → Option (List SV)
  | [] => some []
  | r :: l => match resOne P st r, resAll P st l with
    | some s, some m => some (s :: m)
    | _, _ => none

/-- A loop, round by round. -/
def loopS (body : St → (Ex → St → Prop) → Prop) : Nat → St → (Ex → St → Prop) → Prop
  | 0, _, _ => Stuck "rounds" ""
  | m + 1, st, K => body st fun e st' => match e with
    | .normal => loopS body m st' K
    | e => K e st'

/-- A loop, by what it holds. -/
def loopI (L : LoopSpec) (asg : List Tmp) (st : St) (body : St → (Ex → St → Prop) → Prop) (K : Ex → St → Prop) : Prop :=
  ∃ s0, L.inv s0 ∧ matchRegs st.regs (L.regs s0) (matchHeap st.heap (L.heap s0) True) ∧ ∀ s, L.inv s → conjB [specOk asg st (L.regs s) (L.heap s) L.keep]
    (bareSt (headOf asg L st s) fun st1 => body st1 fun e st' => match e with
      | .normal => ∃ s', L.inv s' ∧ L.mu s' < L.mu s ∧ matchRegs st'.regs (L.regs s') (matchHeap st'.heap (L.heap s') (matchHeap st'.heap (keepL st L.keep) True))
      | e => K e st')

/-- What two pieces of code hand on, one to the other: the ways through the first meet. -/
def cutI (L : LoopSpec) (asg : List Tmp) (st : St) (x : St → (Ex → St → Prop) → Prop) (y : St → Prop) (K : Ex → St → Prop) : Prop :=
  (x st fun e st' => match e with
    | .normal => ∃ s, L.inv s ∧ matchRegs st'.regs (L.regs s) (matchHeap st'.heap (L.heap s) (matchHeap st'.heap (keepL st L.keep) True))
    | e => K e st') ∧ ∀ s, L.inv s → conjB [specOk asg st (L.regs s) (L.heap s) L.keep] (bareSt (headOf asg L st s) y)

/-- What loops hold, by the number of their first region; and cuts, ahead of a region (its number, and 100000 more). -/
abbrev LoopSpecs := FuncId → Nat → Option LoopSpec

def wpS (P : Program) (Γ : PC) (Λ : LoopSpecs) : Nat → FuncId → Code → St → (Ex → St → Prop) → Prop
  | 0, _, _, _, _ => Stuck "fuel" ""
  | n + 1, f, c, st, K =>
    let cs : CallS := fun g args h K' => match P.funcs[g]? with
      | some fn => match fn.body with
        | some body => bareSt ⟨args ++ List.replicate (fn.ntmps - args.length) (.v undef), h⟩ fun st0 => wpS P Γ Λ n g body st0 fun e st' => match e with
          | .exit _ => Stuck "exit" fn.name
          | _ => match resAll P st' fn.results.toList with
            | some [v] => K' v st'.heap
            | some l => K' (.tup l) st'.heap
            | none => Stuck "results" fn.name
        | none => Stuck "body" fn.name
      | none => Stuck "function" ""
    match c with
    | .skip => K .normal st
    | .region _ ops false => runOps P Γ cs ops (List.range ops.size) st (K .normal)
    | .region _ ops true => runD P Γ ops st.heap.length ⟨st.regs, st.heap ++ List.replicate ops.size .hole⟩ (K .normal)
    | .seq a b => match Λ f (keyOf b + 100000) with
      | none => wpS P Γ Λ n f a st fun e st' => match e with
        | .normal => wpS P Γ Λ n f b st' K
        | e => K e st'
      | some L0 => cutI (L0.at_ st) (asgd a) st (fun st K => wpS P Γ Λ n f a st K) (fun st => wpS P Γ Λ n f b st K) K
    | .cond x a b => match x with
      | .tmp t => match st.regs.getD t .any with
        | .v (.bool v) => cond v (wpS P Γ Λ n f a st K) (wpS P Γ Λ n f b st K)
        | .b v => cond v (bareSt ⟨st.regs.set t (.v (.bool true)), st.heap⟩ fun st => wpS P Γ Λ n f a st K) (bareSt ⟨st.regs.set t (.v (.bool false)), st.heap⟩ fun st => wpS P Γ Λ n f b st K)
        | _ => Stuck "if" ""
      | .const (.bool true) => wpS P Γ Λ n f a st K
      | .const (.bool false) => wpS P Γ Λ n f b st K
      | _ => Stuck "if" ""
    | .block id b => wpS P Γ Λ n f b st fun e st' => match e with
      | .exit id' => if id' = id then K .normal st' else K (.exit id') st'
      | e => K e st'
    | .loop b => match Λ f (keyOf b) with
      | some L0 => loopI (L0.at_ st) (asgd b) st (fun st K => wpS P Γ Λ n f b st K) K
      | none => loopS (fun st K => wpS P Γ Λ n f b st K) n st K
    | .exit id => K (.exit id) st
    | .ret => K .ret st
    | _ => Stuck "code" ""

section
variable {P : Program} {Γ : PC} {E : Env} {w : World} {a : Act} {ops : Array Oper} {asg : List Tmp}

/-- A call goes as the engine says. -/
def CSok (P : Program) (E : Env) (cs : CallS) : Prop := ∀ g args h K, cs g args h K → ∀ ρ w vs, DH E ρ h w → DL E ρ args vs →
  Calls P g vs.toArray w fun e w' => ∃ y v h' ρ', e = .returned y ∧ Ext ρ ρ' ∧ DV E ρ' v y ∧ DH E ρ' h' w' ∧ K v h'

theorem Den.know {ρ : Rho} {st : St} (D : Den E ρ st a w) {t : Tmp} {b : Bool} (h : st.regs[t]? = some (.b b)) : Den E ρ ⟨st.regs.set t (.v (.bool b)), st.heap⟩ a w := by
  refine ⟨?_, D.heap, D.defers⟩
  obtain ⟨y, hy, hd⟩ := D.regs.get h
  simp only [DV] at hd
  subst hd
  have := D.regs.set t (s := .v (.bool b)) (y := .bool b) (by simp [DV])
  obtain ⟨hlt, he⟩ := List.getElem?_eq_some_iff.1 hy
  have e2 : a.tmps.toList.set t (.bool b) = a.tmps.toList := by rw [← he, List.set_getElem_self hlt]
  rwa [e2] at this

theorem call_enter {o : Oper} {e : Operand → SV} {ev : Operand → Value} {ρ : Rho} {g : FuncId} {args : List SV} (h : callOf o e = some (g, args)) (hen : enterOk P g = true) (EV : ∀ x, DV E ρ (e x) (ev x)) (w : World) :
    ∃ vs : List Value, DL E ρ args vs ∧ (execOp ev o).run P w = .ok (.enter g vs.toArray) w := by
  unfold callOf at h
  split at h
  · rename_i c ho
    split at h
    · rename_i fo hcal
      split at h
      · rename_i g' first cap hf
        cases h
        have hfv := EV fo
        rw [hf] at hfv
        simp only [DV] at hfv
        obtain ⟨va, vb, hfe, hda, hdb⟩ := hfv
        refine ⟨va.toList ++ (c.args.map ev).toList ++ vb.toList, ?_, ?_⟩
        · refine (hda.append ?_).append hdb
          simpa using DL_map _ _ _ EV
        · obtain ⟨cal, cargs, ts⟩ := c
          simp only at hcal
          subst hcal
          unfold enterOk at hen
          split at hen
          · rename_i fn hfn
            simp only [Bool.and_eq_true, Bool.not_eq_true'] at hen
            have hb : fn.body.isNone = false := by cases hx : fn.body <;> simp [hx] at hen ⊢
            simp only [execOp, ho, resolve, hfe, Deferred.ofValue, Sem.run_bind, Sem.run_pure, Result.andThen_ok, invoke, callFunc, run_program, hfn, hen.2, Bool.false_eq_true, if_false, hb]
            congr 2
            apply Array.ext'
            simp
          · cases hen
      · cases h
    · cases h
  · cases h

theorem stepOp_ok (hΓ : PCok P Γ) {cs : CallS} (hcs : CSok P E cs) {i : Nat} {o : Oper} (ho : ops[i]? = some o) (hd : ∀ t, o.dst = some t → t ∈ asg) {ρ : Rho} {st : St} {K : St → Prop} {K' : Act → World → Prop} {Q : Exit → Act → World → Prop}
    (h : stepOp P Γ cs ops o st K) (D : Den E ρ st a w) (hK : ∀ st' ρ' a' w', K st' → Ext ρ ρ' → Den E ρ' st' a' w' → Fr asg a a' → K' a' w') : wpOp P ops Q i K' a w := by
  unfold stepOp at h
  unfold wpOp
  simp only [ho]
  simp only [goSt_eq] at h
  have mkNo : K (apply o (none, []) st) → K' (a.put o.dst undef) w := fun hk => by
    exact hK _ ρ _ _ hk (Ext.refl _) ⟨D.regs.setR _ (by simp [Rec.val, DV]), D.heap, by rw [put_defers]; exact D.defers⟩ (Fr.put a undef hd)
  have mkGo : ∀ r0, opO P Γ o (evR st.regs) st.heap st.heap.length = some r0 → conjB r0.need (nameR (isComp o (evR st.regs)) r0.val fun v => K (apply o (some ⟨[], v, r0.eff⟩, []) st)) → o.wp P a w K' Q := fun r0 hr0 h => by
    obtain ⟨hn, h⟩ := conjB_iff h
    have h := nameR_elim h
    exact opO_wp hΓ hr0 hn D (.inl rfl) fun y w' ρ' hx hy hD => hK _ ρ' _ _ h hx ⟨(DL.mono hx _ _ D.regs).setR _ hy, hD, by rw [put_defers]; exact D.defers⟩ (Fr.put a y hd)
  have mkEnter : (match callOf o (evR st.regs) with
      | some (g, args) => cond (enterOk P g) (cs g args st.heap fun v h' => goR st.regs o.dst v fun r => K ⟨r, h'⟩) (Stuck "enter" o.pos)
      | none => Stuck "op" o.pos) → o.wp P a w K' Q := fun h => by
    split at h
    · rename_i g args hc
      have hen : enterOk P g = true := by cases hq : enterOk P g with
        | true => rfl
        | false => rw [hq] at h; exact h.elim
      rw [hen] at h
      obtain ⟨vs, hargs, hrun⟩ := call_enter hc hen D.ev w
      unfold Oper.wp
      rw [hrun]
      simp only [Oper.upon]
      refine (hcs _ _ _ _ h ρ w vs D.heap hargs).mono ?_
      rintro e w' ⟨y, v, h', ρ', rfl, hx, hy, hD, hk⟩
      rw [goR_eq] at hk
      exact hK _ ρ' _ _ hk hx ⟨(DL.mono hx _ _ D.regs).setR _ hy, hD, by rw [put_defers]; exact D.defers⟩ (Fr.put a y hd)
    · exact h.elim
  split at h
  · exact h.elim
  · rename_i hno; rw [if_neg (by rw [gv_no D.regs hno]; simp)]; exact mkNo h
  · rename_i hgo
    rw [if_pos (gv_go D.regs hgo)]
    left
    split at h
    · rename_i r0 hr0; exact mkGo r0 hr0 h
    · exact mkEnter h
  · rename_i g hg
    have hw := gv_spec D.regs hg
    split at h
    · rename_i r0 hr0
      split at h
      · rename_i heff
        obtain ⟨hn, h⟩ := conjB_iff h
        have h := nameR_elim h
        cases g with
        | false =>
          rw [if_neg (by rw [hw]; simp)]
          exact hK _ ρ _ _ h (Ext.refl _) ⟨D.regs.setR _ (by simp [Rec.val, DV]), D.heap, by rw [put_defers]; exact D.defers⟩ (Fr.put a undef hd)
        | true =>
          rw [if_pos hw]
          left
          refine opO_wp hΓ hr0 (under_iff hn rfl) D (.inl rfl) fun y w' ρ' hx hy hD => hK _ ρ' _ _ h hx ⟨(DL.mono hx _ _ D.regs).setR _ (by simp only [Rec.val, DV]; exact ⟨fun _ => hy, by simp⟩), ?_, by rw [put_defers]; exact D.defers⟩ (Fr.put a y hd)
          rw [heff] at hD
          exact hD
      · cases g with
        | false => rw [if_neg (by rw [hw]; simp)]; exact mkNo h
        | true => rw [if_pos hw]; left; exact mkGo r0 hr0 h
    · cases g with
      | false => rw [if_neg (by rw [hw]; simp)]; exact mkNo h
      | true => rw [if_pos hw]; left; exact mkEnter h

theorem runOps_ok (hΓ : PCok P Γ) {cs : CallS} (hcs : CSok P E cs) (hdst : ∀ (i : Nat) (o : Oper) (t : Tmp), ops[i]? = some o → o.dst = some t → t ∈ asg) {K : St → Prop} {Q : Exit → Act → World → Prop} :
    ∀ (l : List Nat) (st : St) (ρ : Rho) (a : Act) (w : World), runOps P Γ cs ops l st K → Den E ρ st a w → (∀ st' ρ' a' w', K st' → Ext ρ ρ' → Den E ρ' st' a' w' → Fr asg a a' → Q .normal a' w') → wpOps P ops Q l a w
  | [], st, ρ, a, w, h, D, hQ => hQ st ρ a w h (Ext.refl _) D (Fr.refl _ _)
  | i :: l, st, ρ, a, w, h, D, hQ => by
    rw [wpOps_cons]
    simp only [runOps] at h
    split at h
    · exact h.elim
    · rename_i o ho
      exact stepOp_ok hΓ hcs ho (fun t ht => hdst i o t ho ht) h D fun st' ρ' a' w' hk hx hD hf => runOps_ok hΓ hcs hdst l st' ρ' a' w' hk hD fun st'' ρ'' a'' w'' hk' hx' hD' hf' => hQ st'' ρ'' a'' w'' hk' (hx.trans hx') hD' (hf.trans hf')

end
end Go.Eng
