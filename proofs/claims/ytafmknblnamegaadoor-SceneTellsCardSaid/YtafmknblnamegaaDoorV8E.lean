/- The engine: regions that draw their order. No condition. -/
import Derived.Test.YtafmknblnamegaaDoorV8D
namespace Go.Eng

/-! ### One step of a straight run, and what it hangs on -/

def opnds (ops : Array Oper) (o : Oper) : List Tmp := o.looksAt ops

/-- What an operation did: nothing (its guard said no), or this; and the slots that it looked at. -/
abbrev Rec := Option Res × List Nat

def Rec.val (q : Rec) : SV := match q.1 with
  | none => .v undef
  | some r => r.val
def Rec.eff (q : Rec) : List (Nat × Blk) := match q.1 with
  | none => []
  | some r => r.eff

def apply (o : Oper) (q : Rec) (st : St) : St := ⟨setR st.regs o.dst q.val, applyEff q.eff st.heap, st.df⟩

/-- The same, laid bare ahead of what follows. -/
def goE (l : List (Nat × Blk)) (h : List Blk) (k : List Blk → Prop) : Prop := match l with
  | [] => k h
  | e :: r => bareL (applyEff (e :: r) h) k
theorem goE_eq (l : List (Nat × Blk)) (h : List Blk) (k : List Blk → Prop) : goE l h k = k (applyEff l h) := by
  cases l with
  | nil => rfl
  | cons e r => simp only [goE, bareL_eq]
def goR (r : List SV) (d : Option Tmp) (s : SV) (k : List SV → Prop) : Prop := match d with
  | some d => bareV s fun s => bareL (r.set d s) k
  | none => k r
theorem goR_eq (r : List SV) (d : Option Tmp) (s : SV) (k : List SV → Prop) : goR r d s k = k (setR r d s) := by
  cases d with
  | none => rfl
  | some d => simp only [goR, bareV_eq, bareL_eq, setR]
def goSt (o : Oper) (q : Rec) (st : St) (k : St → Prop) : Prop := goR st.regs o.dst q.val fun r => goE q.eff st.heap fun h => k ⟨r, h, st.df⟩
theorem goSt_eq (o : Oper) (q : Rec) (st : St) (k : St → Prop) : goSt o q st k = k (apply o q st) := by simp only [goSt, goR_eq, goE_eq, apply]

/-- The slots that an operation's operands name. -/
def rdS (o : Oper) (e : Operand → SV) : List Nat := o.op.operands.toList.flatMap fun x => refs (e x)
/-- The slots that an operation looks at. -/
def isMove (o : Oper) : Bool := match o.op with
  | .move _ => true
  | _ => false
/-- The family that a slot leads to. -/
def famOf (h : List Blk) (i : Nat) : List Nat := match h.getD i .dead with
  | .rr _ g => [g]
  | .ali g _ _ _ => [g]
  | .rof g => [g]
  | _ => []
def rdX (h : List Blk) (l : List Nat) : List Nat := l ++ l.flatMap (famOf h)
def isApp (o : Oper) : Bool := match o.op with
  | .call c => match c.callee with
    | .builtin .append => true
    | _ => false
  | _ => false
def rdN (o : Oper) (e : Operand → SV) (h : List Blk) : List Nat := cond (isApp o) (reach h 1 (rdS o e)) (rdX h (rdS o e))
def rdH (o : Oper) (e : Operand → SV) (h : List Blk) : List Nat := match callOf o e with
  | some _ => reach h 4 (rdS o e)
  | none => cond (isMove o) [] (rdN o e h)

/-- The operation does this in this state. -/
def Stp (P : Program) (Γ : PC) (ops : Array Oper) (pl : Nat → Nat) (i : Nat) (o : Oper) (q : Rec) (st : St) : Prop :=
  (pl i = st.heap.length ∨ ∀ j, j < 4 → st.heap[pl i + j]? = some .hole ∧ pl i + j ∈ q.2) ∧ (∀ s ∈ q.eff.map (·.1), s < st.heap.length) ∧ match q.1 with
    | none => gv ops o st.regs = .no ∨ gv ops o st.regs = .spec false
    | some r => (∀ s ∈ rdH o (fun x => strip (evR st.regs x)) st.heap, s ∈ q.2) ∧ ∃ r0, opO P Γ o (evR st.regs) st.heap (pl i) = some r0 ∧
      (((gv ops o st.regs = .go ∨ gv ops o st.regs = .spec true) ∧ allNeed r0.need ∧ r.eff = r0.eff ∧ r.val = r0.val) ∨
        ∃ g, gv ops o st.regs = .spec g ∧ (g = true → allNeed r0.need) ∧ r0.eff = [] ∧ r.eff = [] ∧ r.val = .opt g r0.val)

section
variable {P : Program} {Γ : PC} {E : Env} {ρ : Rho} {w : World} {a : Act} {st : St} {ops : Array Oper}

theorem map_congr_mem {α β : Type} {l : List α} {f g : α → β} (h : ∀ x ∈ l, f x = g x) : l.map f = l.map g := List.map_congr_left h

theorem refsL_append (l m : List SV) : refsL (l ++ m) = refsL l ++ refsL m := by
  induction l with
  | nil => rfl
  | cons s l ih => simp [refsL, ih]

theorem mem_refsL {s : SV} {l : List SV} {i : Nat} (hs : s ∈ l) (hi : i ∈ refs s) : i ∈ refsL l := by
  induction l with
  | nil => simp at hs
  | cons t l ih =>
    simp only [refsL, List.mem_append]
    rcases List.mem_cons.1 hs with rfl | h
    · exact .inl hi
    · exact .inr (ih h)

theorem refsL_mem {l : List SV} {i : Nat} (h : i ∈ refsL l) : ∃ s ∈ l, i ∈ refs s := by
  induction l with
  | nil => simp [refsL] at h
  | cons t l ih =>
    simp only [refsL, List.mem_append] at h
    rcases h with h | h
    · exact ⟨t, by simp, h⟩
    · obtain ⟨s, hs, hi⟩ := ih h
      exact ⟨s, by simp [hs], hi⟩

theorem famOf_refs (h : List Blk) (i : Nat) : ∀ j ∈ famOf h i, j ∈ blkRefs (h.getD i .dead) := by
  intro j hj
  unfold famOf at hj
  split at hj
  · rename_i hb; rw [hb]; exact hj
  · rename_i hb; rw [hb]; exact hj
  · rename_i hb; rw [hb]; exact hj
  · cases hj
theorem rdX_reach (h : List Blk) (l : List Nat) : ∀ i ∈ rdX h l, i ∈ reach h 1 l := by
  intro i hi
  simp only [rdX, List.mem_append] at hi
  simp only [reach, List.mem_append]
  rcases hi with hi | hi
  · exact .inl hi
  · obtain ⟨k, hk, hi⟩ := List.mem_flatMap.1 hi
    exact .inr (List.mem_flatMap.2 ⟨k, hk, famOf_refs h k i hi⟩)
theorem rdX_mono {h : List Blk} {l m : List Nat} (hs : ∀ i ∈ l, i ∈ m) : ∀ i ∈ rdX h l, i ∈ rdX h m := by
  intro i hi
  simp only [rdX, List.mem_append] at hi ⊢
  rcases hi with hi | hi
  · exact .inl (hs i hi)
  · obtain ⟨k, hk, hi⟩ := List.mem_flatMap.1 hi
    exact .inr (List.mem_flatMap.2 ⟨k, hs k hk, hi⟩)
theorem rdX_self {h : List Blk} {l : List Nat} : ∀ i ∈ l, i ∈ rdX h l := fun i hi => List.mem_append_left _ hi
theorem famOf_congr {h h' : List Blk} {i : Nat} (hh : h[i]? = h'[i]?) : famOf h i = famOf h' i := by
  unfold famOf
  rw [List.getD_eq_getElem?_getD, List.getD_eq_getElem?_getD, hh]
theorem rdX_congr {h h' : List Blk} {l : List Nat} (hh : ∀ i ∈ rdX h l, h[i]? = h'[i]?) : rdX h l = rdX h' l := by
  unfold rdX
  congr 1
  rw [List.flatMap_def, List.flatMap_def]
  congr 1
  exact List.map_congr_left fun i hi => famOf_congr (hh i (rdX_self i hi))
theorem rdX_one {h h' : List Blk} {i : Nat} (hh : ∀ j ∈ rdX h [i], h[j]? = h'[j]?) : h[i]? = h'[i]? ∧ ∀ j ∈ famOf h i, h[j]? = h'[j]? :=
  ⟨hh i (rdX_self i (by simp)), fun j hj => hh j (by simp [rdX, hj])⟩
theorem biS_local {b : Builtin} {ts : Array TypeId} {l : List SV} {h h' : List Blk} (hh : ∀ s ∈ l, ∀ i ∈ refs s, h[i]? = h'[i]?) : biS P b ts l h = biS P b ts l h' := by
  unfold biS
  split
  · rename_i s
    split
    · unfold lenS
      cases s with
      | row i => simp only [hh (.row i) (by simp) i (by simp [refs])]
      | _ => rfl
    · rfl
  · rfl
  · rfl
  · rfl

/-- What an operation does hangs on its operands, and on the slots that they name. -/
theorem opS_local {o : Oper} {e e' : Operand → SV} {h h' : List Blk} {nx : Nat} (he : ∀ x ∈ o.op.operands.toList, e x = e' x) (hh : ∀ i ∈ rdS o e, h[i]? = h'[i]?) :
    opS P o e h nx = opS P o e' h' nx := by
  have hslot : ∀ x ∈ o.op.operands.toList, ∀ i ∈ refs (e x), h[i]? = h'[i]? := fun x hx i hi => hh i (List.mem_flatMap.2 ⟨x, hx, hi⟩)
  unfold opS
  cases ho : o.op with
  | load t x =>
    have h1 := he x (by simp [ho, Op.operands])
    have h2 := hslot x (by simp [ho, Op.operands])
    simp only [← h1]
    cases hx : e x with
    | ptr i off => rw [hx] at h2; simp only [h2 i (by simp [refs])]
    | _ => rfl
  | store t x y =>
    have h1 := he x (by simp [ho, Op.operands])
    have h3 := he y (by simp [ho, Op.operands])
    have h2 := hslot x (by simp [ho, Op.operands])
    simp only [← h1, ← h3]
    cases hx : e x with
    | ptr i off => rw [hx] at h2; simp only [h2 i (by simp [refs])]
    | _ => rfl
  | build t ps =>
    have : (ps.toList.map fun p => (p.1, e p.2)) = ps.toList.map fun p => (p.1, e' p.2) := List.map_congr_left fun p hp => by
      rw [he p.2 (by simp only [ho, Op.operands]; simpa using ⟨p.1, by simpa using hp⟩)]
    simp only [this]
  | buildSlice t n ps =>
    have : (ps.toList.map fun p => (p.1, e p.2)) = ps.toList.map fun p => (p.1, e' p.2) := List.map_congr_left fun p hp => by
      rw [he p.2 (by simp only [ho, Op.operands]; simpa using ⟨p.1, by simpa using hp⟩)]
    simp only [this]
  | makeFunc f x y =>
    have h1 : x.toList.map e = x.toList.map e' := List.map_congr_left fun p hp => he p (by simp [ho, Op.operands, Array.mem_toList_iff.1 hp])
    have h2 : y.toList.map e = y.toList.map e' := List.map_congr_left fun p hp => he p (by simp [ho, Op.operands, Array.mem_toList_iff.1 hp])
    simp only [h1, h2]
  | pick c x y =>
    simp only [← he c (by simp [ho, Op.operands]), ← he x (by simp [ho, Op.operands]), ← he y (by simp [ho, Op.operands])]
  | binOp op t x y t' =>
    simp only [← he x (by simp [ho, Op.operands]), ← he y (by simp [ho, Op.operands])]
  | indexAddr t x y =>
    simp only [← he x (by simp [ho, Op.operands]), ← he y (by simp [ho, Op.operands])]
  | index t x y =>
    simp only [← he x (by simp [ho, Op.operands]), ← he y (by simp [ho, Op.operands])]
  | call c =>
    obtain ⟨cal, args, ts⟩ := c
    have hargs : ∀ x ∈ args.toList, e x = e' x := fun x hx => he x (by simp only [ho, Op.operands, Call.operands]; simp [Array.mem_toList_iff.1 hx])
    have hsl : ∀ x ∈ args.toList, ∀ i ∈ refs (e x), h[i]? = h'[i]? := fun x hx => hslot x (by simp only [ho, Op.operands, Call.operands]; simp [Array.mem_toList_iff.1 hx])
    have hm : args.toList.map e = args.toList.map e' := List.map_congr_left hargs
    cases cal with
    | builtin b =>
      simp only [← hm]
      have hsl' : ∀ s ∈ args.toList.map e, ∀ i ∈ refs s, h[i]? = h'[i]? := fun s hs i hi => by
        obtain ⟨x, hx, rfl⟩ := List.mem_map.1 hs
        exact hsl x hx i hi
      exact biS_local hsl'
    | _ => rfl
  | move x => simp only [← he x (by simp [ho, Op.operands])]
  | assign x => simp only [← he x (by simp [ho, Op.operands])]
  | box t x => simp only [← he x (by simp [ho, Op.operands])]
  | nilCheck x => simp only [← he x (by simp [ho, Op.operands])]
  | fieldAddr t x f => simp only [← he x (by simp [ho, Op.operands])]
  | field t x f => simp only [← he x (by simp [ho, Op.operands])]
  | extract x i => simp only [← he x (by simp [ho, Op.operands])]
  | makeInterface t x => simp only [← he x (by simp [ho, Op.operands])]
  | unOp op t x => simp only [← he x (by simp [ho, Op.operands])]
  | convert s d x => simp only [← he x (by simp [ho, Op.operands])]
  | _ => rfl

theorem slotXs_local {i : Nat} {h h' : List Blk} (hh : h[i]? = h'[i]? ∧ ∀ j ∈ famOf h i, h[j]? = h'[j]?) : slotXs h i = slotXs h' i := by
  obtain ⟨h1, h2⟩ := hh
  unfold slotXs
  rw [← h1]
  cases hb : h[i]? with
  | none => rfl
  | some b =>
    cases b with
    | ali g k o kd => simp only [h2 g (by simp [famOf, List.getD_eq_getElem?_getD, hb])]
    | _ => rfl
theorem viewS_local {kd : List Kd} {s : SV} {h h' : List Blk} (hh : ∀ i ∈ rdX h (refs s), h[i]? = h'[i]?) : viewS kd s h = viewS kd s h' := by
  unfold viewS
  split
  · rw [slotXs_local (rdX_one hh)]
  · rw [slotXs_local (rdX_one hh)]
  · rw [hh _ (rdX_self _ (List.mem_singleton.2 rfl))]
  · rfl
  · rfl
  · rfl
theorem srcS_local {kd : List Kd} {s : SV} {h h' : List Blk} (hh : ∀ i ∈ rdX h (refs s), h[i]? = h'[i]?) : srcS kd s h = srcS kd s h' := by
  unfold srcS
  split
  · rfl
  · rfl
  · exact viewS_local hh
theorem dstS_local {kd : List Kd} {el : TypeId} {s : SV} {h h' : List Blk} (hh : ∀ i ∈ rdX h (refs s), h[i]? = h'[i]?) : dstS kd el s h = dstS kd el s h' := by
  unfold dstS
  split
  · rename_i i
    obtain ⟨h1, h2⟩ := rdX_one hh
    rw [← h1]
    cases hb : h[i]? with
    | none => rfl
    | some b =>
      cases b with
      | ali g k o kd => simp only [h2 g (by simp [famOf, List.getD_eq_getElem?_getD, hb])]
      | ror kd xs f => cases f <;> rfl
      | _ => rfl
  · rw [hh _ (rdX_self _ (List.mem_singleton.2 rfl))]
  · rfl
  · rw [hh _ (rdX_self _ (List.mem_singleton.2 rfl))]
  · rfl
  · rfl
  · rfl
theorem dstN_local {kd : List Kd} {el : TypeId} {s x : SV} {h h' : List Blk} (hh : ∀ i ∈ rdX h (refs s), h[i]? = h'[i]?) : dstN kd el s x h = dstN kd el s x h' := by
  have : dstF kd s h = dstF kd s h' := by
    unfold dstF
    cases s with
    | part i lo n f =>
      have := hh i (rdX_self _ (by simp [refs]))
      cases f <;> simp only [this]
    | sl i o n c =>
      have := hh i (rdX_self _ (by simp [refs]))
      simp only [this]
    | _ => rfl
  unfold dstN
  rw [this, dstS_local hh]
theorem appS_local {t tx : TypeId} {s x : SV} {h h' : List Blk} {nx : Nat} (hs : ∀ i ∈ rdX h (refs s), h[i]? = h'[i]?) (hx : ∀ i ∈ rdX h (refs x), h[i]? = h'[i]?) : appS P t tx s x h nx = appS P t tx s x h' nx := by
  unfold appS
  split
  · split
    · rfl
    · split
      · rw [dstN_local hs, srcS_local hx]
      · rfl
  · rfl
theorem slotFull_local {i : Nat} {h h' : List Blk} (hh : h[i]? = h'[i]?) : slotFull h i = slotFull h' i := by simp only [slotFull, hh]

theorem optI_local {e e' : Operand → SV} {o : Option Operand} {d : Int} (h : ∀ x, o = some x → e x = e' x) : optI e o d = optI e' o d := by
  cases o with
  | none => rfl
  | some x => simp only [optI, h x rfl]
theorem hiOf_local {e e' : Operand → SV} {o : Option Operand} {d : Int} (h : ∀ x, o = some x → e x = e' x) : hiOf e o d = hiOf e' o d := by
  cases o with
  | none => rfl
  | some x => simp only [hiOf, h x rfl]
theorem constI_local {e e' : Operand → SV} {o : Option Operand} {d : Int} (h : ∀ x, o = some x → e x = e' x) : constI e o d = constI e' o d := by
  cases o with
  | none => rfl
  | some x => simp only [constI, h x rfl]
theorem zeroMax_local {e e' : Operand → SV} {o : Option Operand} (h : ∀ x, o = some x → e x = e' x) : zeroMax e o = zeroMax e' o := by
  cases o with
  | none => rfl
  | some x => simp only [zeroMax, h x rfl]
theorem sliceS_local {e e' : Operand → SV} {t : TypeId} {x : SV} {low high max : Option Operand} {h h' : List Blk} (hl : ∀ y, low = some y → e y = e' y) (hhi : ∀ y, high = some y → e y = e' y) (hm : ∀ y, max = some y → e y = e' y)
    (hh : ∀ i ∈ rdX h (refs x), h[i]? = h'[i]?) : sliceS P e t x low high max h = sliceS P e' t x low high max h' := by
  have p1 : ∀ i lo n f, partS e i lo n f low high max = partS e' i lo n f low high max := fun i lo n f => by
    unfold partS
    rw [optI_local hl, optI_local hhi, optI_local hm, zeroMax_local hm]
  have p2 : ∀ y hi, subStr e y hi low high = subStr e' y hi low high := fun y hi => by
    unfold subStr
    rw [optI_local hl, optI_local hhi, hiOf_local hhi]
  have p3 : ∀ el i o n c, slS P e el i o n c low high max = slS P e' el i o n c low high max := fun el i o n c => by
    unfold slS
    rw [constI_local hl, constI_local hhi, constI_local hm]
  have p4 : ∀ el, empS P e el low high max = empS P e' el low high max := fun el => by
    unfold empS
    rw [optI_local hl, optI_local hhi, optI_local hm]
  unfold sliceS
  split
  · cases x with
    | emp => simp only [p4]
    | v y =>
      simp only [p4]
      cases y with
      | slice a n c => cases a <;> cases n <;> cases c <;> rfl
      | _ => rfl
    | row i => simp only [slotXs_local (rdX_one hh), slotFull_local (rdX_one hh).1, p1]
    | part i lo n f => simp only [slotXs_local (rdX_one hh), p1]
    | sl i o n c => simp only [p3]
    | _ => rfl
  · cases x with
    | s y hi => simp only [p2]
    | v y => simp only [p2]
    | _ => rfl
  · rfl

theorem opR_local {o : Oper} {e e' : Operand → SV} {h h' : List Blk} {nx : Nat} (he : ∀ x ∈ o.op.operands.toList, e x = e' x) (hh : ∀ i ∈ rdX h (rdS o e), h[i]? = h'[i]?) :
    opR P o e h nx = opR P o e' h' nx := by
  have hslot : ∀ x ∈ o.op.operands.toList, ∀ i ∈ rdX h (refs (e x)), h[i]? = h'[i]? := fun x hx i hi => hh i (rdX_mono (fun k hk => List.mem_flatMap.2 ⟨x, hx, hk⟩) i hi)
  unfold opR
  cases ho : o.op with
  | load t x =>
    have h1 := he x (by simp [ho, Op.operands])
    have h2 := hslot x (by simp [ho, Op.operands])
    simp only [← h1]
    cases hx : e x with
    | rowp i k off => rw [hx] at h2; simp only [slotXs_local (rdX_one h2)]
    | _ => rfl
  | store t x y =>
    have h1 := he x (by simp [ho, Op.operands])
    have h3 := he y (by simp [ho, Op.operands])
    have h2 := hslot x (by simp [ho, Op.operands])
    simp only [← h1, ← h3]
    cases hx : e x with
    | rowp i k off => rw [hx] at h2; simp only [(rdX_one h2).1]
    | _ => rfl
  | binOp op t x y t' =>
    have h2 := hslot x (by simp [ho, Op.operands])
    have : nilQ P t (e x) (e y) h = nilQ P t (e x) (e y) h' := by
      unfold nilQ
      split
      · cases hx : e x with
        | row i => rw [hx] at h2; simp only [slotXs_local (rdX_one h2)]
        | _ => rfl
      · rfl
    simp only [← he x (by simp [ho, Op.operands]), ← he y (by simp [ho, Op.operands]), this]
  | indexAddr t x y =>
    have h2 := hslot x (by simp [ho, Op.operands])
    simp only [← he x (by simp [ho, Op.operands]), ← he y (by simp [ho, Op.operands])]
    generalize P.underlying t = u
    generalize intOf (e y) = q
    cases u with
    | none => rfl
    | some d => cases d with
      | slice el =>
        cases hx : e x with
        | row i =>
          rw [hx] at h2
          cases q with
          | none => rfl
          | some q => simp only [slotXs_local (rdX_one h2)]
        | part i lo n f =>
          rw [hx] at h2
          cases q with
          | none => rfl
          | some q => simp only [slotXs_local (rdX_one h2)]
        | _ => rfl
      | array m el => cases e x <;> first | rfl | (cases q <;> rfl)
      | _ => rfl
  | index t x y => simp only [← he x (by simp [ho, Op.operands]), ← he y (by simp [ho, Op.operands])]
  | makeSlice t x y => simp only [← he x (by simp [ho, Op.operands]), ← he y (by simp [ho, Op.operands])]
  | slice t x low high max =>
    simp only [← he x (by simp [ho, Op.operands])]
    refine sliceS_local (fun y hy => he y ?_) (fun y hy => he y ?_) (fun y hy => he y ?_) (hslot x (by simp [ho, Op.operands])) <;> subst hy <;> simp [ho, Op.operands]
  | nilCheck x => simp only [← he x (by simp [ho, Op.operands])]
  | fieldAddr t x f => simp only [← he x (by simp [ho, Op.operands])]
  | call c =>
    obtain ⟨cal, args, ts⟩ := c
    have hargs : ∀ x ∈ args.toList, e x = e' x := fun x hx => he x (by simp only [ho, Op.operands, Call.operands]; simp [Array.mem_toList_iff.1 hx])
    have hsl : ∀ x ∈ args.toList, ∀ i ∈ rdX h (refs (e x)), h[i]? = h'[i]? := fun x hx => hslot x (by simp only [ho, Op.operands, Call.operands]; simp [Array.mem_toList_iff.1 hx])
    have hm : args.toList.map e = args.toList.map e' := List.map_congr_left hargs
    have hsl' : ∀ s ∈ args.toList.map e, ∀ i ∈ rdX h (refs s), h[i]? = h'[i]? := fun s hs i hi => by
      obtain ⟨x, hx, rfl⟩ := List.mem_map.1 hs
      exact hsl x hx i hi
    simp only [← hm]
    generalize args.toList.map e = l at hsl'
    split
    · exact appS_local (hsl' _ (by simp)) (hsl' _ (by simp))
    · rfl
  | _ => rfl

theorem clearS_local {t : TypeId} {s : SV} {h h' : List Blk} (hs : ∀ i ∈ refs s, h[i]? = h'[i]?) : clearS P t s h = clearS P t s h' := by
  unfold clearS
  generalize P.underlying t = u
  cases u with
  | none => rfl
  | some d => cases d with
    | slice el =>
      cases s with
      | part i lo n f => simp only [hs i (by simp [refs])]
      | _ => rfl
    | _ => rfl
theorem opX_local {o : Oper} {e e' : Operand → SV} {h h' : List Blk} {nx : Nat} (he : ∀ x ∈ o.op.operands.toList, e x = e' x) (hh : ∀ i ∈ rdX h (rdS o e), h[i]? = h'[i]?) :
    opX P o e h nx = opX P o e' h' nx := by
  have hslotX : ∀ x ∈ o.op.operands.toList, ∀ i ∈ rdX h (refs (e x)), h[i]? = h'[i]? := fun x hx i hi => hh i (rdX_mono (fun k hk => List.mem_flatMap.2 ⟨x, hx, hk⟩) i hi)
  have hslot : ∀ x ∈ o.op.operands.toList, ∀ i ∈ refs (e x), h[i]? = h'[i]? := fun x hx i hi => hslotX x hx i (rdX_self i hi)
  unfold opX
  cases ho : o.op with
  | makeMap t r => cases r <;> rfl
  | lookup t x ix ok =>
    have h1 := he x (by simp [ho, Op.operands])
    have h3 := he ix (by simp [ho, Op.operands])
    have h2 := hslot x (by simp [ho, Op.operands])
    simp only [← h1, ← h3]
    generalize P.underlying t = u
    generalize intOf (e ix) = q
    cases u with
    | none => rfl
    | some d => cases d with
      | map kt el =>
        cases hx : e x with
        | mp i =>
          rw [hx] at h2
          cases q with
          | none => rfl
          | some q => simp only [h2 i (by simp [refs])]
        | _ => rfl
      | _ => rfl
  | mapUpdate t x ix y =>
    have h1 := he x (by simp [ho, Op.operands])
    have h3 := he ix (by simp [ho, Op.operands])
    have h4 := he y (by simp [ho, Op.operands])
    have h2 := hslot x (by simp [ho, Op.operands])
    simp only [← h1, ← h3, ← h4]
    generalize P.underlying t = u
    generalize intOf (e ix) = q
    cases u with
    | none => rfl
    | some d => cases d with
      | map kt el =>
        cases hx : e x with
        | mp i =>
          rw [hx] at h2
          cases q with
          | none => rfl
          | some q => simp only [h2 i (by simp [refs])]
        | _ => rfl
      | _ => rfl
  | convert a b x =>
    have h2 := hslotX x (by simp [ho, Op.operands])
    simp only [← he x (by simp [ho, Op.operands]), viewS_local h2]
  | makeSlice t x y => simp only [← he x (by simp [ho, Op.operands]), ← he y (by simp [ho, Op.operands])]
  | call c =>
    obtain ⟨cal, args, ts⟩ := c
    have hargs : ∀ x ∈ args.toList, e x = e' x := fun x hx => he x (by simp only [ho, Op.operands, Call.operands]; simp [Array.mem_toList_iff.1 hx])
    have hsl : ∀ x ∈ args.toList, ∀ i ∈ refs (e x), h[i]? = h'[i]? := fun x hx => hslot x (by simp only [ho, Op.operands, Call.operands]; simp [Array.mem_toList_iff.1 hx])
    have hm : args.toList.map e = args.toList.map e' := List.map_congr_left hargs
    have hsl' : ∀ s ∈ args.toList.map e, ∀ i ∈ refs s, h[i]? = h'[i]? := fun s hs i hi => by
      obtain ⟨x, hx, rfl⟩ := List.mem_map.1 hs
      exact hsl x hx i hi
    simp only [← hm]
    generalize args.toList.map e = l at hsl'
    split
    · exact clearS_local (hsl' _ (by simp))
    · rfl
  | _ => rfl

theorem reach_mono1 (h : List Blk) (l m : List Nat) (hs : ∀ i ∈ l, i ∈ m) : ∀ i ∈ reach h 1 l, i ∈ reach h 1 m := by
  intro i hi
  simp only [reach, List.mem_append] at hi ⊢
  rcases hi with hi | hi
  · exact .inl (hs i hi)
  · obtain ⟨k, hk, hj⟩ := List.mem_flatMap.1 hi
    exact .inr (List.mem_flatMap.2 ⟨k, hs k hk, hj⟩)
theorem reach_self1 (h : List Blk) (l : List Nat) : ∀ i ∈ l, i ∈ reach h 1 l := fun i hi => List.mem_append_left _ hi
theorem famAt_local {i : Nat} {h h' : List Blk} (hh : h[i]? = h'[i]? ∧ ∀ j ∈ famOf h i, h[j]? = h'[j]?) : famAt h i = famAt h' i := by
  obtain ⟨h1, h2⟩ := hh
  unfold famAt
  rw [← h1]
  cases hb : h[i]? with
  | none => rfl
  | some b =>
    cases b with
    | rr e g => simp only [h2 g (by simp [famOf, List.getD_eq_getElem?_getD, hb])]
    | _ => rfl
theorem cellF_local {q : Kf} {s : SV} {h h' : List Blk} (hh : ∀ i ∈ refs s, h[i]? = h'[i]?) : cellF h q s = cellF h' q s := by
  unfold cellF
  cases q with
  | k r => rfl
  | sl el kd =>
    cases s with
    | row j => simp only [hh j (by simp [refs])]
    | sl a b c d => cases c <;> cases d <;> rfl
    | v y =>
      cases y <;> try rfl
      rename_i a n c
      cases a <;> cases n <;> cases c <;> rfl
    | _ => rfl
theorem cellsF_local {h h' : List Blk} : ∀ {ks : List Kf} {ss : List SV}, (∀ i ∈ refsL ss, h[i]? = h'[i]?) → cellsF h ks ss = cellsF h' ks ss
  | [], [], _ => rfl
  | [], _ :: _, _ => rfl
  | _ :: _, [], _ => rfl
  | q :: ks, s :: ss, hh => by
    simp only [cellsF]
    rw [cellF_local (q := q) (s := s) fun i hi => hh i (by simp [refsL, hi]), cellsF_local (ks := ks) (ss := ss) fun i hi => hh i (by simp [refsL, hi])]
theorem elemsF_local {h h' : List Blk} {kf : List Kf} : ∀ {n : Nat} {cs : List SV}, (∀ i ∈ refsL cs, h[i]? = h'[i]?) → elemsF h kf n cs = elemsF h' kf n cs
  | 0, _, _ => rfl
  | n + 1, cs, hh => by
    have t1 : ∀ i ∈ refsL (cs.take kf.length), h[i]? = h'[i]? := fun i hi => by
      obtain ⟨s, hs, hi⟩ := refsL_mem hi
      exact hh i (mem_refsL (List.mem_of_mem_take hs) hi)
    have t2 : ∀ i ∈ refsL (cs.drop kf.length), h[i]? = h'[i]? := fun i hi => by
      obtain ⟨s, hs, hi⟩ := refsL_mem hi
      exact hh i (mem_refsL (List.mem_of_mem_drop hs) hi)
    simp only [elemsF]
    rw [cellsF_local t1, elemsF_local t2]
theorem cellsSV_refs {s : SV} {xs : List SV} (h : cellsSV s = some xs) : ∀ i ∈ refsL xs, i ∈ refs s := by
  have nv : ∀ l : List Value, ∀ i, i ∉ refsL (l.map .v) := fun l i hi => by
    obtain ⟨s, hs, hi⟩ := refsL_mem hi
    obtain ⟨v, _, rfl⟩ := List.mem_map.1 hs
    simp [refs] at hi
  have nt : ∀ l : List Value, ∀ i, i ∉ refsL (l.map tv) := fun l i hi => by
    obtain ⟨s, hs, hi⟩ := refsL_mem hi
    obtain ⟨v, _, rfl⟩ := List.mem_map.1 hs
    unfold tv at hi
    split at hi <;> simp [refs] at hi
  intro i hi
  unfold cellsSV at h
  split at h
  · cases h; simpa [refs] using hi
  · cases h
  · cases h
  · cases h
  · cases h; exact absurd hi (nv _ i)
  · cases h
  · cases h; exact absurd hi (nt _ i)
  · cases h
  · cases h; simpa [refsL] using hi
theorem loadF_local {t : TypeId} {i k of nx : Nat} {h h' : List Blk} (hh : h[i]? = h'[i]? ∧ ∀ j ∈ famOf h i, h[j]? = h'[j]?) : loadF P t i k of h nx = loadF P t i k of h' nx := by
  unfold loadF
  rw [famAt_local hh]
theorem storeF_local {t : TypeId} {i k of nx : Nat} {x : SV} {h h' : List Blk} (hh : h[i]? = h'[i]? ∧ ∀ j ∈ famOf h i, h[j]? = h'[j]?) (hx : ∀ j ∈ refs x, h[j]? = h'[j]?) : storeF P t i k of x h nx = storeF P t i k of x h' nx := by
  unfold storeF
  rw [← famAt_local hh]
  split
  · rename_i el g kf css lent n xs _ _ hxs
    rw [cellsF_local (ss := xs) fun j hj => hx j (cellsSV_refs hxs j hj)]
  · rfl
theorem storeA_local {t : TypeId} {i j of : Nat} {x : SV} {h h' : List Blk} (hh : h[i]? = h'[i]? ∧ ∀ j ∈ famOf h i, h[j]? = h'[j]?) : storeA P t i j of x h = storeA P t i j of x h' := by
  obtain ⟨h1, h2⟩ := hh
  unfold storeA
  rw [← h1]
  cases hb : h[i]? with
  | none => rfl
  | some b =>
    cases b with
    | ali g k o kd => simp only [h2 g (by simp [famOf, List.getD_eq_getElem?_getD, hb])]
    | _ => rfl
theorem lenF_local {t : TypeId} {s : SV} {h h' : List Blk} (hh : ∀ i ∈ rdX h (refs s), h[i]? = h'[i]?) : lenF P t s h = lenF P t s h' := by
  unfold lenF
  split
  · cases s with
    | row i => simp only [famAt_local (rdX_one hh), slotXs_local (rdX_one hh)]
    | _ => rfl
  · rfl
theorem appW_local {t tx : TypeId} {s x : SV} {h h' : List Blk} {nx : Nat} (hs : ∀ i ∈ reach h 1 (refs s), h[i]? = h'[i]?) (hx : ∀ i ∈ reach h 1 (refs x), h[i]? = h'[i]?) : appW P t tx s x h nx = appW P t tx s x h' nx := by
  have d : ∀ kf el, dstW kf el s h = dstW kf el s h' := fun kf el => by
    unfold dstW
    cases s with
    | row i => simp only [famAt_local (rdX_one (i := i) fun j hj => hs j (rdX_reach h [i] j hj))]
    | sl a b c d => cases c <;> cases d <;> rfl
    | v y =>
      cases y <;> try rfl
      rename_i a n c
      cases a <;> cases n <;> cases c <;> rfl
    | _ => rfl
  have r : ∀ kf, srcW kf x h = srcW kf x h' := fun kf => by
    unfold srcW
    cases x with
    | sl j o m c =>
      have hj := hx j (reach_self1 h [j] j (by simp))
      simp only [← hj]
      cases hb : h[j]? with
      | none => rfl
      | some b =>
        cases b with
        | cells e0 cs =>
          simp only
          rw [elemsF_local (cs := cs.drop o) fun i hi => ?_]
          obtain ⟨s, hs, hi⟩ := refsL_mem hi
          refine hx i ?_
          simp only [reach, refs, List.mem_append, List.flatMap_cons, List.flatMap_nil, List.append_nil, List.getD_eq_getElem?_getD, hb]
          exact .inr (mem_refsL (List.mem_of_mem_drop hs) hi)
        | _ => rfl
    | _ => rfl
  have g : ∀ i, x = .row i → famAt h i = famAt h' i := fun i e => by
    subst e
    exact famAt_local (rdX_one (i := i) fun j hj => hx j (rdX_reach h [i] j hj))
  unfold appW
  split
  · split
    · rfl
    · split
      · rw [d, r]
        split
        · split
          · rfl
          · split
            · rw [g _ rfl]
            · rfl
        · rfl
      · rfl
  · rfl
theorem opW_local {o : Oper} {e e' : Operand → SV} {h h' : List Blk} {nx : Nat} (he : ∀ x ∈ o.op.operands.toList, e x = e' x) (hh : ∀ i ∈ rdN o e h, h[i]? = h'[i]?) :
    opW P o e h nx = opW P o e' h' nx := by
  have hX : ∀ i ∈ rdX h (rdS o e), h[i]? = h'[i]? := fun i hi => by
    refine hh i ?_
    unfold rdN
    cases isApp o
    · exact hi
    · exact rdX_reach h _ i hi
  have hslot : ∀ x ∈ o.op.operands.toList, ∀ i ∈ rdX h (refs (e x)), h[i]? = h'[i]? := fun x hx i hi => hX i (rdX_mono (fun k hk => List.mem_flatMap.2 ⟨x, hx, hk⟩) i hi)
  unfold opW
  cases ho : o.op with
  | load t x =>
    have h1 := he x (by simp [ho, Op.operands])
    have h2 := hslot x (by simp [ho, Op.operands])
    simp only [← h1]
    cases hx : e x with
    | rowp i k off => rw [hx] at h2; simp only [loadF_local (rdX_one h2)]
    | _ => rfl
  | store t x y =>
    have h1 := he x (by simp [ho, Op.operands])
    have h3 := he y (by simp [ho, Op.operands])
    have h2 := hslot x (by simp [ho, Op.operands])
    have h4 := hslot y (by simp [ho, Op.operands])
    simp only [← h1, ← h3]
    cases hx : e x with
    | rowp i k off => rw [hx] at h2; simp only [storeF_local (rdX_one h2) (fun j hj => h4 j (rdX_self j hj)), storeA_local (rdX_one h2)]
    | _ => rfl
  | indexAddr t x y =>
    have h2 := hslot x (by simp [ho, Op.operands])
    simp only [← he x (by simp [ho, Op.operands]), ← he y (by simp [ho, Op.operands])]
    generalize P.underlying t = u
    generalize intOf (e y) = q
    cases u with
    | none => rfl
    | some d => cases d with
      | slice el =>
        cases hx : e x with
        | row i =>
          rw [hx] at h2
          cases q with
          | none => rfl
          | some q => simp only [famAt_local (rdX_one h2)]
        | _ => rfl
      | _ => rfl
  | makeSlice t x y => simp only [← he x (by simp [ho, Op.operands]), ← he y (by simp [ho, Op.operands])]
  | call c =>
    obtain ⟨cal, args, ts⟩ := c
    have hops : ∀ x ∈ args.toList, x ∈ o.op.operands.toList := fun x hx => by simp only [ho, Op.operands, Call.operands]; simp [Array.mem_toList_iff.1 hx]
    have hm : args.toList.map e = args.toList.map e' := List.map_congr_left fun x hx => he x (hops x hx)
    have hsl' : ∀ s ∈ args.toList.map e, ∀ i ∈ rdX h (refs s), h[i]? = h'[i]? := fun s hs i hi => by
      obtain ⟨x, hx, rfl⟩ := List.mem_map.1 hs
      exact hslot x (hops x hx) i hi
    have hsr : cal = .builtin .append → ∀ s ∈ args.toList.map e, ∀ i ∈ reach h 1 (refs s), h[i]? = h'[i]? := fun hc s hs i hi => by
      obtain ⟨x, hx, rfl⟩ := List.mem_map.1 hs
      refine hh i ?_
      unfold rdN
      have : isApp o = true := by unfold isApp; rw [ho, hc]
      rw [this]
      exact reach_mono1 h _ _ (fun k hk => List.mem_flatMap.2 ⟨x, hops x hx, hk⟩) i hi
    simp only [← hm]
    generalize args.toList.map e = l at hsl' hsr
    split
    · exact appW_local (hsr rfl _ (by simp)) (hsr rfl _ (by simp))
    · exact lenF_local (hsl' _ (by simp))
    · rfl
  | _ => rfl

theorem tupAt_local {i : Nat} {h h' : List Blk} (hh : h[i]? = h'[i]? ∧ ∀ j ∈ famOf h i, h[j]? = h'[j]?) : tupAt h i = tupAt h' i := by
  obtain ⟨h1, h2⟩ := hh
  unfold tupAt
  rw [← h1]
  cases hb : h[i]? with
  | none => rfl
  | some b =>
    cases b with
    | rr e g => simp only [h2 g (by simp [famOf, List.getD_eq_getElem?_getD, hb])]
    | rof g => simp only [h2 g (by simp [famOf, List.getD_eq_getElem?_getD, hb])]
    | _ => rfl
theorem derAt_local {i : Nat} {h h' : List Blk} (hh : h[i]? = h'[i]? ∧ ∀ j ∈ famOf h i, h[j]? = h'[j]?) : derAt h i = derAt h' i := by
  obtain ⟨h1, h2⟩ := hh
  unfold derAt
  rw [← h1]
  cases hb : h[i]? with
  | none => rfl
  | some b =>
    cases b with
    | rr e g => simp only [h2 g (by simp [famOf, List.getD_eq_getElem?_getD, hb])]
    | _ => rfl
theorem baseAt_local {i : Nat} {h h' : List Blk} (hh : h[i]? = h'[i]? ∧ ∀ j ∈ famOf h i, h[j]? = h'[j]?) : baseAt h i = baseAt h' i := by
  obtain ⟨h1, h2⟩ := hh
  unfold baseAt
  rw [← h1]
  cases hb : h[i]? with
  | none => rfl
  | some b =>
    cases b with
    | rr e g => simp only [h2 g (by simp [famOf, List.getD_eq_getElem?_getD, hb])]
    | _ => rfl
theorem rfmAt_local {i : Nat} {h h' : List Blk} (hh : h[i]? = h'[i]? ∧ ∀ j ∈ famOf h i, h[j]? = h'[j]?) : rfmAt h i = rfmAt h' i := by
  obtain ⟨h1, h2⟩ := hh
  unfold rfmAt
  rw [← h1]
  cases hb : h[i]? with
  | none => rfl
  | some b =>
    cases b with
    | rr e g => simp only [h2 g (by simp [famOf, List.getD_eq_getElem?_getD, hb])]
    | rof g => simp only [h2 g (by simp [famOf, List.getD_eq_getElem?_getD, hb])]
    | _ => rfl
theorem lenV_local {t : TypeId} {s : SV} {h h' : List Blk} (hh : ∀ i ∈ rdX h (refs s), h[i]? = h'[i]?) : lenV P t s h = lenV P t s h' := by
  unfold lenV
  split
  · cases s with
    | row i => simp only [tupAt_local (rdX_one hh), (rdX_one hh).1]
    | _ => rfl
  · rfl
theorem roView_local {kd : List Kd} {s : SV} {h h' : List Blk} (hh : ∀ i ∈ refs s, h[i]? = h'[i]?) : roView kd s h = roView kd s h' := by
  unfold roView
  cases s with
  | row j => simp only [hh j (by simp [refs])]
  | part j lo n f => simp only [hh j (by simp [refs])]
  | v y =>
    cases y <;> try rfl
    rename_i a n c
    cases a <;> cases n <;> cases c <;> rfl
  | _ => rfl
theorem cellsR_local {h h' : List Blk} : ∀ {ks : List Kf} {ss : List SV}, (∀ i ∈ refsL ss, h[i]? = h'[i]?) → cellsR h ks ss = cellsR h' ks ss
  | [], [], _ => rfl
  | [], _ :: _, _ => rfl
  | .k _ :: _, [], _ => rfl
  | .k _ :: _, _ :: _, _ => rfl
  | .sl _ _ :: _, [], _ => rfl
  | .sl _ kd :: ks, s :: ss, hh => by
    simp only [cellsR]
    rw [roView_local (s := s) fun i hi => hh i (by simp [refsL, hi]), cellsR_local (ks := ks) (ss := ss) fun i hi => hh i (by simp [refsL, hi])]
theorem appR_local {t tx : TypeId} {s x : SV} {h h' : List Blk} {nx : Nat} (hs : ∀ i ∈ reach h 1 (refs s), h[i]? = h'[i]?) (hx : ∀ i ∈ reach h 1 (refs x), h[i]? = h'[i]?) : appR P t tx s x h nx = appR P t tx s x h' nx := by
  have d : ∀ kf el, dstR kf el s h = dstR kf el s h' := fun kf el => by
    unfold dstR
    cases s with
    | row i =>
      have h1 := hs i (reach_self1 h [i] i (by simp))
      simp only [← h1]
      cases hb : h[i]? with
      | none => rfl
      | some b =>
        cases b with
        | rr e0 g =>
          have h2 := hs g (by simp [reach, refs, List.getD_eq_getElem?_getD, hb, blkRefs])
          simp only [h2]
        | _ => rfl
    | sl a b c d => cases c <;> cases d <;> rfl
    | v y =>
      cases y <;> try rfl
      rename_i a n c
      cases a <;> cases n <;> cases c <;> rfl
    | _ => rfl
  unfold appR
  split
  · split
    · cases x with
      | sl j o m c =>
        have hj := hx j (reach_self1 h [j] j (by simp))
        simp only [← hj]
        cases hb : h[j]? with
        | none => rfl
        | some b =>
          cases b with
          | cells e0 cs =>
            simp only [d]
            rw [cellsR_local fun i hi => ?_]
            obtain ⟨s, hs, hi⟩ := refsL_mem hi
            refine hx i ?_
            simp only [reach, refs, List.mem_append, List.flatMap_cons, List.flatMap_nil, List.append_nil, List.getD_eq_getElem?_getD, hb]
            exact .inr (mem_refsL (List.mem_of_mem_drop (List.mem_of_mem_take hs)) hi)
          | _ => rfl
      | _ => rfl
    · rfl
  · rfl
theorem appO_local {t tx : TypeId} {s x : SV} {h h' : List Blk} {nx : Nat} (hs : ∀ i ∈ reach h 1 (refs s), h[i]? = h'[i]?) (hx : ∀ i ∈ reach h 1 (refs x), h[i]? = h'[i]?) : appO P t tx s x h nx = appO P t tx s x h' nx := by
  unfold appO
  split
  · split
    · cases s with
      | sl j o m c => cases x with
        | row i => simp only [← hs j (reach_self1 h [j] j (by simp)), famAt_local (rdX_one (i := i) fun j hj => hx j (rdX_reach h [i] j hj))]
        | _ => rfl
      | _ => rfl
    · rfl
  · rfl
theorem opV_local {o : Oper} {e e' : Operand → SV} {h h' : List Blk} {nx : Nat} (he : ∀ x ∈ o.op.operands.toList, e x = e' x) (hh : ∀ i ∈ rdN o e h, h[i]? = h'[i]?) :
    opV P o e h nx = opV P o e' h' nx := by
  have hX : ∀ i ∈ rdX h (rdS o e), h[i]? = h'[i]? := fun i hi => by
    refine hh i ?_
    unfold rdN
    cases isApp o
    · exact hi
    · exact rdX_reach h _ i hi
  have hslot : ∀ x ∈ o.op.operands.toList, ∀ i ∈ rdX h (refs (e x)), h[i]? = h'[i]? := fun x hx i hi => hX i (rdX_mono (fun k hk => List.mem_flatMap.2 ⟨x, hx, hk⟩) i hi)
  unfold opV
  cases ho : o.op with
  | load t x =>
    have h1 := he x (by simp [ho, Op.operands])
    have h2 := hslot x (by simp [ho, Op.operands])
    simp only [← h1]
    cases hx : e x with
    | rowp i k off => rw [hx] at h2; simp only [loadD, loadR, derAt_local (rdX_one h2), rfmAt_local (rdX_one h2)]
    | _ => rfl
  | store t x y =>
    have h1 := he x (by simp [ho, Op.operands])
    have h3 := he y (by simp [ho, Op.operands])
    have h2 := hslot x (by simp [ho, Op.operands])
    simp only [← h1, ← h3]
    cases hx : e x with
    | rowp i k off => rw [hx] at h2; simp only [storeD, baseAt_local (rdX_one h2)]
    | _ => rfl
  | indexAddr t x y =>
    have h2 := hslot x (by simp [ho, Op.operands])
    simp only [← he x (by simp [ho, Op.operands]), ← he y (by simp [ho, Op.operands])]
    generalize P.underlying t = u
    generalize intOf (e y) = q
    cases u with
    | none => rfl
    | some d => cases d with
      | slice el =>
        cases hx : e x with
        | row i =>
          rw [hx] at h2
          cases q with
          | none => rfl
          | some q => simp only [tupAt_local (rdX_one h2)]
        | _ => rfl
      | _ => rfl
  | call c =>
    obtain ⟨cal, args, ts⟩ := c
    have hops : ∀ x ∈ args.toList, x ∈ o.op.operands.toList := fun x hx => by simp only [ho, Op.operands, Call.operands]; simp [Array.mem_toList_iff.1 hx]
    have hm : args.toList.map e = args.toList.map e' := List.map_congr_left fun x hx => he x (hops x hx)
    have hsl' : ∀ s ∈ args.toList.map e, ∀ i ∈ rdX h (refs s), h[i]? = h'[i]? := fun s hs i hi => by
      obtain ⟨x, hx, rfl⟩ := List.mem_map.1 hs
      exact hslot x (hops x hx) i hi
    have hsr : cal = .builtin .append → ∀ s ∈ args.toList.map e, ∀ i ∈ reach h 1 (refs s), h[i]? = h'[i]? := fun hc s hs i hi => by
      obtain ⟨x, hx, rfl⟩ := List.mem_map.1 hs
      refine hh i ?_
      unfold rdN
      have : isApp o = true := by unfold isApp; rw [ho, hc]
      rw [this]
      exact reach_mono1 h _ _ (fun k hk => List.mem_flatMap.2 ⟨x, hops x hx, hk⟩) i hi
    simp only [← hm]
    generalize args.toList.map e = l at hsl' hsr
    split
    · exact lenV_local (hsl' _ (by simp))
    · rw [appR_local (hsr rfl _ (by simp)) (hsr rfl _ (by simp)), appO_local (hsr rfl _ (by simp)) (hsr rfl _ (by simp))]
    · rfl
  | _ => rfl
theorem opA_local {o : Oper} {e e' : Operand → SV} {h h' : List Blk} {nx : Nat} (he : ∀ x ∈ o.op.operands.toList, e x = e' x) (hh : ∀ i ∈ rdN o e h, h[i]? = h'[i]?) :
    opA P o e h nx = opA P o e' h' nx := by
  have hX : ∀ i ∈ rdX h (rdS o e), h[i]? = h'[i]? := fun i hi => by
    refine hh i ?_
    unfold rdN
    cases isApp o
    · exact hi
    · exact rdX_reach h _ i hi
  unfold opA
  rw [opS_local he fun i hi => hX i (rdX_self i hi), opR_local he hX, opV_local he hh, opW_local he hh, opX_local he hX]

theorem callOf_local {o : Oper} {e e' : Operand → SV} (he : ∀ x ∈ o.op.operands.toList, e x = e' x) : callOf o e = callOf o e' := by
  unfold callOf
  cases ho : o.op with
  | call c =>
    obtain ⟨cal, args, ts⟩ := c
    have hargs : args.toList.map e = args.toList.map e' := List.map_congr_left fun x hx => he x (by simp only [ho, Op.operands, Call.operands]; simp [Array.mem_toList_iff.1 hx])
    simp only [hargs]
    cases cal with
    | value f => simp only [← he f (by simp [ho, Op.operands, Call.operands])]
    | _ => rfl
  | _ => rfl

theorem callOf_refs {o : Oper} {e : Operand → SV} {g : FuncId} {args : List SV} (h : callOf o e = some (g, args)) : ∀ i ∈ refsL args, i ∈ rdS o e := by
  unfold callOf at h
  split at h
  · rename_i c ho
    split at h
    · rename_i f hcal
      split at h
      · rename_i g' first cap hf
        cases h
        intro i hi
        obtain ⟨cal, cargs, ts⟩ := c
        simp only at hcal
        subst hcal
        simp only [refsL_append, List.mem_append] at hi
        unfold rdS
        rw [List.mem_flatMap]
        rcases hi with (hi | hi) | hi
        · exact ⟨f, by simp [ho, Op.operands, Call.operands], by rw [hf]; simp [refs, hi]⟩
        · obtain ⟨s, hs, hi⟩ := refsL_mem hi
          obtain ⟨x, hx, rfl⟩ := List.mem_map.1 hs
          exact ⟨x, by simp only [ho, Op.operands, Call.operands]; simp [Array.mem_toList_iff.1 hx], hi⟩
        · exact ⟨f, by simp [ho, Op.operands, Call.operands], by rw [hf]; simp [refs, hi]⟩
      · cases h
    · cases h
  · cases h

theorem restr_congr {l : List Nat} {h h' : List Blk} (hl : h.length = h'.length) (hh : ∀ i ∈ l, h[i]? = h'[i]?) : restr l 0 h = restr l 0 h' := by
  apply List.ext_getElem?
  intro k
  rw [restr_get, restr_get]
  by_cases hk : k ∈ l
  · rw [hh k hk]
  · have hc : l.contains (0 + k) = false := by simpa using hk
    simp only [hc, Bool.false_eq_true, if_false]
    by_cases hlt : k < h.length
    · rw [List.getElem?_eq_getElem hlt, List.getElem?_eq_getElem (hl ▸ hlt)]; rfl
    · rw [List.getElem?_eq_none (by omega), List.getElem?_eq_none (by omega)]

theorem reach_mono (h : List Blk) : ∀ (n : Nat) (l m : List Nat), (∀ i ∈ l, i ∈ m) → ∀ i ∈ reach h n l, i ∈ reach h n m
  | 0, _, _, hs => hs
  | n + 1, l, m, hs => fun i hi => by
    simp only [reach, List.mem_append] at hi ⊢
    rcases hi with hi | hi
    · exact .inl (hs i hi)
    · refine .inr (reach_mono h n _ _ (fun j hj => ?_) i hi)
      obtain ⟨k, hk, hj⟩ := List.mem_flatMap.1 hj
      exact List.mem_flatMap.2 ⟨k, hs k hk, hj⟩

theorem reach_self (h : List Blk) (n : Nat) (l : List Nat) : ∀ i ∈ l, i ∈ reach h n l := fun i hi => by
  cases n with
  | zero => exact hi
  | succ n => exact List.mem_append_left _ hi

theorem opA_move {o : Oper} (hm : isMove o = true) {e e' : Operand → SV} (h h' : List Blk) (nx : Nat) (he : ∀ x ∈ o.op.operands.toList, e x = e' x) : opA P o e h nx = opA P o e' h' nx := by
  unfold isMove at hm
  split at hm
  · rename_i x ho
    have hx := he x (by simp [ho, Op.operands])
    simp only [opA, opR, opS, ho, hx, ret]
  · cases hm

theorem rdH_local {o : Oper} {e e' : Operand → SV} {h h' : List Blk} (he : ∀ x ∈ o.op.operands.toList, e x = e' x) (hh : ∀ i ∈ rdH o e h, h[i]? = h'[i]?) : rdH o e h = rdH o e' h' := by
  have hr : rdS o e = rdS o e' := by
    unfold rdS
    rw [List.flatMap_def, List.flatMap_def]
    congr 1
    exact List.map_congr_left fun x hx => by rw [he x hx]
  unfold rdH at hh ⊢
  rw [← callOf_local he]
  cases hc : callOf o e with
  | none =>
    rw [hc] at hh
    simp only at hh ⊢
    cases hm : isMove o with
    | true => rfl
    | false =>
      rw [hm] at hh
      simp only [cond_false] at hh ⊢
      unfold rdN at hh ⊢
      rw [← hr]
      cases ha : isApp o with
      | true => rw [ha] at hh; exact reach_congr 1 _ hh
      | false => rw [ha] at hh; exact rdX_congr hh
  | some q => rw [hc] at hh; rw [← hr]; exact reach_congr 4 _ hh

theorem opC_local {o : Oper} {e e' : Operand → SV} {h h' : List Blk} {nx : Nat} (hl : h.length = h'.length) (he : ∀ x ∈ o.op.operands.toList, e x = e' x) (hh : ∀ i ∈ rdH o e h, h[i]? = h'[i]?) :
    opC P Γ o e h nx = opC P Γ o e' h' nx := by
  unfold opC
  rw [← callOf_local he]
  cases hc : callOf o e with
  | none =>
    cases hm : isMove o with
    | true => exact opA_move hm h h' nx he
    | false => exact opA_local he fun i hi => hh i (by unfold rdH; rw [hc, hm]; exact hi)
  | some q =>
    obtain ⟨g, args⟩ := q
    simp only
    have hre : ∀ i ∈ reach h 4 (refsL args), h[i]? = h'[i]? := fun i hi => by
      refine hh i ?_
      unfold rdH
      rw [hc]
      exact reach_mono h 4 _ _ (callOf_refs hc) i hi
    have := restr_congr (l := reach h 4 (refsL args)) hl hre
    rw [← reach_congr 4 (refsL args) hre]
    simp only [this]

theorem strip_refs (s : SV) : refs (strip s) = refs s := by cases s <;> rfl

theorem opO_local {o : Oper} {e e' : Operand → SV} {h h' : List Blk} {nx : Nat} (hl : h.length = h'.length) (he : ∀ x ∈ o.op.operands.toList, e x = e' x) (hh : ∀ i ∈ rdH o (fun x => strip (e x)) h, h[i]? = h'[i]?) :
    opO P Γ o e h nx = opO P Γ o e' h' nx := by
  have hc : (opC P Γ o (fun x => strip (e x)) h nx).map (fun q => (⟨o.op.operands.toList.flatMap (fun x => sneed (e x)) ++ q.need, litR Γ q.val, q.eff⟩ : Res)) =
      (opC P Γ o (fun x => strip (e' x)) h' nx).map (fun q => (⟨o.op.operands.toList.flatMap (fun x => sneed (e' x)) ++ q.need, litR Γ q.val, q.eff⟩ : Res)) := by
    rw [opC_local hl (e' := fun x => strip (e' x)) (fun x hx => by rw [he x hx]) hh]
    have : o.op.operands.toList.flatMap (fun x => sneed (e x)) = o.op.operands.toList.flatMap (fun x => sneed (e' x)) := by
      rw [List.flatMap_def, List.flatMap_def]
      congr 1
      exact List.map_congr_left fun x hx => by rw [he x hx]
    rw [this]
  unfold opO
  cases ho : o.op with
  | pick c x y => simp only [← he c (by simp [ho, Op.operands]), ← he x (by simp [ho, Op.operands]), ← he y (by simp [ho, Op.operands])]
  | _ => simp only [ho] at hc; exact hc

theorem pick_wp {ro : Option Nat} {n : Nat} {o : Oper} {c x y : Operand} {r : Res} {e : Operand → SV} (ho : o.op = .pick c x y) (h : pickS (e c) (e x) (e y) = some r) (hneed : allNeed r.need) (EV : ∀ x, DV ρ (e x) (a.eval x)) (D : DH E ρ st.heap w)
    {next : Act → World → Prop} {Q : Exit → Act → World → Prop}
    (hn : ∀ y w' ρ', Ext ρ ρ' → DV ρ' r.val y → DH E ρ' (applyEff r.eff st.heap) w' → next (a.put o.dst y) w') : o.wpIn (FW ro) n P a w next Q := by
  have key : ∀ (t : Bool) (s : SV), a.eval c = .bool t → DV ρ s (if t then a.eval x else a.eval y) → r.val = s → r.eff = [] → o.wpIn (FW ro) n P a w next Q := by
    intro t s hc hs hv he
    obtain ⟨y, w', ρ', hdid, hx, hy, hD⟩ := ok_pick (P := P) (o := o) (ev := a.eval) ho hc D hs
    refine wpIn_of_run (fun c hc' => by rw [ho] at hc'; cases hc') ?_
    rcases hdid with hr | ⟨hr, rfl⟩ <;> rw [hr] <;> exact hn _ w' ρ' hx (by rw [hv]; exact hy) (by rw [he]; exact hD)
  unfold pickS at h
  split at h
  · rename_i t ht
    cases h
    have hc := strip_DV hneed (EV c)
    rw [ht] at hc
    simp only [DV] at hc
    exact key t (cond t (e x) (e y)) hc (by cases t <;> simp [EV]) rfl rfl
  · rename_i t ht
    split at h
    · rename_i ga p gb q ha hb
      cases h
      simp only [allNeed_iff, List.mem_append, List.mem_cons, List.not_mem_nil, or_false] at hneed
      have hc := strip_DV (allNeed_iff.2 fun p hp => hneed p (.inl hp)) (EV c)
      rw [ht] at hc
      simp only [DV] at hc
      refine key t (.b (cond t p q)) hc ?_ rfl rfl
      cases t with
      | true => simp only [DV, if_true, cond_true]; exact boolOf_DV ha (by simpa using hneed (cond true ga true) (.inr (.inl rfl))) (EV x)
      | false => simp only [DV, Bool.false_eq_true, if_false, cond_false]; exact boolOf_DV hb (by simpa using hneed (cond false true gb) (.inr (.inr rfl))) (EV y)
    · cases h
  · cases h

/-- An operation of the machine's, by what the engine says. -/
theorem opO_wp (hΓ : PCok P Γ) {ro : Option Nat} {n : Nat} {o : Oper} {nx : Nat} {r : Res} (h : opO P Γ o (evR st.regs) st.heap nx = some r) (hneed : allNeed r.need) (D : Den E ρ st a w) (f : Free st.heap nx)
    {next : Act → World → Prop} {Q : Exit → Act → World → Prop}
    (hn : ∀ y w' ρ', Ext ρ ρ' → DV ρ' r.val y → DH E ρ' (applyEff r.eff st.heap) w' → next (a.put o.dst y) w') : o.wpIn (FW ro) n P a w next Q := by
  have main : (opC P Γ o (fun x => strip (evR st.regs x)) st.heap nx).map (fun q => (⟨o.op.operands.toList.flatMap (fun x => sneed (evR st.regs x)) ++ q.need, litR Γ q.val, q.eff⟩ : Res)) = some r → o.wpIn (FW ro) n P a w next Q := by
    intro h
    simp only [Option.map_eq_some_iff] at h
    obtain ⟨q, hq, rfl⟩ := h
    simp only [allNeed_iff, List.mem_append, List.mem_flatMap] at hneed
    have hs : ∀ x ∈ o.op.operands.toList, strip (evR st.regs x) = stripT (evR st.regs x) := fun x hx => (stripT_eq (allNeed_iff.2 fun p hp => hneed p (.inl ⟨x, hx, hp⟩))).symm
    rw [opC_local (e' := fun x => stripT (evR st.regs x)) rfl hs (fun i _ => rfl)] at hq
    exact opC_wp' hΓ hq (allNeed_iff.2 fun p hp => hneed p (.inr hp)) (fun x => stripT_DV (D.ev x)) D.heap f fun y w' ρ' hx hy => hn y w' ρ' hx (litR_DV hy)
  unfold opO at h
  cases ho : o.op with
  | pick c x y => simp only [ho] at h; exact pick_wp ho h hneed D.ev D.heap hn
  | _ => simp only [ho] at h main; exact main h

/-! ### Two operations apart -/

def disj (l m : List Nat) : Bool := l.all fun i => !m.contains i

def indepB (ops : Array Oper) (oi oj : Oper) (qi qj : Rec) : Bool :=
  oi.apart ops oj && (disj (qi.eff.map (·.1)) qj.2 && (disj (qj.eff.map (·.1)) qi.2 && disj (qi.eff.map (·.1)) (qj.eff.map (·.1))))

theorem disj_iff {l m : List Nat} : disj l m = true ↔ ∀ i ∈ l, i ∉ m := by simp [disj]

theorem setR_getElem? {r : List SV} {d : Option Tmp} {s : SV} {t : Nat} (h : ∀ u, d = some u → u ≠ t) : (setR r d s)[t]? = r[t]? := by
  cases d with
  | none => rfl
  | some u => simp [setR, List.getElem?_set_ne (h u rfl)]

theorem evR_setR {r : List SV} {d : Option Tmp} {s : SV} {x : Operand} (h : ∀ u, d = some u → x ≠ .tmp u) : evR (setR r d s) x = evR r x := by
  cases x with
  | tmp t => simp only [evR, List.getD_eq_getElem?_getD]; rw [setR_getElem? fun u hu e => h u hu (by rw [e])]
  | _ => rfl

theorem setR_length (r : List SV) (d : Option Tmp) (s : SV) : (setR r d s).length = r.length := by cases d <;> simp [setR]

theorem setR_comm (r : List SV) {d d' : Option Tmp} (s s' : SV) (h : ∀ u, d = some u → d' ≠ some u) : setR (setR r d s) d' s' = setR (setR r d' s') d s := by
  cases d with
  | none => rfl
  | some u =>
    cases d' with
    | none => rfl
    | some v => simp only [setR]; exact List.set_comm _ _ (fun e => h u rfl (by rw [e]))

theorem gv_local {o : Oper} {r r' : List SV} (h : ∀ g b, o.guard = some (g, b) → ∀ t, (ops[g]?).bind (·.dst) = some t → r[t]? = r'[t]?) : gv ops o r = gv ops o r' := by
  unfold gv
  cases hg : o.guard with
  | none => rfl
  | some jw =>
    obtain ⟨j, want⟩ := jw
    simp only
    cases ht : (ops[j]?).bind (·.dst) with
    | none => rfl
    | some t => simp only [h j want hg t ht]

theorem putB_len {i : Nat} {b : Blk} {h : List Blk} (hi : i < h.length) : (putB i b h).length = h.length := by simp [putB, hi]

theorem applyEff_length : ∀ (l : List (Nat × Blk)) (h : List Blk), (∀ s ∈ l.map (·.1), s < h.length) → (applyEff l h).length = h.length
  | [], _, _ => rfl
  | x :: l, h, hl => by
    have hx := hl x.1 (by simp)
    show (applyEff l (putB x.1 x.2 h)).length = _
    rw [applyEff_length l _ (fun s hs => by rw [putB_len hx]; exact hl s (by simp only [List.map_cons, List.mem_cons]; exact .inr hs)), putB_len hx]

theorem applyEff_get : ∀ (l : List (Nat × Blk)) (h : List Blk) (k : Nat), (∀ s ∈ l.map (·.1), s < h.length) → k ∉ l.map (·.1) → (applyEff l h)[k]? = h[k]?
  | [], _, _, _, _ => rfl
  | x :: l, h, k, hl, hk => by
    have hx := hl x.1 (by simp)
    simp only [List.map_cons, List.mem_cons, not_or] at hk
    show (applyEff l (putB x.1 x.2 h))[k]? = _
    rw [applyEff_get l _ k (fun s hs => by rw [putB_len hx]; exact hl s (by simp only [List.map_cons, List.mem_cons]; exact .inr hs)) hk.2, putB_get (by omega), if_neg hk.1]

theorem putB_comm {i j : Nat} {b c : Blk} {h : List Blk} (hi : i < h.length) (hj : j < h.length) (hne : i ≠ j) : putB i b (putB j c h) = putB j c (putB i b h) := by
  apply List.ext_getElem?
  intro k
  rw [putB_get (by rw [putB_len hj]; omega), putB_get (by omega), putB_get (by rw [putB_len hi]; omega), putB_get (by omega)]
  split <;> split <;> first | rfl | omega

theorem applyEff_put (i : Nat) (b : Blk) : ∀ (l : List (Nat × Blk)) (h : List Blk), (∀ s ∈ l.map (·.1), s < h.length) → i < h.length → i ∉ l.map (·.1) → applyEff l (putB i b h) = putB i b (applyEff l h)
  | [], _, _, _, _ => rfl
  | x :: l, h, hl, hi, hn => by
    have hx := hl x.1 (by simp)
    simp only [List.map_cons, List.mem_cons, not_or] at hn
    show applyEff l (putB x.1 x.2 (putB i b h)) = putB i b (applyEff l (putB x.1 x.2 h))
    rw [putB_comm hx hi (fun e => hn.1 e.symm), applyEff_put i b l _ (fun s hs => by rw [putB_len hx]; exact hl s (by simp only [List.map_cons, List.mem_cons]; exact .inr hs)) (by rw [putB_len hx]; exact hi) hn.2]

theorem applyEff_comm : ∀ (l m : List (Nat × Blk)) (h : List Blk), (∀ s ∈ l.map (·.1), s < h.length) → (∀ s ∈ m.map (·.1), s < h.length) → (∀ s ∈ l.map (·.1), s ∉ m.map (·.1)) →
    applyEff m (applyEff l h) = applyEff l (applyEff m h)
  | [], _, _, _, _, _ => rfl
  | x :: l, m, h, hl, hm, hd => by
    have hx := hl x.1 (by simp)
    have hl' : ∀ s ∈ l.map (·.1), s < (putB x.1 x.2 h).length := fun s hs => by rw [putB_len hx]; exact hl s (by simp only [List.map_cons, List.mem_cons]; exact .inr hs)
    show applyEff m (applyEff l (putB x.1 x.2 h)) = applyEff l (putB x.1 x.2 (applyEff m h))
    rw [applyEff_comm l m (putB x.1 x.2 h) hl' (fun s hs => by rw [putB_len hx]; exact hm s hs) (fun s hs => hd s (by simp only [List.map_cons, List.mem_cons]; exact .inr hs)),
      applyEff_put x.1 x.2 m h hm hx (hd x.1 (by simp))]

/-- An operation is not disturbed by one that is apart from it. -/
theorem Stp.over {pl : Nat → Nat} {j : Nat} {oj : Oper} {qj : Rec} {X Y : St} (hj : Stp P Γ ops pl j oj qj X) (hlen : Y.heap.length = X.heap.length)
    (hr : ∀ x ∈ oj.op.operands.toList, evR X.regs x = evR Y.regs x) (hg : gv ops oj X.regs = gv ops oj Y.regs) (hh : ∀ s ∈ qj.2, X.heap[s]? = Y.heap[s]?) : Stp P Γ ops pl j oj qj Y := by
  obtain ⟨h1, h3, h4⟩ := hj
  refine ⟨h1.imp (fun e => e.trans hlen.symm) (fun g i hi => ⟨by rw [← hh _ (g i hi).2]; exact (g i hi).1, (g i hi).2⟩), fun s hs => by rw [hlen]; exact h3 s hs, ?_⟩
  cases hq : qj.1 with
  | none => simp only [hq] at h4 ⊢; rw [← hg]; exact h4
  | some r =>
    simp only [hq] at h4 ⊢
    obtain ⟨hrd, r0, hop, hrest⟩ := h4
    have hrd' : rdH oj (fun x => strip (evR X.regs x)) X.heap = rdH oj (fun x => strip (evR Y.regs x)) Y.heap := rdH_local (fun x hx => by rw [hr x hx]) fun s hs => hh s (hrd s hs)
    refine ⟨fun s hs => hrd s (by rw [hrd']; exact hs), r0, ?_, by rw [← hg]; exact hrest⟩
    rw [← opO_local hlen.symm hr fun s hs => hh s (hrd s hs)]
    exact hop

theorem looks_op {o : Oper} {t : Tmp} (h : Operand.tmp t ∈ o.op.operands.toList) : t ∈ o.looksAt ops := by
  unfold Oper.looksAt
  exact List.mem_append_left _ (List.mem_filterMap.2 ⟨_, h, rfl⟩)

theorem looks_guard {o : Oper} {g : Nat} {b : Bool} {t : Tmp} (hg : o.guard = some (g, b)) (ht : (ops[g]?).bind (·.dst) = some t) : t ∈ o.looksAt ops := by
  unfold Oper.looksAt
  apply List.mem_append_right
  simp [hg, ht]

theorem apart_regs {oi oj : Oper} {q : Rec} {X : St} (h : ∀ d, oi.dst = some d → d ∉ oj.looksAt ops) :
    (∀ x ∈ oj.op.operands.toList, evR (apply oi q X).regs x = evR X.regs x) ∧ gv ops oj (apply oi q X).regs = gv ops oj X.regs := by
  refine ⟨fun x hx => evR_setR fun u hu e => h u hu (looks_op (e ▸ hx)), gv_local fun g b hg t ht => setR_getElem? fun u hu e => h u hu (by rw [e]; exact looks_guard hg ht)⟩

/-- Two that are apart may go either way. -/
theorem diamond {pl : Nat → Nat} {i j : Nat} {oi oj : Oper} {qi qj : Rec} {X : St} (hi : Stp P Γ ops pl i oi qi X) (hj : Stp P Γ ops pl j oj qj (apply oi qi X)) (h : indepB ops oi oj qi qj = true) :
    Stp P Γ ops pl j oj qj X ∧ Stp P Γ ops pl i oi qi (apply oj qj X) ∧ apply oj qj (apply oi qi X) = apply oi qi (apply oj qj X) := by
  simp only [indepB, Bool.and_eq_true, disj_iff] at h
  obtain ⟨ha, h1, h2, h3⟩ := h
  obtain ⟨a1, a2, a3⟩ := Oper.apart_spec ha
  have li : (applyEff qi.eff X.heap).length = X.heap.length := applyEff_length _ _ hi.2.1
  have hj3 : ∀ s ∈ qj.eff.map (·.1), s < X.heap.length := fun s hs => by have := hj.2.1 s hs; simpa [apply, li] using this
  have lj : (applyEff qj.eff X.heap).length = X.heap.length := applyEff_length _ _ hj3
  have r1 := apart_regs (q := qi) (X := X) a1
  have r2 := apart_regs (q := qj) (X := X) a3
  refine ⟨hj.over (by simp [apply, li]) (fun x hx => r1.1 x hx) r1.2 fun s hs => ?_, hi.over (by simp [apply, lj]) (fun x hx => (r2.1 x hx).symm) r2.2.symm fun s hs => ?_, ?_⟩
  · exact applyEff_get _ _ s hi.2.1 fun hc => h1 s hc hs
  · exact (applyEff_get _ _ s hj3 fun hc => h2 s hc hs).symm
  · simp only [apply]
    rw [setR_comm _ _ _ a2, applyEff_comm _ _ _ hi.2.1 hj3 h3]

inductive Chain (P : Program) (Γ : PC) (ops : Array Oper) (pl : Nat → Nat) : St → List (Nat × Rec) → St → Prop
  | nil (X : St) : Chain P Γ ops pl X [] X
  | cons {X Y : St} {i : Nat} {o : Oper} {q : Rec} {l : List (Nat × Rec)} (ho : ops[i]? = some o) (h : Stp P Γ ops pl i o q X) (t : Chain P Γ ops pl (apply o q X) l Y) : Chain P Γ ops pl X ((i, q) :: l) Y

def Apart (ops : Array Oper) (x y : Nat × Rec) : Prop := ∃ ox oy, ops[x.1]? = some ox ∧ ops[y.1]? = some oy ∧ indepB ops ox oy x.2 y.2 = true

/-- What is apart from all ahead of it may go first. -/
theorem Chain.front {pl : Nat → Nat} {i : Nat} {q : Rec} {l2 : List (Nat × Rec)} {Y : St} : ∀ (l1 : List (Nat × Rec)) (X : St), Chain P Γ ops pl X (l1 ++ (i, q) :: l2) Y → (∀ x ∈ l1, Apart ops x (i, q)) →
    ∃ o, ops[i]? = some o ∧ Stp P Γ ops pl i o q X ∧ Chain P Γ ops pl (apply o q X) (l1 ++ l2) Y
  | [], X, h, _ => by
    cases h with
    | cons ho hs t => exact ⟨_, ho, hs, t⟩
  | x :: l1, X, h, ha => by
    cases h with
    | cons ho hs t =>
      rename_i j o qj
      obtain ⟨o', ho', hs', t'⟩ := Chain.front l1 _ t fun y hy => ha y (by simp [hy])
      obtain ⟨ox, oy, hx, hy, hin⟩ := ha _ (List.mem_cons_self ..)
      simp only at hx hy hin
      rw [ho] at hx; cases hx
      rw [ho'] at hy; cases hy
      obtain ⟨d1, d2, d3⟩ := diamond hs hs' hin
      refine ⟨o', ho', d1, .cons ho d2 ?_⟩
      rw [← d3]; exact t'

end
end Go.Eng
