/- The engine: the code, run. No condition. -/
import Derived.Test.YtbkninekhmnfdaaV3F
namespace Go.Eng

/-- The engine stands still: why, and where. -/
inductive Stuck (why pos : String) : Prop
theorem Stuck.elim {why pos : String} {C : Prop} (h : Stuck why pos) : C := by cases h

/-- Facts that are owed, ahead of what follows. -/
def conjB : List Bool → Prop → Prop
  | [], k => k
  | b :: r, k => cond b (conjB r k) False

theorem conjB_iff : ∀ {l : List Bool} {k : Prop}, conjB l k → allNeed l ∧ k
  | [], _, h => ⟨trivial, h⟩
  | b :: r, k, h => by
    cases b with
    | false => exact h.elim
    | true => exact ⟨⟨rfl, (conjB_iff (l := r) h).1⟩, (conjB_iff (l := r) h).2⟩

theorem allNeed_append {l m : List Bool} (h : allNeed (l ++ m)) : allNeed l ∧ allNeed m := by
  induction l with
  | nil => exact ⟨trivial, h⟩
  | cons p l ih => exact ⟨⟨h.1, (ih h.2).1⟩, (ih h.2).2⟩

/-! ### A region that draws -/

/-- It may be done ahead of its guard: each need is owed by the guard alone. -/
def under (g : Bool) (l : List Bool) : List Bool := l.map fun n => or n (!g)

/-- Four slots without a block, one behind the other. -/
def holeB (b : Option Blk) : Bool := match b with
  | some .hole => true
  | _ => false
def holesB (h : List Blk) (n : Nat) : Bool := holeB h[n]? && (holeB h[n + 1]? && (holeB h[n + 2]? && holeB h[n + 3]?))
theorem holeB_iff {b : Option Blk} (h : holeB b = true) : b = some .hole := by
  unfold holeB at h
  split at h
  · rfl
  · cases h
theorem holesB_ok {h : List Blk} {n : Nat} (hb : holesB h n = true) : ∀ j, j < 4 → h[n + j]? = some .hole := by
  simp only [holesB, Bool.and_eq_true] at hb
  intro j hj
  match j, hj with
  | 0, _ => exact holeB_iff hb.1
  | 1, _ => exact holeB_iff hb.2.1
  | 2, _ => exact holeB_iff hb.2.2.1
  | 3, _ => exact holeB_iff hb.2.2.2
/-- Which operations may make memory. -/
def makesB (o : Oper) : Bool := match o.op with
  | .call c => match c.callee with
    | .builtin .append => true
    | .builtin _ => false
    | _ => true
  | .alloc _ => true
  | .box _ _ => true
  | .buildSlice _ _ _ => true
  | .makeSlice _ _ _ => true
  | .makeMap _ _ => true
  | _ => false
/-- Where each may make it. -/
def placesL (tot : Nat) : List Oper → Nat → List Nat
  | [], _ => []
  | o :: r, n => cond (makesB o) (n :: placesL tot r (n + 4)) (tot :: placesL tot r n)
def roomOf (l : List Oper) : Nat := l.foldl (fun n o => cond (makesB o) (n + 4) n) 0

/-- One operation. -/
def stepD (P : Program) (Γ : PC) (ops : Array Oper) (pl : Nat → Nat) (i : Nat) (o : Oper) (k : St → Rec → Prop) (st : St) : Prop :=
  cond (Nat.beq (pl i) st.heap.length || holesB st.heap (pl i)) (
    let own := cond (Nat.beq (pl i) st.heap.length) [] [pl i, pl i + 1, pl i + 2, pl i + 3]
    let no := goSt o (none, own) st fun st' => k st' (none, own)
    bareNs (own ++ rdH o (fun x => strip (evR st.regs x)) st.heap) fun rd =>
    let go (r0 : Res) := bareEff r0.eff fun eff => cond (eff.all (fun e => decide (e.1 < st.heap.length)))
      (conjB r0.need (nameR (isComp o (evR st.regs)) r0.val fun v => goSt o (some ⟨[], v, eff⟩, rd) st fun st' => k st' (some ⟨[], v, eff⟩, rd))) (Stuck "store" o.pos)
    match gv ops o st.regs with
    | .bad => Stuck "guard" o.pos
    | .no => no
    | .go => match opO P Γ o (evR st.regs) st.heap (pl i) with
      | none => Stuck "draw" o.pos
      | some r0 => go r0
    | .spec g => match opO P Γ o (evR st.regs) st.heap (pl i) with
      | none => cond g (Stuck "draw" o.pos) no
      | some r0 => match r0.eff with
        | [] => conjB (under g r0.need) (nameR (isComp o (evR st.regs)) r0.val fun v => goSt o (some ⟨[], .opt g v, []⟩, rd) st fun st' => k st' (some ⟨[], .opt g v, []⟩, rd))
        | _ :: _ => cond g (go r0) no) (Stuck "slot" o.pos)

/-- The operations in the text's order, each with what it did. -/
def runDl (P : Program) (Γ : PC) (ops : Array Oper) (pl : Nat → Nat) : List Nat → St → List (Nat × Rec) → (St → List (Nat × Rec) → Prop) → Prop
  | [], st, recs, K => K st recs
  | i :: r, st, recs, K => match ops[i]? with
    | none => Stuck "draw" ""
    | some o => stepD P Γ ops pl i o (fun st' q => runDl P Γ ops pl r st' ((i, q) :: recs) K) st

def backB (ops : Array Oper) : Bool := (List.range ops.size).all fun i => match ops[i]? with
  | some o => o.after.toList.all fun e => !Region.binds .any e || decide (e.on < i)
  | none => true

/-- Numbers as bits. -/
def maskOf : List Nat → Nat
  | [] => 0
  | t :: r => 2 ^ t ||| maskOf r

theorem maskOf_bit : ∀ (l : List Nat) (i : Nat), (maskOf l).testBit i = true ↔ i ∈ l
  | [], i => by simp [maskOf]
  | t :: r, i => by
    simp only [maskOf, Nat.testBit_or, Nat.testBit_two_pow, Bool.or_eq_true, decide_eq_true_eq, List.mem_cons, maskOf_bit r i]
    constructor
    · rintro (h | h)
      · exact .inl h.symm
      · exact .inr h
    · rintro (h | h)
      · exact .inl h.symm
      · exact .inr h

theorem disj_of_mask {l m : List Nat} (h : maskOf l &&& maskOf m = 0) : disj l m = true := by
  rw [disj_iff]
  intro i hi hm
  have h1 := (maskOf_bit l i).2 hi
  have h2 := (maskOf_bit m i).2 hm
  have := congrArg (·.testBit i) h
  simp [Nat.testBit_and, h1, h2] at this

/-- Ancestors as bits, operation by operation. -/
def ancMs (l : List Oper) : List Nat → List Nat := fun acc => match l with
  | [] => acc
  | o :: r => ancMs r (acc ++ [o.after.toList.foldl (fun m e => if Region.binds .any e = true then m ||| 2 ^ e.on ||| acc.getD e.on 0 else m) 0])

/-- What a step touches: what it writes and reads of the frame, and of memory; its ancestors. -/
structure Touch where
  d : Nat
  l : Nat
  wr : Nat
  rd : Nat
  an : Nat

def touchOf (ops : Array Oper) (o : Oper) (q : Rec) (an : Nat) : Touch :=
  ⟨maskOf o.dst.toList, maskOf (o.looksAt ops), maskOf (q.eff.map (·.1)), maskOf q.2, an⟩

def okPair (i : Nat) (x y : Touch) : Bool :=
  (x.d &&& y.l) ||| (x.d &&& y.d) ||| (y.d &&& x.l) ||| (x.wr &&& y.rd) ||| (y.wr &&& x.rd) ||| (x.wr &&& y.wr) == 0 || y.an.testBit i

def touches (ops : Array Oper) (an : List Nat) : List (Nat × Rec) → List (Nat × Touch)
  | [] => []
  | x :: r => match ops[x.1]? with
    | some o => (x.1, touchOf ops o x.2 (an.getD x.1 0)) :: touches ops an r
    | none => (x.1, ⟨1, 1, 0, 0, 0⟩) :: touches ops an r

def pairsT : List (Nat × Touch) → Bool
  | [] => true
  | y :: l => l.all (fun x => okPair y.1 y.2 x.2) && pairsT l

def someAll (ops : Array Oper) (l : List (Nat × Rec)) : Bool := l.all fun x => (ops[x.1]?).isSome

/-- The order makes no difference. -/
def pairsB (ops : Array Oper) (l : List (Nat × Rec)) : Bool := someAll ops l && pairsT (touches ops (ancMs ops.toList []) l)

def runD (P : Program) (Γ : PC) (ops : Array Oper) (pl : Nat → Nat) (st0 : St) (K : St → Prop) : Prop :=
  bareSt st0 fun st0 => runDl P Γ ops pl (List.range ops.size) st0 [] fun Y recs => cond (backB ops && pairsB ops recs.reverse) (K Y) (Stuck "order" "")

section
variable {P : Program} {Γ : PC} {E : Env} {w : World} {a : Act} {ops : Array Oper} {asg : List Tmp}

theorem under_iff {g : Bool} {l : List Bool} (h : allNeed (under g l)) (hg : g = true) : allNeed l := by
  rw [allNeed_iff] at h ⊢
  intro p hp
  have := h (or p (!g)) (List.mem_map.2 ⟨p, hp, rfl⟩)
  subst hg
  simpa using this

theorem stepD_stp {pl : Nat → Nat} {i : Nat} {o : Oper} {k : St → Rec → Prop} {st : St} (h : stepD P Γ ops pl i o k st) : ∃ q, Stp P Γ ops pl i o q st ∧ k (apply o q st) q := by
  unfold stepD at h
  cases hb : (Nat.beq (pl i) st.heap.length || holesB st.heap (pl i)) with
  | false => rw [hb] at h; exact h.elim
  | true =>
    rw [hb] at h
    simp only [goSt_eq, cond_true, bareNs_eq, bareEff_eq] at h
    generalize hown : cond (Nat.beq (pl i) st.heap.length) [] [pl i, pl i + 1, pl i + 2, pl i + 3] = own at h
    have hhole : ∀ l : List Nat, pl i = st.heap.length ∨ ∀ j, j < 4 → st.heap[pl i + j]? = some .hole ∧ pl i + j ∈ own ++ l := fun l => by
      cases hc : Nat.beq (pl i) st.heap.length with
      | true => exact .inl (Nat.eq_of_beq_eq_true hc)
      | false =>
        rw [hc] at hb hown
        simp only [Bool.false_or, cond_false] at hb hown
        refine .inr fun j hj => ⟨holesB_ok hb j hj, List.mem_append_left _ ?_⟩
        rw [← hown]
        match j, hj with
        | 0, _ => simp
        | 1, _ => simp
        | 2, _ => simp
        | 3, _ => simp
    have mkNo : (gv ops o st.regs = .no ∨ gv ops o st.regs = .spec false) → k (apply o (none, own) st) (none, own) → ∃ q, Stp P Γ ops pl i o q st ∧ k (apply o q st) q := fun hg hk =>
      ⟨(none, own), ⟨by simpa using hhole [], by simp [Rec.eff], hg⟩, hk⟩
    have mkGo : ∀ r0, opO P Γ o (evR st.regs) st.heap (pl i) = some r0 → (gv ops o st.regs = .go ∨ gv ops o st.regs = .spec true) →
        cond (r0.eff.all (fun e => decide (e.1 < st.heap.length)))
          (conjB r0.need (nameR (isComp o (evR st.regs)) r0.val fun v => k (apply o (some ⟨[], v, r0.eff⟩, own ++ rdH o (fun x => strip (evR st.regs x)) st.heap) st) (some ⟨[], v, r0.eff⟩, own ++ rdH o (fun x => strip (evR st.regs x)) st.heap))) (Stuck "store" o.pos) →
        ∃ q, Stp P Γ ops pl i o q st ∧ k (apply o q st) q := by
      intro r0 hr0 hg h
      cases hlt : r0.eff.all (fun e => decide (e.1 < st.heap.length)) with
      | false => rw [hlt] at h; exact h.elim
      | true =>
        rw [hlt] at h
        obtain ⟨hn, h⟩ := conjB_iff h
        have h := nameR_elim h
        refine ⟨(some ⟨[], r0.val, r0.eff⟩, own ++ rdH o (fun x => strip (evR st.regs x)) st.heap), ⟨hhole _, ?_, fun s hs => by simp [hs], r0, hr0, .inl ⟨hg, hn, rfl, rfl⟩⟩, h⟩
        intro s hs
        simp only [Rec.eff, List.mem_map] at hs
        obtain ⟨e, he, rfl⟩ := hs
        have := List.all_eq_true.1 hlt e he
        simpa using this
    split at h
    · exact h.elim
    · rename_i hno; exact mkNo (.inl hno) h
    · rename_i hgo
      split at h
      · exact h.elim
      · rename_i r0 hr0; exact mkGo r0 hr0 (.inl hgo) h
    · rename_i g hg
      split at h
      · cases g with
        | true => exact h.elim
        | false => exact mkNo (.inr hg) h
      · rename_i r0 hr0
        split at h
        · rename_i heff
          obtain ⟨hn, h⟩ := conjB_iff h
          have h := nameR_elim h
          exact ⟨(some ⟨[], .opt g r0.val, []⟩, own ++ rdH o (fun x => strip (evR st.regs x)) st.heap), ⟨hhole _, by simp [Rec.eff], fun s hs => by simp [hs], r0, hr0, .inr ⟨g, hg, under_iff hn, heff, rfl, rfl⟩⟩, h⟩
        · cases g with
          | true => exact mkGo r0 hr0 (.inr hg) h
          | false => exact mkNo (.inr hg) h

theorem runDl_chain {pl : Nat → Nat} {K : St → List (Nat × Rec) → Prop} : ∀ (l : List Nat) (st : St) (recs : List (Nat × Rec)), runDl P Γ ops pl l st recs K →
    ∃ l' Y, l'.map (·.1) = l ∧ Chain P Γ ops pl st l' Y ∧ K Y (l'.reverse ++ recs)
  | [], st, recs, h => ⟨[], st, rfl, .nil _, by simpa [runDl] using h⟩
  | i :: l, st, recs, h => by
    unfold runDl at h
    split at h
    · exact h.elim
    · rename_i o ho
      obtain ⟨q, hs, hr⟩ := stepD_stp h
      obtain ⟨l', Y, hm, hc, hk⟩ := runDl_chain l _ _ hr
      exact ⟨(i, q) :: l', Y, by simp [hm], .cons ho hs hc, by simpa using hk⟩

theorem lor_zero {a b : Nat} (h : a ||| b = 0) : a = 0 ∧ b = 0 := by
  constructor
  · apply Nat.eq_of_testBit_eq
    intro i
    have := congrArg (·.testBit i) h
    simp [Nat.testBit_or] at this
    simpa using this.1
  · apply Nat.eq_of_testBit_eq
    intro i
    have := congrArg (·.testBit i) h
    simp [Nat.testBit_or] at this
    simpa using this.2

theorem apart_of {o p : Oper} (h1 : maskOf o.dst.toList &&& maskOf (p.looksAt ops) = 0) (h2 : maskOf o.dst.toList &&& maskOf p.dst.toList = 0) (h3 : maskOf p.dst.toList &&& maskOf (o.looksAt ops) = 0) : o.apart ops p = true := by
  have a1 := disj_iff.1 (disj_of_mask h1)
  have a2 := disj_iff.1 (disj_of_mask h2)
  have a3 := disj_iff.1 (disj_of_mask h3)
  unfold Oper.apart
  cases hd : o.dst with
  | none =>
    cases hp : p.dst with
    | none => rfl
    | some u => simp only [hp, Option.toList, Bool.true_and] at *; simpa using a3 u (by simp)
  | some t =>
    have b1 := a1 t (by simp [hd])
    cases hp : p.dst with
    | none => simpa using b1
    | some u =>
      have b3 := a3 u (by simp [hp])
      have b2 : u ≠ t := fun e => a2 t (by simp [hd]) (by simp [hp, e])
      simp only [Bool.and_eq_true, Bool.not_eq_true', List.contains_eq_mem, decide_eq_false_iff_not, bne_iff_ne, ne_eq, Option.some.injEq]
      exact ⟨⟨b1, b2⟩, b3⟩

theorem fold_bits {acc : List Nat} {j : Nat} : ∀ (l : List Edge) (m : Nat), (l.foldl (fun m e => if Region.binds .any e = true then m ||| 2 ^ e.on ||| acc.getD e.on 0 else m) m).testBit j = true →
    m.testBit j = true ∨ ∃ e ∈ l, Region.binds .any e = true ∧ (e.on = j ∨ (acc.getD e.on 0).testBit j = true)
  | [], m, h => .inl h
  | e :: l, m, h => by
    simp only [List.foldl_cons] at h
    rcases fold_bits l _ h with h' | ⟨f, hf, hb, hj⟩
    · split at h'
      · rename_i hb
        simp only [Nat.testBit_or, Nat.testBit_two_pow, Bool.or_eq_true, decide_eq_true_eq] at h'
        rcases h' with (h' | h') | h'
        · exact .inl h'
        · exact .inr ⟨e, by simp, hb, .inl h'⟩
        · exact .inr ⟨e, by simp, hb, .inr h'⟩
      · exact .inl h'
    · exact .inr ⟨f, by simp [hf], hb, hj⟩

theorem ancMs_ok : ∀ (l : List Oper) (acc : List Nat), (∀ k o, l[k]? = some o → ops[acc.length + k]? = some o) → (∀ i j, (acc.getD i 0).testBit j = true → AncP ops i j) →
    ∀ i j, ((ancMs l acc).getD i 0).testBit j = true → AncP ops i j
  | [], acc, _, ha, i, j, h => ha i j (by simpa [ancMs] using h)
  | o :: r, acc, hl, ha, i, j, h => by
    simp only [ancMs] at h
    refine ancMs_ok r _ (fun k p hk => ?_) (fun i j h => ?_) i j h
    · have := hl (k + 1) p (by simpa using hk)
      simp only [List.length_append, List.length_singleton]
      rw [show acc.length + 1 + k = acc.length + (k + 1) by omega]
      exact this
    · rw [List.getD_eq_getElem?_getD, List.getElem?_append] at h
      split at h
      · exact ha i j (by rw [List.getD_eq_getElem?_getD]; exact h)
      · rename_i hge
        by_cases hi : i = acc.length
        · subst hi
          simp only [Nat.sub_self, List.getElem?_cons_zero, Option.getD_some] at h
          have ho := hl 0 o rfl
          simp only [Nat.add_zero] at ho
          rcases fold_bits _ _ h with h' | ⟨e, he, hb, hj⟩
          · simp at h'
          · rcases hj with hj | hj
            · exact .one ho (Array.mem_toList_iff.1 he) hb hj
            · exact .more ho (Array.mem_toList_iff.1 he) hb (ha _ _ hj)
        · rw [List.getElem?_eq_none (by simp; omega)] at h
          simp at h

theorem pairsT_ok {an : List Nat} (han : ∀ i j, (an.getD i 0).testBit j = true → AncP ops i j) : ∀ {l : List (Nat × Rec)}, someAll ops l = true → pairsT (touches ops an l) = true → l.Pairwise fun y x => Apart ops y x ∨ AncP ops x.1 y.1
  | [], _, _ => .nil
  | y :: l, hs, h => by
    simp only [someAll, List.all_cons, Bool.and_eq_true] at hs
    obtain ⟨oy, hoy⟩ := Option.isSome_iff_exists.1 hs.1
    simp only [touches, hoy, pairsT, Bool.and_eq_true, List.all_eq_true] at h
    refine .cons (fun x hx => ?_) (pairsT_ok han hs.2 h.2)
    obtain ⟨ox, hox⟩ := Option.isSome_iff_exists.1 (List.all_eq_true.1 hs.2 x hx)
    have hm : (x.1, touchOf ops ox x.2 (an.getD x.1 0)) ∈ touches ops an l := by
      clear h hs
      induction l with
      | nil => simp at hx
      | cons z r ih =>
        simp only [touches]
        rcases List.mem_cons.1 hx with rfl | hx
        · simp [hox]
        · split <;> exact List.mem_cons_of_mem _ (ih hx)
    have hp := h.1 _ hm
    simp only [okPair, touchOf, Bool.or_eq_true, beq_iff_eq] at hp
    rcases hp with hp | hp
    · obtain ⟨hp, p6⟩ := lor_zero hp
      obtain ⟨hp, p5⟩ := lor_zero hp
      obtain ⟨hp, p4⟩ := lor_zero hp
      obtain ⟨hp, p3⟩ := lor_zero hp
      obtain ⟨p1, p2⟩ := lor_zero hp
      left
      refine ⟨oy, ox, hoy, hox, ?_⟩
      simp only [indepB, Bool.and_eq_true]
      exact ⟨apart_of p1 p2 p3, disj_of_mask p4, disj_of_mask p5, disj_of_mask p6⟩
    · exact .inr (han _ _ hp)

theorem pairsB_ok {l : List (Nat × Rec)} (h : pairsB ops l = true) : l.Pairwise fun y x => Apart ops y x ∨ AncP ops x.1 y.1 := by
  simp only [pairsB, Bool.and_eq_true] at h
  exact pairsT_ok (ancMs_ok ops.toList [] (fun k o hk => by simpa using hk) (fun i j hij => by simp at hij)) h.1 h.2

theorem DH.pad {ρ : Rho} {h : List Blk} (D : DH E ρ h w) (n : Nat) : DH E ρ (h ++ List.replicate n .hole) w := by
  have key : ∀ i b, (h ++ List.replicate n Blk.hole)[i]? = some b → h[i]? = some b ∨ (h.length ≤ i ∧ b = .hole) := fun i b hi => by
    rw [List.getElem?_append] at hi
    split at hi
    · exact .inl hi
    · rename_i hge
      rw [List.getElem?_replicate] at hi
      split at hi
      · cases hi; exact .inr ⟨by omega, rfl⟩
      · cases hi
  refine ⟨D.same, D.base, D.old, fun i hi => D.fresh i (by simp at hi; omega), fun i b hi => ?_, fun i b m hi ht => ?_, fun i j b c m hne hi hj ht ht' => ?_⟩
  · rcases key i b hi with h | ⟨h, rfl⟩
    · exact D.ok i b h
    · exact D.fresh i h
  · rcases key i b hi with h | ⟨h, rfl⟩
    · exact D.own i b m h ht
    · exact ht.elim
  · rcases key i b hi with h | ⟨h, rfl⟩
    · rcases key j c hj with k | ⟨k, rfl⟩
      · exact D.apart i j b c m hne h k ht ht'
      · exact ht'.elim
    · exact ht.elim

theorem DH.drawn {ρ : Rho} {h : List Blk} (D : DH E ρ h w) (n : Nat) : DH E ρ h { w with drawn := n } :=
  ⟨⟨D.same.os, D.same.tape, D.same.output, D.same.size, D.same.stat⟩, D.base, D.old, D.fresh, fun i b hi => (D.ok i b hi).keep (Ext.refl _) (fun e => by subst e; exact D.ok i _ hi) fun _ _ => rfl, D.own, D.apart⟩

theorem runD_ok (hΓ : PCok P Γ) {ro : Option Nat} {m : Nat} {pl : Nat → Nat} {st0 : St} {K : St → Prop} {Q : Exit → Act → World → Prop} (hdst : ∀ (i : Nat) (o : Oper) (t : Tmp), ops[i]? = some o → o.dst = some t → t ∈ asg) {ρ : Rho} (D : Den E ρ st0 a w)
    (hQ : ∀ Y ρ' a' w', K Y → Ext ρ ρ' → Den E ρ' Y a' w' → Fr asg a a' → Q .normal a' w') (h : runD P Γ ops pl st0 K) : wpAnyIn (FW ro) m P .any ops Q ops.size (Array.replicate ops.size false) a w := by
      rw [runD, bareSt_eq] at h
      obtain ⟨recs, Y, hm, hc, h⟩ := runDl_chain _ _ _ h
      simp only [List.append_nil, List.reverse_reverse] at h
      have hck : (backB ops && pairsB ops recs) = true := by
        cases hc : (backB ops && pairsB ops recs) with
        | true => rfl
        | false => rw [hc] at h; exact h.elim
      rw [hck] at h
      simp only [Bool.and_eq_true] at hck
      have hlen : recs.length = ops.size := by
        have := congrArg List.length hm
        simpa using this
      refine any_ok hΓ hdst ?_ ops.size recs st0 a w _ ρ hlen hc D (by simp) ?_ ?_ ?_ ?_ (pairsB_ok hck.2) (fun ρ' a' w' hx hD hf => hQ Y ρ' a' w' h hx hD hf)
      · intro i o e ho he hbd
        have hi : i < ops.size := (Array.getElem?_eq_some_iff.1 ho).1
        have := List.all_eq_true.1 hck.1 i (List.mem_range.2 hi)
        simp only [ho, List.all_eq_true, Bool.or_eq_true, Bool.not_eq_true', decide_eq_true_eq] at this
        rcases this e (Array.mem_toList_iff.2 he) with h | h
        · rw [hbd] at h; cases h
        · exact h
      · intro i hi
        have h1 : (Array.replicate ops.size false).getD i true = false := by simp [Array.getD, hi]
        rw [h1]
        refine ⟨fun _ => ?_, fun _ => rfl⟩
        have : i ∈ recs.map (·.1) := by rw [hm]; exact List.mem_range.2 hi
        obtain ⟨x, hx, rfl⟩ := List.mem_map.1 this
        exact ⟨x.2, hx⟩
      · intro x hx
        have : x.1 ∈ recs.map (·.1) := List.mem_map.2 ⟨x, hx, rfl⟩
        rw [hm] at this
        exact List.mem_range.1 this
      · rw [hm]; exact List.pairwise_lt_range
      · intro p o e hp'
        exfalso
        simp only [Array.getD_eq_getD_getElem?, Array.getElem?_replicate] at hp'
        split at hp' <;> simp at hp'

end
end Go.Eng
