/- The engine: the code, run. No condition. -/
import Derived.Test.YtpafjmedjlcgcaaEngF
namespace Go.Eng

/-- The engine stands still: why, and where. -/
inductive Stuck (why pos : String) : Prop
theorem Stuck.elim {why pos : String} {C : Prop} (h : Stuck why pos) : C := by cases h

/-- Facts that are owed, ahead of what follows. -/
def conjB : List Bool → Prop → Prop
  | [], k => k
  | b :: r, k => cond b (conjB r k) False

theorem conjB_iff : ∀ {l : List Bool} {k : Prop}, conjB l k → allNeed l ∧ k
  | [], _, h => ⟨trivial, h⟩
  | b :: r, k, h => by
    cases b with
    | false => exact h.elim
    | true => exact ⟨⟨rfl, (conjB_iff (l := r) h).1⟩, (conjB_iff (l := r) h).2⟩

theorem allNeed_append {l m : List Bool} (h : allNeed (l ++ m)) : allNeed l ∧ allNeed m := by
  induction l with
  | nil => exact ⟨trivial, h⟩
  | cons p l ih => exact ⟨⟨h.1, (ih h.2).1⟩, (ih h.2).2⟩

/-- The bool of an operation's guard. -/
def gAsk (ops : Array Oper) (o : Oper) (r : List SV) : Option (Tmp × Bool) := match o.guard with
  | none => none
  | some (j, _) => match (ops[j]?).bind (·.dst) with
    | none => none
    | some t => match r[t]? with
      | some (.v (.bool b)) => some (t, b)
      | _ => none

/-! ### A region that draws -/

inductive PassRes where
  | bad
  | ask (t : Tmp) (b : Bool)
  | at_ (pos : String)
  | done (Y : St) (recs : List (Nat × Rec)) (needs : List Bool) (bs : List Bool)

/-- A value, its bool known. -/
def orcV (orc : List (Tmp × Bool)) (d : Option Tmp) (s : SV) : SV × List Bool :=
  match d with
  | none => (s, [])
  | some t => match orcGet orc t, s with
    | some v, .v (.bool b) => (.v (.bool v), [cond v b (!b)])
    | _, _ => (s, [])

theorem orcV_val {orc : List (Tmp × Bool)} {d : Option Tmp} {s : SV} (h : allNeed (orcV orc d s).2) : (orcV orc d s).1 = s := by
  unfold orcV at *
  split
  · rfl
  · split
    · rename_i v b hv
      simp only [hv, allNeed, and_true] at h
      cases v <;> cases b <;> simp_all
    · rfl

def pass (P : Program) (Γ : PC) (ops : Array Oper) (base : Nat) (orc : List (Tmp × Bool)) : List Nat → St → List (Nat × Rec) → List Bool → List Bool → PassRes
  | [], st, recs, needs, bs => .done st recs needs bs
  | i :: r, st, recs, needs, bs => match ops[i]? with
    | none => .bad
    | some o => match st.heap[base + i]? with
      | some .hole => match (gAsk ops o st.regs).bind (fun tb => if (orcGet orc tb.1).isNone then some tb else none) with
        | some (t, b) => .ask t b
        | none => match gv ops o st.regs with
          | .bad => .bad
          | .no => pass P Γ ops base orc r (apply o (none, [base + i]) st) (recs ++ [(i, (none, [base + i]))]) needs bs
          | .go => match opC P Γ o (evR st.regs) st.heap (base + i) with
            | none => .at_ o.pos
            | some r0 => if r0.eff.all (fun e => e.1 < st.heap.length) = true then
                pass P Γ ops base orc r (apply o (some ⟨[], (orcV orc o.dst r0.val).1, r0.eff⟩, (base + i) :: rdS o (evR st.regs)) st)
                  (recs ++ [(i, (some ⟨[], (orcV orc o.dst r0.val).1, r0.eff⟩, (base + i) :: rdS o (evR st.regs)))]) (needs ++ r0.need) (bs ++ (orcV orc o.dst r0.val).2)
              else .bad
      | _ => .bad

def backB (ops : Array Oper) : Bool := (List.range ops.size).all fun i => match ops[i]? with
  | some o => o.after.toList.all fun e => !Region.binds .any e || decide (e.on < i)
  | none => true

def pairsB (ops : Array Oper) : List (Nat × Rec) → Bool
  | [] => true
  | y :: l => l.all (fun x => (match ops[y.1]?, ops[x.1]? with
      | some oy, some ox => indepB ops oy ox y.2 x.2
      | _, _ => false) || anc ops ops.size x.1 y.1) && pairsB ops l

def runD (P : Program) (Γ : PC) (ops : Array Oper) (base : Nat) (st0 : St) (K : St → Prop) : Nat → List (Tmp × Bool) → Prop
  | 0, _ => Stuck "fuel" ""
  | n + 1, orc => match pass P Γ ops base orc (List.range ops.size) st0 [] [] [] with
    | .bad => Stuck "draw" ""
    | .at_ pos => Stuck "draw" pos
    | .ask t b => cond b (runD P Γ ops base st0 K n ((t, true) :: orc)) (runD P Γ ops base st0 K n ((t, false) :: orc))
    | .done Y recs needs bs => conjB bs (conjB needs (cond (backB ops && pairsB ops recs) (K Y) (Stuck "order" "")))

section
variable {P : Program} {Γ : PC} {E : Env} {w : World} {a : Act} {ops : Array Oper} {asg : List Tmp}

theorem pass_chain {base : Nat} {orc : List (Tmp × Bool)} {Y : St} {recs' : List (Nat × Rec)} {needs' : List Bool} {bs' : List Bool} :
    ∀ (l : List Nat) (st : St) (recs : List (Nat × Rec)) (needs : List Bool) (bs : List Bool), pass P Γ ops base orc l st recs needs bs = .done Y recs' needs' bs' →
    ∃ l' n2 b2, recs' = recs ++ l' ∧ needs' = needs ++ n2 ∧ bs' = bs ++ b2 ∧ l'.map (·.1) = l ∧ (allNeed n2 → allNeed b2 → Chain P Γ ops base st l' Y)
  | [], st, recs, needs, bs, h => by
    simp only [pass] at h
    cases h
    exact ⟨[], [], [], by simp, by simp, by simp, rfl, fun _ _ => .nil _⟩
  | i :: l, st, recs, needs, bs, h => by
    simp only [pass] at h
    split at h
    · cases h
    · rename_i o ho
      split at h
      · rename_i hhole
        split at h
        · cases h
        · split at h
          · cases h
          · rename_i hno
            obtain ⟨l', n2, b2, rfl, rfl, rfl, hm, hc⟩ := pass_chain l _ _ _ _ h
            refine ⟨(i, (none, [base + i])) :: l', n2, b2, by simp, rfl, rfl, by simp [hm], fun hn hb => ?_⟩
            exact .cons ho ⟨hhole, by simp, by simp [Rec.eff], hno⟩ (hc hn hb)
          · rename_i hgo
            split at h
            · cases h
            · rename_i r0 hr0
              split at h
              · rename_i hlt
                obtain ⟨l', n2, b2, rfl, rfl, rfl, hm, hc⟩ := pass_chain l _ _ _ _ h
                refine ⟨(i, (some ⟨[], (orcV orc o.dst r0.val).1, r0.eff⟩, (base + i) :: rdS o (evR st.regs))) :: l', r0.need ++ n2, (orcV orc o.dst r0.val).2 ++ b2, by simp, by simp, by simp, by simp [hm], fun hn hb => ?_⟩
                have hn' := allNeed_append hn
                have hb' := allNeed_append hb
                refine .cons ho ⟨hhole, by simp, ?_, hgo, fun s hs => by simp [hs], r0, hr0, hn'.1, rfl, orcV_val hb'.1⟩ (hc hn'.2 hb'.2)
                intro s hs
                simp only [Rec.eff, List.mem_map] at hs
                obtain ⟨e, he, rfl⟩ := hs
                have := List.all_eq_true.1 hlt e he
                simpa using this
              · cases h
      · cases h

theorem pairsB_ok : ∀ {l : List (Nat × Rec)}, pairsB ops l = true → l.Pairwise fun y x => Apart ops y x ∨ anc ops ops.size x.1 y.1 = true
  | [], _ => .nil
  | y :: l, h => by
    simp only [pairsB, Bool.and_eq_true, List.all_eq_true, Bool.or_eq_true] at h
    refine .cons (fun x hx => ?_) (pairsB_ok h.2)
    rcases h.1 x hx with hi | ha
    · left
      split at hi
      · rename_i oy ox hy hx'; exact ⟨oy, ox, hy, hx', hi⟩
      · cases hi
    · exact .inr ha

theorem DH.pad {ρ : Rho} {h : List Blk} (D : DH E ρ h w) (n : Nat) : DH E ρ (h ++ List.replicate n .hole) w := by
  have key : ∀ i b, (h ++ List.replicate n Blk.hole)[i]? = some b → h[i]? = some b ∨ (h.length ≤ i ∧ b = .hole) := fun i b hi => by
    rw [List.getElem?_append] at hi
    split at hi
    · exact .inl hi
    · rename_i hge
      rw [List.getElem?_replicate] at hi
      split at hi
      · cases hi; exact .inr ⟨by omega, rfl⟩
      · cases hi
  refine ⟨D.same, D.base, D.old, fun i hi => D.fresh i (by simp at hi; omega), fun i b hi => ?_, fun i b m hi ht => ?_, fun i j b c m hne hi hj ht ht' => ?_⟩
  · rcases key i b hi with h | ⟨h, rfl⟩
    · exact D.ok i b h
    · exact D.fresh i h
  · rcases key i b hi with h | ⟨h, rfl⟩
    · exact D.own i b m h ht
    · exact ht.elim
  · rcases key i b hi with h | ⟨h, rfl⟩
    · rcases key j c hj with k | ⟨k, rfl⟩
      · exact D.apart i j b c m hne h k ht ht'
      · exact ht'.elim
    · exact ht.elim

theorem DH.drawn {ρ : Rho} {h : List Blk} (D : DH E ρ h w) (n : Nat) : DH E ρ h { w with drawn := n } :=
  ⟨⟨D.same.os, D.same.tape, D.same.output, D.same.size⟩, D.base, D.old, D.fresh, fun i b hi => (D.ok i b hi).keep (Ext.refl _) (fun e => by subst e; exact D.ok i _ hi) fun _ _ => rfl, D.own, D.apart⟩

theorem runD_ok (hΓ : PCok P Γ) {base : Nat} {st0 : St} {K : St → Prop} {Q : Exit → Act → World → Prop} (hdst : ∀ (i : Nat) (o : Oper) (t : Tmp), ops[i]? = some o → o.dst = some t → t ∈ asg) {ρ : Rho} (D : Den E ρ st0 a w)
    (hQ : ∀ Y ρ' a' w', K Y → Ext ρ ρ' → Den E ρ' Y a' w' → Fr asg a a' → Q .normal a' w') :
    ∀ (n : Nat) (orc : List (Tmp × Bool)), runD P Γ ops base st0 K n orc → wpAny P .any ops Q ops.size (Array.replicate ops.size false) a w
  | 0, _, h => h.elim
  | n + 1, orc, h => by
    simp only [runD] at h
    split at h
    · exact h.elim
    · exact h.elim
    · rename_i t b _
      cases b with
      | true => exact runD_ok hΓ hdst D hQ n _ h
      | false => exact runD_ok hΓ hdst D hQ n _ h
    · rename_i Y recs needs bs hp
      obtain ⟨hb, h⟩ := conjB_iff h
      obtain ⟨hn, h⟩ := conjB_iff h
      have hck : (backB ops && pairsB ops recs) = true := by
        cases hc : (backB ops && pairsB ops recs) with
        | true => rfl
        | false => rw [hc] at h; exact h.elim
      rw [hck] at h
      simp only [Bool.and_eq_true] at hck
      obtain ⟨l', n2, b2, hr, hn', hb', hm, hc⟩ := pass_chain _ _ _ _ _ hp
      simp only [List.nil_append] at hr hn' hb'
      subst hr hn' hb'
      have hlen : recs.length = ops.size := by
        have := congrArg List.length hm
        simpa using this
      refine any_ok hΓ hdst ?_ ops.size recs st0 a w _ ρ hlen (hc hn hb) D (by simp) ?_ ?_ ?_ ?_ (pairsB_ok hck.2) (fun ρ' a' w' hx hD hf => hQ Y ρ' a' w' h hx hD hf)
      · intro i o e ho he hbd
        have hi : i < ops.size := (Array.getElem?_eq_some_iff.1 ho).1
        have := List.all_eq_true.1 hck.1 i (List.mem_range.2 hi)
        simp only [ho, List.all_eq_true, Bool.or_eq_true, Bool.not_eq_true', decide_eq_true_eq] at this
        rcases this e (Array.mem_toList_iff.2 he) with h | h
        · rw [hbd] at h; cases h
        · exact h
      · intro i hi
        have h1 : (Array.replicate ops.size false).getD i true = false := by simp [Array.getD, hi]
        rw [h1]
        refine ⟨fun _ => ?_, fun _ => rfl⟩
        have : i ∈ recs.map (·.1) := by rw [hm]; exact List.mem_range.2 hi
        obtain ⟨x, hx, rfl⟩ := List.mem_map.1 this
        exact ⟨x.2, hx⟩
      · intro x hx
        have : x.1 ∈ recs.map (·.1) := List.mem_map.2 ⟨x, hx, rfl⟩
        rw [hm] at this
        exact List.mem_range.1 this
      · rw [hm]; exact List.pairwise_lt_range
      · intro p o e hp'
        exfalso
        simp only [Array.getD_eq_getD_getElem?, Array.getElem?_replicate] at hp'
        split at hp' <;> simp at hp'

end
end Go.Eng
