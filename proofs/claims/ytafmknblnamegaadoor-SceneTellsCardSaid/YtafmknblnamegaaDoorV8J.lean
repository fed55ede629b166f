/- The engine: what it says of code and of calls is so. No condition. -/
import Derived.Test.YtafmknblnamegaaDoorV8U
import Derived.LoopNIn
import Derived.RangeFuncRecord
import Derived.Scope
namespace Go.Eng

section
variable {P : Program} {Γ : PC} {E : Env} {Λ : LoopSpecs}

theorem resOne_run {ρ : Rho} {st : St} {a : Act} {w : World} (D : Den E ρ st a w) {r : ResultVar} {s : SV} (h : resOne P st r = some s) :
    ∃ y, (match r with
      | .tmp t => (pure (a.tmps.getD t undef) : Sem Value)
      | .cell x t => do loadVar t (← asAddr (a.tmps.getD x undef))).run P w = .ok y w ∧ DV ρ s y := by
  have getD : ∀ t, DV ρ (st.regs.getD t .any) (a.tmps.getD t undef) := fun t => by
    have := D.regs.getD t undef
    simpa [Array.getD_eq_getD_getElem?, List.getD_eq_getElem?_getD] using this
  cases r with
  | tmp t => simp only [resOne, Option.some.injEq] at h; subst h; exact ⟨_, rfl, getD t⟩
  | cell x t =>
    simp only [resOne] at h
    split at h
    · rename_i i off hx
      split at h
      · rename_i el cs hi
        have hv := getD x
        rw [hx] at hv
        simp only [DV] at hv
        obtain ⟨p, hp, hv⟩ := hv
        obtain ⟨q, vs, hq, hb, hd⟩ := D.heap.ok i _ hi
        rw [hp] at hq; cases hq
        obtain ⟨y, hy, hdv⟩ := loadFrom_run h hb hd
        exact ⟨y, by simp only [hv, asAddr, Sem.run_bind, Sem.run_pure, Result.andThen_ok, hy], hdv⟩
      · cases h
    · cases h

theorem resAll_run {ρ : Rho} {st : St} {a : Act} {w : World} (D : Den E ρ st a w) : ∀ {l : List ResultVar} {m : List SV}, resAll P st l = some m →
    ∃ ys : List Value, (l.mapM (m := Sem) fun
      | .tmp t => pure (a.tmps.getD t undef)
      | .cell x t => do loadVar t (← asAddr (a.tmps.getD x undef))).run P w = .ok ys w ∧ DL ρ m ys
  | [], m, h => by simp only [resAll, Option.some.injEq] at h; subst h; exact ⟨[], rfl, DL.nil⟩
  | r :: l, m, h => by
    simp only [resAll] at h
    split at h
    · rename_i s m' hs hm
      cases h
      obtain ⟨y, hy, hd⟩ := resOne_run D hs
      obtain ⟨ys, hys, hds⟩ := resAll_run D hm
      refine ⟨y :: ys, ?_, DL.cons hd hds⟩
      simp only [List.mapM_cons, Sem.run_bind]
      rw [hy]
      simp only [Result.andThen_ok, hys, Sem.run_pure]
    · cases h

theorem results_run {fn : Func} {ρ : Rho} {st : St} {a : Act} {w : World} (D : Den E ρ st a w) {m : List SV} (h : resAll P st fn.results.toList = some m) :
    ∃ y, (results fn a.tmps).run P w = .ok y w ∧ DV ρ (match m with | [v] => v | l => .tup l) y := by
  obtain ⟨ys, hys, hd⟩ := resAll_run D h
  have hm : (fn.results.mapM (m := Sem) fun
      | .tmp t => pure (a.tmps.getD t undef)
      | .cell x t => do loadVar t (← asAddr (a.tmps.getD x undef))).run P w = .ok ys.toArray w := by
    rw [← Array.toArray_toList (xs := fn.results), List.mapM_toArray, Sem.run_map, hys]
    rfl
  have hl := hd.length
  have hrun : (results fn a.tmps).run P w = .ok (if h : ys.toArray.size = 1 then ys.toArray[0] else .tuple ys.toArray) w := by
    unfold results
    rw [Sem.run_bind]
    erw [hm]
    rfl
  refine ⟨_, hrun, ?_⟩
  split
  · rename_i v
    cases ys with
    | nil => simp at hl
    | cons y r =>
      cases r with
      | nil => simp only [DL] at hd; obtain ⟨y', t, e, hy, _⟩ := hd; cases e; simpa using hy
      | cons _ _ => simp at hl
  · rename_i hne
    have : ¬ ys.toArray.size = 1 := fun e => by
      cases m with
      | nil => simp at hl; simp [hl] at e
      | cons v r =>
        cases r with
        | nil => exact hne v h rfl HEq.rfl
        | cons _ _ => simp at e hl; omega
    rw [dif_neg this]
    simp only [DV]
    exact ⟨_, rfl, by simpa using hd⟩

theorem replicate_undef_DL {ρ : Rho} (n : Nat) : DL ρ (List.replicate n (.v undef)) (List.replicate n undef) := by
  refine DL.mk' (by simp) fun i s y hs hy => ?_
  simp only [List.getElem?_replicate] at hs hy
  split at hs
  · rename_i hlt
    rw [if_pos hlt] at hy
    cases hs; cases hy; simp [DV]
  · cases hs

/-- A loop by letters. -/
theorem wpIn_loop_ix {F : Fence} {n : Nat} {c : Code} {Q : Exit → Act → World → Prop} {S : Type} (I : S → Act → World → Prop) (μ : S → Nat)
    (round : ∀ s a w, I s a w → c.wpIn F n P (Exit.then (fun a' w' => ∃ s', I s' a' w' ∧ μ s' < μ s) Q) a w) (s : S) (a : Act) (w : World) (h₀ : I s a w) : (Code.loop c).wpIn F n P Q a w := by
  intro b k cs hro hb hr
  have key : ∀ j s a w, μ s = j → I s a w →
      ∃ e a' w', Q e a' w' ∧ ArrivesIn (Machine.fenced P F) P (lone (b.atR a (.code c :: .inLoop c :: k)) cs w) b k cs e a' w' := by
    intro j
    induction j using Nat.strongRecOn with
    | _ j ih =>
      intro s a w hn hI
      obtain ⟨e, a₁, w₁, hq, harr⟩ := round s a w hI b (.inLoop c :: k) cs hro hb hr
      cases e with
      | normal =>
        obtain ⟨s', hI₁, hlt⟩ := hq
        obtain ⟨e₂, a₂, w₂, hq₂, harr₂⟩ := ih (μ s') (hn ▸ hlt) s' a₁ w₁ rfl hI₁
        exact ⟨e₂, a₂, w₂, hq₂, .of_steps (StepsIn.trans harr (.one (fenced_calm hb hr rfl) stepR_inLoop)) harr₂⟩
      | exit id => exact ⟨_, a₁, w₁, hq, .pass (x := .inLoop c) rfl (fun _ _ => .inl (by simp)) harr⟩
      | goto l => exact ⟨_, a₁, w₁, hq, .pass (x := .inLoop c) rfl (fun _ _ => .inl (by simp)) harr⟩
      | ret => exact ⟨_, a₁, w₁, hq, .pass (x := .inLoop c) rfl (fun _ _ => .inl (by simp)) harr⟩
      | panic ch => exact ⟨_, a₁, w₁, hq, .pass (x := .inLoop c) rfl (fun _ _ => .inl (by simp)) harr⟩
      | outgrown => exact ⟨_, a₁, w₁, hq, .pass (x := .inLoop c) rfl (fun _ _ => .inl (by simp)) harr⟩
  obtain ⟨e, a', w', hq, harr⟩ := key _ s a w rfl h₀
  exact ⟨e, a', w', hq, .of_steps (.one (fenced_calm hb hr rfl) stepR_loop) harr⟩

/-! ### The world at a loop's head -/
def Env.at (E : Env) (w : World) : Env := ⟨E.B, w, E.M⟩
theorem cell?_at {w w' : World} {b o : Nat} (h : w'.heap[b]? = w.heap[b]?) : w'.cell? ⟨b, o, none⟩ = w.cell? ⟨b, o, none⟩ := by
  simp only [World.cell?, h]
theorem BlkOk.rebase {E E' : Env} {ρ : Rho} {w : World} {i : Nat} {b : Blk} (hF : ∀ b, E.fixed b → E'.fixed b) (h0 : ∀ b, E.fixed b → E'.w0.heap[b]? = E.w0.heap[b]?) (ok : BlkOk E ρ w i b) : BlkOk E' ρ w i b := by
  cases b with
  | rcells cs =>
    obtain ⟨p, vs, e, hp, hf, hw, hl⟩ := ok
    exact ⟨p, vs, e, hp, hF _ hf, by rw [h0 _ hf]; exact hw, hl⟩
  | ror kd xs f =>
    obtain ⟨p, hp, h1, h2, a, cap, h3, h4, h5, h6, h7, h8⟩ := ok
    refine ⟨p, hp, h1, h2, a, cap, h3, h4, h5, h6, h7, ?_⟩
    rcases h8 with h8 | ⟨b, off, h9, hf, h10⟩
    · exact .inl h8
    · exact .inr ⟨b, off, h9, hF _ hf, fun j u hj => by rw [cell?_at (h0 _ hf)]; exact h10 j u hj⟩
  | rfm kf css =>
    obtain ⟨p, hp, h1, ys, h2, h3⟩ := ok
    exact ⟨p, hp, h1, ys, h2, h3.base fun n hn => ⟨hF n hn, h0 n hn⟩⟩
  | rof g =>
    obtain ⟨p, q, hp, hq, h1, h2, ys, n, h3, h4⟩ := ok
    exact ⟨p, q, hp, hq, h1, h2, ys, n, h3, h4.base fun n hn => ⟨hF n hn, h0 n hn⟩⟩
  | _ => exact ok
theorem DH.rebase {ρ : Rho} {h : List Blk} {w : World} (D : DH E ρ h w) : DH (E.at w) ρ h w :=
  ⟨Same.refl w, Nat.le_trans D.base D.same.size, fun x hx => ⟨by obtain ⟨h1, h2⟩ := D.glob x hx; exact (cell?_at (D.old 0 h2)).trans h1, (D.glob x hx).2⟩, fun _ _ => rfl, D.fresh, fun i b hb => BlkOk.rebase (E := E) (E' := E.at w) (fun _ h => h) D.old (D.ok i b hb), D.own, D.apart⟩
theorem DH.unbase {ρ0 ρ : Rho} {h0 h : List Blk} {w0 w : World} (D0 : DH E ρ0 h0 w0) (D : DH (E.at w0) ρ h w) : DH E ρ h w :=
  ⟨D0.same.trans D.same, D0.base, D0.glob, fun b hb => (D.old b hb).trans (D0.old b hb), D.fresh, fun i b hb => BlkOk.rebase (E := E.at w0) (E' := E) (fun _ h => h) (fun b hb => (D0.old b hb).symm) (D.ok i b hb), D.own, D.apart⟩

/-! ### Records of loops -/
/-- A loop's record, turned. -/
theorem DH.putLoop {ρ : Rho} {h : List Blk} {w : World} (D : DH E ρ h w) {l : Nat} {f1 : FuncId} {regs : List SV} {ps : Array Tmp} {aa bb : Code} {s : LoopState} {q : Option Code} {d : Nat} (hl : h[l]? = some (.loop f1 regs ps aa bb s q d)) {p : Loc} (hp : ρ l = some p) :
    ∃ L, w.heap[p.block]? = some (.loop L) ∧ L.state = s ∧ L.pending = q ∧ L.params = ps ∧ L.assign = aa ∧ L.body = bb ∧ DL ρ regs L.tmps.toList ∧
      ∀ s' q', DH E ρ (h.set l (.loop f1 regs ps aa bb s' q' d)) (w.putObj p.block (.loop { L with state := s', pending := q' })) ∧ DH E ρ (h.set l .dead) (w.putObj p.block (.loop { L with state := s', pending := q' })) := by
  obtain ⟨p', q', ts, fn, hp', hd, hw, hl'⟩ := D.ok l _ hl
  rw [hp] at hp'; cases hp'
  refine ⟨_, hw, rfl, rfl, rfl, rfl, rfl, hl', fun s' q1 => ?_⟩
  have hlt := (Array.getElem?_eq_some_iff.1 hw).1
  exact ⟨D.turn hl hp ⟨p, hp, rfl⟩ hw (.inr ⟨_, _, rfl, rfl, rfl, rfl, rfl, rfl, rfl, rfl⟩) ⟨p, q', ts, fn, hp, hd, World.putObj_heap_same hlt, hl'⟩ (by rintro n ⟨r, hr, rfl⟩; rw [hp] at hr; cases hr; rfl),
    D.turn hl hp ⟨p, hp, rfl⟩ hw (.inr ⟨_, _, rfl, rfl, rfl, rfl, rfl, rfl, rfl, rfl⟩) trivial (fun n hn => hn.elim)⟩
/-- The block for calls put off, shut. -/
theorem DH.putDfr {ρ : Rho} {h : List Blk} {w : World} (D : DH E ρ h w) {i : Nat} (hi : h[i]? = some .dfr) {p : Loc} (hp : ρ i = some p) :
    w.heap[p.block]? = some (.deferred (some [])) ∧ DH E ρ (h.set i .dead) (w.putObj p.block (.deferred none)) := by
  obtain ⟨p', hp', hw⟩ := D.ok i _ hi
  rw [hp] at hp'; cases hp'
  exact ⟨hw, D.turn hi hp ⟨p, hp, rfl⟩ hw (.inl fun L h => by cases h) trivial (fun n hn => hn.elim)⟩
theorem setPs_DL {ρ : Rho} : ∀ (l : List (Nat × SV)) (m : List (Nat × Value)) (r : List SV) (ts : Array Value), l.map (·.1) = m.map (·.1) → DL ρ (l.map (·.2)) (m.map (·.2)) → DL ρ r ts.toList →
    DL ρ (l.foldl (fun r x => r.set x.1 x.2) r) (m.foldl (fun (ts : Array Value) x => ts.setIfInBounds x.1 x.2) ts).toList
  | [], [], _, _, _, _, h => h
  | [], _ :: _, _, _, he, _, _ => by simp at he
  | _ :: _, [], _, _, he, _, _ => by simp at he
  | (t, s) :: l, (t', y) :: m, r, ts, he, hd, h => by
    simp only [List.map_cons, List.cons.injEq] at he
    obtain ⟨rfl, he⟩ := he
    simp only [List.map_cons, DL] at hd
    obtain ⟨y', r', e, hy, hr⟩ := hd
    cases e
    exact setPs_DL l m _ _ he hr (by simpa using h.set t hy)

/-- What is to be shown of code. -/
def CodeOk (P : Program) (Γ : PC) (Λ : LoopSpecs) (n : Nat) (E : Env) : Prop := ∀ (ro : Option Nat) (m : Nat) (f : FuncId) (c : Code) (st : St) (K : Ex → St → Prop) (ρ : Rho) (a : Act) (w : World) (Q : Exit → Act → World → Prop), (hasRF c = true → ro = none) →
    wpS P Γ Λ n f c st K → Den E ρ st a w → (∀ e st' ρ' a' w', K e st' → Ext ρ ρ' → Den E ρ' st' a' w' → Fr (asgd c) a a' → Q e.den a' w') → c.wpIn (FW ro) m P Q a w

theorem leaves_ok {fn : Func} {tmps : Array Value} {R : Ending → World → Prop} {X : List Blk → Prop} : ∀ (df : List Nat) (ds : List Deferred) (h : List Blk) (w : World) (ρ : Rho), DF ρ df ds → DH E ρ h w → endDf df h X →
    (∀ h' w', DH E ρ h' w' → X h' → ∃ v, (results fn tmps).run P w' = .ok v w' ∧ R (.returned v) w') → LeavesInM (FW none) 0 P fn tmps R ds .returning w
  | [], ds, h, w, ρ, hd, D, hx, fin => by
    have hd : ds = [] := hd
    subst hd
    obtain ⟨v, h1, h2⟩ := fin h w D hx
    exact ⟨v, h1, h2⟩
  | i :: l, ds, h, w, ρ, hd, D, hx, fin => by
    obtain ⟨p, r, hp, rfl, hr⟩ := hd
    simp only [endDf] at hx
    split at hx
    · rename_i hi
      obtain ⟨hw, D'⟩ := D.putDfr hi hp
      exact ⟨by simp, .inl ⟨p.block, _, rfl, run_takeDeferred hw, leaves_ok l r _ _ ρ hr D' hx fin⟩⟩
    · exact hx.elim

/-- A function's body, run by the engine, is its call. -/
theorem calls_of_wpS {n : Nat} (ih : CodeOk P Γ Λ n E) :
    CSok P E fun g args h K' => match P.funcs[g]? with
      | some fn => match fn.body with
        | some body => bareSt ⟨args ++ List.replicate (fn.ntmps - args.length) (.v undef), h, []⟩ fun st0 => wpS P Γ Λ n g body st0 fun e st' => match e with
          | .exit _ => Stuck "exit" fn.name
          | _ => leaveS P fn st' K'
        | none => Stuck "body" fn.name
      | none => Stuck "function" "" := by
  intro g args h K hcs ρ w vs D hargs
  split at hcs
  · rename_i fn hfn
    split at hcs
    · rename_i body hbody
      rw [bareSt_eq] at hcs
      refine calls_of_fw (n := 0) (callsIn_of_wp_marks hfn hbody trivial (ih none 0 g body _ _ ρ _ w _ (fun _ => rfl) hcs ⟨?_, D, rfl⟩ ?_))
      · have hl := hargs.length
        simp only [Array.toList_append, Array.toList_replicate, List.size_toArray]
        rw [hl]
        exact hargs.append (replicate_undef_DL _)
      · intro e st' ρ' a' w' hk hx D' _
        have fin : leaveS P fn st' K → LeavesInM (FW none) 0 P fn a'.tmps (fun e w' => ∃ y v h' ρ', e = .returned y ∧ Ext ρ ρ' ∧ DV ρ' v y ∧ DH E ρ' h' w' ∧ K v h') a'.defers .returning w' := by
          intro hk
          refine leaves_ok st'.df a'.defers st'.heap w' ρ' D'.defers D'.heap hk fun h2 w2 D2 hx2 => ?_
          cases hr : resAll P ⟨st'.regs, h2, []⟩ fn.results.toList with
          | none => rw [hr] at hx2; exact hx2.elim
          | some m =>
            have D3 : Den E ρ' ⟨st'.regs, h2, []⟩ { tmps := a'.tmps, defers := [] } w2 := ⟨D'.regs, D2, rfl⟩
            obtain ⟨y, hy, hd⟩ := results_run D3 hr
            rw [hr] at hx2
            refine ⟨y, hy, y, _, h2, ρ', rfl, hx, hd, D2, ?_⟩
            cases m with
            | nil => exact hx2
            | cons v r => cases r <;> exact hx2
        cases e with
        | normal => exact fin hk
        | ret => exact fin hk
        | exit id => exact hk.elim
    · exact hcs.elim
  · exact hcs.elim

/-- A round, run by the engine, is one. -/
theorem rounds_of_wpS {n : Nat} (ih : CodeOk P Γ Λ n E) :
    YSok P E fun l args h K' => match h[l]? with
      | some (.loop f1 regs ps assign body s q _) => cond (idleB s q && (Nat.beq args.length ps.size && !(hasRF assign || hasRF body)))
          (bareSt ⟨setPs regs ps.toList args, h, []⟩ fun st0 => wpS P Γ Λ n f1 assign st0 fun e1 st1 => match e1 with
            | .normal => match st1.heap[l]? with
              | some (.loop f2 r2 p2 a2 b2 .ready q2 d2) => bareSt ⟨st1.regs, st1.heap.set l (.loop f2 r2 p2 a2 b2 .busy q2 d2), st1.df⟩ fun st2 => wpS P Γ Λ n f1 body st2 fun e3 st3 => match st3.heap[l]? with
                | some (.loop f4 r4 p4 a4 b4 _ _ d4) => match e3 with
                  | .normal => K' (.v (.bool true)) (st3.heap.set l (.loop f4 r4 p4 a4 b4 .ready none d4))
                  | e => K' (.v (.bool false)) (st3.heap.set l (.loop f4 r4 p4 a4 b4 .done (exCode e) d4))
                | _ => Stuck "record" ""
              | _ => Stuck "record" ""
            | _ => Stuck "assign" "") (Stuck "yield" "")
      | _ => Stuck "yield" "" := by
  intro l args h K hys ρ w vs p ro m D hargs hp
  split at hys
  · rename_i f1 regs ps assign body s q d hl
    have hc : (idleB s q && (Nat.beq args.length ps.size && !(hasRF assign || hasRF body))) = true := by
      cases hc : (idleB s q && (Nat.beq args.length ps.size && !(hasRF assign || hasRF body))) with
      | true => rfl
      | false => rw [hc] at hys; exact hys.elim
    rw [hc] at hys
    simp only [cond_true, bareSt_eq] at hys
    simp only [Bool.and_eq_true, Bool.not_eq_true', Bool.or_eq_false_iff] at hc
    obtain ⟨hid, hlen, hrf1, hrf2⟩ := hc
    have hlen := Nat.eq_of_beq_eq_true hlen
    obtain ⟨L, hw, hs, hq, rfl, rfl, rfl, hregs, _⟩ := D.putLoop hl hp
    have hal := hargs.length
    refine ⟨L.fn, _, L.assign, L.body, run_yield hw (by simp [hal, hlen]), roundIn_of_wpIn trivial ?_⟩
    refine ih (some p.block) m f1 L.assign _ _ ρ _ w _ (fun h => by rw [hrf1] at h; cases h) hys ⟨?_, D, rfl⟩ ?_
    · have : ((L.params.zip vs.toArray).foldl (fun tmps (x : Tmp × Value) => match x with | (t, a) => tmps.setIfInBounds t a) L.tmps) = (L.params.toList.zip vs).foldl (fun (ts : Array Value) x => ts.setIfInBounds x.1 x.2) L.tmps := by
        rw [← Array.foldl_toList]
        simp
      rw [this]
      refine setPs_DL _ _ _ _ ?_ ?_ hregs
      · rw [List.map_fst_zip (by simp [hlen]), List.map_fst_zip (by simp [hlen, hal])]
      · rw [List.map_snd_zip (by simp [hlen]), List.map_snd_zip (by simp [hlen, hal])]
        exact hargs
    · intro e1 st1 ρ1 a1 w1 hk hx1 D1 _
      cases e1 with
      | exit id => exact hk.elim
      | ret => exact hk.elim
      | normal =>
        simp only at hk
        split at hk
        · rename_i f2 r2 p2 a2 b2 q2 d2 hl2
          have hp1 := hx1 _ _ hp
          obtain ⟨L2, hw2, hs2, hq2, rfl, rfl, rfl, hregs2, hturn⟩ := D1.heap.putLoop hl2 hp1
          refine ⟨_, run_beginRound hw2 hs2, ?_⟩
          refine ih (some p.block) m f1 L.body _ _ ρ1 a1 _ _ (fun h => by rw [hrf2] at h; cases h) hk ⟨D1.regs, ?_, D1.defers⟩ ?_
          · have := (hturn .busy q2).1
            rw [← hq2] at this ⊢
            exact this
          · intro e3 st3 ρ3 a3 w3 hk3 hx3 D3 _
            split at hk3
            · rename_i f4 r4 p4 a4 b4 s4 q4 d4 hl4
              have hp3 := hx3 _ _ hp1
              obtain ⟨L4, hw4, _, _, rfl, rfl, rfl, _, hturn4⟩ := D3.heap.putLoop hl4 hp3
              cases e3 with
              | normal => exact ⟨_, _, run_endRound none hw4, _, _, _, ρ3, rfl, hx1.trans hx3, by simp [DV], (hturn4 .ready none).1, hk3⟩
              | ret => exact ⟨_, _, run_endRound (some .ret) hw4, _, _, _, ρ3, rfl, hx1.trans hx3, by simp [DV], (hturn4 .done (some .ret)).1, hk3⟩
              | exit id => exact ⟨_, _, run_endRound (some (.exit id)) hw4, _, _, _, ρ3, rfl, hx1.trans hx3, by simp [DV], (hturn4 .done (some (.exit id))).1, hk3⟩
            · exact hk3.elim
        · exact hk.elim
  · exact hys.elim

theorem stepR_scope {b : Frame} {a : Act} {k : List Item} {cs : List Frame} {w : World} {c : Code} : step P (lone (b.atR a (.code (.scope c) :: k)) cs w) = .next (lone (b.atR a (.code c :: .inScope c :: k)) cs w) :=
  step_lone_go (by simp [stepG, stepG.exec, Frame.atR])
theorem stepR_inScope {b : Frame} {a : Act} {k : List Item} {cs : List Frame} {w : World} {c : Code} : step P (lone (b.atR a (.inScope c :: k)) cs w) = .next (lone (b.atR a k) cs w) :=
  step_lone_go (by simp [stepG, stepG.exec, Frame.atR])
theorem wpIn_scope {F : Fence} {n : Nat} {Q : Exit → Act → World → Prop} {a : Act} {w : World} {c : Code} (h : c.wpIn F n P (Exit.noGoto Q) a w) : (Code.scope c).wpIn F n P Q a w := by
  intro b k cs hro hb hr
  have h0 : (lone (b.atR a (.code (.scope c) :: k)) cs w).fenced P F := fenced_calm hb hr rfl
  obtain ⟨e, a₁, w₁, hq, harr⟩ := h b (.inScope c :: k) cs hro hb hr
  cases e with
  | normal => exact ⟨.normal, a₁, w₁, hq, .head h0 stepR_scope (StepsIn.trans harr (.one (fenced_calm hb hr rfl) stepR_inScope))⟩
  | exit id =>
    have hx : exitTo id (.inScope c :: k) = exitTo id k := by simp [exitTo]
    exact ⟨.exit id, a₁, w₁, hq, fun k' hk => .head h0 stepR_scope (harr.1 k' (by rw [hx]; exact hk)),
      fun hr' hk => let ⟨k₁, h1, h2⟩ := harr.2 hr' (by rw [hx]; exact hk); ⟨k₁, h1, .head h0 stepR_scope h2⟩⟩
  | goto l => exact hq.elim
  | ret => exact ⟨_, a₁, w₁, hq, .of_steps (.one h0 stepR_scope) harr⟩
  | panic ch => exact ⟨_, a₁, w₁, hq, .of_steps (.one h0 stepR_scope) harr⟩
  | outgrown => exact ⟨_, a₁, w₁, hq, .of_steps (.one h0 stepR_scope) harr⟩

theorem wpS_ok (hΓ : PCok P Γ) (hm : P.follows .mixedOrders = true) : ∀ (n : Nat) (E : Env), CodeOk P Γ Λ n E
  | 0, _, _, _, _, _, _, _, _, _, _, _, _, h, _, _ => h.elim
  | n + 1, E, ro, m, f, c, st, K, ρ, a, w, Q, hrf, h, D, hQ => by
    have ih := wpS_ok hΓ hm n E
    have hcs := calls_of_wpS (E := E) ih
    have hys := rounds_of_wpS (E := E) ih
    unfold wpS at h
    split at h
    · exact wpIn_skip (hQ .normal st ρ a w h (Ext.refl _) D (Fr.refl _ _))
    · exact wpIn_label (hQ .normal st ρ a w h (Ext.refl _) D (Fr.refl _ _))
    · rename_i id ops
      obtain ⟨st1, h, D⟩ := hintS_ok h D
      refine wpIn_region (runOps_ok (asg := asgd (.region id ops false)) hΓ hys hcs (fun i o t ho hd => ?_) _ _ ρ a w h D fun st' ρ' a' w' hk hx hD hf => hQ .normal st' ρ' a' w' hk hx hD hf)
      simp only [asgd, List.mem_filterMap]
      exact ⟨o, List.mem_of_getElem? (by simpa using ho), hd⟩
    · rename_i id ops
      obtain ⟨st1, h, D⟩ := hintS_ok h D
      have hdst : ∀ (i : Nat) (o : Oper) (t : Tmp), ops[i]? = some o → o.dst = some t → t ∈ asgd (.region id ops true) := fun i o t ho hd => by
        simp only [asgd, List.mem_filterMap]
        exact ⟨o, List.mem_of_getElem? (by simpa using ho), hd⟩
      simp only [bareNs_eq] at h
      cases hcb : callsB P Γ ops with
      | true =>
        rw [hcb, cond_true] at h
        exact wpIn_region_any hm (runFS_ok (asg := asgd (.region id ops true)) hΓ hys hcs hdst (st := st1) rfl h ⟨D.regs, D.heap.drawn _, D.defers⟩ fun st' ρ' a' w' hk hx hD hf => hQ .normal st' ρ' a' w' hk hx hD hf)
      | false =>
      rw [hcb, cond_false] at h
      cases hb : (Nat.beq (tailAt ops.toList 0) ops.size || !tailB ops (tailAt ops.toList 0)) with
      | true =>
        rw [hb, cond_true] at h
        exact wpIn_region_any hm (runD_ok (asg := asgd (.region id ops true)) hΓ hdst (ρ := ρ) (a := a) (st0 := ⟨st1.regs, st1.heap ++ List.replicate (roomOf P ops.toList) .hole, st1.df⟩) ⟨D.regs, (D.heap.pad _).drawn _, D.defers⟩ (fun Y ρ' a' w' hk hx hD hf => hQ .normal Y ρ' a' w' hk hx hD hf) h)
      | false =>
        rw [hb, cond_false] at h
        have ht : tailB ops (tailAt ops.toList 0) = true := by
          cases ht : tailB ops (tailAt ops.toList 0) with
          | true => rfl
          | false => rw [ht] at hb; simp at hb
        obtain ⟨ht0, htl⟩ := tailB_ok ht
        exact wpIn_region_any hm (runDT_ok (asg := asgd (.region id ops true)) hΓ hdst (ρ := ρ) (a := a) (st0 := ⟨st1.regs, st1.heap ++ List.replicate (roomOf P ops.toList) .hole, st1.df⟩) ⟨D.regs, (D.heap.pad _).drawn _, D.defers⟩ ht (fun Y ρ1 a1 w1 ls hk hbk hx hD hf h1 h2 h3 =>
          tail_ok (asg := asgd (.region id ops true)) hΓ hys hcs hdst (back_ok hbk) htl _ _ Y ρ1 a1 w1 ls (by omega) (Nat.le_refl _) h1 h2 h3 hk hD fun st' ρ' a' w' hk' hx' hD' hf' => hQ .normal st' ρ' a' w' hk' (hx.trans hx') hD' (hf.trans hf')) h)
    · rename_i x y
      refine wpIn_seq (ih ro m f x st _ ρ a w _ (fun e => hrf (by simp [hasRF, e])) h D fun e st' ρ' a' w' hk hx hD hf => ?_)
      have hf1 : Fr (asgd (.seq x y)) a a' := hf.mono fun t ht => by simp [asgd, ht]
      cases e with
      | normal => exact ih ro m f y st' K ρ' a' w' Q (fun e => hrf (by simp [hasRF, e])) hk hD fun e st'' ρ'' a'' w'' hk' hx' hD' hf' => hQ e st'' ρ'' a'' w'' hk' (hx.trans hx') hD' (hf1.trans (hf'.mono fun t ht => by simp [asgd, ht]))
      | exit id => exact hQ (.exit id) st' ρ' a' w' hk hx hD hf1
      | ret => exact hQ .ret st' ρ' a' w' hk hx hD hf1
    · rename_i x y z
      have hy : ∀ e st' ρ' a' w', K e st' → Ext ρ ρ' → Den E ρ' st' a' w' → Fr (asgd y) a a' → Q e.den a' w' := fun e st' ρ' a' w' hk hx hD hf => hQ e st' ρ' a' w' hk hx hD (hf.mono fun t ht => by simp [asgd, ht])
      have hz : ∀ e st' ρ' a' w', K e st' → Ext ρ ρ' → Den E ρ' st' a' w' → Fr (asgd z) a a' → Q e.den a' w' := fun e st' ρ' a' w' hk hx hD hf => hQ e st' ρ' a' w' hk hx hD (hf.mono fun t ht => by simp [asgd, ht])
      split at h
      · rename_i t
        split at h
        · rename_i v hv
          have hev : a.eval (.tmp t) = .bool v := by
            have := D.ev (.tmp t)
            simp only [evR, hv, DV] at this
            exact this
          refine wpIn_cond_split hev (fun e => ?_) (fun e => ?_)
          · subst e; exact ih ro m f y _ K ρ a w Q (fun e => hrf (by simp [hasRF, e])) h D hy
          · subst e; exact ih ro m f z _ K ρ a w Q (fun e => hrf (by simp [hasRF, e])) h D hz
        · rename_i p q hv
          have hget : st.regs[t]? = some (.q p q) := by
            rw [List.getD_eq_getElem?_getD] at hv
            cases hq : st.regs[t]? with
            | none => rw [hq] at hv; cases hv
            | some s => rw [hq] at hv; simp at hv; rw [hv]
          simp only [bareSt_eq] at h
          obtain ⟨b, hev, h1, h2, hD⟩ := D.knowQ hget
          refine wpIn_cond_split hev (fun e => ?_) (fun e => ?_)
          · subst e
            have h := h.1
            rw [h1 rfl] at h
            exact ih ro m f y _ K ρ a w Q (fun e => hrf (by simp [hasRF, e])) h hD hy
          · subst e
            have h := h.2
            rw [h2 rfl] at h
            exact ih ro m f z _ K ρ a w Q (fun e => hrf (by simp [hasRF, e])) h hD hz
        · rename_i v hv
          have hget : st.regs[t]? = some (.b v) := by
            rw [List.getD_eq_getElem?_getD] at hv
            cases hq : st.regs[t]? with
            | none => rw [hq] at hv; cases hv
            | some s => rw [hq] at hv; simp at hv; rw [hv]
          have hev : a.eval (.tmp t) = .bool v := by
            have := D.ev (.tmp t)
            simp only [evR, hv, DV] at this
            exact this
          simp only [bareSt_eq] at h
          refine wpIn_cond_split hev (fun e => ?_) (fun e => ?_)
          · subst e; exact ih ro m f y _ K ρ a w Q (fun e => hrf (by simp [hasRF, e])) h (D.know hget) hy
          · subst e; exact ih ro m f z _ K ρ a w Q (fun e => hrf (by simp [hasRF, e])) h (D.know hget) hz
        · exact h.elim
      · exact wpIn_cond_true rfl (ih ro m f y st K ρ a w Q (fun e => hrf (by simp [hasRF, e])) h D hy)
      · exact wpIn_cond_false rfl (ih ro m f z st K ρ a w Q (fun e => hrf (by simp [hasRF, e])) h D hz)
      · exact h.elim
    · rename_i id b
      refine wpIn_block (ih ro m f b st _ ρ a w _ (fun e => hrf (by simpa [hasRF] using e)) h D fun e st' ρ' a' w' hk hx hD hf => ?_)
      have hf1 : Fr (asgd (.block id b)) a a' := hf.mono fun t ht => by simpa [asgd] using ht
      cases e with
      | normal => exact hQ .normal st' ρ' a' w' hk hx hD hf1
      | ret => exact hQ .ret st' ρ' a' w' hk hx hD hf1
      | exit id' =>
        simp only [Ex.den, Exit.inBlock]
        simp only at hk
        split at hk
        · rename_i he; rw [if_pos he]; exact hQ .normal st' ρ' a' w' hk hx hD hf1
        · rename_i he; rw [if_neg he]; exact hQ (.exit id') st' ρ' a' w' hk hx hD hf1
    · rename_i b
      split at h
      · rename_i L0 _
        generalize L0 st = L at h
        obtain ⟨s0, hi0, h⟩ := h
        rw [bareX_eq] at h
        obtain ⟨_, _, _, hS⟩ := unifS_ok (Pat.of L st s0).news (Pat.of L st s0).regs (Pat.of L st s0).heap st
        obtain ⟨ρ0, hx0, D00⟩ := hS E ρ a w D
        have D0 : Den (E.at w) ρ0 _ a w := ⟨D00.regs, D00.heap.rebase, D00.defers⟩
        have ihE := wpS_ok hΓ hm n (E.at w)
        generalize unifS (Pat.of L st s0).news (Pat.of L st s0).regs (Pat.of L st s0).heap st = x at h D0 D00
        obtain ⟨hsp0, hfit0, hrest⟩ := conjB_iff h
        obtain ⟨ρ1, hx1, hD1⟩ := headOf_den D0 D0 (Ext.refl _) (Fr.refl (asgd b) a) (Stat.refl w) hsp0.1 hfit0
        refine wpIn_loop_ix (fun s a' w' => ∃ ρ', L.inv s ∧ Ext ρ0 ρ' ∧ Den (E.at w) ρ' (headOf (asgd b) (Pat.of L st s) x.1) a' w' ∧ Fr (asgd b) a a') L.mu ?_ s0 a w ⟨ρ1, hi0, hx1, hD1, Fr.refl _ _⟩
        rintro s a1 w1 ⟨ρ1, hinv, hx1, hD1, hf1⟩
        have hb := (conjB_iff (hrest s hinv)).2
        rw [bareStF_eq] at hb
        refine ihE ro m f b _ _ ρ1 a1 w1 _ (fun e => hrf (by simpa [hasRF] using e)) hb hD1 fun e st' ρ' a' w' hk hx hD hf => ?_
        have hfa : Fr (asgd b) a a' := hf1.trans hf
        have hfl : Fr (asgd (.loop b)) a a' := hfa.mono fun t ht => by simpa [asgd] using ht
        cases e with
        | exit id => exact hQ (.exit id) st' ρ' a' w' hk (hx0.trans (hx1.trans hx)) ⟨hD.regs, D00.heap.unbase hD.heap, hD.defers⟩ hfl
        | ret => exact hQ .ret st' ρ' a' w' hk (hx0.trans (hx1.trans hx)) ⟨hD.regs, D00.heap.unbase hD.heap, hD.defers⟩ hfl
        | normal =>
          obtain ⟨s', hi', hmu, hmr⟩ := hk
          rw [bareX_eq] at hmr
          obtain ⟨_, _, _, hS⟩ := unifS_ok (Pat.of L st s').news (Pat.of L st s').regs (Pat.of L st s').heap st'
          obtain ⟨ρ2, hx2, hD2⟩ := hS (E.at w) ρ' a' w' hD
          obtain ⟨hsp, hfit⟩ := conjB_iff hmr
          obtain ⟨ρ3, hx3, hD3⟩ := headOf_den D0 hD2 ((hx1.trans hx).trans hx2) hfa hD2.heap.same.stat hsp.1 hfit
          exact ⟨s', ⟨ρ3, hi', hx3, hD3, hfa⟩, hmu⟩
      · have key : ∀ (m' : Nat) (st' : St) (ρ' : Rho) (a' : Act) (w' : World), loopS (fun st K => wpS P Γ Λ n f b st K) m' st' K → Ext ρ ρ' → Den E ρ' st' a' w' → Fr (asgd (.loop b)) a a' → Code.roundsIn (FW ro) m P b Q m' a' w' := by
          intro m'
          induction m' with
          | zero => intro st' ρ' a' w' hl; exact hl.elim
          | succ m' ihm =>
            intro st' ρ' a' w' hl hx hD hf
            refine ih ro m f b st' _ ρ' a' w' _ (fun e => hrf (by simpa [hasRF] using e)) hl hD fun e st'' ρ'' a'' w'' hk hx' hD' hf' => ?_
            have hfl : Fr (asgd (.loop b)) a a'' := hf.trans (hf'.mono fun t ht => by simpa [asgd] using ht)
            cases e with
            | exit id => exact hQ (.exit id) st'' ρ'' a'' w'' hk (hx.trans hx') hD' hfl
            | ret => exact hQ .ret st'' ρ'' a'' w'' hk (hx.trans hx') hD' hfl
            | normal => exact ihm st'' ρ'' a'' w'' hk (hx.trans hx') hD' hfl
        exact wpIn_loop_rounds n (key n st ρ a w h (Ext.refl _) D (Fr.refl _ _))
    · rename_i b
      refine wpIn_scope (ih ro m f b st K ρ a w _ (fun e => hrf (by simpa [hasRF] using e)) h D fun e st' ρ' a' w' hk hx hD hf => ?_)
      have hf1 : Fr (asgd (.scope b)) a a' := hf.mono fun t ht => by simpa [asgd] using ht
      have := hQ e st' ρ' a' w' hk hx hD hf1
      cases e <;> exact this
    · exact wpIn_exit (hQ (.exit _) st ρ a w h (Ext.refl _) D (Fr.refl _ _))
    · exact wpIn_ret (hQ .ret st ρ a w h (Ext.refl _) D (Fr.refl _ _))
    · rename_i g ps assign body
      have hro : ro = none := hrf rfl
      subst hro
      split at h
      · rename_i gf first cap hg
        cases hen : enterOk P gf with
        | false => rw [hen] at h; exact h.elim
        | true =>
          rw [hen, cond_true] at h
          have hgv := D.ev g
          rw [hg] at hgv
          simp only [DV] at hgv
          obtain ⟨va, vb, hge, hda, hdb⟩ := hgv
          refine wpIn_rangeFunc fun fn _ => ?_
          -- the two blocks
          obtain ⟨hx1, D1⟩ := D.heap.allocO (b := .dfr) (o := .deferred (some [])) (fun v => ⟨_, upd_same _ _, World.alloc_heap_new w _⟩) (fun ρ' hr n ⟨q, hq, e⟩ => by rw [hr] at hq; cases hq; exact e.symm)
          generalize hρ1 : upd ρ st.heap.length ⟨w.heap.size, undef⟩ = ρ1 at hx1 D1
          have hd1 : ρ1 st.heap.length = some ⟨w.heap.size, undef⟩ := by rw [← hρ1]; exact upd_same _ _
          have hlen1 : (st.heap ++ [Blk.dfr]).length = st.heap.length + 1 := by simp
          obtain ⟨hx2, D2⟩ := D1.allocO (b := .loop f st.regs ps assign body .ready none st.heap.length) (o := .loop { state := .ready, pending := none, fn := fn, tmps := a.tmps, params := ps, assign, body, defers := w.heap.size })
            (fun v => ⟨_, ⟨w.heap.size, undef⟩, a.tmps, fn, upd_same _ _, upd_ext (D1.fresh _ (Nat.le_refl _)) _ _ hd1, World.alloc_heap_new _ _, DL.mono (hx1.trans (upd_ext (D1.fresh _ (Nat.le_refl _)))) _ _ D.regs⟩)
            (fun ρ' hr n ⟨q, hq, e⟩ => by rw [hr] at hq; cases hq; exact e.symm)
          rw [hlen1] at hx2 D2
          generalize hρ2 : upd ρ1 (st.heap.length + 1) ⟨(w.alloc (.deferred (some []))).heap.size, undef⟩ = ρ2 at hx2 D2
          have hsz : (w.alloc (.deferred (some []))).heap.size = w.heap.size + 1 := by simp
          have hl2 : ρ2 (st.heap.length + 1) = some ⟨w.heap.size + 1, undef⟩ := by rw [← hρ2, hsz]; exact upd_same _ _
          have hd2 := hx2 _ _ hd1
          rw [List.append_assoc] at D2
          have hx := hx1.trans hx2
          have hargs : DL ρ2 (first ++ [.yl (st.heap.length + 1)] ++ cap) (va.toList ++ [.func (.yield (w.heap.size + 1)) #[] #[]] ++ vb.toList) :=
            ((DL.mono hx _ _ hda).append (DL.cons (by simp only [DV]; exact ⟨_, hl2, rfl⟩) DL.nil)).append (DL.mono hx _ _ hdb)
          obtain ⟨W, hW⟩ : ∃ W, W = (w.alloc (.deferred (some []))).alloc (.loop { state := .ready, pending := none, fn := fn, tmps := a.tmps, params := ps, assign, body, defers := w.heap.size }) := ⟨_, rfl⟩
          rw [← hW] at D2
          refine ⟨w.heap.size + 1, [{ target := .collected w.heap.size, args := #[] }], W, { target := .fn (.func gf) vb, args := va ++ #[.func (.yield (w.heap.size + 1)) #[] #[]] }, W, gf, (va.toList ++ [Value.func (.yield (w.heap.size + 1)) #[] #[]] ++ vb.toList).toArray, W,
            by rw [hW]; exact run_enterLoop_outer fn a.tmps ps assign body, ?_, fun _ _ => trivial, ?_, by simp, ?_⟩
          · simp only [resolve, hge, Deferred.ofValue, Sem.run_pure]
            simp [Act.eval]
          · unfold enterOk at hen
            split at hen
            · rename_i fn' hfn
              simp only [Bool.and_eq_true, Bool.not_eq_true'] at hen
              have hb : fn'.body.isNone = false := by cases hx : fn'.body <;> simp [hx] at hen ⊢
              simp only [Sem.run_bind, Sem.run_pure, Result.andThen_ok, invoke, callFunc, run_program, hfn, hen.2, Bool.false_eq_true, if_false, hb]
              congr 2
              apply Array.ext'
              simp
            · cases hen
          · refine callsIn_fw ((hcs _ _ _ _ h ρ2 _ _ D2 hargs).mono ?_)
            rintro e w3 ⟨y, v, h3, ρ3, rfl, hx3, _, hD3, hk⟩
            split at hk
            · rename_i f4 r4 p4 a4 b4 s4 q4 d4 hl4
              obtain ⟨L, hw, rfl, rfl, _, _, _, _, hturn⟩ := hD3.putLoop hl4 (hx3 _ _ hl2)
              have hD4 := (hturn .exhausted L.pending).2
              have hxx := hx.trans hx3
              have key : ∀ (e : Ex) (a' : Act), a' = { a with defers := [{ target := .collected w.heap.size, args := #[] }] ++ a.defers } → K e ⟨st.regs, h3.set (st.heap.length + 1) .dead, st.heap.length :: st.df⟩ → Q e.den a' (w3.putObj (w.heap.size + 1) (.loop { L with state := .exhausted })) := fun e a' ha hk => by
                subst ha
                exact hQ e _ ρ3 _ _ hk hxx ⟨DL.mono hxx _ _ D.regs, hD4, ⟨_, _, hx3 _ _ hd2, rfl, D.defers.mono hxx⟩⟩ ⟨rfl, fun _ _ => rfl⟩
              have hnb : L.state ≠ .busy := fun e => by simp only [endRF, e] at hk; exact hk.elim
              refine ⟨_, _, run_endLoop hw hnb, ?_⟩
              unfold endRF at hk
              split at hk
              · exact hk.elim
              · split at hk
                · rename_i hq
                  have k2 := key .normal _ rfl hk
                  rw [hq] at k2 ⊢
                  exact k2
                · rename_i c hq
                  unfold codeEx at hk
                  cases c with
                  | ret =>
                    have k2 := key .ret _ rfl hk
                    rw [hq] at k2 ⊢
                    exact wpIn_ret k2
                  | exit id =>
                    have k2 := key (.exit id) _ rfl hk
                    rw [hq] at k2 ⊢
                    exact wpIn_exit k2
                  | _ => exact hk.elim
            · exact hk.elim
      · exact h.elim
    · exact h.elim

end
end Go.Eng
