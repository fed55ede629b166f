/- The engine: what it says of code and of calls is so. No condition. -/
import Derived.Test.YtgjjjcihiahpoaaEngI
namespace Go.Eng

section
variable {P : Program} {Γ : PC} {E : Env} {Λ : LoopSpecs}

theorem resOne_run {ρ : Rho} {st : St} {a : Act} {w : World} (D : Den E ρ st a w) {r : ResultVar} {s : SV} (h : resOne P st r = some s) :
    ∃ y, (match r with
      | .tmp t => (pure (a.tmps.getD t undef) : Sem Value)
      | .cell x t => do loadVar t (← asAddr (a.tmps.getD x undef))).run P w = .ok y w ∧ DV E ρ s y := by
  have getD : ∀ t, DV E ρ (st.regs.getD t .any) (a.tmps.getD t undef) := fun t => by
    have := D.regs.getD t undef
    simpa [Array.getD_eq_getD_getElem?, List.getD_eq_getElem?_getD] using this
  cases r with
  | tmp t => simp only [resOne, Option.some.injEq] at h; subst h; exact ⟨_, rfl, getD t⟩
  | cell x t =>
    simp only [resOne] at h
    split at h
    · rename_i i off hx
      split at h
      · rename_i el cs hi
        have hv := getD x
        rw [hx] at hv
        simp only [DV] at hv
        obtain ⟨p, hp, hv⟩ := hv
        obtain ⟨q, vs, hq, hb, hd⟩ := D.heap.ok i _ hi
        rw [hp] at hq; cases hq
        obtain ⟨y, hy, hdv⟩ := loadFrom_run h hb hd
        exact ⟨y, by simp only [hv, asAddr, Sem.run_bind, Sem.run_pure, Result.andThen_ok, hy], hdv⟩
      · cases h
    · cases h

theorem resAll_run {ρ : Rho} {st : St} {a : Act} {w : World} (D : Den E ρ st a w) : ∀ {l : List ResultVar} {m : List SV}, resAll P st l = some m →
    ∃ ys : List Value, (l.mapM (m := Sem) fun
      | .tmp t => pure (a.tmps.getD t undef)
      | .cell x t => do loadVar t (← asAddr (a.tmps.getD x undef))).run P w = .ok ys w ∧ DL E ρ m ys
  | [], m, h => by simp only [resAll, Option.some.injEq] at h; subst h; exact ⟨[], rfl, DL.nil⟩
  | r :: l, m, h => by
    simp only [resAll] at h
    split at h
    · rename_i s m' hs hm
      cases h
      obtain ⟨y, hy, hd⟩ := resOne_run D hs
      obtain ⟨ys, hys, hds⟩ := resAll_run D hm
      refine ⟨y :: ys, ?_, DL.cons hd hds⟩
      simp only [List.mapM_cons, Sem.run_bind]
      rw [hy]
      simp only [Result.andThen_ok, hys, Sem.run_pure]
    · cases h

theorem results_run {fn : Func} {ρ : Rho} {st : St} {a : Act} {w : World} (D : Den E ρ st a w) {m : List SV} (h : resAll P st fn.results.toList = some m) :
    ∃ y, (results fn a.tmps).run P w = .ok y w ∧ DV E ρ (match m with | [v] => v | l => .tup l) y := by
  obtain ⟨ys, hys, hd⟩ := resAll_run D h
  have hm : (fn.results.mapM (m := Sem) fun
      | .tmp t => pure (a.tmps.getD t undef)
      | .cell x t => do loadVar t (← asAddr (a.tmps.getD x undef))).run P w = .ok ys.toArray w := by
    rw [← Array.toArray_toList (xs := fn.results), List.mapM_toArray, Sem.run_map, hys]
    rfl
  have hl := hd.length
  have hrun : (results fn a.tmps).run P w = .ok (if h : ys.toArray.size = 1 then ys.toArray[0] else .tuple ys.toArray) w := by
    unfold results
    rw [Sem.run_bind]
    erw [hm]
    rfl
  refine ⟨_, hrun, ?_⟩
  split
  · rename_i v
    cases ys with
    | nil => simp at hl
    | cons y r =>
      cases r with
      | nil => simp only [DL] at hd; obtain ⟨y', t, e, hy, _⟩ := hd; cases e; simpa using hy
      | cons _ _ => simp at hl
  · rename_i hne
    have : ¬ ys.toArray.size = 1 := fun e => by
      cases m with
      | nil => simp at hl; simp [hl] at e
      | cons v r =>
        cases r with
        | nil => exact hne v h rfl HEq.rfl
        | cons _ _ => simp at e hl; omega
    rw [dif_neg this]
    simp only [DV]
    exact ⟨_, rfl, by simpa using hd⟩

theorem replicate_undef_DL {ρ : Rho} (n : Nat) : DL E ρ (List.replicate n (.v undef)) (List.replicate n undef) := by
  refine DL.mk' (by simp) fun i s y hs hy => ?_
  simp only [List.getElem?_replicate] at hs hy
  split at hs
  · rename_i hlt
    rw [if_pos hlt] at hy
    cases hs; cases hy; simp [DV]
  · cases hs

/-- A function's body, run by the engine, is its call. -/
theorem calls_of_wpS {n : Nat} (ih : ∀ (f : FuncId) (c : Code) (st : St) (K : Ex → St → Prop) (ρ : Rho) (a : Act) (w : World) (Q : Exit → Act → World → Prop), wpS P Γ Λ n f c st K → Den E ρ st a w →
      (∀ e st' ρ' a' w', K e st' → Ext ρ ρ' → Den E ρ' st' a' w' → Fr (asgd c) a a' → Q e.den a' w') → c.wp P Q a w) :
    CSok P E fun g args h K' => match P.funcs[g]? with
      | some fn => match fn.body with
        | some body => bareSt ⟨args ++ List.replicate (fn.ntmps - args.length) (.v undef), h⟩ fun st0 => wpS P Γ Λ n g body st0 fun e st' => match e with
          | .exit _ => Stuck "exit" fn.name
          | _ => match resAll P st' fn.results.toList with
            | some [v] => K' v st'.heap
            | some l => K' (.tup l) st'.heap
            | none => Stuck "results" fn.name
        | none => Stuck "body" fn.name
      | none => Stuck "function" "" := by
  intro g args h K hcs ρ w vs D hargs
  split at hcs
  · rename_i fn hfn
    split at hcs
    · rename_i body hbody
      rw [bareSt_eq] at hcs
      refine calls_of_wp hfn hbody (ih g body _ _ ρ _ w _ hcs ⟨?_, D, rfl⟩ ?_)
      · have hl := hargs.length
        simp only [Array.toList_append, Array.toList_replicate, List.size_toArray]
        rw [hl]
        exact hargs.append (replicate_undef_DL _)
      · intro e st' ρ' a' w' hk hx D' _
        have fin : ∀ v, (match resAll P st' fn.results.toList with
            | some [v] => K v st'.heap
            | some l => K (.tup l) st'.heap
            | none => Stuck "results" fn.name) → v = (match resAll P st' fn.results.toList with
            | some [v] => v
            | some l => .tup l
            | none => .any) → a'.defers = [] ∧ ∃ y, (results fn a'.tmps).run P w' = .ok y w' ∧ ∃ y' v h' ρ'', Ending.returned y = .returned y' ∧ Ext ρ ρ'' ∧ DV E ρ'' v y' ∧ DH E ρ'' h' w' ∧ K v h' := by
          intro v hk _
          cases hr : resAll P st' fn.results.toList with
          | none => rw [hr] at hk; exact hk.elim
          | some m =>
            obtain ⟨y, hy, hd⟩ := results_run D' hr
            rw [hr] at hk
            refine ⟨D'.defers, y, hy, y, _, st'.heap, ρ', rfl, hx, hd, D'.heap, ?_⟩
            cases m with
            | nil => exact hk
            | cons v r => cases r <;> exact hk
        cases e with
        | normal => exact fin _ hk rfl
        | ret => exact fin _ hk rfl
        | exit id => exact hk.elim
    · exact hcs.elim
  · exact hcs.elim

theorem wpS_ok (hΓ : PCok P Γ) (hm : P.follows .mixedOrders = true) : ∀ (n : Nat) (f : FuncId) (c : Code) (st : St) (K : Ex → St → Prop) (ρ : Rho) (a : Act) (w : World) (Q : Exit → Act → World → Prop),
    wpS P Γ Λ n f c st K → Den E ρ st a w → (∀ e st' ρ' a' w', K e st' → Ext ρ ρ' → Den E ρ' st' a' w' → Fr (asgd c) a a' → Q e.den a' w') → c.wp P Q a w
  | 0, _, _, _, _, _, _, _, _, h, _, _ => h.elim
  | n + 1, f, c, st, K, ρ, a, w, Q, h, D, hQ => by
    have ih := wpS_ok hΓ hm n
    have hcs := calls_of_wpS (E := E) ih
    unfold wpS at h
    split at h
    · exact wp_skip (hQ .normal st ρ a w h (Ext.refl _) D (Fr.refl _ _))
    · rename_i id ops
      refine wp_region (runOps_ok (asg := asgd (.region id ops false)) hΓ hcs (fun i o t ho hd => ?_) _ _ ρ a w h D fun st' ρ' a' w' hk hx hD hf => hQ .normal st' ρ' a' w' hk hx hD hf)
      simp only [asgd, List.mem_filterMap]
      exact ⟨o, List.mem_of_getElem? (by simpa using ho), hd⟩
    · rename_i id ops
      refine wp_region_any hm (runD_ok (asg := asgd (.region id ops true)) hΓ (fun i o t ho hd => ?_) (ρ := ρ) (a := a) (st0 := ⟨st.regs, st.heap ++ List.replicate ops.size .hole⟩) ⟨D.regs, (D.heap.pad _).drawn _, D.defers⟩ (fun Y ρ' a' w' hk hx hD hf => hQ .normal Y ρ' a' w' hk hx hD hf) h)
      simp only [asgd, List.mem_filterMap]
      exact ⟨o, List.mem_of_getElem? (by simpa using ho), hd⟩
    · rename_i x y
      split at h
      rotate_left
      · rename_i L0 _
        generalize L0.at_ st = L at h
        obtain ⟨h, hrest⟩ := h
        refine wp_seq (ih f x st _ ρ a w _ h D fun e st' ρ' a' w' hk hx hD hf => ?_)
        have hf1 : Fr (asgd (.seq x y)) a a' := hf.mono fun t ht => by simp [asgd, ht]
        cases e with
        | normal =>
          obtain ⟨s', hi', hmr⟩ := hk
          obtain ⟨hr', hmr⟩ := matchRegs_iff hmr
          obtain ⟨hh', hmr⟩ := matchHeap_iff hmr
          obtain ⟨hk', _⟩ := matchHeap_iff hmr
          obtain ⟨hsp, hb⟩ := conjB_iff (hrest s' hi')
          rw [bareSt_eq] at hb
          obtain ⟨hx2, hD2⟩ := headOf_den (s := s') D hD hx hf hsp.1 hr' hh' hk'
          exact ih f y _ K _ a' w' Q hb hD2 fun e st'' ρ'' a'' w'' hk' hx' hD' hf' => hQ e st'' ρ'' a'' w'' hk' (hx2.trans hx') hD' (hf1.trans (hf'.mono fun t ht => by simp [asgd, ht]))
        | exit id => exact hQ (.exit id) st' ρ' a' w' hk hx hD hf1
        | ret => exact hQ .ret st' ρ' a' w' hk hx hD hf1
      refine wp_seq (ih f x st _ ρ a w _ h D fun e st' ρ' a' w' hk hx hD hf => ?_)
      have hf1 : Fr (asgd (.seq x y)) a a' := hf.mono fun t ht => by simp [asgd, ht]
      cases e with
      | normal => exact ih f y st' K ρ' a' w' Q hk hD fun e st'' ρ'' a'' w'' hk' hx' hD' hf' => hQ e st'' ρ'' a'' w'' hk' (hx.trans hx') hD' (hf1.trans (hf'.mono fun t ht => by simp [asgd, ht]))
      | exit id => exact hQ (.exit id) st' ρ' a' w' hk hx hD hf1
      | ret => exact hQ .ret st' ρ' a' w' hk hx hD hf1
    · rename_i x y z
      have hy : ∀ e st' ρ' a' w', K e st' → Ext ρ ρ' → Den E ρ' st' a' w' → Fr (asgd y) a a' → Q e.den a' w' := fun e st' ρ' a' w' hk hx hD hf => hQ e st' ρ' a' w' hk hx hD (hf.mono fun t ht => by simp [asgd, ht])
      have hz : ∀ e st' ρ' a' w', K e st' → Ext ρ ρ' → Den E ρ' st' a' w' → Fr (asgd z) a a' → Q e.den a' w' := fun e st' ρ' a' w' hk hx hD hf => hQ e st' ρ' a' w' hk hx hD (hf.mono fun t ht => by simp [asgd, ht])
      split at h
      · rename_i t
        split at h
        · rename_i v hv
          have hev : a.eval (.tmp t) = .bool v := by
            have := D.ev (.tmp t)
            simp only [evR, hv, DV] at this
            exact this
          refine wp_cond_split hev (fun e => ?_) (fun e => ?_)
          · subst e; exact ih f y _ K ρ a w Q h D hy
          · subst e; exact ih f z _ K ρ a w Q h D hz
        · rename_i v hv
          have hget : st.regs[t]? = some (.b v) := by
            rw [List.getD_eq_getElem?_getD] at hv
            cases hq : st.regs[t]? with
            | none => rw [hq] at hv; cases hv
            | some s => rw [hq] at hv; simp at hv; rw [hv]
          have hev : a.eval (.tmp t) = .bool v := by
            have := D.ev (.tmp t)
            simp only [evR, hv, DV] at this
            exact this
          simp only [bareSt_eq] at h
          refine wp_cond_split hev (fun e => ?_) (fun e => ?_)
          · subst e; exact ih f y _ K ρ a w Q h (D.know hget) hy
          · subst e; exact ih f z _ K ρ a w Q h (D.know hget) hz
        · exact h.elim
      · exact wp_cond_true rfl (ih f y st K ρ a w Q h D hy)
      · exact wp_cond_false rfl (ih f z st K ρ a w Q h D hz)
      · exact h.elim
    · rename_i id b
      refine wp_block (ih f b st _ ρ a w _ h D fun e st' ρ' a' w' hk hx hD hf => ?_)
      have hf1 : Fr (asgd (.block id b)) a a' := hf.mono fun t ht => by simpa [asgd] using ht
      cases e with
      | normal => exact hQ .normal st' ρ' a' w' hk hx hD hf1
      | ret => exact hQ .ret st' ρ' a' w' hk hx hD hf1
      | exit id' =>
        simp only [Ex.den, Exit.inBlock]
        simp only at hk
        split at hk
        · rename_i he; rw [if_pos he]; exact hQ .normal st' ρ' a' w' hk hx hD hf1
        · rename_i he; rw [if_neg he]; exact hQ (.exit id') st' ρ' a' w' hk hx hD hf1
    · rename_i b
      split at h
      · rename_i L0 _
        generalize L0.at_ st = L at h
        obtain ⟨s0, hi0, hm0, hrest⟩ := h
        obtain ⟨hr0, hm0⟩ := matchRegs_iff hm0
        obtain ⟨hh0, _⟩ := matchHeap_iff hm0
        have hspec : ∀ s, L.inv s → specOk (asgd b) st (L.regs s) (L.heap s) L.keep = true := fun s hs => (conjB_iff (hrest s hs)).1.1
        refine wp_loop_ix (fun s a' w' => ∃ ρ', L.inv s ∧ Ext ρ ρ' ∧ Den E ρ' (headOf (asgd b) L st s) a' w' ∧ Fr (asgd b) a a') L.mu ?_ s0 a w ?_
        · rintro s a1 w1 ⟨ρ1, hinv, hx1, hD1, hf1⟩
          have hb := (conjB_iff (hrest s hinv)).2
          rw [bareSt_eq] at hb
          refine ih f b _ _ ρ1 a1 w1 _ hb hD1 fun e st' ρ' a' w' hk hx hD hf => ?_
          have hfa : Fr (asgd b) a a' := hf1.trans hf
          have hfl : Fr (asgd (.loop b)) a a' := hfa.mono fun t ht => by simpa [asgd] using ht
          cases e with
          | exit id => exact hQ (.exit id) st' ρ' a' w' hk (hx1.trans hx) hD hfl
          | ret => exact hQ .ret st' ρ' a' w' hk (hx1.trans hx) hD hfl
          | normal =>
            obtain ⟨s', hi', hmu, hmr⟩ := hk
            obtain ⟨hr', hmr⟩ := matchRegs_iff hmr
            obtain ⟨hh', hmr⟩ := matchHeap_iff hmr
            obtain ⟨hk', _⟩ := matchHeap_iff hmr
            obtain ⟨hx2, hD2⟩ := headOf_den (s := s') D hD (hx1.trans hx) hfa (hspec s' hi') hr' hh' hk'
            exact ⟨s', ⟨_, hi', hx2, hD2, hfa⟩, hmu⟩
        · have hkeep : ∀ x ∈ keepL st L.keep, leBlk (st.heap.getD x.1 .dead) x.2 := fun x hx => by
            have hs := hspec s0 hi0
            simp only [specOk, Bool.and_eq_true, List.all_eq_true] at hs
            obtain ⟨i, hi, rfl⟩ := List.mem_map.1 hx
            exact leBlk_refl (hs.2 i hi).2
          obtain ⟨hx2, hD2⟩ := headOf_den (s := s0) D D (Ext.refl _) (Fr.refl (asgd b) a) (hspec s0 hi0) hr0 hh0 hkeep
          exact ⟨_, hi0, hx2, hD2, Fr.refl _ _⟩
      · have key : ∀ (m : Nat) (st' : St) (ρ' : Rho) (a' : Act) (w' : World), loopS (fun st K => wpS P Γ Λ n f b st K) m st' K → Ext ρ ρ' → Den E ρ' st' a' w' → Fr (asgd (.loop b)) a a' → Code.rounds P b Q m a' w' := by
          intro m
          induction m with
          | zero => intro st' ρ' a' w' hl; exact hl.elim
          | succ m ihm =>
            intro st' ρ' a' w' hl hx hD hf
            refine ih f b st' _ ρ' a' w' _ hl hD fun e st'' ρ'' a'' w'' hk hx' hD' hf' => ?_
            have hfl : Fr (asgd (.loop b)) a a'' := hf.trans (hf'.mono fun t ht => by simpa [asgd] using ht)
            cases e with
            | exit id => exact hQ (.exit id) st'' ρ'' a'' w'' hk (hx.trans hx') hD' hfl
            | ret => exact hQ .ret st'' ρ'' a'' w'' hk (hx.trans hx') hD' hfl
            | normal => exact ihm st'' ρ'' a'' w'' hk (hx.trans hx') hD' hfl
        exact wp_loop_rounds n (key n st ρ a w h (Ext.refl _) D (Fr.refl _ _))
    · exact wp_exit (hQ (.exit _) st ρ a w h (Ext.refl _) D (Fr.refl _ _))
    · exact wp_ret (hQ .ret st ρ a w h (Ext.refl _) D (Fr.refl _ _))
    · exact h.elim

end
end Go.Eng
