/- The engine: going through a map, in whichever order. No condition. -/
import Derived.Test.YtafmknblnamegaaDoorV8G
import Derived.Maps.RangeRun
namespace Go.Eng

def entS (k : IntKind) (kd : List Kd) (agg : Bool) (x : Int × List Value) : List SV := [.t (.int k x.1), valS agg kd x.2]
/-- One step through a map. -/
def walkS (P : Program) (o : Oper) (e : Operand → SV) (h : List Blk) (K : SV → List Blk → Prop) : Prop := match o.op with
  | .range t x => match P.underlying t, e x with
    | some (.map _ _), .mp mi => match h[mi]? with
      | some (.map _ _ _ m) => K (.ptr h.length 0) (h ++ [.iter mi m.length []])
      | _ => Stuck "range" o.pos
    | _, _ => Stuck "range" o.pos
  | .next it false => match e it with
    | .ptr i 0 => match h[i]? with
      | some (.iter mi n seen) => match h[mi]? with
        | some (.map k kd agg m) => m.length = n ∧ (∀ j, j < n → seen.contains j = false → K (.tup (.v (.bool true) :: entS k kd agg (m.getD j (0, [])))) (h.set i (.iter mi n (j :: seen)))) ∧ ((∀ j, j < n → seen.contains j = true) → K (.tup [.v (.bool false)]) h)
        | _ => Stuck "next" o.pos
      | _ => Stuck "next" o.pos
    | _ => Stuck "next" o.pos
  | .entry it => match e it with
    | .ptr i 0 => match h[i]? with
      | some (.iter mi n (j :: _)) => match h[mi]? with
        | some (.map k kd agg m) => m.length = n ∧ j < n ∧ K (.tup (entS k kd agg (m.getD j (0, [])))) h
        | _ => Stuck "entry" o.pos
      | _ => Stuck "entry" o.pos
    | _ => Stuck "entry" o.pos
  | _ => Stuck "op" o.pos

section
variable {P : Program} {E : Env} {ρ : Rho} {w : World} {hp : List Blk} {o : Oper} {e : Operand → SV} {ev : Operand → Value}

theorem entAt {k : IntKind} {agg : Bool} {m : List (Int × List Value)} {j : Nat} (h : j < m.length) : (entsOf k agg m)[j]? = some { key := .int k (m.getD j (0, [])).1, val := mval agg (m.getD j (0, [])).2, born := j } := by
  rw [entsOf_eq, entsAt_get, List.getElem?_eq_getElem h]
  simp [List.getD, List.getElem?_eq_getElem h]
theorem ent_mem {k : IntKind} {agg : Bool} {m : List (Int × List Value)} {x : MapEntry} (h : x ∈ entsOf k agg m) : ∃ j, j < m.length ∧ x = { key := .int k (m.getD j (0, [])).1, val := mval agg (m.getD j (0, [])).2, born := j } := by
  obtain ⟨j, hj⟩ := List.mem_iff_getElem?.1 h
  have hl : j < m.length := by
    have := (List.getElem?_eq_some_iff.1 hj).1
    rwa [entsOf_eq, entsAt_length] at this
  rw [entAt hl] at hj
  exact ⟨j, hl, (Option.some.inj hj).symm⟩
theorem ents_born (k : IntKind) (agg : Bool) (m : List (Int × List Value)) : (entsOf k agg m).map (·.born) = List.range m.length := by
  apply List.ext_getElem?
  intro j
  by_cases h : j < m.length
  · simp [entAt h, List.getElem?_range h]
  · rw [List.getElem?_eq_none (by simp [entsOf_eq, entsAt_length]; omega), List.getElem?_eq_none (by simp; omega)]
theorem entS_DL {k : IntKind} {kd : List Kd} {agg : Bool} {m : List (Int × List Value)} {j : Nat} (h : j < m.length) (h1 : agg = false → kd.length = 1) (hm : ∀ x ∈ m, Wk kd x.2) :
    DL ρ (entS k kd agg (m.getD j (0, []))) [.int k (m.getD j (0, [])).1, mval agg (m.getD j (0, [])).2] := by
  have : m.getD j (0, []) ∈ m := by
    rw [List.getD, List.getElem?_eq_getElem h]; exact List.getElem_mem h
  exact DL.cons (by simp [DV]) (DL.cons (valS_DV (hm _ this) h1) DL.nil)

theorem walkS_ok {K : SV → List Blk → Prop} (h : walkS P o e hp K) (EV : ∀ x, DV ρ (e x) (ev x)) (D : DH E ρ hp w) :
    (∀ c, o.op ≠ .defer c) ∧ ∃ y v h' ρ' w', (execOp ev o).run P w = .ok (.value y) w' ∧ Ext ρ ρ' ∧ DV ρ' v y ∧ DH E ρ' h' w' ∧ K v h' := by
  unfold walkS at h
  split at h
  · rename_i t x ho
    refine ⟨fun c hc => (by rw [ho] at hc; cases hc), ?_⟩
    split at h
    · rename_i mi hu hx
      split at h
      · rename_i k kd agg m hm
        obtain ⟨p, hp', hw, h1, hmw⟩ := D.ok mi _ hm
        have hv := EV x
        rw [hx] at hv
        simp only [DV] at hv
        obtain ⟨q, hq, hv⟩ := hv
        rw [hp'] at hq; cases hq
        obtain ⟨hx1, D1⟩ := D.allocO (b := .iter mi m.length []) (o := .mapIter (some p.block) m.length #[] m.length)
          (fun v => ⟨_, p, upd_same _ _, (upd_ext (D.fresh _ (Nat.le_refl _))) mi p hp', World.alloc_heap_new w _⟩) (fun ρ' hr n ⟨q, hq, e⟩ => by rw [hr] at hq; cases hq; exact e.symm)
        refine ⟨.pointer (some ⟨w.heap.size, 0, none⟩), _, _, _, _, ?_, hx1, ?_, D1, h⟩
        · simp [execOp, ho, Instr.range, run_underlying hu, hv, MapKept.run_getObj_map hw]
        · simp only [DV]; exact ⟨_, upd_same _ _, rfl⟩
      · exact h.elim
    · exact h.elim
  · rename_i it ho
    refine ⟨fun c hc => (by rw [ho] at hc; cases hc), ?_⟩
    split at h
    · rename_i i hit
      split at h
      · rename_i mi n seen hi
        split at h
        · rename_i k kd agg m hm
          obtain ⟨rfl, hgo, hend⟩ := h
          obtain ⟨p, q, hp', hq, hw⟩ := D.ok i _ hi
          obtain ⟨q', hq', hwm, h1, hmw⟩ := D.ok mi _ hm
          rw [hq] at hq'; cases hq'
          have hv := EV it
          rw [hit] at hv
          simp only [DV] at hv
          obtain ⟨p', hpp, hv⟩ := hv
          rw [hp'] at hpp; cases hpp
          rcases run_next_at (P := P) w o.type p.block q.block m.length m.length seen.reverse.toArray (entsOf k agg m).toArray m.length hw hwm (fun x hx => by
            obtain ⟨j, hj, rfl⟩ := ent_mem (by simpa using hx); exact hj) (Nat.le_refl _) with ⟨hl, hr⟩ | ⟨en, hen, w1, hal, hr⟩
          · refine ⟨.tuple #[.bool false], _, _, ρ, w, ?_, Ext.refl _, ?_, D, hend fun j hj => ?_⟩
            · simp [execOp, ho, hv, hr]
            · simp only [DV]; exact ⟨_, rfl, DL.cons (by simp [DV]) DL.nil⟩
            · cases hc : seen.contains j with
              | true => rfl
              | false =>
                exfalso
                have hmem : ({ key := .int k (m.getD j (0, [])).1, val := mval agg (m.getD j (0, [])).2, born := j } : MapEntry) ∈ (leftOf (entsOf k agg m).toArray seen.reverse.toArray).toList := by
                  unfold leftOf
                  simp only [Array.toList_filter, List.mem_filter]
                  refine ⟨List.mem_iff_getElem?.2 ⟨j, entAt hj⟩, ?_⟩
                  simp only [List.contains_eq_mem, decide_eq_false_iff_not] at hc
                  simpa using hc
                have := List.length_pos_of_mem hmem
                rw [Array.length_toList, hl] at this
                omega
          · unfold leftOf at hen
            simp only [Array.toList_filter, List.mem_filter] at hen
            obtain ⟨hen, hns⟩ := hen
            obtain ⟨j, hj, rfl⟩ := ent_mem hen
            have hc : seen.contains j = false := by
              simp only [List.contains_eq_mem, decide_eq_false_iff_not]
              simpa using hns
            have D1 : DH E ρ hp w1 := by
              rcases hal with rfl | rfl
              · exact D
              · exact D.drawn _
            have hw1 : w1.heap[p.block]? = some (.mapIter (some q.block) m.length seen.reverse.toArray m.length) := by rcases hal with rfl | rfl <;> exact hw
            have hlt := (Array.getElem?_eq_some_iff.1 hw1).1
            have D2 := D1.turn (b' := .iter mi m.length (j :: seen)) (o' := .mapIter (some q.block) m.length (seen.reverse.toArray.push j) m.length) hi hp' ⟨p, hp', rfl⟩ hw1 (.inl fun L h => by cases h)
              ⟨p, q, hp', hq, by rw [World.putObj_heap_same hlt]; simp⟩ (by rintro n ⟨r, hr, rfl⟩; rw [hp'] at hr; cases hr; rfl)
            refine ⟨.tuple #[.bool true, .int k (m.getD j (0, [])).1, mval agg (m.getD j (0, [])).2], _, _, ρ, _, ?_, Ext.refl _, ?_, D2, hgo j hj hc⟩
            · simp [execOp, ho, hv, hr]; rfl
            · simp only [DV]; exact ⟨_, rfl, DL.cons (by simp [DV]) (entS_DL hj h1 hmw)⟩
        · exact h.elim
      · exact h.elim
    · exact h.elim
  · rename_i it ho
    refine ⟨fun c hc => (by rw [ho] at hc; cases hc), ?_⟩
    split at h
    · rename_i i hit
      split at h
      · rename_i mi n j seen hi
        split at h
        · rename_i k kd agg m hm
          obtain ⟨rfl, hj, hgo⟩ := h
          obtain ⟨p, q, hp', hq, hw⟩ := D.ok i _ hi
          obtain ⟨q', hq', hwm, h1, hmw⟩ := D.ok mi _ hm
          rw [hq] at hq'; cases hq'
          have hv := EV it
          rw [hit] at hv
          simp only [DV] at hv
          obtain ⟨p', hpp, hv⟩ := hv
          rw [hp'] at hpp; cases hpp
          have hr := run_entry_at (P := P) w p.block q.block m.length seen.reverse.toArray (entsOf k agg m).toArray m.length { key := .int k (m.getD j (0, [])).1, val := mval agg (m.getD j (0, [])).2, born := j }
            (by rw [hw]; simp) hwm (by simpa using List.mem_iff_getElem?.2 ⟨j, entAt hj⟩) (by
              have := ents_born k agg m
              simp only at this ⊢
              rw [this]; exact List.nodup_range)
          refine ⟨.tuple #[.int k (m.getD j (0, [])).1, mval agg (m.getD j (0, [])).2], _, _, ρ, w, ?_, Ext.refl _, ?_, D, hgo⟩
          · simp [execOp, ho, hv, hr]
          · simp only [DV]; exact ⟨_, rfl, entS_DL hj h1 hmw⟩
        · exact h.elim
      · exact h.elim
    · exact h.elim
  · exact h.elim
end
end Go.Eng
