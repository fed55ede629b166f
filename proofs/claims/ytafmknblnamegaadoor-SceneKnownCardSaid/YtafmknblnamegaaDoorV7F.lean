/- The engine: regions that draw their order, whole. No condition. -/
import Derived.Test.YtafmknblnamegaaDoorV7E
namespace Go.Eng

/-- Of the frame's slots, those outside a list are as they were. -/
def Fr (asg : List Tmp) (a a' : Act) : Prop := a'.tmps.size = a.tmps.size ∧ ∀ t, t ∉ asg → a'.tmps[t]? = a.tmps[t]?
theorem Fr.refl (asg : List Tmp) (a : Act) : Fr asg a a := ⟨rfl, fun _ _ => rfl⟩
theorem Fr.trans {asg : List Tmp} {a b c : Act} (h : Fr asg a b) (k : Fr asg b c) : Fr asg a c := ⟨k.1.trans h.1, fun t ht => (k.2 t ht).trans (h.2 t ht)⟩
theorem Fr.mono {asg asg' : List Tmp} {a b : Act} (h : Fr asg a b) (hs : ∀ t ∈ asg, t ∈ asg') : Fr asg' a b := ⟨h.1, fun t ht => h.2 t fun hm => ht (hs t hm)⟩
theorem Fr.put {asg : List Tmp} (a : Act) {d : Option Tmp} (y : Value) (h : ∀ t, d = some t → t ∈ asg) : Fr asg a (a.put d y) := ⟨by cases d <;> simp [Act.put], fun t ht => by
  cases d with
  | none => rfl
  | some u =>
    have hne : u ≠ t := fun e => ht (e ▸ h u rfl)
    simp [Act.put, Array.getElem?_setIfInBounds_ne hne]⟩

/-- The operation j must come ahead of i. -/
inductive AncP (ops : Array Oper) : Nat → Nat → Prop
  | one {i j : Nat} {o : Oper} {e : Edge} (ho : ops[i]? = some o) (he : e ∈ o.after) (hb : Region.binds .any e = true) (hj : e.on = j) : AncP ops i j
  | more {i j : Nat} {o : Oper} {e : Edge} (ho : ops[i]? = some o) (he : e ∈ o.after) (hb : Region.binds .any e = true) (t : AncP ops e.on j) : AncP ops i j

section
variable {P : Program} {Γ : PC} {E : Env} {w : World} {a : Act} {ops : Array Oper} {asg : List Tmp}

theorem Stp.real (hΓ : PCok P Γ) {ro : Option Nat} {m : Nat} {ρ : Rho} {pl : Nat → Nat} {i : Nat} {o : Oper} {q : Rec} {X : St} (h : Stp P Γ ops pl i o q X) (ho : ops[i]? = some o) (D : Den E ρ X a w)
    {K : Act → World → Prop} {Q : Exit → Act → World → Prop} (hd : ∀ t, o.dst = some t → t ∈ asg) (hK : ∀ ρ' a' w', Ext ρ ρ' → Den E ρ' (apply o q X) a' w' → Fr asg a a' → K a' w') : wpOpIn (FW ro) m P ops Q i K a w := by
  obtain ⟨h1, h3, h4⟩ := h
  unfold wpOpIn
  simp only [ho]
  cases hq : q.1 with
  | none =>
    simp only [hq] at h4
    rw [if_neg (by rcases h4 with h4 | h4; · rw [gv_no D.regs h4]; simp
                   · rw [gv_spec D.regs h4]; simp)]
    refine ⟨fun _ _ => trivial, hK ρ _ _ (Ext.refl _) ⟨?_, ?_, by rw [put_defers]; exact D.defers⟩ (Fr.put a undef hd)⟩
    · simp only [apply, Rec.val, hq]
      exact D.regs.setR _ (by simp [DV])
    · simp only [apply, Rec.eff, hq]
      exact D.heap
  | some r =>
    simp only [hq] at h4
    obtain ⟨_, r0, hop, h4⟩ := h4
    rcases h4 with ⟨hgo, hneed, he, hv⟩ | ⟨g, hg, hneed, he0, he, hv⟩
    · rw [if_pos (by rcases hgo with h | h; · exact gv_go D.regs h
                     · exact gv_spec D.regs h)]
      refine (opO_wp hΓ hop hneed D (h1.imp id fun g j hj => (g j hj).1) fun y w' ρ' hx hy hD => hK ρ' _ _ hx ⟨?_, ?_, by rw [put_defers]; exact D.defers.mono hx⟩ (Fr.put a y hd))
      · simp only [apply, Rec.val, hq, hv]
        exact (DL.mono hx _ _ D.regs).setR _ hy
      · simp only [apply, Rec.eff, hq, he]
        exact hD
    · cases g with
      | false =>
        rw [if_neg (by rw [gv_spec D.regs hg]; simp)]
        refine ⟨fun _ _ => trivial, hK ρ _ _ (Ext.refl _) ⟨?_, ?_, by rw [put_defers]; exact D.defers⟩ (Fr.put a undef hd)⟩
        · simp only [apply, Rec.val, hq, hv]
          exact D.regs.setR _ (by simp [DV])
        · simp only [apply, Rec.eff, hq, he]
          exact D.heap
      | true =>
        rw [if_pos (gv_spec D.regs hg)]
        refine (opO_wp hΓ hop (hneed rfl) D (h1.imp id fun g j hj => (g j hj).1) fun y w' ρ' hx hy hD => hK ρ' _ _ hx ⟨?_, ?_, by rw [put_defers]; exact D.defers.mono hx⟩ (Fr.put a y hd))
        · simp only [apply, Rec.val, hq, hv]
          exact (DL.mono hx _ _ D.regs).setR _ (by simp only [DV]; exact ⟨fun _ => hy, by simp⟩)
        · simp only [apply, Rec.eff, hq, he]
          rw [he0] at hD
          exact hD

theorem anc_listed {listed : Array Bool} (hc : ∀ (p : Nat) (o : Oper) (e : Edge), listed.getD p false = true → ops[p]? = some o → e ∈ o.after → Region.binds .any e = true → listed.getD e.on false = true)
    {i j : Nat} (h : AncP ops i j) : ∀ (o : Oper), ops[i]? = some o → (∀ e ∈ o.after, Region.binds .any e = true → listed.getD e.on false = true) → listed.getD j false = true := by
  induction h with
  | one ho he hb hj => intro o ho' hr; rw [ho] at ho'; cases ho'; rw [← hj]; exact hr _ he hb
  | more ho he hb t ih =>
    intro o ho' hr
    rw [ho] at ho'; cases ho'
    have hl := hr _ he hb
    have hsome : ∀ {i j : Nat}, AncP ops i j → ∃ p, ops[i]? = some p := fun t => by
      cases t with
      | one h _ _ _ => exact ⟨_, h⟩
      | more h _ _ _ => exact ⟨_, h⟩
    obtain ⟨p, hp⟩ := hsome t
    exact ih p hp fun f hf hfb => hc _ p f hl hp hf hfb

theorem any_ok (hΓ : PCok P Γ) {ro : Option Nat} {m : Nat} {pl : Nat → Nat} {Y : St} {Q : Exit → Act → World → Prop} (hdst : ∀ (i : Nat) (o : Oper) (t : Tmp), ops[i]? = some o → o.dst = some t → t ∈ asg)
    (hback : ∀ (i : Nat) (o : Oper) (e : Edge), ops[i]? = some o → e ∈ o.after → Region.binds .any e = true → e.on < i) :
    ∀ (n : Nat) (l : List (Nat × Rec)) (X : St) (a : Act) (w : World) (listed : Array Bool) (ρ : Rho), l.length = n → Chain P Γ ops pl X l Y → Den E ρ X a w → listed.size = ops.size →
    (∀ i, i < ops.size → (listed.getD i true = false ↔ ∃ q, (i, q) ∈ l)) → (∀ x ∈ l, x.1 < ops.size) → (l.map (·.1)).Pairwise (· < ·) →
    (∀ (p : Nat) (o : Oper) (e : Edge), listed.getD p false = true → ops[p]? = some o → e ∈ o.after → Region.binds .any e = true → listed.getD e.on false = true) →
    l.Pairwise (fun y x => Apart ops y x ∨ AncP ops x.1 y.1) →
    (∀ ρ' a' w', Ext ρ ρ' → Den E ρ' Y a' w' → Fr asg a a' → Q .normal a' w') → wpAnyIn (FW ro) m P .any ops Q n listed a w
  | 0, l, X, a, w, listed, ρ, hn, hch, D, hls, hl, hlt, hs, hc, hp, hQ => by
    have : l = [] := List.eq_nil_of_length_eq_zero hn
    subst this
    cases hch
    refine ⟨?_, hQ ρ a w (Ext.refl _) D (Fr.refl _ _)⟩
    unfold Region.ready
    rw [List.filter_eq_nil_iff]
    intro i hi hx
    simp only [List.mem_range] at hi
    simp only [Bool.and_eq_true, Bool.not_eq_true'] at hx
    have := (hl i hi).1 hx.1
    simp at this
  | n + 1, l, X, a, w, listed, ρ, hn, hch, D, hls, hl, hlt, hs, hc, hp, hQ => by
    refine ⟨?_, ?_⟩
    · intro hr
      exfalso
      cases l with
      | nil => simp at hn
      | cons x l =>
        have hx := hlt x (by simp)
        have hun : listed.getD x.1 true = false := (hl x.1 hx).2 ⟨x.2, by simp⟩
        have : x.1 ∈ Region.ready .any ops listed := by
          unfold Region.ready
          simp only [List.mem_filter, List.mem_range, Bool.and_eq_true, Bool.not_eq_true']
          refine ⟨hx, hun, ?_⟩
          cases ho : ops[x.1]? with
          | none => simp at ho; omega
          | some o =>
            simp only [Option.map_some, Option.getD_some, Array.all_eq_true', Bool.or_eq_true, Bool.not_eq_true']
            intro e he
            by_cases hb : Region.binds .any e = true
            · right
              have hlt' := hback x.1 o e ho he hb
              have hon : e.on < listed.size := by omega
              have : ¬ listed.getD e.on true = false := fun hf => by
                obtain ⟨q, hq⟩ := (hl e.on (by omega)).1 hf
                rcases List.mem_cons.1 hq with h | h
                · rw [← h] at hlt'; simp at hlt'
                · simp only [List.map_cons, List.pairwise_cons] at hs
                  have := hs.1 e.on (List.mem_map.2 ⟨_, h, rfl⟩)
                  omega
              simp only [Array.getD, hon, dite_true] at this ⊢
              simpa using this
            · left; simpa using hb
        rw [hr] at this
        simp at this
    · intro i hi
      unfold Region.ready at hi
      simp only [List.mem_filter, List.mem_range, Bool.and_eq_true, Bool.not_eq_true'] at hi
      obtain ⟨hilt, hun, hrdy⟩ := hi
      obtain ⟨q, hq⟩ := (hl i hilt).1 hun
      obtain ⟨l1, l2, rfl⟩ := List.append_of_mem hq
      have hil : i < listed.size := by omega
      cases ho : ops[i]? with
      | none => simp at ho; omega
      | some o =>
        simp only [ho, Option.map_some, Option.getD_some, Array.all_eq_true', Bool.or_eq_true, Bool.not_eq_true'] at hrdy
        have hrdy' : ∀ e ∈ o.after, Region.binds .any e = true → listed.getD e.on false = true := fun e he hb => by
          rcases hrdy e he with h | h
          · rw [hb] at h; cases h
          · exact h
        have hap : ∀ y ∈ l1, Apart ops y (i, q) := fun y hy => by
          have hpw := List.pairwise_append.1 hp
          rcases hpw.2.2 y hy (i, q) (by simp) with h | h
          · exact h
          · exfalso
            have hls' := anc_listed hc h o ho hrdy'
            have hy' := hlt y (by simp [hy])
            have hyu : listed.getD y.1 true = false := (hl y.1 hy').2 ⟨y.2, by simp [hy]⟩
            have hyl : y.1 < listed.size := by omega
            simp only [Array.getD, hyl, dite_true] at hls' hyu
            rw [hls'] at hyu; cases hyu
        obtain ⟨o', ho', hst, hch'⟩ := Chain.front l1 X hch hap
        rw [ho] at ho'; cases ho'
        have hsm : ((l1 ++ l2).map (·.1)).Pairwise (· < ·) := by
          refine List.Pairwise.sublist ?_ hs
          exact List.Sublist.map _ (List.Sublist.append_left (List.sublist_cons_self _ _) _)
        have hnotin : ∀ q', (i, q') ∉ l1 ++ l2 := by
          intro q' hm
          rw [List.map_append, List.map_cons, List.pairwise_append] at hs
          rcases List.mem_append.1 hm with h | h
          · have := hs.2.2 i (List.mem_map.2 ⟨_, h, rfl⟩) i (by simp)
            omega
          · have := (List.pairwise_cons.1 hs.2.1).1 i (List.mem_map.2 ⟨_, h, rfl⟩)
            omega
        refine hst.real hΓ ho D (fun t ht => hdst i o t ho ht) fun ρ' a' w' hx D' hfr => any_ok hΓ hdst hback n (l1 ++ l2) _ a' w' _ ρ' ?_ hch' D' (by simp [hls]) ?_ ?_ hsm ?_ ?_ ?_
        · simp only [List.length_append, List.length_cons] at hn ⊢; omega
        · intro k hk
          by_cases e : k = i
          · subst e
            have h1 : (listed.setIfInBounds k true).getD k true = true := by simp [Array.getD, hil]
            rw [h1]
            constructor
            · intro h; cases h
            · rintro ⟨q', hq'⟩; exact absurd hq' (hnotin q')
          · have hne : (listed.setIfInBounds i true).getD k true = listed.getD k true := by
              simp only [Array.getD_eq_getD_getElem?, Array.getElem?_setIfInBounds_ne (fun h => e h.symm)]
            rw [hne, hl k hk]
            constructor
            · rintro ⟨q', hq'⟩
              refine ⟨q', ?_⟩
              simp only [List.mem_append, List.mem_cons, Prod.mk.injEq] at hq' ⊢
              rcases hq' with h | ⟨h, _⟩ | h
              · exact .inl h
              · exact absurd h e
              · exact .inr h
            · rintro ⟨q', hq'⟩
              refine ⟨q', ?_⟩
              simp only [List.mem_append, List.mem_cons] at hq' ⊢
              rcases hq' with h | h
              · exact .inl h
              · exact .inr (.inr h)
        · intro x hx'
          refine hlt x ?_
          simp only [List.mem_append, List.mem_cons] at hx' ⊢
          rcases hx' with h | h
          · exact .inl h
          · exact .inr (.inr h)
        · intro p op e hpl hop he hb
          have hmono : ∀ k, listed.getD k false = true → (listed.setIfInBounds i true).getD k false = true := fun k hk => by
            by_cases e : k = i
            · subst e; simp [Array.getD, hil]
            · simpa only [Array.getD_eq_getD_getElem?, Array.getElem?_setIfInBounds_ne (fun h => e h.symm)] using hk
          by_cases hpi : p = i
          · subst hpi
            rw [ho] at hop; cases hop
            exact hmono _ (hrdy' e he hb)
          · refine hmono _ (hc p op e ?_ hop he hb)
            simpa only [Array.getD_eq_getD_getElem?, Array.getElem?_setIfInBounds_ne (fun h => hpi h.symm)] using hpl
        · exact List.Pairwise.sublist (List.Sublist.append_left (List.sublist_cons_self _ _) _) hp
        · exact fun ρ'' a'' w'' hx' D'' hfr' => hQ ρ'' a'' w'' (hx.trans hx') D'' (hfr.trans hfr')

theorem any_okT (hΓ : PCok P Γ) {ro : Option Nat} {m t0 r : Nat} (ht0 : t0 ≤ ops.size) (htail : ∀ i, t0 ≤ i → i < ops.size → ∀ j, j < i → AncP ops i j) {pl : Nat → Nat} {Y : St} {Q : Exit → Act → World → Prop} (hdst : ∀ (i : Nat) (o : Oper) (t : Tmp), ops[i]? = some o → o.dst = some t → t ∈ asg)
    (hback : ∀ (i : Nat) (o : Oper) (e : Edge), ops[i]? = some o → e ∈ o.after → Region.binds .any e = true → e.on < i) :
    ∀ (n : Nat) (l : List (Nat × Rec)) (X : St) (a : Act) (w : World) (listed : Array Bool) (ρ : Rho), l.length = n → Chain P Γ ops pl X l Y → Den E ρ X a w → listed.size = ops.size →
    (∀ i, i < t0 → (listed.getD i true = false ↔ ∃ q, (i, q) ∈ l)) → (∀ i, t0 ≤ i → i < ops.size → listed.getD i true = false) → (∀ x ∈ l, x.1 < t0) → (l.map (·.1)).Pairwise (· < ·) →
    (∀ (p : Nat) (o : Oper) (e : Edge), listed.getD p false = true → ops[p]? = some o → e ∈ o.after → Region.binds .any e = true → listed.getD e.on false = true) →
    l.Pairwise (fun y x => Apart ops y x ∨ AncP ops x.1 y.1) →
    (∀ ρ' a' w' ls, Ext ρ ρ' → Den E ρ' Y a' w' → Fr asg a a' → ls.size = ops.size → (∀ i, i < ops.size → ls.getD i true = decide (i < t0)) → (∀ (p : Nat) (o : Oper) (e : Edge), ls.getD p false = true → ops[p]? = some o → e ∈ o.after → Region.binds .any e = true → ls.getD e.on false = true) → wpAnyIn (FW ro) m P .any ops Q r ls a' w') → wpAnyIn (FW ro) m P .any ops Q (n + r) listed a w
  | 0, l, X, a, w, listed, ρ, hn, hch, D, hls, hl, hl2, hlt, hs, hc, hp, hQ => by
    have : l = [] := List.eq_nil_of_length_eq_zero hn
    subst this
    cases hch
    rw [Nat.zero_add]
    refine hQ ρ a w listed (Ext.refl _) D (Fr.refl _ _) hls (fun i hi => ?_) hc
    by_cases h : i < t0
    · rw [decide_eq_true h]
      cases hg : listed.getD i true with
      | true => rfl
      | false => obtain ⟨q, hq⟩ := (hl i h).1 hg; simp at hq
    · rw [decide_eq_false h]; exact hl2 i (by omega) hi
  | n + 1, l, X, a, w, listed, ρ, hn, hch, D, hls, hl, hl2, hlt, hs, hc, hp, hQ => by
    rw [show n + 1 + r = (n + r) + 1 by omega]
    refine ⟨?_, ?_⟩
    · intro hr
      exfalso
      cases l with
      | nil => simp at hn
      | cons x l =>
        have hx := hlt x (by simp)
        have hun : listed.getD x.1 true = false := (hl x.1 hx).2 ⟨x.2, by simp⟩
        have : x.1 ∈ Region.ready .any ops listed := by
          unfold Region.ready
          simp only [List.mem_filter, List.mem_range, Bool.and_eq_true, Bool.not_eq_true']
          refine ⟨by omega, hun, ?_⟩
          cases ho : ops[x.1]? with
          | none => simp at ho; omega
          | some o =>
            simp only [Option.map_some, Option.getD_some, Array.all_eq_true', Bool.or_eq_true, Bool.not_eq_true']
            intro e he
            by_cases hb : Region.binds .any e = true
            · right
              have hlt' := hback x.1 o e ho he hb
              have hon : e.on < listed.size := by omega
              have : ¬ listed.getD e.on true = false := fun hf => by
                obtain ⟨q, hq⟩ := (hl e.on (by omega)).1 hf
                rcases List.mem_cons.1 hq with h | h
                · rw [← h] at hlt'; simp at hlt'
                · simp only [List.map_cons, List.pairwise_cons] at hs
                  have := hs.1 e.on (List.mem_map.2 ⟨_, h, rfl⟩)
                  omega
              simp only [Array.getD, hon, dite_true] at this ⊢
              simpa using this
            · left; simpa using hb
        rw [hr] at this
        simp at this
    · intro i hi
      unfold Region.ready at hi
      simp only [List.mem_filter, List.mem_range, Bool.and_eq_true, Bool.not_eq_true'] at hi
      obtain ⟨hilt, hun, hrdy⟩ := hi
      have hil : i < listed.size := by omega
      cases ho : ops[i]? with
      | none => simp at ho; omega
      | some o =>
        simp only [ho, Option.map_some, Option.getD_some, Array.all_eq_true', Bool.or_eq_true, Bool.not_eq_true'] at hrdy
        have hrdy' : ∀ e ∈ o.after, Region.binds .any e = true → listed.getD e.on false = true := fun e he hb => by
          rcases hrdy e he with h | h
          · rw [hb] at h; cases h
          · exact h
        have hit : i < t0 := by
          rcases Nat.lt_or_ge i t0 with h | h
          · exact h
          · exfalso
            cases l with
            | nil => simp at hn
            | cons x l =>
              have hx := hlt x (by simp)
              have hls' := anc_listed hc (htail i h hilt x.1 (by omega)) o ho hrdy'
              have hun' : listed.getD x.1 true = false := (hl x.1 hx).2 ⟨x.2, by simp⟩
              have hyl : x.1 < listed.size := by omega
              simp only [Array.getD, hyl, dite_true] at hls' hun'
              rw [hls'] at hun'; cases hun'
        obtain ⟨q, hq⟩ := (hl i hit).1 hun
        obtain ⟨l1, l2, rfl⟩ := List.append_of_mem hq
        have hap : ∀ y ∈ l1, Apart ops y (i, q) := fun y hy => by
          have hpw := List.pairwise_append.1 hp
          rcases hpw.2.2 y hy (i, q) (by simp) with h | h
          · exact h
          · exfalso
            have hls' := anc_listed hc h o ho hrdy'
            have hy' := hlt y (by simp [hy])
            have hyu : listed.getD y.1 true = false := (hl y.1 hy').2 ⟨y.2, by simp [hy]⟩
            have hyl : y.1 < listed.size := by omega
            simp only [Array.getD, hyl, dite_true] at hls' hyu
            rw [hls'] at hyu; cases hyu
        obtain ⟨o', ho', hst, hch'⟩ := Chain.front l1 X hch hap
        rw [ho] at ho'; cases ho'
        have hsm : ((l1 ++ l2).map (·.1)).Pairwise (· < ·) := by
          refine List.Pairwise.sublist ?_ hs
          exact List.Sublist.map _ (List.Sublist.append_left (List.sublist_cons_self _ _) _)
        have hnotin : ∀ q', (i, q') ∉ l1 ++ l2 := by
          intro q' hm
          rw [List.map_append, List.map_cons, List.pairwise_append] at hs
          rcases List.mem_append.1 hm with h | h
          · have := hs.2.2 i (List.mem_map.2 ⟨_, h, rfl⟩) i (by simp)
            omega
          · have := (List.pairwise_cons.1 hs.2.1).1 i (List.mem_map.2 ⟨_, h, rfl⟩)
            omega
        refine hst.real hΓ ho D (fun t ht => hdst i o t ho ht) fun ρ' a' w' hx D' hfr => any_okT hΓ ht0 htail hdst hback n (l1 ++ l2) _ a' w' _ ρ' ?_ hch' D' (by simp [hls]) ?_ ?_ ?_ hsm ?_ ?_ ?_
        · simp only [List.length_append, List.length_cons] at hn ⊢; omega
        · intro k hk
          by_cases e : k = i
          · subst e
            have h1 : (listed.setIfInBounds k true).getD k true = true := by simp [Array.getD, hil]
            rw [h1]
            constructor
            · intro h; cases h
            · rintro ⟨q', hq'⟩; exact absurd hq' (hnotin q')
          · have hne : (listed.setIfInBounds i true).getD k true = listed.getD k true := by
              simp only [Array.getD_eq_getD_getElem?, Array.getElem?_setIfInBounds_ne (fun h => e h.symm)]
            rw [hne, hl k hk]
            constructor
            · rintro ⟨q', hq'⟩
              refine ⟨q', ?_⟩
              simp only [List.mem_append, List.mem_cons, Prod.mk.injEq] at hq' ⊢
              rcases hq' with h | ⟨h, _⟩ | h
              · exact .inl h
              · exact absurd h e
              · exact .inr h
            · rintro ⟨q', hq'⟩
              refine ⟨q', ?_⟩
              simp only [List.mem_append, List.mem_cons] at hq' ⊢
              rcases hq' with h | h
              · exact .inl h
              · exact .inr (.inr h)
        · intro k hk hk2
          have hne : (listed.setIfInBounds i true).getD k true = listed.getD k true := by
            simp only [Array.getD_eq_getD_getElem?, Array.getElem?_setIfInBounds_ne (show i ≠ k by omega)]
          rw [hne]; exact hl2 k hk hk2
        · intro x hx'
          refine hlt x ?_
          simp only [List.mem_append, List.mem_cons] at hx' ⊢
          rcases hx' with h | h
          · exact .inl h
          · exact .inr (.inr h)
        · intro p op e hpl hop he hb
          have hmono : ∀ k, listed.getD k false = true → (listed.setIfInBounds i true).getD k false = true := fun k hk => by
            by_cases e : k = i
            · subst e; simp [Array.getD, hil]
            · simpa only [Array.getD_eq_getD_getElem?, Array.getElem?_setIfInBounds_ne (fun h => e h.symm)] using hk
          by_cases hpi : p = i
          · subst hpi
            rw [ho] at hop; cases hop
            exact hmono _ (hrdy' e he hb)
          · refine hmono _ (hc p op e ?_ hop he hb)
            simpa only [Array.getD_eq_getD_getElem?, Array.getElem?_setIfInBounds_ne (fun h => hpi h.symm)] using hpl
        · exact List.Pairwise.sublist (List.Sublist.append_left (List.sublist_cons_self _ _) _) hp
        · exact fun ρ'' a'' w'' ls hx' D'' hfr' => hQ ρ'' a'' w'' ls (hx.trans hx') D'' (hfr.trans hfr')

end
end Go.Eng
