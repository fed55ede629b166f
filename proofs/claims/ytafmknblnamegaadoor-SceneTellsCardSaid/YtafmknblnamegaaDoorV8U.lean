/- The engine: a state that fits a pattern is as the pattern says. No condition. -/
import Derived.Test.YtafmknblnamegaaDoorV8I
namespace Go.Eng

section
variable {P : Program} {Γ : PC} {E : Env} {w : World} {a : Act} {asg : List Tmp}

/-! ### Preparing a state -/

/-- What a step of the preparing keeps. -/
def Keeps (h h' : List Blk) : Prop := h.length ≤ h'.length
theorem Keeps.refl (h : List Blk) : Keeps h h := Nat.le_refl _
theorem Keeps.trans {h h' h'' : List Blk} (k : Keeps h h') (l : Keeps h' h'') : Keeps h h'' := Nat.le_trans k l

def SoundX (s : SV) (h : List Blk) (x : SV × (List Blk × Bnd)) : Prop := Keeps h x.2.1 ∧
  ∀ (E : Env) (ρ : Rho) (w : World) y, DH E ρ h w → DV ρ s y → ∃ ρ', Ext ρ ρ' ∧ DV ρ' x.1 y ∧ DH E ρ' x.2.1 w
def SoundV (f : SV → SV → List Blk → Bnd → SV × (List Blk × Bnd)) : Prop := ∀ p s h σ, SoundX s h (f p s h σ)
theorem SoundX.same (s : SV) (h : List Blk) (σ : Bnd) : SoundX s h (s, h, σ) := ⟨Keeps.refl _, fun _ ρ _ _ D hd => ⟨ρ, Ext.refl _, hd, D⟩⟩

theorem unifL_ok {f : SV → SV → List Blk → Bnd → SV × (List Blk × Bnd)} (hf : SoundV f) : ∀ (ps ss : List SV) (h : List Blk) (σ : Bnd), Keeps h (unifL f ps ss h σ).2.1 ∧
    ∀ (E : Env) (ρ : Rho) (w : World) ys, DH E ρ h w → DL ρ ss ys → ∃ ρ', Ext ρ ρ' ∧ DL ρ' (unifL f ps ss h σ).1 ys ∧ DH E ρ' (unifL f ps ss h σ).2.1 w
  | p :: ps, s :: ss, h, σ => by
    simp only [unifL]
    obtain ⟨k1, k2⟩ := hf p s h σ
    obtain ⟨l1, l2⟩ := unifL_ok hf ps ss (f p s h σ).2.1 (f p s h σ).2.2
    refine ⟨k1.trans l1, fun E ρ w ys D hd => ?_⟩
    simp only [DL] at hd
    obtain ⟨y, t, rfl, hy, ht⟩ := hd
    obtain ⟨ρ1, x1, d1, D1⟩ := k2 E ρ w y D hy
    obtain ⟨ρ2, x2, d2, D2⟩ := l2 E ρ1 w t D1 (DL.mono x1 _ _ ht)
    exact ⟨ρ2, x1.trans x2, DL.cons (DV.mono x2 _ _ d1) d2, D2⟩
  | [], ss, h, σ => by
    simp only [unifL]
    exact ⟨Keeps.refl _, fun E ρ w ys D hd => ⟨ρ, Ext.refl _, hd, D⟩⟩
  | _ :: _, [], h, σ => by
    simp only [unifL]
    exact ⟨Keeps.refl _, fun E ρ w ys D hd => ⟨ρ, Ext.refl _, hd, D⟩⟩

theorem growN_ok (news : List Blk) (c : Nat) (s : SV) (h : List Blk) (σ : Bnd) (hs : ∀ (ρ : Rho) y, DV ρ s y → ∃ a, y = .slice a 0 0) : SoundX s h (growN news c s h σ) := by
  unfold growN
  split
  · rename_i el kd xs hn
    cases hc : (Nat.ble 1000000 c && Nat.ble 1 kd.length) with
    | false => exact SoundX.same s h σ
    | true =>
      simp only [Bool.and_eq_true] at hc
      have hk : 0 < kd.length := Nat.le_of_ble_eq_true hc.2
      refine ⟨by simp [Keeps], fun E ρ w y D hd => ?_⟩
      · obtain ⟨a, rfl⟩ := hs ρ y hd
        have f : Free h h.length := .inl rfl
        have hD := D.newRow (w' := w) f (el := el) (kd := kd) (xs := []) (v := .slice a 0 0) hk (by simp) ⟨by simp, .inl ⟨a, rfl, rfl⟩⟩ (Same.refl w) (fun _ _ => .inl rfl) (fun n hn => by cases a <;> simp [sliceB] at hn)
        rw [putB, if_neg (Nat.lt_irrefl _)] at hD
        exact ⟨_, upd_ext (f.none D), by simp only [cond_true, DV]; exact ⟨_, a, 0, 0, upd_same _ _, rfl, rfl⟩, hD⟩
  · rename_i el g hn
    split
    · rename_i kf css l hf
      cases hc : (Nat.ble 1000000 c && Nat.ble 1 kf.length) with
      | false => exact SoundX.same s h σ
      | true =>
        simp only [Bool.and_eq_true] at hc
        have hk : 0 < kf.length := Nat.le_of_ble_eq_true hc.2
        refine ⟨by simp [Keeps], fun E ρ w y D hd => ?_⟩
        obtain ⟨a, rfl⟩ := hs ρ y hd
        have f : Free1 h h.length 2 := .inl rfl
        have D1 := D.newFam f (FamY.nil (w := w) hk) (fun j b hb => by obtain ⟨_, _, y, hy, _⟩ := hb; simp at hy)
        have f2 := f.next (b := .fam kf [] none)
        have D2 := D1.newRR (g := h.length) (w' := w) (el := el) (v := .slice a 0 0) (n := 0) f2 (upd_same _ _) rfl hk ⟨by simp, .inl ⟨a, rfl, rfl⟩⟩ (Same.refl w) (fun _ _ => .inl rfl) (fun n hn => by cases a <;> simp [sliceB] at hn)
        have e1 : putB h.length (.fam kf [] none) h = h ++ [.fam kf [] none] := by rw [putB, if_neg (Nat.lt_irrefl _)]
        rw [e1] at D1 D2 f2
        have e2 : putB (h.length + 1) (.rr el h.length) (h ++ [.fam kf [] none]) = h ++ [.fam kf [] none] ++ [.rr el h.length] := by rw [putB, if_neg (by simp)]
        rw [e2] at D2
        have x1 := upd_ext (l := ⟨kf.length, .tuple ([] : List Value).toArray⟩) (f.none D)
        have x2 := upd_ext (l := ⟨kf.length, .slice a 0 0⟩) (Free1.none (m := 0) f2 D1)
        exact ⟨_, x1.trans x2, by simp only [cond_true, DV]; exact ⟨_, a, 0, 0, upd_same _ _, rfl, rfl⟩, D2⟩
    · rename_i kf css hf
      cases hc : (Nat.ble 1000000 c && Nat.ble 1 kf.length) with
      | false => exact SoundX.same s h σ
      | true =>
        simp only [Bool.and_eq_true] at hc
        have hk : 0 < kf.length := Nat.le_of_ble_eq_true hc.2
        refine ⟨by simp [Keeps], fun E ρ w y D hd => ?_⟩
        obtain ⟨a, rfl⟩ := hs ρ y hd
        have f : Free1 h h.length 2 := .inl rfl
        have D1 : DH E (upd ρ h.length ⟨kf.length, .tuple #[]⟩) (putB h.length (.rfm kf []) h) w :=
          D.newB f (Same.refl w) (fun _ _ => .inl rfl) ⟨_, upd_same _ _, rfl, #[], rfl, ⟨hk, by simp, fun x hx => (by cases hx), fun k o q c y hh => by simp at hh⟩⟩ fun n hn => hn.elim
        have f2 := f.next (b := .rfm kf [])
        have D2 := D1.newRR (g := h.length) (w' := w) (el := el) (v := .slice a 0 0) (n := 0) f2 (upd_same _ _) rfl hk ⟨by simp, .inl ⟨a, rfl, rfl⟩⟩ (Same.refl w) (fun _ _ => .inl rfl) (fun n hn => by cases a <;> simp [sliceB] at hn)
        have e1 : putB h.length (.rfm kf []) h = h ++ [.rfm kf []] := by rw [putB, if_neg (Nat.lt_irrefl _)]
        rw [e1] at D1 D2 f2
        have e2 : putB (h.length + 1) (.rr el h.length) (h ++ [.rfm kf []]) = h ++ [.rfm kf []] ++ [.rr el h.length] := by rw [putB, if_neg (by simp)]
        rw [e2] at D2
        have x1 := upd_ext (l := ⟨kf.length, .tuple #[]⟩) (f.none D)
        have x2 := upd_ext (l := ⟨kf.length, .slice a 0 0⟩) (Free1.none (m := 0) f2 D1)
        exact ⟨_, x1.trans x2, by simp only [cond_true, DV]; exact ⟨_, a, 0, 0, upd_same _ _, rfl, rfl⟩, D2⟩
    · exact SoundX.same s h σ
  · cases hc : Nat.ble 1000000 c with
    | false => exact SoundX.same s h σ
    | true =>
      refine ⟨by simp [Keeps], fun E ρ w y D hd => ?_⟩
      obtain ⟨a, rfl⟩ := hs ρ y hd
      have f : Free1 h h.length 1 := .inl rfl
      have D1 : DH E (upd ρ h.length ⟨0, .slice a 0 0⟩) (putB h.length (.opq 0) h) w :=
        D.newB (m := 0) f (Same.refl w) (fun _ _ => .inl rfl) ⟨_, a, 0, upd_same _ _, rfl, Nat.le_refl _, Nat.zero_le _⟩ fun n hn => hn.elim
      rw [putB, if_neg (Nat.lt_irrefl _)] at D1
      exact ⟨_, upd_ext (Free1.none (m := 0) f D), by simp only [cond_true, DV]; exact ⟨_, a, 0, 0, upd_same _ _, rfl, rfl⟩, D1⟩
  · exact SoundX.same s h σ

/-- A block's cells, better known. -/
theorem DH.refine {ρ : Rho} {h : List Blk} (D : DH E ρ h w) {j : Nat} {e : TypeId} {cs cs' : List SV} {p : Loc} {vs : Array Value} (hj : h[j]? = some (.cells e cs)) (hp : ρ j = some p) (hb : w.heap[p.block]? = some (.cells vs e (0, 0))) (hl : DL ρ cs' vs.toList) :
    DH E ρ (h.set j (.cells e cs')) w := by
  have hlt := (List.getElem?_eq_some_iff.1 hj).1
  have ht : takes ρ j (.cells e cs) p.block := ⟨p, hp, rfl⟩
  have hO := D.own j _ _ hj ht
  have := D.put j (.cells e cs') (Nat.le_of_lt hlt) (Ext.refl _) (fun _ _ h => h) (Same.refl w) (fun _ _ => rfl) (fun _ _ _ _ _ _ => rfl) ⟨p, vs, hp, hb, hl⟩ (by
    rintro n ⟨q, hq, rfl⟩
    rw [hp] at hq; cases hq
    exact ⟨hO.1, hO.2, fun k c hk hc ht' => D.apart k j c _ _ hk hc hj ht' ht⟩)
  rwa [putB, if_pos hlt] at this

theorem setC_len (h : List Blk) (j : Nat) (e : TypeId) (cs : List SV) : (setC h j e cs).length = h.length := by unfold setC; split <;> simp
theorem DH.setC {ρ : Rho} {h : List Blk} (D : DH E ρ h w) {j : Nat} {e : TypeId} {cs' : List SV} {p : Loc} {vs : Array Value} (hp : ρ j = some p) (hb : w.heap[p.block]? = some (.cells vs e (0, 0))) (hl : DL ρ cs' vs.toList) :
    DH E ρ (setC h j e cs') w := by
  unfold Eng.setC
  split
  · rename_i e' cs hj
    obtain ⟨q, vs', hq, hb', _⟩ := D.ok j _ hj
    rw [hp] at hq; cases hq
    rw [hb] at hb'; cases hb'
    exact D.refine hj hp hb hl
  · exact D

theorem growE_ok (news : List Blk) (c : Nat) (t : TypeId) (ag : Bool) (s : SV) (h : List Blk) (σ : Bnd) (hs : ∀ (ρ : Rho) y, DV ρ s y → y = .nilIface) : SoundX s h (growE news c t ag s h σ) := by
  unfold growE
  split
  · rename_i el kd xs hn
    cases hc : (Nat.ble 1000000 c && Nat.ble 1 kd.length) with
    | false => exact SoundX.same s h σ
    | true =>
      simp only [Bool.and_eq_true] at hc
      have hk : 0 < kd.length := Nat.le_of_ble_eq_true hc.2
      refine ⟨by simp [Keeps], fun E ρ w y D hd => ?_⟩
      have hy := hs ρ y hd
      have f : Free h h.length := .inl rfl
      have hD := D.newRow (w' := w) f (el := el) (kd := kd) (xs := []) (v := .slice none 0 0) hk (by simp) ⟨by simp, .inl ⟨none, rfl, rfl⟩⟩ (Same.refl w) (fun _ _ => .inl rfl) (fun n hn => by simp [sliceB] at hn)
      rw [putB, if_neg (Nat.lt_irrefl _)] at hD
      exact ⟨_, upd_ext (f.none D), by simp only [cond_true, DV]; exact ⟨fun _ => hy, fun h => (by cases h)⟩, hD⟩
  · exact SoundX.same s h σ

theorem cellE_ok (news : List Blk) (c : Nat) (t : TypeId) (ag : Bool) (j : Nat) (s : SV) (h : List Blk) (σ : Bnd)
    (hs : ∀ (ρ : Rho) y p, ρ j = some p → DV ρ s y → y = .iface t (cond ag (.agg #[.pointer (some ⟨p.block, 0, none⟩)]) (.pointer (some ⟨p.block, 0, none⟩)))) : SoundX s h (cellE news c t ag j s h σ) := by
  unfold cellE
  split
  · rename_i el kd xs e cs hn hj
    split
    · rename_i v hv
      cases hc : (Nat.ble 1000000 c && (Nat.ble 1 kd.length && decide (e = el))) with
      | false => exact SoundX.same s h σ
      | true =>
        simp only [Bool.and_eq_true, decide_eq_true_eq] at hc
        obtain ⟨_, hk, rfl⟩ := hc
        have hk : 0 < kd.length := Nat.le_of_ble_eq_true hk
        refine ⟨by simp [Keeps], fun E ρ w y D hd => ?_⟩
        obtain ⟨p, vs, hp, hb, hl⟩ := D.ok j _ hj
        obtain ⟨he, hw⟩ := elemK_ok hv hl
        have hy := hs ρ y p hp hd
        have hlt := (List.getElem?_eq_some_iff.1 hj).1
        have hO := D.own j _ p.block hj ⟨p, hp, rfl⟩
        have D1 : DH E ρ (h.set j .dead) w := by
          have := D.put j .dead (Nat.le_of_lt hlt) (Ext.refl _) (fun _ _ h => h) (Same.refl w) (fun _ _ => rfl) (fun _ _ _ _ _ _ => rfl) trivial (fun n hn => hn.elim)
          rwa [putB, if_pos hlt] at this
        have hlen : (h.set j .dead).length = h.length := by simp
        have hvl : vs.size = kd.length := by have := hw.length; rw [← he] at this; simpa using this
        have f : Free (h.set j .dead) h.length := .inl hlen.symm
        have hD := D1.newRow (w' := w) f (el := e) (kd := kd) (xs := [v]) (v := .slice (some ⟨p.block, 0, none⟩) 1 1) hk (by simpa using hw) ⟨by simpa using hw.length, .inr ⟨p.block, 0, 0, vs, rfl, hb, by simp, by decide, by omega, by
            simp only [List.drop_zero, List.length_singleton, Nat.one_mul, List.flatten_cons, List.flatten_nil, List.append_nil, he]
            exact List.take_of_length_le (by rw [hw.length]; exact Nat.le_refl _)⟩⟩ (Same.refl w) (fun _ _ => .inl rfl) (fun n hn => by
            simp [sliceB] at hn; subst hn
            refine .inr ⟨hO.1, fun k b hk' ht => ?_⟩
            by_cases hne : j = k
            · subst hne
              rw [List.getElem?_set_self hlt] at hk'
              cases hk'; exact ht.elim
            · rw [List.getElem?_set_ne hne] at hk'
              exact D.apart k j b _ _ (fun e => hne e.symm) hk' hj ht ⟨p, hp, rfl⟩)
        rw [putB, if_neg (by rw [hlen]; exact Nat.lt_irrefl _)] at hD
        refine ⟨_, upd_ext (f.none D1), ?_, hD⟩
        simp only [cond_true, DV]
        exact ⟨fun h => (by cases h), fun _ => ⟨_, p.block, 0, 1, 1, upd_same _ _, rfl, by omega, hy⟩⟩
    · exact SoundX.same s h σ
  · exact SoundX.same s h σ

theorem opq_ok {j : Nat} {h : List Blk} {m : Nat} {σ' : Bnd} (hl : lenGet h (.row j) = some m) : SoundX (.row j) h (.row h.length, h ++ [.opq m], σ') := by
  refine ⟨by simp [Keeps], fun E ρ w y D hd => ?_⟩
  obtain ⟨a, c, e, h1, h2⟩ := lenGet_ok hl D hd
  have f : Free1 h h.length 1 := .inl rfl
  have D1 : DH E (upd ρ h.length ⟨0, y⟩) (putB h.length (.opq m) h) w :=
    D.newB (m := 0) f (Same.refl w) (fun _ _ => .inl rfl) ⟨_, a, c, upd_same _ _, e, h1, h2⟩ fun n hn => hn.elim
  rw [putB, if_neg (Nat.lt_irrefl _)] at D1
  exact ⟨_, upd_ext (Free1.none (m := 0) f D), by simp only [DV]; exact ⟨_, a, m, c, upd_same _ _, rfl, e⟩, D1⟩
theorem excDL {ρ : Rho} {kf : List Kf} {exc : List (Nat × Nat × SV)} {ys zs : List Value} (Y : DerY ρ kf exc ys zs) : ∃ us, DL ρ (exc.map fun e => e.2.2) us ∧ ∀ (i : Nat) e, exc[i]? = some e → ys[e.1 * kf.length + e.2.1]? = us[i]? := by
  have key : ∀ l : List (Nat × Nat × SV), (∀ e ∈ l, ∃ y, ys[e.1 * kf.length + e.2.1]? = some y ∧ DV ρ e.2.2 y) → ∃ us, DL ρ (l.map fun e => e.2.2) us ∧ ∀ (i : Nat) e, l[i]? = some e → ys[e.1 * kf.length + e.2.1]? = us[i]? := by
    intro l
    induction l with
    | nil => exact fun _ => ⟨[], DL.nil, fun i e h => by simp at h⟩
    | cons a l ih =>
      intro hl
      obtain ⟨us, h1, h2⟩ := ih fun e he => hl e (.tail _ he)
      obtain ⟨y, hy, hd⟩ := hl a (.head _)
      refine ⟨y :: us, DL.cons hd h1, fun i e he => ?_⟩
      cases i with
      | zero => simp at he; subst he; simpa using hy
      | succ i => simpa using h2 i e (by simpa using he)
  exact key exc Y.exc
theorem zip_pos {exc : List (Nat × Nat × SV)} {vs : List SV} (hl : vs.length = exc.length) : ∀ (i : Nat) e, exc[i]? = some e → ∃ v, vs[i]? = some v ∧ (List.zipWith (fun e v => (e.1, e.2.1, v)) exc vs)[i]? = some (e.1, e.2.1, v) := fun i e he => by
  have hi := (List.getElem?_eq_some_iff.1 he).1
  have hv : vs[i]? = some (vs[i]'(by omega)) := List.getElem?_eq_getElem (by omega)
  refine ⟨_, hv, ?_⟩
  rw [List.getElem?_zipWith, he, hv]
theorem der_unif {f : SV → SV → List Blk → Bnd → SV × (List Blk × Bnd)} (hf : SoundV f) {j g' m g0 : Nat} {kf : List Kf} {exc : List (Nat × Nat × SV)} {h : List Blk} {σ σ' : Bnd} {ps vs : List SV} {h' : List Blk} (hg : h[g']? = some (.der m g0 kf exc))
    (hu : unifL f ps (exc.map fun e => e.2.2) h σ = (vs, h', σ')) : SoundX (.row j) h (.row j, h'.set g' (.der m g0 kf (List.zipWith (fun e v => (e.1, e.2.1, v)) exc vs)), σ') := by
  obtain ⟨k1, k2⟩ := unifL_ok hf ps (exc.map fun e => e.2.2) h σ
  rw [hu] at k1 k2
  refine ⟨by unfold Keeps at k1 ⊢; simpa using k1, fun E ρ w y D hd => ?_⟩
  obtain ⟨p, q, h1, h2, h3, h4, h5, ys, zs, e1, e2, e3, Y⟩ := D.ok g' _ hg
  obtain ⟨us, d1, d2⟩ := excDL Y
  obtain ⟨ρ1, x1, dv, D1⟩ := k2 E ρ w us D d1
  have hlt : g' < h'.length := Nat.lt_of_lt_of_le (List.getElem?_eq_some_iff.1 hg).1 k1
  have hvl : vs.length = exc.length := by
    have a := dv.length
    have b := d1.length
    rw [List.length_map] at b
    exact a.symm.trans b
  have hz := zip_pos hvl
  have hback : ∀ e' ∈ List.zipWith (fun (e : Nat × Nat × SV) v => (e.1, e.2.1, v)) exc vs, ∃ (i : Nat) (e : Nat × Nat × SV) (v : SV), exc[i]? = some e ∧ vs[i]? = some v ∧ e' = (e.1, e.2.1, v) := fun e' he' => by
    obtain ⟨i, hi⟩ := List.getElem?_of_mem he'
    rw [List.getElem?_zipWith] at hi
    split at hi
    · rename_i a b ha hb
      cases hi
      exact ⟨i, a, b, ha, hb, rfl⟩
    · cases hi
  have Y' : DerY ρ1 kf (List.zipWith (fun e v => (e.1, e.2.1, v)) exc vs) ys.toList zs.toList := by
    refine ⟨Y.len, fun e' he' => ?_, fun j hj => Y.same j fun e he hh => ?_, fun e' he' => ?_, Y.slc⟩
    · obtain ⟨i, e, v, h6, _, rfl⟩ := hback e' he'
      exact Y.lt e (List.mem_of_getElem? h6)
    · obtain ⟨i, hi⟩ := List.getElem?_of_mem he
      obtain ⟨v, _, h7⟩ := hz i e hi
      exact hj _ (List.mem_of_getElem? h7) hh
    · obtain ⟨i, e, v, h6, h7, rfl⟩ := hback e' he'
      obtain ⟨u, hu1, hu2⟩ := dv.get h7
      refine ⟨u, ?_, hu2⟩
      rw [← hu1]
      exact d2 i e h6
  have := D1.put g' (.der m g0 kf (List.zipWith (fun e v => (e.1, e.2.1, v)) exc vs)) (Nat.le_of_lt hlt) (Ext.refl _) (fun _ _ h => h) (Same.refl w) (fun _ _ => rfl) (fun _ _ _ _ _ _ => rfl)
    ⟨p, q, x1 _ _ h1, x1 _ _ h2, h3, h4, h5, ys, zs, e1, e2, e3, Y'⟩ (fun n hn => hn.elim)
  rw [putB, if_pos hlt] at this
  exact ⟨ρ1, x1, DV.mono x1 _ _ hd, this⟩
theorem unifV_ok (news : List Blk) : ∀ n, SoundV (unifV news n)
  | 0 => fun p s h σ => by simp only [unifV]; exact SoundX.same s h σ
  | n + 1 => fun p s h σ => by
    unfold unifV
    split
    · rename_i c j
      cases hc : Nat.ble 1000000 c with
      | false => exact SoundX.same _ _ _
      | true =>
        simp only [cond_true]
        split
        · split
          · exact SoundX.same _ _ _
          · split
            · rename_i hl; exact opq_ok hl
            · exact SoundX.same _ _ _
        · split
          · split
            · rename_i hg
              exact der_unif (unifV_ok news n) hg rfl
            · exact SoundX.same _ _ _
          · exact SoundX.same _ _ _
        · exact SoundX.same _ _ _
    · exact growN_ok _ _ _ _ _ fun ρ y hd => by simp only [DV] at hd; exact ⟨none, hd⟩
    · exact growN_ok _ _ _ _ _ fun ρ y hd => by simpa only [DV] using hd
    · exact SoundX.same _ _ _
    · exact SoundX.same _ _ _
    · rename_i c _ _ _ j
      split
      · rename_i el kd xs hj
        refine ⟨Keeps.refl _, fun E ρ w y D hd => ⟨ρ, Ext.refl _, ?_, D⟩⟩
        obtain ⟨p, hp, h1, h2, h3, h4⟩ := D.ok j _ hj
        simp only [DV] at hd ⊢
        obtain ⟨p', a, n, c', hp', e1, e2⟩ := hd
        rw [hp] at hp'; cases hp'
        obtain ⟨a2, c2, e3, e4, e5, e6⟩ := h4.len
        refine ⟨p, a2, c2, hp, e1.trans e3, e4, e5, by simp, ?_⟩
        rcases e6 with e6 | ⟨g, off, e6⟩
        · exact .inl (by omega)
        · exact .inr ⟨g, off, xs.length, c2, by rw [e3, e6], by rw [e6]; simp, by omega, by omega⟩
      · exact SoundX.same _ _ _
    · rename_i c _ _ _ j _ _ _
      cases hc : Nat.ble 1000000 c with
      | false => exact SoundX.same _ _ _
      | true =>
        simp only [cond_true]
        split
        · rename_i e0 ps e cs hn hj
          obtain ⟨k1, k2⟩ := unifL_ok (unifV_ok news n) ps cs h (bnd c j σ)
          refine ⟨Nat.le_trans k1 (Nat.le_of_eq (setC_len _ _ _ _).symm), fun E ρ w y D hd => ?_⟩
          obtain ⟨p, vs, hp, hb, hl⟩ := D.ok j _ hj
          obtain ⟨ρ1, x1, d1, D1⟩ := k2 E ρ w _ D hl
          exact ⟨ρ1, x1, DV.mono x1 _ _ hd, D1.setC (x1 j p hp) hb d1⟩
        · exact SoundX.same _ _ _
    · exact SoundX.same _ _ _
    · exact SoundX.same _ _ _
    · exact growE_ok _ _ _ _ _ _ _ fun ρ y hd => by simpa only [DV] using hd
    · rename_i t c u j
      by_cases e : u = t
      · rw [decide_eq_true e, cond_true]
        refine cellE_ok _ _ _ _ _ _ _ _ fun ρ y p hp hd => ?_
        simp only [DV] at hd
        obtain ⟨z, rfl, q, hq, rfl⟩ := hd
        rw [hp] at hq; cases hq; rw [e]; rfl
      · rw [decide_eq_false e]; exact SoundX.same _ _ _
    · rename_i t c u j
      by_cases e : u = t
      · rw [decide_eq_true e, cond_true]
        refine cellE_ok _ _ _ _ _ _ _ _ fun ρ y p hp hd => ?_
        simp only [DV, DL] at hd
        obtain ⟨z, rfl, a, rfl, y', t', ha, ⟨q, hq, rfl⟩, rfl⟩ := hd
        rw [hp] at hq; cases hq
        rw [e]
        have : a = #[.pointer (some ⟨p.block, 0, none⟩)] := by cases a; simpa using ha
        rw [this]; rfl
      · rw [decide_eq_false e]; exact SoundX.same _ _ _
    · rename_i c o j o'
      cases hc : Nat.ble 1000000 c with
      | false => exact SoundX.same _ _ _
      | true =>
        simp only [cond_true]
        split
        · rename_i e0 ps e cs hn hj
          obtain ⟨k1, k2⟩ := unifL_ok (unifV_ok news n) ps cs h (bnd c j σ)
          refine ⟨Nat.le_trans k1 (Nat.le_of_eq (setC_len _ _ _ _).symm), fun E ρ w y D hd => ?_⟩
          obtain ⟨p, vs, hp, hb, hl⟩ := D.ok j _ hj
          obtain ⟨ρ1, x1, d1, D1⟩ := k2 E ρ w _ D hl
          exact ⟨ρ1, x1, DV.mono x1 _ _ hd, D1.setC (x1 j p hp) hb d1⟩
        · exact SoundX.same _ _ _
    · rename_i ps ss
      obtain ⟨k1, k2⟩ := unifL_ok (unifV_ok news n) ps ss h σ
      refine ⟨k1, fun E ρ w y D hd => ?_⟩
      simp only [DV] at hd
      obtain ⟨b, rfl, hl⟩ := hd
      obtain ⟨ρ1, x1, d1, D1⟩ := k2 E ρ w _ D hl
      exact ⟨ρ1, x1, by simp only [DV]; exact ⟨b, rfl, d1⟩, D1⟩
    · rename_i ps ss
      obtain ⟨k1, k2⟩ := unifL_ok (unifV_ok news n) ps ss h σ
      refine ⟨k1, fun E ρ w y D hd => ?_⟩
      simp only [DV] at hd
      obtain ⟨b, rfl, hl⟩ := hd
      obtain ⟨ρ1, x1, d1, D1⟩ := k2 E ρ w _ D hl
      exact ⟨ρ1, x1, by simp only [DV]; exact ⟨b, rfl, d1⟩, D1⟩
    · exact SoundX.same _ _ _

theorem DL.set_same {ρ : Rho} {l : List SV} {ys : List Value} (h : DL ρ l ys) (t : Nat) {s : SV} (hy : ∀ y, ys[t]? = some y → DV ρ s y) : DL ρ (l.set t s) ys := by
  cases hg : ys[t]? with
  | none =>
    have : l.set t s = l := List.set_eq_of_length_le (by have := h.length; have := List.getElem?_eq_none_iff.1 hg; omega)
    rw [this]; exact h
  | some y =>
    have := h.set t (hy y hg)
    obtain ⟨hlt, he⟩ := List.getElem?_eq_some_iff.1 hg
    rwa [← he, List.set_getElem_self hlt] at this

/-- What the preparing of a state does. -/
def SoundS (st : St) (x : St × Bnd) : Prop := x.1.df = st.df ∧ x.1.regs.length = st.regs.length ∧ Keeps st.heap x.1.heap ∧
  ∀ (E : Env) (ρ : Rho) (a : Act) (w : World), Den E ρ st a w → ∃ ρ', Ext ρ ρ' ∧ Den E ρ' x.1 a w

theorem unifR_ok (news : List Blk) : ∀ (l : List (Nat × SV)) (st : St) (σ : Bnd), SoundS st (unifR news l st σ)
  | [], st, σ => by simp only [unifR]; exact ⟨rfl, rfl, Keeps.refl _, fun E ρ a w D => ⟨ρ, Ext.refl _, D⟩⟩
  | (t, p) :: l, st, σ => by
    simp only [unifR]
    obtain ⟨k1, k2⟩ := unifV_ok news 8 p (st.regs.getD t .any) st.heap σ
    obtain ⟨i1, i2, i3, i4⟩ := unifR_ok news l ⟨st.regs.set t (unifV news 8 p (st.regs.getD t .any) st.heap σ).1, (unifV news 8 p (st.regs.getD t .any) st.heap σ).2.1, st.df⟩ (unifV news 8 p (st.regs.getD t .any) st.heap σ).2.2
    refine ⟨i1, by simpa using i2, k1.trans i3, fun E ρ a w D => ?_⟩
    obtain ⟨ρ1, x1, d1, D1⟩ := k2 E ρ w _ D.heap (D.regs.getD t undef)
    obtain ⟨ρ2, x2, D2⟩ := i4 E ρ1 a w ⟨(DL.mono x1 _ _ D.regs).set_same t fun y hy => by
      have : a.tmps.toList.getD t undef = y := by rw [List.getD_eq_getElem?_getD, hy]; rfl
      rw [this] at d1; exact d1, D1, D.defers.mono x1⟩
    exact ⟨ρ2, x1.trans x2, D2⟩

theorem unifH_ok (news : List Blk) : ∀ (l : List (Nat × Blk)) (st : St) (σ : Bnd), SoundS st (unifH news l st σ)
  | [], st, σ => by simp only [unifH]; exact ⟨rfl, rfl, Keeps.refl _, fun E ρ a w D => ⟨ρ, Ext.refl _, D⟩⟩
  | (i, b) :: l, st, σ => by
    simp only [unifH]
    split
    · rename_i e0 ps e cs hi
      obtain ⟨k1, k2⟩ := unifL_ok (unifV_ok news 8) ps cs st.heap σ
      obtain ⟨i1, i2, i3, i4⟩ := unifH_ok news l ⟨st.regs, setC (unifL (unifV news 8) ps cs st.heap σ).2.1 i e (unifL (unifV news 8) ps cs st.heap σ).1, st.df⟩ (unifL (unifV news 8) ps cs st.heap σ).2.2
      refine ⟨i1, i2, Keeps.trans (Nat.le_trans k1 (Nat.le_of_eq (setC_len _ _ _ _).symm)) i3, fun E ρ a w D => ?_⟩
      obtain ⟨p, vs, hp, hb, hl⟩ := D.heap.ok i _ hi
      obtain ⟨ρ1, x1, d1, D1⟩ := k2 E ρ w _ D.heap hl
      obtain ⟨ρ2, x2, D2⟩ := i4 E ρ1 a w ⟨DL.mono x1 _ _ D.regs, D1.setC (x1 i p hp) hb d1, D.defers.mono x1⟩
      exact ⟨ρ2, x1.trans x2, D2⟩
    · exact unifH_ok news l st σ

theorem unifS_ok (news : List Blk) (regs : List (Nat × SV)) (heap : List (Nat × Blk)) (st : St) : SoundS st (unifS news regs heap st) := by
  simp only [unifS]
  obtain ⟨i1, i2, i3, i4⟩ := unifR_ok news regs st []
  obtain ⟨j1, j2, j3, j4⟩ := unifH_ok news heap (unifR news regs st []).1 (unifR news regs st []).2
  refine ⟨j1.trans i1, j2.trans i2, i3.trans j3, fun E ρ a w D => ?_⟩
  obtain ⟨ρ1, x1, D1⟩ := i4 E ρ a w D
  obtain ⟨ρ2, x2, D2⟩ := j4 E ρ1 a w D1
  exact ⟨ρ2, x1.trans x2, D2⟩

/-! ### The head of a loop -/

theorem havoc_length (asg : List Tmp) : ∀ (r : List SV) (i : Nat), (havoc asg i r).length = r.length
  | [], _ => rfl
  | _ :: r, i => by simp [havoc, havoc_length asg r]
theorem havoc_get (asg : List Tmp) : ∀ (r : List SV) (i k : Nat), (havoc asg i r)[k]? = (r[k]?).map fun s => if asg.contains (i + k) then .any else s
  | [], _, _ => by simp [havoc]
  | s :: r, i, 0 => by simp [havoc]
  | s :: r, i, k + 1 => by
    simp only [havoc, List.getElem?_cons_succ, havoc_get asg r (i + 1) k]
    rw [show i + 1 + k = i + (k + 1) by omega]

theorem matchRegs_iff {r : List SV} : ∀ {l : List (Nat × SV)} {k : Prop}, matchRegs r l k → (∀ x ∈ l, leSV (r.getD x.1 .any) x.2) ∧ k
  | [], _, h => ⟨fun x hx => by simp at hx, h⟩
  | (t, s) :: l, k, h => ⟨fun x hx => by
      rcases List.mem_cons.1 hx with rfl | hx
      · exact h.1
      · exact (matchRegs_iff h.2).1 x hx, (matchRegs_iff h.2).2⟩
theorem matchHeap_iff {r : List Blk} : ∀ {l : List (Nat × Blk)} {k : Prop}, matchHeap r l k → (∀ x ∈ l, leBlk (r.getD x.1 .dead) x.2) ∧ k
  | [], _, h => ⟨fun x hx => by simp at hx, h⟩
  | (t, s) :: l, k, h => ⟨fun x hx => by
      rcases List.mem_cons.1 hx with rfl | hx
      · exact h.1
      · exact (matchHeap_iff h.2).1 x hx, (matchHeap_iff h.2).2⟩
theorem matchKeep_iff {r : List Blk} : ∀ {l : List (Nat × Blk)} {k : Prop}, matchKeep r l k → (∀ x ∈ l, leKeep (r.getD x.1 .dead) x.2) ∧ k
  | [], _, h => ⟨by simp, h⟩
  | (i, b) :: l, k, h => by
    obtain ⟨h1, h2⟩ := h
    obtain ⟨h3, h4⟩ := matchKeep_iff (l := l) h2
    exact ⟨by simpa using ⟨h1, fun a b hx => h3 (a, b) hx⟩, h4⟩
theorem idleB_iff {s : LoopState} {q : Option Code} (h : idleB s q = true) : s = .ready ∧ q = none := by
  unfold idleB at h
  split at h
  · exact ⟨rfl, rfl⟩
  · cases h
theorem matchN_iff {h : List Blk} {σ : List Nat} : ∀ {l : List Blk} {r : List Nat} {k : Prop}, matchN h σ l r k → (∀ (j : Nat) b i, l[j]? = some b → r[j]? = some i → leBlk (h.getD i .dead) (renB (sig σ) b)) ∧ k
  | [], _, _, hm => ⟨fun j b i hj => by simp at hj, by simpa [matchN] using hm⟩
  | _ :: _, [], _, hm => ⟨fun j b i _ hi => by simp at hi, by simpa [matchN] using hm⟩
  | b :: l, i :: r, k, hm => ⟨fun j b' i' hj hi => by
      cases j with
      | zero => simp at hj hi; subst hj hi; exact hm.1
      | succ j => exact (matchN_iff hm.2).1 j b' i' (by simpa using hj) (by simpa using hi), (matchN_iff hm.2).2⟩

theorem lay_DL {ρ : Rho} {r : List SV} {ys : List Value} (h : DL ρ r ys) : ∀ (l : List (Nat × SV)), (∀ x ∈ l, ∀ y, ys[x.1]? = some y → DV ρ x.2 y) → DL ρ (lay r l) ys
  | [], _ => h
  | (t, s) :: l, hl => DL.set_same (lay_DL h l fun x hx => hl x (by simp [hx])) t fun y hy => hl (t, s) (by simp) y hy

theorem layH_length (h : List Blk) : ∀ (l : List (Nat × Blk)), (layH h l).length = h.length
  | [] => rfl
  | _ :: l => by simp [layH, layH_length h l]

theorem layH_get (h : List Blk) : ∀ (l : List (Nat × Blk)) (k : Nat) (b : Blk), (layH h l)[k]? = some b → (k, b) ∈ l ∨ h[k]? = some b
  | [], _, _, hb => .inr hb
  | (t, c) :: l, k, b, hb => by
    simp only [layH, List.getElem?_set] at hb
    split at hb
    · subst_vars
      split at hb
      · cases hb; exact .inl (by simp)
      · cases hb
    · rcases layH_get h l k b hb with h' | h'
      · exact .inl (by simp [h'])
      · exact .inr h'

theorem nodupB_iff : ∀ {l : List Nat}, nodupB l = true → l.Nodup
  | [], _ => List.nodup_nil
  | i :: l, h => by
    simp only [nodupB, Bool.and_eq_true, Bool.not_eq_true'] at h
    rw [List.nodup_cons]
    exact ⟨by simpa using h.1, nodupB_iff h.2⟩

theorem refOk_unf (n0 m : Nat) (l : List Nat) : refOk n0 m l = l.all fun i => cond (Nat.ble 1000000 i) (Nat.ble (i - 1000000 + 1) m) (Nat.ble (i + 1) n0) := by
  rfl
theorem refOk_unf2 (n0 m : Nat) (l : List Nat) (h : refOk n0 m l = true) : ∀ i ∈ l, cond (Nat.ble 1000000 i) (Nat.ble (i - 1000000 + 1) m) (Nat.ble (i + 1) n0) = true := by
  rw [refOk_unf] at h
  exact List.all_eq_true.1 h
theorem refOk_aux (M n0 m i : Nat) (h :cond (Nat.ble M i) (Nat.ble (i - M + 1) m) (Nat.ble (i + 1) n0) = true) : (i < M ∧ i < n0) ∨ (M ≤ i ∧ i - M < m) := by
  cases hc : Nat.ble M i with
  | true =>
    simp only [hc, cond_true] at h
    exact .inr ⟨Nat.le_of_ble_eq_true hc, Nat.lt_of_succ_le (Nat.le_of_ble_eq_true h)⟩
  | false =>
    simp only [hc, cond_false] at h
    refine .inl ⟨?_, Nat.lt_of_succ_le (Nat.le_of_ble_eq_true h)⟩
    rcases Nat.lt_or_ge i M with h | h
    · exact h
    · rw [Nat.ble_eq_true_of_le h] at hc; cases hc
theorem refOk_iff {n0 m : Nat} {l : List Nat} (h : refOk n0 m l = true) : ∀ i ∈ l, (i < 1000000 ∧ i < n0) ∨ (1000000 ≤ i ∧ i - 1000000 < m) := fun i hi => refOk_aux _ _ _ _ (refOk_unf2 _ _ _ h i hi)

theorem cond_t (b : Bool) (h : b = true) (x y : Nat) : cond b x y = x := by rw [h, cond_true]
theorem cond_f (b : Bool) (h : b = false) (x y : Nat) : cond b x y = y := by rw [h, cond_false]
theorem sig_unf (σ : List Nat) (i : Nat) : sig σ i = cond (Nat.ble 1000000 i) (σ.getD (i - 1000000) 999999) i := rfl
theorem cod_unf (n0 i : Nat) : cod n0 i = cond (Nat.ble 1000000 i) (n0 + (i - 1000000)) i := rfl
theorem ble_f (M i : Nat) (h : i < M) : Nat.ble M i = false := by
  cases hc : Nat.ble M i with
  | false => rfl
  | true => have := Nat.le_of_ble_eq_true hc; exact absurd h (Nat.not_lt_of_le this)
theorem ren_aux (σ : List Nat) (n0 m M d i c s : Nat) (hc : c = cond (Nat.ble M i) (n0 + (i - M)) i) (hs : s = cond (Nat.ble M i) (σ.getD (i - M) d) i) (h : (i < M ∧ i < n0) ∨ (M ≤ i ∧ i - M < m)) :
    (i < n0 ∧ s = i ∧ c = i) ∨ (n0 ≤ c ∧ c - n0 < m ∧ s = σ.getD (c - n0) d) := by
  rcases h with ⟨h1, h2⟩ | ⟨h1, h2⟩
  · rw [cond_f _ (ble_f M i h1)] at hc hs
    exact .inl ⟨h2, hs, hc⟩
  · rw [cond_t _ (Nat.ble_eq_true_of_le h1)] at hc hs
    have e : c - n0 = i - M := by omega
    exact .inr ⟨by omega, by omega, by rw [e]; exact hs⟩
theorem refOk_ren (σ : List Nat) (n0 m : Nat) : ∃ d, ∀ l, refOk n0 m l = true → ∀ i ∈ l, (i < n0 ∧ sig σ i = i ∧ cod n0 i = i) ∨ (n0 ≤ cod n0 i ∧ cod n0 i - n0 < m ∧ sig σ i = σ.getD (cod n0 i - n0) d) :=
  ⟨999999, fun _ h i hi => ren_aux σ n0 m 1000000 999999 i _ _ (cod_unf n0 i) (sig_unf σ i) (refOk_iff h i hi)⟩

theorem DF.ren {ρ ρ' : Rho} : ∀ {l : List Nat} {ds : List Deferred}, (∀ i ∈ l, ∀ p, ρ i = some p → ρ' i = some p) → DF ρ l ds → DF ρ' l ds
  | [], _, _, h => h
  | i :: l, ds, hr, h => by
    obtain ⟨p, r, hp, e, h⟩ := h
    exact ⟨p, r, hr i (by simp) p hp, e, DF.ren (fun i hi => hr i (by simp [hi])) h⟩

theorem nodup_getD {l : List Nat} (h : l.Nodup) {i j : Nat} (hi : i < l.length) (hj : j < l.length) (d : Nat) (e : l.getD i d = l.getD j d) : i = j := by
  rw [List.getD_eq_getElem?_getD, List.getD_eq_getElem?_getD, List.getElem?_eq_getElem hi, List.getElem?_eq_getElem hj] at e
  exact (List.getElem_inj h).1 e

theorem mem_getD {l : List Nat} {i : Nat} (hi : i < l.length) (d : Nat) : l.getD i d ∈ l := by
  rw [List.getD_eq_getElem?_getD, List.getElem?_eq_getElem hi]
  exact List.getElem_mem hi

/-- From any state that fits the pattern to the pattern. -/
theorem headOf_den {ρ0 ρ : Rho} {p : Pat} {st0 : St} {x : St × Bnd} {a0 a : Act} {w0 w : World} (D0 : Den E ρ0 st0 a0 w0) (D : Den E ρ x.1 a w) (hx : Ext ρ0 ρ) (hf : Fr asg a0 a)
    (hst : Stat w0 w) (hok : specOk asg p st0 = true) (hfit : fits p st0 x) : ∃ ρh, Ext ρ0 ρh ∧ Den E ρh (headOf asg p st0) a w := by
  simp only [specOk, Bool.and_eq_true, List.all_eq_true, decide_eq_true_eq, Bool.not_eq_true'] at hok
  obtain ⟨⟨⟨⟨⟨⟨⟨ok1, ok2⟩, ok3⟩, ok4⟩, ok5⟩, ok6⟩, ok7⟩, ok8⟩ := hok
  have ok7 := nodupB_iff ok7
  obtain ⟨hn, hfit⟩ := conjB_iff hfit
  obtain ⟨hsig, hdf, _⟩ := hn
  have hdf : x.1.df = st0.df := of_decide_eq_true hdf
  obtain ⟨m1, hfit⟩ := matchRegs_iff hfit
  obtain ⟨m2, hfit⟩ := matchHeap_iff hfit
  obtain ⟨m3, hfit⟩ := matchKeep_iff hfit
  obtain ⟨m4, _⟩ := matchN_iff hfit
  have hlen : (sigOf p x.2).length = p.news.length := by simp [sigOf]
  generalize hσ : sigOf p x.2 = σ at *
  simp only [sigOk, Bool.and_eq_true, List.all_eq_true, decide_eq_true_eq, Bool.not_eq_true'] at hsig
  obtain ⟨hnd, hsig⟩ := hsig
  have hnd := nodupB_iff hnd
  obtain ⟨d, hd⟩ := refOk_ren σ st0.heap.length p.news.length
  obtain ⟨f, hf'⟩ : ∃ f : Nat → Nat, f = fun k => if k < st0.heap.length then k else σ.getD (k - st0.heap.length) d := ⟨_, rfl⟩
  have hlo : ∀ k, k < st0.heap.length → f k = k := fun k hk => by rw [hf']; simp [hk]
  have hN : (headOf asg p st0).heap.length = st0.heap.length + p.news.length := by simp [headOf, layH_length, restr_length]
  obtain ⟨ρh, hρh⟩ : ∃ ρh, ρh = cut (headOf asg p st0).heap.length fun i => ρ (f i) := ⟨_, rfl⟩
  have hget : ∀ k, k < st0.heap.length + p.news.length → ρh k = ρ (f k) := fun k hk => by rw [hρh]; simp [cut, hN, hk]
  have hold : ∀ k, k < st0.heap.length → ρh k = ρ k := fun k hk => by rw [hget k (by omega), hlo k hk]
  have hren : ∀ (l : List Nat), refOk st0.heap.length p.news.length l = true → ∀ i ∈ l, ∀ q, ρ (sig σ i) = some q → ρh (cod st0.heap.length i) = some q := fun l hl i hi q hq => by
    rcases hd l hl i hi with ⟨h1, e1, e2⟩ | ⟨h1, h2, e⟩
    · rw [e1] at hq; rw [e2, hold i h1]; exact hq
    · have : f (cod st0.heap.length i) = sig σ i := by rw [hf', e]; simp only [Nat.not_lt.2 h1, if_false]
      rw [hget _ (by omega), this]; exact hq
  have hext : Ext ρ0 ρh := fun i l hi => by
    have : i < st0.heap.length := by
      rcases Nat.lt_or_ge i st0.heap.length with h | h
      · exact h
      · rw [D0.heap.fresh i h] at hi; cases hi
    rw [hold i this]; exact hx i l hi
  have hkeep : ∀ k ∈ p.keep, k < st0.heap.length := fun k hk => (ok3 k hk).1.2
  -- each live slot stands for one that was there
  have live : ∀ (k : Nat) (b : Blk), (headOf asg p st0).heap[k]? = some b → b = .dead ∨ ((k < st0.heap.length ∧ (k ∈ p.heap.map (·.1) ∨ k ∈ p.keep)) ∨ (st0.heap.length ≤ k ∧ k - st0.heap.length < p.news.length)) ∧
      ∃ c, x.1.heap[f k]? = some c ∧ BlkOk E ρh w k b ∧ ∀ m, takes ρh k b m → takes ρ (f k) c m := fun k b hb => by
    have fin : ∀ (b0 : Blk) (g g' : Nat → Nat), blkLive b0 = true → leBlk (x.1.heap.getD (f k) .dead) (renB g b0) → k < st0.heap.length + p.news.length → (∀ i ∈ blkRefs b0, ∀ q, ρ (g i) = some q → ρh (g' i) = some q) →
        ∃ c, x.1.heap[f k]? = some c ∧ BlkOk E ρh w k (renB g' b0) ∧ ∀ m, takes ρh k (renB g' b0) m → takes ρ (f k) c m := fun b0 g g' hl hle hk hr => by
      cases hc : x.1.heap[f k]? with
      | none =>
        rw [List.getD_eq_getElem?_getD, hc] at hle
        cases b0 <;> simp [leBlk, renB, blkLive] at hle hl
      | some c =>
        rw [List.getD_eq_getElem?_getD, hc] at hle
        obtain ⟨ok, tk⟩ := leBlk_ok hle (D.heap.ok _ c hc)
        obtain ⟨ok', tk'⟩ := BlkOk_ren (i := f k) (j := k) g g' (b := b0) (by rintro rfl; cases hl) (fun q hq => by rw [hget k hk]; exact hq) hr ok
        exact ⟨c, rfl, ok', fun m hm => tk m (tk' m hm)⟩
    simp only [headOf] at hb
    rw [List.getElem?_append] at hb
    split at hb
    · rename_i hk
      rw [layH_length, restr_length] at hk
      rcases layH_get _ _ _ _ hb with h | h
      · obtain ⟨⟨k', b0⟩, hm, he⟩ := List.mem_map.1 h
        cases he
        obtain ⟨⟨o1, o2⟩, o3⟩ := ok2 _ hm
        have hle := m2 (k', renB (sig σ) b0) (List.mem_map.2 ⟨_, hm, rfl⟩)
        exact .inr ⟨.inl ⟨hk, .inl (List.mem_map.2 ⟨_, hm, rfl⟩)⟩, fin b0 _ _ o3 (by rw [hlo _ hk]; exact hle) (by omega) (hren _ o1)⟩
      · rw [restr_get] at h
        simp only [Option.map_eq_some_iff, Nat.zero_add] at h
        obtain ⟨c, hc, rfl⟩ := h
        split
        · rename_i hm
          have hm' : k ∈ p.keep := by simpa using hm
          have hg : st0.heap.getD k .dead = c := by rw [List.getD_eq_getElem?_getD, hc]; rfl
          have h1 := m3 (k, st0.heap.getD k .dead) (List.mem_map.2 ⟨k, hm', rfl⟩)
          obtain ⟨⟨o1, o2⟩, o3⟩ := ok3 k hm'
          rw [hg] at h1 o1 o3
          have hlow : ∀ i ∈ blkRefs c, i < st0.heap.length := fun i hi => by
            obtain ⟨d', hd'⟩ := refOk_ren σ st0.heap.length 0
            rcases hd' _ o1 i hi with ⟨h, _⟩ | ⟨_, h, _⟩
            · exact h
            · exact absurd h (Nat.not_lt_zero _)
          by_cases hloop : ∃ f1 regs ps aa bb s q d1, c = .loop f1 regs ps aa bb s q d1
          · obtain ⟨f1, regs, ps, aa, bb, s, q, d1, rfl⟩ := hloop
            refine .inr ⟨.inl ⟨hk, .inr hm'⟩, ?_⟩
            rw [hlo _ hk]
            simp only [leKeep] at h1
            split at h1
            · rename_i f2 regs2 ps2 a2 b2 s2 q2 d2 hcur
              have hcur' : x.1.heap[k]? = some (.loop f2 regs2 ps2 a2 b2 s2 q2 d2) := by
                rw [List.getD_eq_getElem?_getD] at hcur
                cases hc2 : x.1.heap[k]? with
                | none => rw [hc2] at hcur; cases hcur
                | some z => rw [hc2] at hcur; exact congrArg some hcur
              have hid : (idleB s q && idleB s2 q2) = true := by
                cases hi : (idleB s q && idleB s2 q2) with
                | true => rfl
                | false => rw [hi] at h1; exact h1.elim
              simp only [Bool.and_eq_true] at hid
              obtain ⟨rfl, rfl⟩ := idleB_iff hid.1
              obtain ⟨rfl, rfl⟩ := idleB_iff hid.2
              refine ⟨_, hcur', ?_, ?_⟩
              · obtain ⟨p0, q0, ts0, fn0, hp0, hq0, hw0, hl0⟩ := D0.heap.ok k _ hc
                obtain ⟨p2, q2, ts2, fn2, hp2, hq2, hw2, hl2⟩ := D.heap.ok k _ hcur'
                have e1 := hx _ _ hp0
                rw [hp2] at e1; cases e1
                obtain ⟨L', hL', hk'⟩ := hst _ _ hw0
                rw [hw2] at hL'; cases hL'
                refine ⟨_, q0, ts0, fn0, hext _ _ hp0, hext _ _ hq0, ?_, DL.mono hext _ _ hl0⟩
                rw [hw2]
                have h1 := hk'.fn; have h2 := hk'.tmps; have h3 := hk'.params; have h4 := hk'.assign; have h5 := hk'.body; have h6 := hk'.defers
                simp only at h1 h2 h3 h4 h5 h6
                rw [h1, h2, h3, h4, h5, h6]
              · rintro n ⟨r, hr, e⟩
                rw [hold k hk] at hr
                exact ⟨r, hr, e⟩
            · exact h1.elim
          · have hk1 : leBlk (x.1.heap.getD k .dead) c := by
              cases c with
              | loop => exact absurd ⟨_, _, _, _, _, _, _, _, rfl⟩ hloop
              | _ => exact h1
            have o3' : blkLive c = true := by
              cases c with
              | loop => exact absurd ⟨_, _, _, _, _, _, _, _, rfl⟩ hloop
              | _ => exact o3
            have := fin c id id o3' (by rw [hlo _ hk, renB_id id c fun _ _ => rfl]; exact hk1) (by omega) fun i hi q hq => by
              rw [id, hold i (hlow i hi)]; exact hq
            rw [renB_id id c fun _ _ => rfl] at this
            exact .inr ⟨.inl ⟨hk, .inr hm'⟩, this⟩
        · exact .inl rfl
    · rename_i hk
      rw [layH_length, restr_length] at hk hb
      rw [List.getElem?_map] at hb
      obtain ⟨b0, hb0, rfl⟩ := Option.map_eq_some_iff.1 hb
      have hlt := (List.getElem?_eq_some_iff.1 hb0).1
      obtain ⟨o1, o2⟩ := ok4 b0 (List.mem_of_getElem? hb0)
      have hfk : f k = σ.getD (k - st0.heap.length) d := by rw [hf']; simp [hk]
      have hs : σ[k - st0.heap.length]? = some (f k) := by
        rw [hfk, List.getD_eq_getElem?_getD, List.getElem?_eq_getElem (by omega)]; rfl
      exact .inr ⟨.inr ⟨by omega, hlt⟩, fin b0 _ _ o2 (m4 _ b0 _ hb0 hs) (by omega) (hren _ o1)⟩
  refine ⟨ρh, hext, ?_, ?_, ?_⟩
  · refine lay_DL ?_ _ fun y' hy' y hy => ?_
    · refine DL.mk' (by simp [havoc_length, hf.1, D0.regs.length.symm]) fun i s y hs hy => ?_
      rw [havoc_get] at hs
      simp only [Option.map_eq_some_iff, Nat.zero_add] at hs
      obtain ⟨s', hs', rfl⟩ := hs
      split
      · simp [DV]
      · rename_i hni
        have hni' : i ∉ asg := by simpa using hni
        have e := hf.2 i hni'
        obtain ⟨y', hy', hd⟩ := D0.regs.get hs'
        have : y' = y := by
          have h1 : a0.tmps[i]? = some y' := by simpa using hy'
          have h2 : a.tmps[i]? = some y := by simpa using hy
          rw [e, h1] at h2; cases h2; rfl
        subst this
        exact DV.mono hext _ _ hd
    · obtain ⟨⟨t, s⟩, hm, rfl⟩ := List.mem_map.1 hy'
      have hd := D.regs.getD t undef
      have : a.tmps.toList.getD t undef = y := by rw [List.getD_eq_getElem?_getD, hy]; rfl
      rw [this] at hd
      have hle := m1 (t, ren (sig σ) s) (List.mem_map.2 ⟨_, hm, rfl⟩)
      exact DV_ren _ _ _ _ (hren _ (ok1 _ hm).1.1) (leSV_DV _ _ _ hle hd)
  · rw [hρh]
    refine D.heap.view f (fun k b hb => ?_) fun i j b c hij hb hc hbl hcl => ?_
    · rcases live k b hb with h | ⟨_, c, h⟩
      · exact .inl h
      · rw [hρh] at h; exact .inr ⟨c, h⟩
    · rcases live i b hb with h | ⟨hi, _⟩
      · exact absurd h hbl
      rcases live j c hc with h | ⟨hj, _⟩
      · exact absurd h hcl
      have new : ∀ k, st0.heap.length ≤ k → k - st0.heap.length < p.news.length → f k ∈ σ := fun k h1 h2 => by
        rw [hf']; simp only [Nat.not_lt.2 h1, if_false]; exact mem_getD (by omega) _
      rcases hi with ⟨hi, hi'⟩ | ⟨hi, hi'⟩ <;> rcases hj with ⟨hj, hj'⟩ | ⟨hj, hj'⟩
      · rw [hlo i hi, hlo j hj]; exact hij
      · intro e
        have h1 := hsig _ (new j hj hj')
        rw [← e, hlo i hi] at h1
        rcases hi' with h | h
        · simp [h] at h1
        · simp [h] at h1
      · intro e
        have h1 := hsig _ (new i hi hi')
        rw [e, hlo j hj] at h1
        rcases hj' with h | h
        · simp [h] at h1
        · simp [h] at h1
      · intro e
        rw [hf'] at e
        simp only [Nat.not_lt.2 hi, Nat.not_lt.2 hj, if_false] at e
        have := nodup_getD hnd (by omega) (by omega) _ e
        exact hij (by omega)
  · show DF ρh st0.df a.defers
    have := D.defers
    rw [hdf] at this
    refine this.ren fun i hi q hq => ?_
    have hk : i ∈ p.keep := by simpa using ok6 i hi
    rw [hold i (hkeep i hk)]; exact hq
end
end Go.Eng
