/- What arguments are, when they read as data whose strings are not too long: symbolic values. No condition. -/
import Derived.Test.YtcbmppkejphffaaV6M
import Derived.JoinedCond
namespace Go.Eng

/-- No string among the cells is longer. -/
def Szc (B : Nat) (l : List Value) : Prop := ∀ s, Value.string s ∈ l → s.size ≤ B
def Szr (B : Nat) (xs : List (List Value)) : Prop := ∀ x ∈ xs, Szc B x
def Szb (B : Nat) (bs : List Blk) : Prop := ∀ kd xs f, Blk.ror kd xs f ∈ bs → Szr B xs
theorem Szc.append {B : Nat} {a b : List Value} (h : Szc B a) (k : Szc B b) : Szc B (a ++ b) := fun s hs => by
  rcases List.mem_append.1 hs with hs | hs
  · exact h s hs
  · exact k s hs
theorem Szc.nil {B : Nat} : Szc B [] := fun s hs => by cases hs
theorem Szb.append {B : Nat} {a b : List Blk} (h : Szb B a) (k : Szb B b) : Szb B (a ++ b) := fun kd xs f hs => by
  rcases List.mem_append.1 hs with hs | hs
  · exact h _ _ _ hs
  · exact k _ _ _ hs
theorem Szb.nil {B : Nat} : Szb B [] := fun kd xs f hs => by cases hs
/-- A measure of readings that bounds their strings, and falls from the whole to its parts. -/
structure Bulk {H : Type} (B : Nat) (Q : DataW H → Prop) : Prop where
  str : ∀ b, Q (.lit (.string b)) → b.length ≤ B
  sl : ∀ e s, Q (.slice e s) → ∀ d ∈ e, Q d
  agg : ∀ l, Q (.agg l) → ∀ d ∈ l, Q d
def FaB (B : Nat) (ks : List Kd) (vs : List Value) : Prop := Fa ks vs ∧ Szc B vs
theorem FaB.append {B : Nat} {ks : List Kd} {vs : List Value} {ls : List Kd} {us : List Value} (h : FaB B ks vs) (k : FaB B ls us) : FaB B (ks ++ ls) (vs ++ us) := ⟨Fa.append h.1 k.1, h.2.append k.2⟩
theorem FaB.nil {B : Nat} : FaB B [] [] := ⟨trivial, Szc.nil⟩

section
variable {P : Program} {H : Type} {enc : TypeId × Value → H} {w : World} {B : Nat} {Q : DataW H → Prop}

theorem trodB_flat (hQ : Bulk B Q) {base : Nat} {spare : Nat → Bool} {held : Bool} : ∀ (n : Nat) (t : TypeId) (kd : List Kd) (fuel : Nat) (cs : List Value) (x : DataW H × List MemPlace), kdT P n t = some kd →
    DataW.trod enc P w base spare held fuel t cs = some x → Q x.1 → FaB B kd cs
  | 0, _, _, _, _, _, h, _, _ => by simp [kdT] at h
  | n + 1, t, kd, fuel, cs, x, h, ht, hq => by
    simp only [kdT] at h
    split at h
    · rename_i hu
      cases h
      obtain ⟨b, rfl, _⟩ := DataW.trod_bool hu ht
      exact ⟨⟨⟨b, rfl⟩, trivial⟩, fun s hs => by simp at hs⟩
    · rename_i k hu
      cases h
      obtain ⟨m, rfl, _, hw⟩ := DataW.trod_int hu ht
      exact ⟨⟨⟨m, rfl, wf_range hw⟩, trivial⟩, fun s hs => by simp at hs⟩
    · rename_i hu
      cases h
      obtain ⟨b, rfl, hx, hl⟩ := DataW.trod_string hu ht
      rw [hx] at hq
      have hb := hQ.str _ hq
      exact ⟨⟨⟨b, rfl, hl⟩, trivial⟩, fun s hs => by
        simp only [List.mem_singleton, Value.string.injEq] at hs
        subst hs
        have e : s.data.toList.length = s.size := by rw [Array.length_toList]; rfl
        omega⟩
    · rename_i fs hu
      obtain ⟨xs, m, rfl, hx, hlen, hxl, hf⟩ := DataW.trod_struct hu ht
      rw [hx] at hq
      have hqa := hQ.agg _ hq
      simp only [Option.bind_eq_some_iff] at h
      obtain ⟨⟨off, out⟩, hfo, h⟩ := h
      simp only at h
      split at h
      · rename_i h0
        subst h0
        cases h
        have := fields_cat (FaB B) FaB.nil FaB.append (kdT P n) P.cellsOf cs fs.toList _ _ _ hlen hfo fun f hfm a ha => by
          obtain ⟨i, hi, rfl⟩ := List.getElem_of_mem hfm
          have hi' : i < fs.size := by simpa using hi
          have h1 := hf i fs[i] (by simp [hi'])
          have h2 : xs[i]? = some xs[i] := List.getElem?_eq_getElem (by omega)
          rw [h2] at h1
          exact trodB_flat hQ n _ a m _ _ (by simpa using ha) (by simpa using h1) (hqa _ (List.mem_map.2 ⟨_, List.mem_of_getElem? h2, rfl⟩))
        simpa using this
      · cases h
    · rename_i m e hu
      split at h
      · rename_i a ha
        split at h
        · rename_i hc
          cases h
          obtain ⟨xs, q, rfl, hx, hlen, hxl, hf⟩ := DataW.trod_array hu ht
          rw [hx] at hq
          have hqa := hQ.agg _ hq
          refine array_cat (FaB B) FaB.nil FaB.append a m cs (by rw [hlen, hc.2]) fun i hi => ?_
          have h1 := hf i hi
          rw [List.getElem?_eq_getElem (by omega)] at h1
          rw [hc.1]
          exact trodB_flat hQ n e a q _ _ ha h1 (hqa _ (List.mem_map.2 ⟨_, List.getElem_mem _, rfl⟩))
        · cases h
      · cases h
    · cases h

/-- A slice of plain elements that reads as data. -/
theorem trodB_slice_ro (hQ : Bulk B Q) {spare : Nat → Bool} {held : Bool} {n : Nat} {t e : TypeId} {kd : List Kd} {fuel : Nat} {v : Value} {x : DataW H × List MemPlace} (hu : P.underlying t = some (.slice e)) (hk : kdT P n e = some kd)
    (hl : kd.length = P.cellsOf e) (hz : 0 < kd.length) (h : DataW.trod enc P w 0 spare held fuel t [v] = some x) (hq : Q x.1) :
    ∃ xs, isRo (envOf w) kd xs false v ∧ (∀ y ∈ xs, Fa kd y) ∧ xs.length ≤ maxLen ∧ Szr B xs := by
  rcases DataW.trod_slice hu h with ⟨hcs, _⟩ | ⟨a, len, cap, elems, rest, m, _, hcs, hx, _, hlc, hcm, hel, hcell, _, _⟩
  · cases hcs
    exact ⟨[], ⟨none, 0, rfl, Nat.le_refl _, (fun h => by cases h), Nat.zero_le _, by simp, .inl rfl⟩, by simp, by simp, fun x hx => by cases hx⟩
  · cases hcs
    rw [hx] at hq
    have hqe := hQ.sl _ _ hq
    have key : ∀ i, i < len → ∃ cs, w.cells? 0 (a.add (i * P.cellsOf e)) (P.cellsOf e) = some cs ∧ FaB B kd cs := fun i hi => by
      have h1 := hcell i hi
      rw [List.getElem?_eq_getElem (by omega)] at h1
      simp only [Option.bind_eq_some_iff] at h1
      obtain ⟨cs, hcs, ht⟩ := h1
      exact ⟨cs, hcs, trodB_flat hQ n e kd m cs _ hk ht (hqe _ (List.mem_map.2 ⟨_, List.getElem_mem _, rfl⟩))⟩
    let f : Nat → List Value := fun i => (w.cells? 0 (a.add (i * P.cellsOf e)) (P.cellsOf e)).getD []
    have hfi : ∀ i, i < len → w.cells? 0 (a.add (i * P.cellsOf e)) (P.cellsOf e) = some (f i) ∧ FaB B kd (f i) := fun i hi => by
      obtain ⟨cs, hcs, hfa⟩ := key i hi
      simp only [f, hcs, Option.getD_some, true_and]; exact hfa
    have hall : ∀ y ∈ (List.range len).map f, Fa kd y := fun y hy => by
      obtain ⟨i, hi, rfl⟩ := List.mem_map.1 hy
      exact (hfi i (List.mem_range.1 hi)).2.1
    have hsz : Szr B ((List.range len).map f) := fun y hy => by
      obtain ⟨i, hi, rfl⟩ := List.mem_map.1 hy
      exact (hfi i (List.mem_range.1 hi)).2.2
    refine ⟨(List.range len).map f, ⟨some a, cap, by simp, by simpa using hlc, (fun h => by cases h), by simp; omega, fun y hy => hall y hy, ?_⟩, hall, by simp; omega, hsz⟩
    by_cases h0 : len = 0
    · subst h0; exact .inl rfl
    · right
      have hz' : 0 < P.cellsOf e := by omega
      have h00 := hfi 0 (by omega)
      have hc0 : ∃ u, w.cell? (a.add (0 * P.cellsOf e)) = some u := by
        have hl0 := h00.2.1.length
        have h3 := cells_fixed h00.1 0 ((f 0)[0]'(by omega)) (List.getElem?_eq_getElem (by omega))
        simp only [Nat.zero_mul, RowKitAdd.add_zero] at h3 ⊢
        exact ⟨_, h3⟩
      obtain ⟨u0, hu0⟩ := hc0
      simp only [Nat.zero_mul, RowKitAdd.add_zero] at hu0
      have hsp := cell_spot hu0
      refine ⟨a.block, a.off, by rw [← hsp], envOf_fixed.2 (World.block_lt_of_cell? w a hu0), fun j u hj => ?_⟩
      obtain ⟨x, hx, hxu⟩ := flatten_of _ kd.length hz (fun y hy => (hall y hy).length) j u hj
      simp only [List.getElem?_map, Option.map_eq_some_iff] at hx
      obtain ⟨i, hi, rfl⟩ := hx
      obtain ⟨hilt, hie⟩ := List.getElem?_eq_some_iff.1 hi
      simp only [List.getElem_range] at hie
      subst hie
      have hlt : j / kd.length < len := by simpa using hilt
      have h4 := cells_fixed (hfi _ hlt).1 _ _ hxu
      rw [hsp, addr_add, addr_add] at h4
      show w.cell? _ = _
      rw [← h4]
      congr 2
      rw [← hl, Nat.mul_comm (j / kd.length), Nat.add_assoc, Nat.div_add_mod]


def RdB (B : Nat) (w : World) (kds : List Kd2) (vs : List Value) : Prop := ∀ ρ0 h0, DH (envOf w) ρ0 h0 w → ∃ svs bs ρ1, Fa2 h0.length kds svs bs ∧ Szb B bs ∧ Ext ρ0 ρ1 ∧ DL ρ1 svs vs ∧ DH (envOf w) ρ1 (h0 ++ bs) w

theorem RdB.nil : RdB B w [] [] := fun ρ0 h0 D => ⟨[], [], ρ0, ⟨rfl, rfl⟩, Szb.nil, Ext.refl _, DL.nil, by simpa using D⟩
theorem RdB.append {a b : List Kd2} {c d : List Value} (h : RdB B w a c) (k : RdB B w b d) : RdB B w (a ++ b) (c ++ d) := fun ρ0 h0 D => by
  obtain ⟨s, bs, ρ1, h1, z1, x1, d1, D1⟩ := h ρ0 h0 D
  obtain ⟨t, cs, ρ2, h2, z2, x2, d2, D2⟩ := k ρ1 _ D1
  rw [List.length_append] at h2
  exact ⟨s ++ t, bs ++ cs, ρ2, h1.append h2, z1.append z2, x1.trans x2, (DL.mono x2 _ _ d1).append d2, by rw [← List.append_assoc]; exact D2⟩
theorem RdB.one {q : Kd} {s : SV} {v : Value} (h : KOk2 q s) (hd : ∀ ρ, DV ρ s v) : RdB B w [.k q] [v] := fun ρ0 h0 D => ⟨[s], [], ρ0, ⟨s, [], rfl, h, rfl, rfl⟩, Szb.nil, Ext.refl _, DL.cons (hd ρ0) DL.nil, by simpa using D⟩

theorem trodB_svs (hQ : Bulk B Q) {spare : Nat → Bool} {held : Bool} : ∀ (n : Nat) (t : TypeId) (kds : List Kd2) (fuel : Nat) (cs : List Value) (x : DataW H × List MemPlace), kd2T P n t = some kds →
    DataW.trod enc P w 0 spare held fuel t cs = some x → Q x.1 → RdB B w kds cs
  | 0, _, _, _, _, _, h, _, _ => by simp [kd2T] at h
  | n + 1, t, kds, fuel, cs, x, h, ht, hq => by
    simp only [kd2T] at h
    split at h
    · rename_i hu
      cases h
      obtain ⟨b, rfl, _⟩ := DataW.trod_bool hu ht
      exact RdB.one (s := .b b) ⟨b, rfl⟩ fun ρ => by simp [DV]
    · rename_i k hu
      cases h
      obtain ⟨m, rfl, _, hw⟩ := DataW.trod_int hu ht
      exact RdB.one (s := .i k m (kmin k) (kmax k)) ⟨m, rfl, wf_range hw⟩ fun ρ => by simp only [DV]; exact ⟨trivial, wf_range hw⟩
    · rename_i hu
      cases h
      obtain ⟨b, rfl, _, hl⟩ := DataW.trod_string hu ht
      have : maxLen = 9223372036854775807 := by decide
      exact RdB.one (s := .s b 9223372036854775807) ⟨b, rfl, by omega⟩ fun ρ => by simp only [DV]; exact ⟨trivial, by omega⟩
    · rename_i e hu
      split at h
      · rename_i a ha
        split at h
        · rename_i hc
          cases h
          have hcs : ∃ v, cs = [v] := by
            rcases DataW.trod_slice hu ht with ⟨hcs, _⟩ | ⟨_, _, _, _, _, _, _, hcs, _⟩
            · exact ⟨_, hcs⟩
            · exact ⟨_, hcs⟩
          obtain ⟨v, rfl⟩ := hcs
          obtain ⟨xs, h1, h2, h3, h4⟩ := trodB_slice_ro hQ hu ha hc.1 hc.2 ht hq
          refine fun ρ0 h0 D => ?_
          have := D.addRo (b := .ror a xs false) (l := ⟨a.length, v⟩) ⟨_, upd_same _ _, rfl, hc.2, h1⟩ (fun _ _ _ h => h)
          obtain ⟨aa, c, e1, _⟩ := h1
          exact ⟨[.row h0.length], [.ror a xs false], _, ⟨[], xs, [], rfl, rfl, h2, h3, rfl, rfl⟩, (fun kd ys f hy => by simp only [List.mem_singleton, Blk.ror.injEq] at hy; rw [hy.2.1]; exact h4), this.1, DL.cons (by simp only [DV]; exact ⟨_, aa, _, c, upd_same _ _, rfl, e1⟩) DL.nil, this.2⟩
        · cases h
      · cases h
    · rename_i fs hu
      obtain ⟨xs, m, rfl, hx, hlen, hxl, hf⟩ := DataW.trod_struct hu ht
      rw [hx] at hq
      have hqa := hQ.agg _ hq
      simp only [Option.bind_eq_some_iff] at h
      obtain ⟨⟨off, out⟩, hfo, h⟩ := h
      simp only at h
      split at h
      · rename_i h0
        subst h0
        cases h
        have := fields_cat (RdB B w) RdB.nil RdB.append (kd2T P n) P.cellsOf cs fs.toList _ _ _ hlen hfo fun f hfm a ha => by
          obtain ⟨i, hi, rfl⟩ := List.getElem_of_mem hfm
          have hi' : i < fs.size := by simpa using hi
          have h1 := hf i fs[i] (by simp [hi'])
          have h2 : xs[i]? = some xs[i] := List.getElem?_eq_getElem (by omega)
          rw [h2] at h1
          exact trodB_svs hQ n _ a m _ _ (by simpa using ha) (by simpa using h1) (hqa _ (List.mem_map.2 ⟨_, List.mem_of_getElem? h2, rfl⟩))
        simpa using this
      · cases h
    · rename_i m e hu
      split at h
      · rename_i a ha
        split at h
        · rename_i hc
          cases h
          obtain ⟨xs, q, rfl, hx, hlen, hxl, hf⟩ := DataW.trod_array hu ht
          rw [hx] at hq
          have hqa := hQ.agg _ hq
          refine array_cat (RdB B w) RdB.nil RdB.append a m cs (by rw [hlen, hc.2]) fun i hi => ?_
          have h1 := hf i hi
          rw [List.getElem?_eq_getElem (by omega)] at h1
          rw [hc.1]
          exact trodB_svs hQ n e a q _ _ ha h1 (hqa _ (List.mem_map.2 ⟨_, List.getElem_mem _, rfl⟩))
        · cases h
      · cases h
    · cases h

theorem openB_par (hQ : Bulk B Q) {base : Nat} {spare : Nat → Bool} {held : Bool} {t : TypeId} {p : Bool × List Kd2} {v : Value} {d : DataW H} {ps : List MemPlace} (hp : parT P t = some p) (hok : Value.okWide P w .any base t v)
    (h : DataW.Trod enc P w 0 spare held t v d ps) (hq : Q d) : ∀ ρ0 h0, DH (envOf w) ρ0 h0 w → ∃ s bs ρ1, ParOk h0.length p s bs ∧ Szb B bs ∧ Ext ρ0 ρ1 ∧ DV ρ1 s v ∧ DH (envOf w) ρ1 (h0 ++ bs) w := by
  intro ρ0 h0 D0
  obtain ⟨fuel, h⟩ := h
  unfold parT at hp
  split at hp
  · rename_i b k hb hk
    split at hp
    · rename_i hc
      cases hp
      obtain ⟨svs, bs, ρ1, h1, hz, hx, h2, D1⟩ := trodB_svs hQ 20 t k fuel _ _ hk h hq ρ0 h0 D0
      simp only [isAggT, Option.map_eq_some_iff] at hb
      obtain ⟨dd, hd, hb⟩ := hb
      cases b with
      | true =>
        have : ∃ cs, v = .agg cs := by
          unfold Value.okWide at hok
          rw [hd] at hok
          cases dd <;> simp [aggD] at hb <;> (simp only at hok; obtain ⟨cs, rfl, _⟩ := hok; exact ⟨cs, rfl⟩)
        obtain ⟨cs, rfl⟩ := this
        exact ⟨.agg svs, bs, ρ1, ⟨svs, rfl, h1⟩, hz, hx, by simp only [DV]; exact ⟨cs, rfl, by simpa [Value.cells] using h2⟩, D1⟩
      | false =>
        have hk1 : k.length = 1 := by simpa using hc
        have hv : ∀ cs, v ≠ .agg cs := by
          rintro cs rfl
          unfold Value.okWide at hok
          rw [hd] at hok
          cases dd <;> simp [aggD] at hb <;> simp [Cell.okWide, Cell.ok, hd] at hok
        have hcells : v.cells.toList = [v] := by
          unfold Value.cells
          split
          · rename_i cs; exact absurd rfl (hv cs)
          · rfl
        rw [hcells] at h2
        match svs, h2 with
        | [s], h2 =>
          simp only [DL] at h2
          obtain ⟨y, t, e, hy, _⟩ := h2
          cases e
          exact ⟨s, bs, ρ1, h1, hz, hx, hy, D1⟩
        | [], h2 => simp [DL] at h2
        | _ :: _ :: _, h2 =>
          simp only [DL] at h2
          obtain ⟨y, t, e, _, z, r, e2, _⟩ := h2
          cases e; cases e2
    · cases hp
  · cases hp

theorem openB_pars (hQ : Bulk B Q) {base : Nat} {spare : Nat → Bool} {held : Bool} : ∀ {ts : List TypeId} {shapes : List (Bool × List Kd2)} {vs : List Value} {ds : List (DataW H)} {ps : List MemPlace},
    ts.mapM (parT P) = some shapes → (∀ (j : Nat) t v, ts[j]? = some t → vs[j]? = some v → Value.okWide P w .any base t v) → DataW.TrodAll enc P w 0 spare held ts vs ds ps → (∀ d ∈ ds, Q d) →
    ∀ ρ0 h0, DH (envOf w) ρ0 h0 w → ∃ ss bs ρ1, ParsOk h0.length shapes ss bs ∧ Szb B bs ∧ Ext ρ0 ρ1 ∧ DL ρ1 ss vs ∧ DH (envOf w) ρ1 (h0 ++ bs) w
  | [], shapes, [], [], _, hs, _, _, _ => by
    simp at hs; subst hs; intro ρ0 h0 D0; exact ⟨[], [], ρ0, ⟨rfl, rfl⟩, Szb.nil, Ext.refl _, DL.nil, by simpa using D0⟩
  | [], _, [], _ :: _, _, _, _, h, _ => h.elim
  | [], _, _ :: _, _, _, _, _, h, _ => h.elim
  | _ :: _, _, [], _, _, _, _, h, _ => h.elim
  | _ :: _, _, _ :: _, [], _, _, _, h, _ => h.elim
  | t :: ts, shapes, v :: vs, d :: ds, ps, hs, hok, h, hq => by
    obtain ⟨p, q, h1, h2, _⟩ := h
    simp only [List.mapM_cons, Option.pure_def, Option.bind_eq_bind, Option.bind_eq_some_iff, Option.some.injEq] at hs
    obtain ⟨sh, hsh, shs, hshs, rfl⟩ := hs
    intro ρ0 h0 D0
    obtain ⟨s, b1, ρ1, hs1, z1, x1, hs2, D1⟩ := openB_par hQ hsh (hok 0 t v rfl rfl) h1 (hq d (by simp)) ρ0 h0 D0
    obtain ⟨ss, b2, ρ2, hss1, z2, x2, hss2, D2⟩ := openB_pars hQ hshs (fun j t v ht hv => hok (j + 1) t v (by simpa using ht) (by simpa using hv)) h2 (fun d hd => hq d (by simp [hd])) ρ1 _ D1
    rw [List.length_append] at hss1
    exact ⟨s :: ss, b1 ++ b2, ρ2, ⟨s, ss, b1, b2, rfl, rfl, hs1, hss1⟩, z1.append z2, x1.trans x2, DL.cons (DV.mono x2 _ _ hs2) hss2, by rw [← List.append_assoc]; exact D2⟩


/-- A law's call, by the engine: for all arguments of the shapes. -/
theorem lawB_call (hQ : Bulk B Q) {Γ : PC} (hΓ : PCok P Γ) (hm : P.follows .mixedOrders = true) {g : FuncId} {shapes : List (Bool × List Kd2)}
    (hf : ∀ ss bs, ParsOk 0 shapes ss bs → Szb B bs → ∃ ss', leSVs ss ss' ∧ ∃ Λ n, fnS P Γ Λ n g ss' bs fun u _ => isYes u) {base : Nat} {spare : Nat → Bool} {held : Bool} {ts : List TypeId} {args : Array Value} {ds : List (DataW H)} {ps : List MemPlace} (hg : GlobOk (envOf w))
    (hs : ts.mapM (parT P) = some shapes) (hok : ∀ (j : Nat) t v, ts[j]? = some t → args[j]? = some v → Value.okWide P w .any base t v) (h : DataW.TrodAll enc P w 0 spare held ts args.toList ds ps) (hq : ∀ d ∈ ds, Q d) :
    Calls P g args w fun e w' => e = .returned (.bool true) ∧ RowKit.Below w.heap.size w w' := by
  obtain ⟨ss, bs, ρ1, h1, hz, _, h2, D1⟩ := openB_pars hQ (w := w) (vs := args.toList) hs (fun j t v ht hv => hok j t v ht (by simpa using hv)) h hq _ _ (DH.start w hg)
  simp only [List.nil_append] at D1
  obtain ⟨ss', hle, Λ, n, hrun⟩ := hf ss bs h1 hz
  have := fnS_ok hΓ hm (envOf w) n g _ _ _ hrun ρ1 w _ D1 (leSVs_DL _ _ _ hle h2)
  rw [Array.toArray_toList] at this
  refine this.mono ?_
  rintro e w' ⟨y, v, h', ρ', rfl, _, hy, hD, hv⟩
  have := isYes_DV hv hy
  subst this
  exact ⟨rfl, hD.below_of⟩

end
end Go.Eng
