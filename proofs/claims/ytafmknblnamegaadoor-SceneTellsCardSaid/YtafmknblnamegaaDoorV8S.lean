/- The engine: the operations on slices. No condition. -/
import Derived.Test.YtafmknblnamegaaDoorV8R
namespace Go.Eng
open Go.RowKit (Below)

section
variable {P : Program} {E : Env} {ρ : Rho} {w : World} {hp : List Blk} {o : Oper} {e : Operand → SV} {ev : Operand → Value} {nx : Nat} {r : Res}

theorem same_drew_alloc (w : World) (ob : Obj) : Same w (w.drew.alloc ob) := ⟨rfl, rfl, rfl, by simp, Stat.of_block fun k hk => Below.heap_alloc w.drew ob k hk⟩
theorem heap_drew_alloc (w : World) (ob : Obj) {k : Nat} (h : k < w.heap.size) : (w.drew.alloc ob).heap[k]? = w.heap[k]? := Below.heap_alloc w.drew ob k h

theorem rowT_ok {el : TypeId} {kd : List Kd} {bytes : Nat} (h : rowT P el = some (kd, bytes)) :
    ∃ i z, P.info? el = some i ∧ i.zero = some z ∧ i.size = kd.length ∧ i.bytes = bytes ∧ 0 < kd.length ∧ z.cells.size = i.size ∧ 0 < bytes ∧ (∀ k ∈ kd, k ≠ .other) ∧ kdT P 20 el = some kd := by
  unfold rowT at h
  split at h
  · rename_i kd' i hk hi
    split at h
    · rename_i z hz
      cases hc : (decide (i.size = kd'.length) && (decide (0 < kd'.length) && (decide (z.cells.size = i.size) && (decide (0 < i.bytes) && kd'.all plainK)))) with
      | false => rw [hc] at h; cases h
      | true =>
        rw [hc] at h
        cases h
        simp only [Bool.and_eq_true, decide_eq_true_eq, List.all_eq_true] at hc
        exact ⟨i, z, hi, hz, hc.1, rfl, hc.2.1, hc.2.2.1, hc.2.2.2.1, (fun k hk' he => by have := hc.2.2.2.2 k hk'; rw [he] at this; cases this), hk⟩
    · cases h
  · cases h

theorem srcS_ok (D : DH E ρ hp w) {kd : List Kd} {s : SV} {y : Value} {ys : List (List Value)} (hpl : ∀ k ∈ kd, k ≠ .other) (h : srcS kd s hp = some ys) (hd : DV ρ s y) :
    Src P w kd.length y ys.length ys.flatten ∧ ∀ x ∈ ys, Wk kd x := by
  have str : ∀ x : ByteArray, kdEq kd [.int .u8] = true → y = .string x → ys = strEl x → Src P w kd.length y ys.length ys.flatten ∧ ∀ x ∈ ys, Wk kd x := by
    rintro x hk rfl rfl
    have := kdEq_eq hk
    subst this
    rw [strEl_flatten, strEl_length]
    exact ⟨src_of_string x, strEl_wk x⟩
  have gen : viewS kd s hp = some ys → Src P w kd.length y ys.length ys.flatten ∧ ∀ x ∈ ys, Wk kd x := fun h => by
    have hr := view_ok D h hd
    exact ⟨src_of_reads hr hpl, hr.choose_spec.choose_spec.2.2.2.1⟩
  unfold srcS at h
  split at h
  · rename_i x hi
    cases hk : kdEq kd [.int .u8] with
    | false => rw [hk] at h; cases h
    | true =>
      rw [hk] at h
      cases h
      simp only [DV] at hd
      exact str x hk hd.1 rfl
  · rename_i x
    cases hk : kdEq kd [.int .u8] with
    | false => rw [hk] at h; cases h
    | true =>
      rw [hk] at h
      cases h
      simp only [DV] at hd
      exact str x hk hd rfl
  · exact gen h

theorem map_two' {c : Call} {s t : SV} (h : c.args.toList.map e = [s, t]) : ∃ x y, c.args.toList = [x, y] ∧ e x = s ∧ e y = t := map_two h

theorem ok_append {c : Call} {s x : Operand} {t tx : TypeId} (ho : o.op = .call c) (hc : c.callee = .builtin .append) (ha : c.args.toList = [s, x]) (hty : c.argTypes.toList = [t, tx])
    (h : appS P t tx (e s) (e x) hp nx = some r) (hneed : allNeed r.need) (EV : ∀ x, DV ρ (e x) (ev x)) (D : DH E ρ hp w) (f : Free hp nx) : Went P E ρ hp w o ev r := by
  have hM : maxLen = 9223372036854775807 := by decide
  unfold appS at h
  split at h
  · rename_i el ux hu hux
    split at h
    · cases h
    · rename_i hni
      split at h
      · rename_i kd bytes hrow
        split at h
        · rename_i d ys hd hys
          cases h
          obtain ⟨i, z, hi, hz, hsz, hby, hk0, hzs, hb0, hpl, _⟩ := rowT_ok hrow
          obtain ⟨hsrc, hwy⟩ := srcS_ok (P := P) D hpl hys (EV x)
          obtain ⟨base, cap, hy, hcap, hmax, hwx, hrd, hown, hkill⟩ := dstN_ok D hk0 hd (EV s)
          obtain ⟨hn1, hn1b, hn2, _⟩ := hneed
          have hn1' : (d.xs.length + ys.length) * i.bytes ≤ 140737488355328 := by rw [hby]; exact fitsB_ok hn1 hn1b
          have h63 : d.xs.length + ys.length ≤ maxLen := by
            have := Nat.le_mul_of_pos_right (d.xs.length + ys.length) (show 0 < i.bytes by omega)
            omega
          have hlo := flatten_length fun x hx => (hwx x hx).length
          have hwxy : ∀ x ∈ d.xs ++ ys, Wk kd x := fun x hx => (List.mem_append.1 hx).elim (hwx x) (hwy x)
          have hlxy := flatten_length fun x hx => (hwxy x hx).length
          rw [← hsz] at hsrc hlo
          have hrun := run_append_src (P := P) (w := w) (ty := o.type) hu hux (fun k e => hni k e) hi hz hzs hsrc (base := base) (n := d.xs.length) (cap := cap) (olds := d.xs.flatten) hlo
            (hrd.imp (fun e => by rw [e]; rfl) id) (fun h0 hle => by
              rcases hown with ⟨_, hO, _⟩ | ⟨_, hfull⟩
              · rcases hO.2 with ⟨a, e1, e2⟩ | ⟨g, off, c1, cur, e1, hg, _, _, k3, _⟩
                · rw [hy] at e1; simp only [Value.slice.injEq] at e1; omega
                · rw [hy] at e1; cases e1
                  exact ⟨g, off, cur, rfl, hg, by rw [hsz]; exact k3⟩
              · omega) h63 hn1'
          have hexec : ∀ v' w', (Builtin.append_ #[t, tx] o.type #[.slice base d.xs.length cap, ev x]).run P w = .ok v' w' → (execOp ev o).run P w = .ok (.value v') w' := fun v' w' hr => by
            refine builtin_run ho hc ?_
            have e1 : c.args = #[s, x] := toList_two ha
            have e2 : c.argTypes = #[t, tx] := toList_two hty
            rw [e1, e2]
            simp only [builtin, List.map_toArray, List.map_cons, List.map_nil, hy, Sem.run_bind, hr, Result.andThen_ok, Sem.run_pure]
          -- the slot that is given up
          have main : ∀ (hp1 : List Blk) (D1 : DH E ρ hp1 w) (f1 : Free hp1 nx) (heff : applyEff (killE d.kill ++ [(nx, .row el kd (d.xs ++ ys))]) hp = putB nx (.row el kd (d.xs ++ ys)) hp1)
              (hsp : ∀ b, d.ro = false → sliceB (ev s) = some b → Spare E ρ hp1 b), Went P E ρ hp w o ev ⟨[fitsB bytes d.xs, fitsB bytes ys, !d.ro || (!ys.isEmpty || d.xs.isEmpty)], .row nx, killE d.kill ++ [(nx, .row el kd (d.xs ++ ys))]⟩ := by
            intro hp1 D1 f1 heff hsp
            have fin : ∀ (v' : Value) (w' : World) (a' : Option Addr) (c' : Nat), v' = .slice a' (d.xs ++ ys).length c' → (execOp ev o).run P w = .ok (.value v') w' → OwnP w' el kd.length v' (d.xs ++ ys).length (d.xs ++ ys).flatten → Same w w' →
                (∀ k, k < w.heap.size → w'.heap[k]? = w.heap[k]? ∨ Spare E ρ hp1 k) → (∀ n, sliceB v' = some n → w.heap.size ≤ n ∨ Spare E ρ hp1 n) →
                Went P E ρ hp w o ev ⟨[fitsB bytes d.xs, fitsB bytes ys, !d.ro || (!ys.isEmpty || d.xs.isEmpty)], .row nx, killE d.kill ++ [(nx, .row el kd (d.xs ++ ys))]⟩ := fun v' w' a' c' hv' hr hO hs h1 h2 =>
              ⟨v', w', upd ρ nx ⟨kd.length, v'⟩, .inl hr, upd_ext (f1.none D1), by simp only [DV]; exact ⟨_, a', _, c', upd_same _ _, rfl, hv'⟩, by rw [heff]; exact D1.newRow f1 hk0 hwxy hO hs h1 h2⟩
            rcases hrun with ⟨h0, hle, hr⟩ | ⟨h0, hle, g, off, cur, rfl, hg, hfit, hr⟩ | ⟨hlt, cc, rest, k1, k2, k3, hr⟩
            · have : ys = [] := List.eq_nil_of_length_eq_zero h0
              subst this
              refine fin _ w base cap (by simp) (hexec _ _ hr) ?_ (Same.refl w) (fun _ _ => .inl rfl) ?_
              · rcases hown with ⟨_, hO, _⟩ | ⟨hro, hfull⟩
                · rw [hy] at hO; simpa using hO
                · rw [hro] at hn2
                  have : d.xs = [] := by simpa using hn2
                  rw [this] at hfull ⊢
                  simp only [List.length_nil] at hfull
                  subst hfull
                  exact ⟨by simp, .inl ⟨base, by simp, by simp⟩⟩
              · intro n hn
                right
                rcases hown with ⟨hro, hO, _⟩ | ⟨hro, hfull⟩
                · exact hsp n hro (by rw [hy]; exact hn)
                · rw [hro] at hn2
                  have : d.xs = [] := by simpa using hn2
                  rw [this] at hfull
                  simp only [List.length_nil] at hfull
                  subst hfull
                  cases base <;> simp [sliceB] at hn
            · rcases hown with ⟨hro, hO, _⟩ | ⟨hro, hfull⟩
              · rcases hO.2 with ⟨a, e1, e2⟩ | ⟨g', off', c1, cur', e1, hg', j1, j2, j3, j4⟩
                · rw [hy] at e1; simp only [Value.slice.injEq] at e1; omega
                · rw [hy] at e1; cases e1
                  rw [hg] at hg'; cases hg'
                  have hsz' := setRow_heap w g cur (cur.toList.take (off + d.xs.length * i.size) ++ ys.flatten ++ cur.toList.drop (off + d.xs.length * i.size + ys.flatten.length)).toArray el (0, 0) hg
                  have hyl := flatten_length fun x hx => (hwy x hx).length
                  rw [hsz] at hlo hsz' hr
                  have hle2 : (d.xs.length + ys.length) * kd.length ≤ (c1 + 1) * kd.length := Nat.mul_le_mul_right _ hle
                  rw [Nat.add_mul] at hle2
                  refine fin _ _ (some ⟨g, off, none⟩) (c1 + 1) (by rw [List.length_append]) (hexec _ _ hr) ⟨hlxy, .inr ⟨g, off, c1, _, by rw [List.length_append], hsz', by rw [List.length_append]; exact hle, j2, ?_, ?_⟩⟩ ⟨rfl, rfl, rfl, by simp, Stat.of_other hg (fun _ => by simp) fun k hk => setRow_other w g k _ hk⟩ (fun k hk => ?_) (fun n hn => ?_)
                  · simp only [List.size_toArray, List.length_append, List.length_take, List.length_drop, Array.length_toList]
                    omega
                  · rw [List.flatten_append, ← hlxy, List.flatten_append]
                    have e3 : (cur.toList.take (off + d.xs.length * kd.length)).drop off = d.xs.flatten := by
                      rw [List.drop_take, Nat.add_sub_cancel_left]; exact j4
                    simp only [List.append_assoc]
                    rw [List.drop_append_of_le_length (by simp; omega), e3, ← List.append_assoc, List.take_left]
                  · by_cases hkg : k = g
                    · subst hkg
                      exact .inr (hsp k hro (by rw [hy]; rfl))
                    · exact .inl (setRow_other w g k _ hkg)
                  · right
                    exact hsp n hro (by rw [hy]; simpa [sliceB] using hn)
              · omega
            · have hlen : (d.xs ++ ys).length = d.xs.length + ys.length := List.length_append
              have hpos : 0 < cc := by omega
              obtain ⟨c0, rfl⟩ : ∃ c0, cc = c0 + 1 := ⟨cc - 1, by omega⟩
              refine fin _ _ (some ⟨w.heap.size, 0, none⟩) (c0 + 1) (by rw [hlen]) (hexec _ _ hr) ⟨hlxy, .inr ⟨w.heap.size, 0, c0, _, by rw [hlen], heap_alloc_new w.drew _, by rw [hlen]; exact k1, k2, ?_, ?_⟩⟩ (same_drew_alloc w _) (fun k hk => .inl (heap_drew_alloc w _ hk)) (fun n hn => ?_)
              · have e3 : d.xs.flatten.length + ys.flatten.length = (d.xs.length + ys.length) * kd.length := by
                  rw [List.flatten_append, List.length_append, hlen] at hlxy; exact hlxy
                rw [hsz] at k3
                rw [List.size_toArray, List.length_append, List.length_append, e3, k3, ← Nat.add_mul, Nat.zero_add]
                refine Nat.mul_le_mul_right _ ?_
                omega
              · show List.take ((d.xs ++ ys).length * kd.length) (List.drop 0 (d.xs.flatten ++ ys.flatten ++ rest)) = (d.xs ++ ys).flatten
                rw [List.drop_zero, ← hlxy, List.flatten_append]
                exact List.take_left
              · left
                simp only [sliceB, Option.some.injEq] at hn
                omega
          rcases Option.eq_none_or_eq_some d.kill with hkl | ⟨⟨j, c⟩, hkl⟩
          · refine main hp D f (by rw [hkl]; rfl) fun b hro hb => ?_
            rcases hown with ⟨_, _, hO⟩ | ⟨hro', _⟩
            · obtain ⟨j, hj⟩ := hO b hb
              rw [hkl] at hj; cases hj
            · rw [hro] at hro'; cases hro'
          · obtain ⟨⟨b0, hb0, hne⟩, hD, hsp⟩ := hkill j c hkl
            have hlt := (List.getElem?_eq_some_iff.1 hb0).1
            refine main (putB j c hp) hD ?_ (by rw [hkl]; rfl) fun b hro hb => ?_
            · rcases f with f | f
              · left; rw [putB, if_pos hlt]; simpa using f
              · right
                intro i hi
                rw [putB_get (by omega), if_neg fun e => hne (by have := f i hi; rw [e, hb0] at this; cases this; rfl)]
                exact f i hi
            · exact hsp b hb
        · cases h
      · cases h
  · cases h

/-! ### Elements -/

theorem getD_mem {xs : List (List Value)} {k : Nat} (h : k < xs.length) : xs[k]? = some (xs.getD k []) := by
  rw [List.getD_eq_getElem?_getD, List.getElem?_eq_getElem h]; rfl

theorem ok_loadRow {t : TypeId} {a : Operand} {i k of : Nat} {kd : List Kd} {xs : List (List Value)} {s : SV} (ho : o.op = .load t a) (ha : e a = .rowp i k of) (hi : slotXs hp i = some (kd, xs))
    (hl : loadFrom P t (mkS (xs.getD k []) 0 kd) of = some s) (EV : ∀ x, DV ρ (e x) (ev x)) (D : DH E ρ hp w) : Went P E ρ hp w o ev ⟨[], s, []⟩ := by
  have hv := EV a
  rw [ha] at hv
  simp only [DV] at hv
  obtain ⟨p, g, off, n, c, hp', hval, hk, hv⟩ := hv
  obtain ⟨q, hq, hb, _, a', c', e1, k1, k2, k3, k4⟩ := slot_reads D hi
  rw [hp'] at hq; cases hq
  rw [hval] at e1
  cases e1
  have hget := getD_mem hk
  have hw : Wk kd (xs.getD k []) := k3 _ (List.mem_of_getElem? hget)
  have hrd : ∀ j u, (xs.getD k [])[j]? = some u → w.cell? ⟨g, off + k * p.block + j, none⟩ = some u := fun j u hu => by
    rcases k4 with rfl | ⟨g', off', e2, k5⟩
    · simp at hk
    · cases e2
      rw [Nat.add_assoc, hb]
      exact k5 _ u (flatten_get kd.length xs (fun x hx => (k3 x hx).length) k j _ u hget hu)
  obtain ⟨y, hy, hdv⟩ := loadFrom_cells (P := P) (w := w) (b := g) (z := off + k * p.block) hl hrd hw.DL
  exact went_pure D (by simp [execOp, ho, Instr.loadAt, hv, sureAddr_run, hy]) hdv

theorem flat_split {sz : Nat} {xs : List (List Value)} (h : ∀ x ∈ xs, x.length = sz) {k : Nat} (hk : k < xs.length) :
    xs.flatten = (xs.take k).flatten ++ (xs.getD k [] ++ (xs.drop (k + 1)).flatten) ∧ (xs.take k).flatten.length = k * sz ∧ ∀ v, (xs.set k v).flatten = (xs.take k).flatten ++ (v ++ (xs.drop (k + 1)).flatten) := by
  refine ⟨?_, ?_, fun v => ?_⟩
  · have h1 : xs = xs.take k ++ (xs.getD k [] :: xs.drop (k + 1)) := by
      have := List.take_append_drop k xs
      rw [List.drop_eq_getElem_cons hk] at this
      rw [List.getD_eq_getElem?_getD, List.getElem?_eq_getElem hk]
      exact this.symm
    calc xs.flatten = (xs.take k ++ (xs.getD k [] :: xs.drop (k + 1))).flatten := by rw [← h1]
      _ = _ := by rw [List.flatten_append, List.flatten_cons]
  · rw [flatten_length fun x hx => h x (List.mem_of_mem_take hx), List.length_take, Nat.min_eq_left (by omega)]
  · rw [List.set_eq_take_append_cons_drop, if_pos hk, List.flatten_append, List.flatten_cons]

theorem ok_storeRow {t : TypeId} {a x : Operand} {i k of : Nat} {el : TypeId} {kd : List Kd} {xs : List (List Value)} {cs : List SV} {v : List Value} (ho : o.op = .store t a x) (ha : e a = .rowp i k of) (hi : hp[i]? = some (.row el kd xs))
    (hs : storeTo P t (mkS (xs.getD k []) 0 kd) of (e x) = some cs) (hv' : elemK kd cs = some v) (EV : ∀ x, DV ρ (e x) (ev x)) (D : DH E ρ hp w) : Went P E ρ hp w o ev ⟨[], .v undef, [(i, .row el kd (xs.set k v))]⟩ := by
  have hv := EV a
  rw [ha] at hv
  simp only [DV] at hv
  obtain ⟨p, g, off, n, c, hp', hval, hk, hv⟩ := hv
  obtain ⟨q, hq, hb, hk0, hwx, hown⟩ := D.ok i _ hi
  rw [hp'] at hq; cases hq
  have hlt := (List.getElem?_eq_some_iff.1 hi).1
  rcases hown.2 with ⟨a', e1, e2⟩ | ⟨g', off', cap, cur, e1, hg, k1, k2, k3, k4⟩
  · rw [hval] at e1; simp only [Value.slice.injEq] at e1; omega
  · rw [hval] at e1
    simp only [Value.slice.injEq, Option.some.injEq, Addr.mk.injEq] at e1
    obtain ⟨⟨rfl, rfl, _⟩, rfl, rfl⟩ := e1
    have hget := getD_mem hk
    have hw : Wk kd (xs.getD k []) := hwx _ (List.mem_of_getElem? hget)
    have hxl := fun x hx => (hwx x hx).length
    obtain ⟨f1, f2, f3⟩ := flat_split hxl hk
    -- what is written
    unfold storeTo at hs
    split at hs
    · rename_i zs m hzs hm
      split at hs
      · rename_i hc
        cases hs
        have hy := cellsSV_DV hzs (EV x)
        have hyl := hy.length
        rw [mkS_length] at hc
        have hyc : (ev x).cells.toList.length = m := hyl.trans hc.1
        have hsz : (ev x).cells.size = m := (Array.length_toList (xs := (ev x).cells)).symm.trans hyc
        have hdl := ((hw.DL (ρ := ρ)).take of).append hy |>.append ((hw.DL (ρ := ρ)).drop (of + m))
        obtain ⟨hve, hvw⟩ := elemK_ok hv' hdl
        subst hve
        have hflen := flatten_length hxl
        have hkl : (k + 1) * kd.length ≤ xs.length * kd.length := Nat.mul_le_mul_right _ hk
        rw [Nat.add_mul, Nat.one_mul] at hkl
        have hcapl : xs.length * kd.length ≤ (cap + 1) * kd.length := Nat.mul_le_mul_right _ k1
        have hst := run_storeCells_at P g (off + k * kd.length + of) el (ev x).cells.toList 0 cur w hg (by rw [hyc]; omega) (DL_all_one hc.2.2 hy)
        simp only [Nat.add_zero] at hst
        rw [hyc] at hst
        have hrun : (storeVar t ⟨g, off + k * kd.length + of, none⟩ (ev x)).run P w = .ok () (w.setRow g (cur.toList.take (off + k * kd.length + of) ++ (ev x).cells.toList ++ cur.toList.drop (off + k * kd.length + of + m)).toArray) := by
          simp only [storeVar, Sem.run_bind, szOf_run hm, Result.andThen_ok, hsz, ne_eq, not_true, if_false]
          exact hst
        have hws : ∀ y ∈ xs.set k ((xs.getD k []).take of ++ (ev x).cells.toList ++ (xs.getD k []).drop (of + m)), Wk kd y := fun y hy' => by
          rcases List.mem_or_eq_of_mem_set hy' with h1 | h1
          · exact hwx y h1
          · rw [h1]; exact hvw
        -- the row's cells behind it
        have hcur : cur.toList = cur.toList.take off ++ (xs.flatten ++ cur.toList.drop (off + xs.length * kd.length)) := by
          conv => lhs; rw [← List.take_append_drop off cur.toList]
          congr 1
          conv => lhs; rw [← List.take_append_drop (xs.length * kd.length) (cur.toList.drop off)]
          rw [k4, List.drop_drop]
        have hcl : cur.toList.length = cur.size := Array.length_toList
        have hto : (cur.toList.take off).length = off := by rw [List.length_take, hcl]; omega
        have hX : (xs.getD k []).length = kd.length := hw.length
        have hnew : cur.toList.take (off + k * kd.length + of) ++ (ev x).cells.toList ++ cur.toList.drop (off + k * kd.length + of + m) =
            cur.toList.take off ++ ((xs.set k ((xs.getD k []).take of ++ (ev x).cells.toList ++ (xs.getD k []).drop (of + m))).flatten ++ cur.toList.drop (off + xs.length * kd.length)) := by
          rw [f3]
          have t1 : cur.toList.take (off + k * kd.length + of) = cur.toList.take off ++ ((xs.take k).flatten ++ (xs.getD k []).take of) := by
            conv => lhs; rw [hcur, f1]
            rw [List.take_append, hto, List.take_of_length_le (l := cur.toList.take off) (by rw [hto]; omega), show off + k * kd.length + of - off = k * kd.length + of by omega]
            congr 1
            rw [List.append_assoc, List.take_append, f2, List.take_of_length_le (l := (xs.take k).flatten) (by rw [f2]; omega), show k * kd.length + of - k * kd.length = of by omega]
            congr 1
            rw [List.append_assoc, List.take_append_of_le_length (by omega)]
          have t2 : cur.toList.drop (off + k * kd.length + of + m) = (xs.getD k []).drop (of + m) ++ ((xs.drop (k + 1)).flatten ++ cur.toList.drop (off + xs.length * kd.length)) := by
            conv => lhs; rw [hcur, f1]
            rw [List.drop_append, hto, List.drop_of_length_le (l := cur.toList.take off) (by rw [hto]; omega), List.nil_append, show off + k * kd.length + of + m - off = k * kd.length + (of + m) by omega]
            rw [List.append_assoc, List.drop_append, f2, List.drop_of_length_le (l := (xs.take k).flatten) (by rw [f2]; omega), List.nil_append, show k * kd.length + (of + m) - k * kd.length = of + m by omega]
            rw [List.append_assoc, List.drop_append_of_le_length (by omega)]
          rw [t1, t2]
          simp only [List.append_assoc]
        have hflen' := flatten_length fun y hy' => (hws y hy').length
        rw [List.length_set] at hflen'
        refine ⟨undef, w.setRow g (cur.toList.take (off + k * kd.length + of) ++ (ev x).cells.toList ++ cur.toList.drop (off + k * kd.length + of + m)).toArray, ρ, .inr ⟨?_, rfl⟩, Ext.refl _, by simp [DV], ?_⟩
        · simp only [execOp, ho, Instr.storeAt, hv, Sem.run_bind, sureAddr_run, Result.andThen_ok, hb, hrun]
          rfl
        · have htk : takes ρ i (.row el kd xs) g := ⟨p, hp', by rw [hval]; rfl⟩
          have hO := D.own i _ g hi htk
          refine D.put i _ (by omega) (Ext.refl _) (fun _ _ h => h) ⟨rfl, rfl, rfl, by simp, Stat.of_other hg (fun _ => by simp) fun k hk => setRow_other w g k _ hk⟩ (fun j hj => setRow_other w _ j _ (fun e => hO.1 (e ▸ hj)))
            (fun j c' j' hj hc' ht => setRow_other w _ j' _ (fun e => by subst e; exact D.apart j i c' _ _ hj hc' hi ht htk)) ?_ ?_
          · refine ⟨p, hp', hb, hk0, hws, by rw [List.length_set]; exact hflen', .inr ⟨g, off, cap, _, by rw [List.length_set]; exact hval, setRow_heap w g cur _ el _ hg, by rw [List.length_set]; exact k1, k2, ?_, ?_⟩⟩
            · rw [hnew]
              simp only [List.size_toArray, List.length_append, hflen', hto, List.length_drop, Array.length_toList]
              omega
            · rw [hnew, List.length_set]
              show List.take _ (List.drop off _) = _
              rw [List.drop_append_of_le_length (by omega), List.drop_of_length_le (by omega), List.nil_append, ← hflen']
              exact List.take_left
          · rintro n' ⟨q, hq, hn'⟩
            rw [hp'] at hq; cases hq
            rw [hval] at hn'
            simp only [sliceB, Option.some.injEq] at hn'
            subst hn'
            exact ⟨hO.1, by simpa using hO.2, fun j c' hj hc' ht => D.apart j i c' _ _ hj hc' hi ht htk⟩
      · cases hs
    · cases hs
end
end Go.Eng
