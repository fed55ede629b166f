/- From the engine's run of a law to the given row: what is the same for all laws. What arguments are, when they read as data: symbolic values. No condition. -/
import Derived.Test.YtafmknblnamegaaDoorV8N
import Derived.ProofKit
import Derived.OpenShut
import Derived.Carry
import Derived.Test.YtafmknblnamegaaDoorV8P
namespace Go.Eng
open Go.ChangeShapes Go.WideShapes Go.ChangeAt Go.RowKit

section
variable {P : Program} {H : Type} {enc : TypeId × Value → H}

theorem trodAll_below (hl : laidOutB P = true) {W W' : World} (hb : Below W.heap.size W W') : ∀ {ts : List TypeId} {vs : List Value} {ds : List (DataW H)} {ps : List MemPlace},
    (ts.all fun t => P.readableRec t && decide (t < P.types.size)) = true → DataW.TrodAll enc P W 0 (fun _ => true) true ts vs ds ps → (∀ x ∈ ps, x.block < W.heap.size) →
    DataW.TrodAll enc P W' 0 (fun b => decide (b < W.heap.size)) true ts vs ds ps
  | [], [], [], _, _, h, _ => h
  | [], [], _ :: _, _, _, h, _ => h.elim
  | [], _ :: _, _, _, _, h, _ => h.elim
  | _ :: _, [], _, _, _, h, _ => h.elim
  | _ :: _, _ :: _, [], _, _, h, _ => h.elim
  | t :: ts, v :: vs, d :: ds, ps, hr, h, hlt => by
    obtain ⟨p, q, h1, h2, rfl⟩ := h
    simp only [List.all_cons, Bool.and_eq_true, decide_eq_true_eq] at hr
    exact ⟨p, q, Below.trod hl hr.1.1 hr.1.2 h1 hb (fun x hx => hlt x (List.mem_append_left _ hx)),
      trodAll_below hl hb hr.2 h2 (fun x hx => hlt x (List.mem_append_right _ hx)), rfl⟩

/-- What a law's row owes behind a call that only made new memory and said true. -/
theorem law_post {f : Func} {s : ChangeSpec} {W W' : World} {args : Array Value} {ds : List (DataW H)} {before : List MemPlace} {tb : TypeId}
    (hl : laidOutB P = true) (hr : (f.params.toList.all fun t => P.readableRec t && decide (t < P.types.size)) = true) (hres : f.resultTypes = #[tb]) (htb : P.underlying tb = some .bool) (hvars : s.vars = [])
    (h1 : (s.fn H (ds ++ [])).results = [.lit (.bool true)]) (h2 : (s.fn H (ds ++ [])).args = ds) (h3 : (s.fn H (ds ++ [])).vars = [])
    (hW : DataW.Whole enc P f.params.toList s.vars false W args.toList ds [] before) (hb : Below W.heap.size W W') : s.post enc P f false true false false W args (.bool true) W' := by
  have hW' := hW
  obtain ⟨p, q, hA, hV, hpq, hfz, hnd⟩ := hW
  rw [hvars] at hV
  obtain ⟨_, rfl⟩ := trodVars_none hV
  simp only [List.append_nil] at hpq
  subst hpq
  have hlt : ∀ x ∈ before, x.block < W.heap.size := fun x hx => hW'.lt x hx
  refine ⟨ds, [], before, [], before, [], hW', ?_, ?_, ?_, hb.frame _, fun h => by cases h⟩
  · rw [h1, hres]
    exact trodAll_cons_mk (shut_bool htb _) trodAll_mk0
  · rw [h2]
    exact trodAll_below hl hb hr hA hlt
  · rw [h3, hvars]
    exact rfl

end
end Go.Eng

namespace Go.Eng

/-- A field's kind: a plain cell, or a slice of plain elements. -/
inductive Kd2 where
  | k (k : Kd)
  | sl (kd : List Kd)
  | rf (kf : List Kf)

/-- Elements that hold slices, of these kinds. -/
def RfF (kf : List Kf) (css : List (List (List (List Value)))) : Prop := (∀ x ∈ css, x.length = kf.length ∧ ∀ o e kd, kf[o]? = some (.sl e kd) → (∀ y ∈ x.getD o [], Wk kd y) ∧ (x.getD o []).length ≤ maxLen) ∧ css.length ≤ maxLen

def KOk2 : Kd → SV → Prop
  | .int K, s => ∃ n, s = .i K n (kmin K) (kmax K) ∧ kmin K ≤ n ∧ n ≤ kmax K
  | .bool, s => ∃ b, s = .b b
  | .str, s => ∃ b, s = .s b 9223372036854775807 ∧ (b.size : Int) ≤ 9223372036854775807
  | .other, _ => False

/-- The cells, and the slots from n on that they name. -/
def Fa2 : Nat → List Kd2 → List SV → List Blk → Prop
  | _, [], ss, bs => ss = [] ∧ bs = []
  | n, .k q :: ks, ss, bs => ∃ s r, ss = s :: r ∧ KOk2 q s ∧ Fa2 n ks r bs
  | n, .sl kd :: ks, ss, bs => ∃ r xs cs, ss = .row n :: r ∧ bs = .ror kd xs false :: cs ∧ (∀ x ∈ xs, Fa kd x) ∧ xs.length ≤ maxLen ∧ Fa2 (n + 1) ks r cs
  | n, .rf kf :: ks, ss, bs => ∃ r css cs, ss = .row (n + 1) :: r ∧ bs = .rfm kf css :: .rof n :: cs ∧ RfF kf css ∧ Fa2 (n + 2) ks r cs

theorem Fa2.append : ∀ {n : Nat} {ks : List Kd2} {vs : List SV} {bs : List Blk} {ls : List Kd2} {us : List SV} {cs : List Blk}, Fa2 n ks vs bs → Fa2 (n + bs.length) ls us cs → Fa2 n (ks ++ ls) (vs ++ us) (bs ++ cs)
  | _, [], _, _, _, _, _, h, g => by obtain ⟨rfl, rfl⟩ := h; simpa using g
  | _, .k _ :: _, _, _, _, _, _, h, g => by
    obtain ⟨s, r, rfl, h1, h2⟩ := h
    exact ⟨s, _, rfl, h1, Fa2.append h2 g⟩
  | n, .sl _ :: _, _, _, _, _, _, h, g => by
    obtain ⟨r, xs, cs, rfl, rfl, h1, h2, h3⟩ := h
    refine ⟨_, xs, _, rfl, rfl, h1, h2, Fa2.append h3 ?_⟩
    rw [List.length_cons] at g
    rw [show n + 1 + cs.length = n + (cs.length + 1) by omega]; exact g
  | n, .rf _ :: _, _, _, _, _, _, h, g => by
    obtain ⟨r, xs, cs, rfl, rfl, h1, h3⟩ := h
    refine ⟨_, xs, _, rfl, rfl, h1, Fa2.append h3 ?_⟩
    rw [List.length_cons, List.length_cons] at g
    rw [show n + 2 + cs.length = n + (cs.length + 1 + 1) by omega]; exact g

/-- The cells of a type that may hold slices of plain elements. -/
def kfU (P : Program) : Nat → TypeId → Option (List Kf)
  | 0, _ => none
  | n + 1, t => match P.underlying t with
    | some .bool => some [.k .bool]
    | some (.int k) => some [.k (.int k)]
    | some .string => some [.k .str]
    | some (.slice e) => match kdT P n e with
      | some a => if a.length = P.cellsOf e ∧ 0 < a.length then some [.sl e a] else none
      | none => none
    | some (.struct fs) => (catF (kfU P n) P.cellsOf (P.cellsOf t) fs.toList).bind fun x => if x.1 = 0 then some x.2 else none
    | some (.array m e) => match kfU P n e with
      | some a => if a.length = P.cellsOf e ∧ P.cellsOf t = m * a.length then some (repeatL m a) else none
      | none => none
    | _ => none

/-- The cells of a type that may hold slices. -/
def kd2T (P : Program) : Nat → TypeId → Option (List Kd2)
  | 0, _ => none
  | n + 1, t => match P.underlying t with
    | some .bool => some [.k .bool]
    | some (.int k) => some [.k (.int k)]
    | some .string => some [.k .str]
    | some (.slice e) => match kdT P n e with
      | some a => if a.length = P.cellsOf e ∧ 0 < a.length then some [.sl a] else none
      | none => match kfU P n e with
        | some a => if a.length = P.cellsOf e ∧ 0 < a.length then some [.rf a] else none
        | none => none
    | some (.struct fs) => (catF (kd2T P n) P.cellsOf (P.cellsOf t) fs.toList).bind fun x => if x.1 = 0 then some x.2 else none
    | some (.array m e) => match kd2T P n e with
      | some a => if a.length = P.cellsOf e ∧ P.cellsOf t = m * a.length then some (repeatL m a) else none
      | none => none
    | _ => none

section
variable {P : Program} {H : Type} {enc : TypeId × Value → H} {w : World}

theorem mapM_some {α β : Type} {f : α → Option β} : ∀ {l : List α} {ys : List β}, l.mapM f = some ys → ∀ x ∈ l, ∃ y, f x = some y
  | [], _, _, x, hx => by simp at hx
  | a :: l, ys, h, x, hx => by
    simp only [List.mapM_cons, Option.pure_def, Option.bind_eq_bind, Option.bind_eq_some_iff] at h
    obtain ⟨y, hy, zs, hz, _⟩ := h
    rcases List.mem_cons.1 hx with rfl | hx
    · exact ⟨y, hy⟩
    · exact mapM_some hz x hx

theorem wf_range {k : IntKind} {n : Int} (h : (Lit.int k n).wf = true) : kmin k ≤ n ∧ n ≤ kmax k := by
  rw [← kmin_eq, ← kmax_eq]
  simpa [Lit.wf] using h

/-- Fields laid side by side. -/
theorem fields_cat {κ σ : Type} (R : List κ → List σ → Prop) (nil : R [] []) (app : ∀ {a b c d}, R a c → R b d → R (a ++ b) (c ++ d)) (g : TypeId → Option (List κ)) (cells : TypeId → Nat) (cs : List σ) :
    ∀ (fs : List Field) (tot off : Nat) (out : List κ), cs.length = tot → catF g cells tot fs = some (off, out) →
      (∀ f ∈ fs, ∀ a, g f.type = some a → R a ((cs.drop f.offset).take (cells f.type))) → R out (cs.drop off)
  | [], tot, off, out, hl, h, _ => by
    simp only [catF, Option.some.injEq, Prod.mk.injEq] at h
    obtain ⟨rfl, rfl⟩ := h
    rw [List.drop_eq_nil_of_le (by omega)]; exact nil
  | f :: fs, tot, off, out, hl, h, hf => by
    simp only [catF] at h
    split at h
    · rename_i a off' b ha hb
      split at h
      · rename_i hc
        cases h
        have ih := fields_cat R nil app g cells cs fs tot off' b hl hb fun f' hf' => hf f' (by simp [hf'])
        have h1 := hf f (by simp) a ha
        have : cs.drop f.offset = (cs.drop f.offset).take (cells f.type) ++ cs.drop off' := by
          rw [hc.1, hc.2, ← List.drop_drop, List.take_append_drop]
        rw [this]
        exact app h1 ih
      · cases h
    · cases h

theorem array_cat {κ σ : Type} (R : List κ → List σ → Prop) (nil : R [] []) (app : ∀ {a b c d}, R a c → R b d → R (a ++ b) (c ++ d)) (a : List κ) : ∀ (m : Nat) (cs : List σ), cs.length = m * a.length →
      (∀ i, i < m → R a ((cs.drop (i * a.length)).take a.length)) → R (repeatL m a) cs
  | 0, cs, hl, _ => by
    have : cs = [] := List.eq_nil_of_length_eq_zero (by simpa using hl)
    subst this; exact nil
  | m + 1, cs, hl, h => by
    have e : repeatL (m + 1) a = a ++ repeatL m a := by simp [repeatL, List.replicate_succ]
    rw [e, ← List.take_append_drop a.length cs]
    have h0 := h 0 (by omega)
    simp only [Nat.zero_mul, List.drop_zero] at h0
    refine app h0 (array_cat R nil app a m (cs.drop a.length) ?_ fun i hi => ?_)
    · rw [Nat.add_mul] at hl; simp; omega
    · have := h (i + 1) (by omega)
      rw [List.drop_drop, show a.length + i * a.length = (i + 1) * a.length by rw [Nat.add_mul]; omega]
      exact this

theorem trod_flat {base : Nat} {spare : Nat → Bool} {held : Bool} : ∀ (n : Nat) (t : TypeId) (kd : List Kd) (fuel : Nat) (cs : List Value) (x : DataW H × List MemPlace), kdT P n t = some kd →
    DataW.trod enc P w base spare held fuel t cs = some x → Fa kd cs
  | 0, _, _, _, _, _, h, _ => by simp [kdT] at h
  | n + 1, t, kd, fuel, cs, x, h, ht => by
    simp only [kdT] at h
    split at h
    · rename_i hu
      cases h
      obtain ⟨b, rfl, _⟩ := DataW.trod_bool hu ht
      exact ⟨⟨b, rfl⟩, trivial⟩
    · rename_i k hu
      cases h
      obtain ⟨m, rfl, _, hw⟩ := DataW.trod_int hu ht
      exact ⟨⟨m, rfl, wf_range hw⟩, trivial⟩
    · rename_i hu
      cases h
      obtain ⟨b, rfl, _, hl⟩ := DataW.trod_string hu ht
      exact ⟨⟨b, rfl, hl⟩, trivial⟩
    · rename_i fs hu
      obtain ⟨xs, m, rfl, _, hlen, hxl, hf⟩ := DataW.trod_struct hu ht
      simp only [Option.bind_eq_some_iff] at h
      obtain ⟨⟨off, out⟩, hfo, h⟩ := h
      simp only at h
      split at h
      · rename_i h0
        subst h0
        cases h
        have := fields_cat Fa trivial Fa.append (kdT P n) P.cellsOf cs fs.toList _ _ _ hlen hfo fun f hfm a ha => by
          obtain ⟨i, hi, rfl⟩ := List.getElem_of_mem hfm
          have hi' : i < fs.size := by simpa using hi
          have h1 := hf i fs[i] (by simp [hi'])
          have h2 : xs[i]? = some xs[i] := List.getElem?_eq_getElem (by omega)
          rw [h2] at h1
          exact trod_flat n _ a m _ _ (by simpa using ha) (by simpa using h1)
        simpa using this
      · cases h
    · rename_i m e hu
      split at h
      · rename_i a ha
        split at h
        · rename_i hc
          cases h
          obtain ⟨xs, q, rfl, _, hlen, hxl, hf⟩ := DataW.trod_array hu ht
          refine array_cat Fa trivial Fa.append a m cs (by rw [hlen, hc.2]) fun i hi => ?_
          have h1 := hf i hi
          rw [List.getElem?_eq_getElem (by omega)] at h1
          rw [hc.1]
          exact trod_flat n e a q _ _ ha h1
        · cases h
      · cases h
    · cases h

theorem RowKitAdd.add_zero (a : Addr) : a.add 0 = a := by simp [Addr.add]

theorem cells_fixed {a : Addr} {n : Nat} {cs : List Value} (h : w.cells? 0 a n = some cs) : ∀ j u, cs[j]? = some u → w.cell? (a.add j) = some u := fun j u hu => by
  obtain ⟨_, hl, hc⟩ := World.cells?_some h
  have := (List.getElem?_eq_some_iff.1 hu).1
  rw [hc j (by omega)]; exact hu

theorem cell_spot {a : Addr} {v : Value} (h : w.cell? a = some v) : a = ⟨a.block, a.off, none⟩ := by
  obtain ⟨b, o, s⟩ := a
  simp only [World.cell?] at h
  split at h
  · split at h
    · cases h
    · rename_i hs
      cases s with
      | none => rfl
      | some _ => simp at hs
  · cases h

theorem flatten_of (xs : List (List Value)) (sz : Nat) (hz : 0 < sz) (hall : ∀ x ∈ xs, x.length = sz) (j : Nat) (u : Value) (h : xs.flatten[j]? = some u) :
    ∃ x, xs[j / sz]? = some x ∧ x[j % sz]? = some u := by
  have hlt := (List.getElem?_eq_some_iff.1 h).1
  have hfl : xs.flatten.length = xs.length * sz := by
    clear h hlt
    induction xs with
    | nil => simp
    | cons a r ih => rw [List.flatten_cons, List.length_append, ih fun x hx => hall x (by simp [hx]), hall a (by simp), List.length_cons, Nat.add_mul]; omega
  have hd : j / sz < xs.length := by
    rw [Nat.div_lt_iff_lt_mul hz]; omega
  refine ⟨xs[j / sz], List.getElem?_eq_getElem hd, ?_⟩
  have hx := hall _ (List.getElem_mem hd)
  have hm : j % sz < xs[j / sz].length := by rw [hx]; exact Nat.mod_lt _ hz
  have h2 := flatten_get sz xs hall (j / sz) (j % sz) _ _ (List.getElem?_eq_getElem hd) (List.getElem?_eq_getElem hm)
  have e : j / sz * sz + j % sz = j := by rw [Nat.mul_comm]; exact Nat.div_add_mod j sz
  rw [e, h] at h2
  rw [List.getElem?_eq_getElem hm]; exact h2.symm

/-- A slice of plain elements that reads as data. -/
theorem trod_slice_ro {spare : Nat → Bool} {held : Bool} {n : Nat} {t e : TypeId} {kd : List Kd} {fuel : Nat} {v : Value} {x : DataW H × List MemPlace} (hu : P.underlying t = some (.slice e)) (hk : kdT P n e = some kd)
    (hl : kd.length = P.cellsOf e) (hz : 0 < kd.length) (h : DataW.trod enc P w 0 spare held fuel t [v] = some x) :
    ∃ xs, isRo (envOf w) kd xs false v ∧ (∀ y ∈ xs, Fa kd y) ∧ xs.length ≤ maxLen := by
  rcases DataW.trod_slice hu h with ⟨hcs, _⟩ | ⟨a, len, cap, elems, rest, m, _, hcs, _, _, hlc, hcm, hel, hcell, _, _⟩
  · cases hcs
    exact ⟨[], ⟨none, 0, rfl, Nat.le_refl _, (fun h => by cases h), Nat.zero_le _, by simp, .inl rfl⟩, by simp, by simp⟩
  · cases hcs
    have key : ∀ i, i < len → ∃ cs, w.cells? 0 (a.add (i * P.cellsOf e)) (P.cellsOf e) = some cs ∧ Fa kd cs := fun i hi => by
      have h1 := hcell i hi
      rw [List.getElem?_eq_getElem (by omega)] at h1
      simp only [Option.bind_eq_some_iff] at h1
      obtain ⟨cs, hcs, ht⟩ := h1
      exact ⟨cs, hcs, trod_flat n e kd m cs _ hk ht⟩
    let f : Nat → List Value := fun i => (w.cells? 0 (a.add (i * P.cellsOf e)) (P.cellsOf e)).getD []
    have hfi : ∀ i, i < len → w.cells? 0 (a.add (i * P.cellsOf e)) (P.cellsOf e) = some (f i) ∧ Fa kd (f i) := fun i hi => by
      obtain ⟨cs, hcs, hfa⟩ := key i hi
      simp only [f, hcs, Option.getD_some, true_and]; exact hfa
    have hall : ∀ y ∈ (List.range len).map f, Fa kd y := fun y hy => by
      obtain ⟨i, hi, rfl⟩ := List.mem_map.1 hy
      exact (hfi i (List.mem_range.1 hi)).2
    refine ⟨(List.range len).map f, ⟨some a, cap, by simp, by simpa using hlc, (fun h => by cases h), by simp; omega, fun y hy => hall y hy, ?_⟩, hall, by simp; omega⟩
    by_cases h0 : len = 0
    · subst h0; exact .inl rfl
    · right
      have hz' : 0 < P.cellsOf e := by omega
      have h00 := hfi 0 (by omega)
      have hc0 : ∃ u, w.cell? (a.add (0 * P.cellsOf e)) = some u := by
        have hl0 := h00.2.length
        have h3 := cells_fixed h00.1 0 ((f 0)[0]'(by omega)) (List.getElem?_eq_getElem (by omega))
        simp only [Nat.zero_mul, RowKitAdd.add_zero] at h3 ⊢
        exact ⟨_, h3⟩
      obtain ⟨u0, hu0⟩ := hc0
      simp only [Nat.zero_mul, RowKitAdd.add_zero] at hu0
      have hsp := cell_spot hu0
      refine ⟨a.block, a.off, by rw [← hsp], envOf_fixed.2 (World.block_lt_of_cell? w a hu0), fun j u hj => ?_⟩
      obtain ⟨x, hx, hxu⟩ := flatten_of _ kd.length hz (fun y hy => (hall y hy).length) j u hj
      simp only [List.getElem?_map, Option.map_eq_some_iff] at hx
      obtain ⟨i, hi, rfl⟩ := hx
      obtain ⟨hilt, hie⟩ := List.getElem?_eq_some_iff.1 hi
      simp only [List.getElem_range] at hie
      subst hie
      have hlt : j / kd.length < len := by simpa using hilt
      have h4 := cells_fixed (hfi _ hlt).1 _ _ hxu
      rw [hsp, addr_add, addr_add] at h4
      show w.cell? _ = _
      rw [← h4]
      congr 2
      rw [← hl, Nat.mul_comm (j / kd.length), Nat.add_assoc, Nat.div_add_mod]


/-- Cells by their kinds, the slices among them read alone. -/
def FaR (w : World) : List Kf → List (List (List Value)) → List Value → Prop
  | [], [], [] => True
  | q :: ks, c :: r, y :: vs => CellR (envOf w) q c y ∧ FaR w ks r vs
  | _, _, _ => False
theorem FaR.append : ∀ {a b : List Kf} {c d : List (List (List Value))} {u v : List Value}, FaR w a c u → FaR w b d v → FaR w (a ++ b) (c ++ d) (u ++ v)
  | [], _, [], _, [], _, _, k => k
  | _ :: _, _, _ :: _, _, _ :: _, _, h, k => ⟨h.1, FaR.append h.2 k⟩
  | [], _, _ :: _, _, _, _, h, _ => by cases ‹List Value› <;> exact h.elim
  | [], _, [], _, _ :: _, _, h, _ => h.elim
  | _ :: _, _, [], _, _, _, h, _ => by cases ‹List Value› <;> exact h.elim
  | _ :: _, _, _ :: _, _, [], _, h, _ => h.elim
theorem FaR.length : ∀ {a : List Kf} {c : List (List (List Value))} {u : List Value}, FaR w a c u → c.length = a.length ∧ u.length = a.length
  | [], [], [], _ => ⟨rfl, rfl⟩
  | _ :: _, _ :: _, _ :: _, h => by have := FaR.length h.2; simp only [List.length_cons]; omega
  | [], _ :: _, u, h => by cases u <;> exact h.elim
  | [], [], _ :: _, h => h.elim
  | _ :: _, [], u, h => by cases u <;> exact h.elim
  | _ :: _, _ :: _, [], h => h.elim
theorem FaR.get : ∀ {a : List Kf} {c : List (List (List Value))} {u : List Value} (o : Nat) {q : Kf} {x : List (List Value)} {y : Value}, FaR w a c u → a[o]? = some q → c[o]? = some x → u[o]? = some y → CellR (envOf w) q x y
  | [], _, _, o, _, _, _, _, h, _, _ => by simp at h
  | _ :: _, _ :: _, _ :: _, 0, _, _, _, h, h1, h2, h3 => by simp at h1 h2 h3; subst h1 h2 h3; exact h.1
  | _ :: _, _ :: _, _ :: _, o + 1, _, _, _, h, h1, h2, h3 => FaR.get o h.2 (by simpa using h1) (by simpa using h2) (by simpa using h3)
  | _ :: _, [], _, o, _, _, _, _, _, h, _ => by simp at h
  | _ :: _, _ :: _, [], o, _, _, _, _, _, _, h => by simp at h

theorem trod_kf {spare : Nat → Bool} {held : Bool} : ∀ (n : Nat) (t : TypeId) (kf : List Kf) (fuel : Nat) (cs : List Value) (x : DataW H × List MemPlace), kfU P n t = some kf →
    DataW.trod enc P w 0 spare held fuel t cs = some x → ∃ c, FaR w kf c cs
  | 0, _, _, _, _, _, h, _ => by simp [kfU] at h
  | n + 1, t, kf, fuel, cs, x, h, ht => by
    simp only [kfU] at h
    split at h
    · rename_i hu
      cases h
      obtain ⟨b, rfl, _⟩ := DataW.trod_bool hu ht
      exact ⟨[[[.bool b]]], ⟨⟨b, rfl⟩, rfl⟩, trivial⟩
    · rename_i k hu
      cases h
      obtain ⟨m, rfl, _, hw⟩ := DataW.trod_int hu ht
      exact ⟨[[[.int k m]]], ⟨⟨m, rfl, wf_range hw⟩, rfl⟩, trivial⟩
    · rename_i hu
      cases h
      obtain ⟨b, rfl, _, hl⟩ := DataW.trod_string hu ht
      exact ⟨[[[.string b]]], ⟨⟨b, rfl, hl⟩, rfl⟩, trivial⟩
    · rename_i e hu
      split at h
      · rename_i a ha
        split at h
        · rename_i hc
          cases h
          have hcs : ∃ v, cs = [v] := by
            rcases DataW.trod_slice hu ht with ⟨hcs, _⟩ | ⟨_, _, _, _, _, _, _, hcs, _⟩
            · exact ⟨_, hcs⟩
            · exact ⟨_, hcs⟩
          obtain ⟨v, rfl⟩ := hcs
          obtain ⟨xs, h1, h2, h3⟩ := trod_slice_ro hu ha hc.1 hc.2 ht
          exact ⟨[xs], ⟨hc.2, h1⟩, trivial⟩
        · cases h
      · cases h
    · rename_i fs hu
      obtain ⟨xs, m, rfl, _, hlen, hxl, hf⟩ := DataW.trod_struct hu ht
      simp only [Option.bind_eq_some_iff] at h
      obtain ⟨⟨off, out⟩, hfo, h⟩ := h
      simp only at h
      split at h
      · rename_i h0
        subst h0
        cases h
        have := fields_cat (fun a c => ∃ x, FaR w a x c) ⟨[], trivial⟩ (fun ⟨x, hx⟩ ⟨y, hy⟩ => ⟨x ++ y, hx.append hy⟩) (kfU P n) P.cellsOf cs fs.toList _ _ _ hlen hfo fun f hfm a ha => by
          obtain ⟨i, hi, rfl⟩ := List.getElem_of_mem hfm
          have hi' : i < fs.size := by simpa using hi
          have h1 := hf i fs[i] (by simp [hi'])
          have h2 : xs[i]? = some xs[i] := List.getElem?_eq_getElem (by omega)
          rw [h2] at h1
          exact trod_kf n _ a m _ _ (by simpa using ha) (by simpa using h1)
        simpa using this
      · cases h
    · rename_i m e hu
      split at h
      · rename_i a ha
        split at h
        · rename_i hc
          cases h
          obtain ⟨xs, q, rfl, _, hlen, hxl, hf⟩ := DataW.trod_array hu ht
          refine array_cat (fun a c => ∃ x, FaR w a x c) ⟨[], trivial⟩ (fun ⟨x, hx⟩ ⟨y, hy⟩ => ⟨x ++ y, hx.append hy⟩) a m cs (by rw [hlen, hc.2]) fun i hi => ?_
          have h1 := hf i hi
          rw [List.getElem?_eq_getElem (by omega)] at h1
          rw [hc.1]
          exact trod_kf n e a q _ _ ha h1
        · cases h
      · cases h
    · cases h

/-- A slice of elements that hold slices, which reads as data. -/
theorem trod_slice_rf {spare : Nat → Bool} {held : Bool} {n : Nat} {t e : TypeId} {kf : List Kf} {fuel : Nat} {v : Value} {x : DataW H × List MemPlace} (hu : P.underlying t = some (.slice e)) (hk : kfU P n e = some kf)
    (hl : kf.length = P.cellsOf e) (hz : 0 < kf.length) (h : DataW.trod enc P w 0 spare held fuel t [v] = some x) :
    ∃ css ys, RofY (envOf w) kf css ys ∧ RdP w kf.length v css.length ys := by
  rcases DataW.trod_slice hu h with ⟨hcs, _⟩ | ⟨a, len, cap, elems, rest, m, _, hcs, _, _, hlc, hcm, hel, hcell, _, _⟩
  · cases hcs
    exact ⟨[], [], ⟨hz, by simp, fun x hx => (by cases hx), fun k o q c y hh => by simp at hh⟩, by simp, none, 0, rfl, Nat.le_refl _, Nat.zero_le _, fun hh => by simp at hh⟩
  · cases hcs
    have key : ∀ i, ∃ q : List Value × List (List (List Value)), i < len → w.cells? 0 (a.add (i * P.cellsOf e)) (P.cellsOf e) = some q.1 ∧ FaR w kf q.2 q.1 := fun i => by
      by_cases hi : i < len
      · have h1 := hcell i hi
        rw [List.getElem?_eq_getElem (by omega)] at h1
        simp only [Option.bind_eq_some_iff] at h1
        obtain ⟨cs, hcs, ht⟩ := h1
        obtain ⟨c, hc⟩ := trod_kf n e kf m cs _ hk ht
        exact ⟨(cs, c), fun _ => ⟨hcs, hc⟩⟩
      · exact ⟨([], []), fun hh => absurd hh hi⟩
    obtain ⟨f, hf⟩ := Classical.axiomOfChoice key
    have hall : ∀ y ∈ (List.range len).map fun i => (f i).1, y.length = kf.length := fun y hy => by
      obtain ⟨i, hi, rfl⟩ := List.mem_map.1 hy
      exact (hf i (List.mem_range.1 hi)).2.length.2
    refine ⟨(List.range len).map fun i => (f i).2, ((List.range len).map fun i => (f i).1).flatten, ⟨hz, ?_, fun x hx => ?_, fun k o q c y h1 h2 h3 h4 => ?_⟩, ?_, some a, cap, by simp, by simpa using hlc, by simp; omega, fun h0 => ?_⟩
    · rw [flatten_length hall]; simp
    · obtain ⟨i, hi, rfl⟩ := List.mem_map.1 hx
      exact (hf i (List.mem_range.1 hi)).2.length.1
    · have hk1 : k < len := by simpa using h1
      obtain ⟨_, g2⟩ := hf k hk1
      have ho := (List.getElem?_eq_some_iff.1 h2).1
      have e1 : ((List.range len).map fun i => (f i).2).getD k [] = (f k).2 := by simp [List.getD_eq_getElem?_getD, hk1]
      rw [e1] at h3
      have hl2 := g2.length.2
      have hy := List.getElem?_eq_getElem (l := (f k).1) (show o < (f k).1.length by omega)
      have h5 := flatten_get kf.length _ hall k o (f k).1 _ (by simp [hk1]) hy
      rw [h5] at h4
      cases h4
      exact g2.get o h2 h3 hy
    · rw [flatten_length hall]; simp
    · have h0' : 0 < len := by simpa using h0
      obtain ⟨g1, g2⟩ := hf 0 h0'
      have hl2 := g2.length.2
      have h3 := cells_fixed g1 0 ((f 0).1[0]'(by omega)) (List.getElem?_eq_getElem (by omega))
      simp only [Nat.zero_mul, RowKitAdd.add_zero] at h3
      have hsp := cell_spot h3
      refine ⟨a.block, a.off, by rw [← hsp], fun j u hj => ?_⟩
      obtain ⟨x, hx, hxu⟩ := flatten_of _ kf.length hz hall j u hj
      simp only [List.getElem?_map, Option.map_eq_some_iff] at hx
      obtain ⟨i, hi, rfl⟩ := hx
      obtain ⟨hilt, hie⟩ := List.getElem?_eq_some_iff.1 hi
      simp only [List.getElem_range] at hie
      subst hie
      have hlt : j / kf.length < len := by simpa using hilt
      have h4 := cells_fixed (hf _ hlt).1 _ _ hxu
      rw [hsp, addr_add, addr_add] at h4
      rw [← h4]
      congr 2
      rw [← hl, Nat.mul_comm (j / kf.length), Nat.add_assoc, Nat.div_add_mod]

def RdL (w : World) (kds : List Kd2) (vs : List Value) : Prop := ∀ ρ0 h0, DH (envOf w) ρ0 h0 w → ∃ svs bs ρ1, Fa2 h0.length kds svs bs ∧ Ext ρ0 ρ1 ∧ DL ρ1 svs vs ∧ DH (envOf w) ρ1 (h0 ++ bs) w

theorem RdL.nil : RdL w [] [] := fun ρ0 h0 D => ⟨[], [], ρ0, ⟨rfl, rfl⟩, Ext.refl _, DL.nil, by simpa using D⟩
theorem RdL.append {a b : List Kd2} {c d : List Value} (h : RdL w a c) (k : RdL w b d) : RdL w (a ++ b) (c ++ d) := fun ρ0 h0 D => by
  obtain ⟨s, bs, ρ1, h1, x1, d1, D1⟩ := h ρ0 h0 D
  obtain ⟨t, cs, ρ2, h2, x2, d2, D2⟩ := k ρ1 _ D1
  rw [List.length_append] at h2
  exact ⟨s ++ t, bs ++ cs, ρ2, h1.append h2, x1.trans x2, (DL.mono x2 _ _ d1).append d2, by rw [← List.append_assoc]; exact D2⟩
theorem RdL.one {q : Kd} {s : SV} {v : Value} (h : KOk2 q s) (hd : ∀ ρ, DV ρ s v) : RdL w [.k q] [v] := fun ρ0 h0 D => ⟨[s], [], ρ0, ⟨s, [], rfl, h, rfl, rfl⟩, Ext.refl _, DL.cons (hd ρ0) DL.nil, by simpa using D⟩

theorem trod_svs {spare : Nat → Bool} {held : Bool} : ∀ (n : Nat) (t : TypeId) (kds : List Kd2) (fuel : Nat) (cs : List Value) (x : DataW H × List MemPlace), kd2T P n t = some kds →
    DataW.trod enc P w 0 spare held fuel t cs = some x → RdL w kds cs
  | 0, _, _, _, _, _, h, _ => by simp [kd2T] at h
  | n + 1, t, kds, fuel, cs, x, h, ht => by
    simp only [kd2T] at h
    split at h
    · rename_i hu
      cases h
      obtain ⟨b, rfl, _⟩ := DataW.trod_bool hu ht
      exact RdL.one (s := .b b) ⟨b, rfl⟩ fun ρ => by simp [DV]
    · rename_i k hu
      cases h
      obtain ⟨m, rfl, _, hw⟩ := DataW.trod_int hu ht
      exact RdL.one (s := .i k m (kmin k) (kmax k)) ⟨m, rfl, wf_range hw⟩ fun ρ => by simp only [DV]; exact ⟨trivial, wf_range hw⟩
    · rename_i hu
      cases h
      obtain ⟨b, rfl, _, hl⟩ := DataW.trod_string hu ht
      have : maxLen = 9223372036854775807 := by decide
      exact RdL.one (s := .s b 9223372036854775807) ⟨b, rfl, by omega⟩ fun ρ => by simp only [DV]; exact ⟨trivial, by omega⟩
    · rename_i e hu
      split at h
      · rename_i a ha
        split at h
        · rename_i hc
          cases h
          have hcs : ∃ v, cs = [v] := by
            rcases DataW.trod_slice hu ht with ⟨hcs, _⟩ | ⟨_, _, _, _, _, _, _, hcs, _⟩
            · exact ⟨_, hcs⟩
            · exact ⟨_, hcs⟩
          obtain ⟨v, rfl⟩ := hcs
          obtain ⟨xs, h1, h2, h3⟩ := trod_slice_ro hu ha hc.1 hc.2 ht
          refine fun ρ0 h0 D => ?_
          have := D.addRo (b := .ror a xs false) (l := ⟨a.length, v⟩) ⟨_, upd_same _ _, rfl, hc.2, h1⟩ (fun _ _ _ h => h)
          obtain ⟨aa, c, e1, _⟩ := h1
          exact ⟨[.row h0.length], [.ror a xs false], _, ⟨[], xs, [], rfl, rfl, h2, h3, rfl, rfl⟩, this.1, DL.cons (by simp only [DV]; exact ⟨_, aa, _, c, upd_same _ _, rfl, e1⟩) DL.nil, this.2⟩
        · cases h
      · split at h
        · rename_i a ha
          split at h
          · rename_i hc
            cases h
            have hcs : ∃ v, cs = [v] := by
              rcases DataW.trod_slice hu ht with ⟨hcs, _⟩ | ⟨_, _, _, _, _, _, _, hcs, _⟩
              · exact ⟨_, hcs⟩
              · exact ⟨_, hcs⟩
            obtain ⟨v, rfl⟩ := hcs
            obtain ⟨css, ys, F, R⟩ := trod_slice_rf hu ha hc.1 hc.2 ht
            refine fun ρ0 h0 D => ?_
            obtain ⟨ρ1, x1, d1, D1⟩ := rof_add D F R
            obtain ⟨_, _, _, _, _, hm, _⟩ := id R
            exact ⟨[.row (h0.length + 1)], [.rfm a css, .rof h0.length], ρ1, ⟨[], css, [], rfl, rfl, ⟨rof_fact F, hm⟩, rfl, rfl⟩, x1, DL.cons d1 DL.nil, D1⟩
          · cases h
        · cases h
    · rename_i fs hu
      obtain ⟨xs, m, rfl, _, hlen, hxl, hf⟩ := DataW.trod_struct hu ht
      simp only [Option.bind_eq_some_iff] at h
      obtain ⟨⟨off, out⟩, hfo, h⟩ := h
      simp only at h
      split at h
      · rename_i h0
        subst h0
        cases h
        have := fields_cat (RdL w) RdL.nil RdL.append (kd2T P n) P.cellsOf cs fs.toList _ _ _ hlen hfo fun f hfm a ha => by
          obtain ⟨i, hi, rfl⟩ := List.getElem_of_mem hfm
          have hi' : i < fs.size := by simpa using hi
          have h1 := hf i fs[i] (by simp [hi'])
          have h2 : xs[i]? = some xs[i] := List.getElem?_eq_getElem (by omega)
          rw [h2] at h1
          exact trod_svs n _ a m _ _ (by simpa using ha) (by simpa using h1)
        simpa using this
      · cases h
    · rename_i m e hu
      split at h
      · rename_i a ha
        split at h
        · rename_i hc
          cases h
          obtain ⟨xs, q, rfl, _, hlen, hxl, hf⟩ := DataW.trod_array hu ht
          refine array_cat (RdL w) RdL.nil RdL.append a m cs (by rw [hlen, hc.2]) fun i hi => ?_
          have h1 := hf i hi
          rw [List.getElem?_eq_getElem (by omega)] at h1
          rw [hc.1]
          exact trod_svs n e a q _ _ ha h1
        · cases h
      · cases h
    · cases h

/-- What a parameter is: whole (a struct, an array), or one cell. -/
def parT (P : Program) (t : TypeId) : Option (Bool × List Kd2) := match isAggT P t, kd2T P 20 t with
  | some b, some k => if b = true ∨ k.length = 1 then some (b, k) else none
  | _, _ => none

def ParOk (n : Nat) : Bool × List Kd2 → SV → List Blk → Prop
  | (true, k), s, bs => ∃ l, s = .agg l ∧ Fa2 n k l bs
  | (false, k), s, bs => Fa2 n k [s] bs

def ParsOk : Nat → List (Bool × List Kd2) → List SV → List Blk → Prop
  | _, [], ss, bs => ss = [] ∧ bs = []
  | n, p :: ps, ss, bs => ∃ s r b1 b2, ss = s :: r ∧ bs = b1 ++ b2 ∧ ParOk n p s b1 ∧ ParsOk (n + b1.length) ps r b2

theorem open_par {base : Nat} {spare : Nat → Bool} {held : Bool} {t : TypeId} {p : Bool × List Kd2} {v : Value} {d : DataW H} {ps : List MemPlace} (hp : parT P t = some p) (hok : Value.okWide P w .any base t v)
    (h : DataW.Trod enc P w 0 spare held t v d ps) : ∀ ρ0 h0, DH (envOf w) ρ0 h0 w → ∃ s bs ρ1, ParOk h0.length p s bs ∧ Ext ρ0 ρ1 ∧ DV ρ1 s v ∧ DH (envOf w) ρ1 (h0 ++ bs) w := by
  intro ρ0 h0 D0
  obtain ⟨fuel, h⟩ := h
  unfold parT at hp
  split at hp
  · rename_i b k hb hk
    split at hp
    · rename_i hc
      cases hp
      obtain ⟨svs, bs, ρ1, h1, hx, h2, D1⟩ := trod_svs 20 t k fuel _ _ hk h ρ0 h0 D0
      simp only [isAggT, Option.map_eq_some_iff] at hb
      obtain ⟨dd, hd, hb⟩ := hb
      cases b with
      | true =>
        have : ∃ cs, v = .agg cs := by
          unfold Value.okWide at hok
          rw [hd] at hok
          cases dd <;> simp [aggD] at hb <;> (simp only at hok; obtain ⟨cs, rfl, _⟩ := hok; exact ⟨cs, rfl⟩)
        obtain ⟨cs, rfl⟩ := this
        exact ⟨.agg svs, bs, ρ1, ⟨svs, rfl, h1⟩, hx, by simp only [DV]; exact ⟨cs, rfl, by simpa [Value.cells] using h2⟩, D1⟩
      | false =>
        have hk1 : k.length = 1 := by simpa using hc
        have hv : ∀ cs, v ≠ .agg cs := by
          rintro cs rfl
          unfold Value.okWide at hok
          rw [hd] at hok
          cases dd <;> simp [aggD] at hb <;> simp [Cell.okWide, Cell.ok, hd] at hok
        have hcells : v.cells.toList = [v] := by
          unfold Value.cells
          split
          · rename_i cs; exact absurd rfl (hv cs)
          · rfl
        rw [hcells] at h2
        match svs, h2 with
        | [s], h2 =>
          simp only [DL] at h2
          obtain ⟨y, t, e, hy, _⟩ := h2
          cases e
          exact ⟨s, bs, ρ1, h1, hx, hy, D1⟩
        | [], h2 => simp [DL] at h2
        | _ :: _ :: _, h2 =>
          simp only [DL] at h2
          obtain ⟨y, t, e, _, z, r, e2, _⟩ := h2
          cases e; cases e2
    · cases hp
  · cases hp

theorem open_pars {base : Nat} {spare : Nat → Bool} {held : Bool} : ∀ {ts : List TypeId} {shapes : List (Bool × List Kd2)} {vs : List Value} {ds : List (DataW H)} {ps : List MemPlace},
    ts.mapM (parT P) = some shapes → (∀ (j : Nat) t v, ts[j]? = some t → vs[j]? = some v → Value.okWide P w .any base t v) → DataW.TrodAll enc P w 0 spare held ts vs ds ps →
    ∀ ρ0 h0, DH (envOf w) ρ0 h0 w → ∃ ss bs ρ1, ParsOk h0.length shapes ss bs ∧ Ext ρ0 ρ1 ∧ DL ρ1 ss vs ∧ DH (envOf w) ρ1 (h0 ++ bs) w
  | [], shapes, [], [], _, hs, _, _ => by
    simp at hs; subst hs; intro ρ0 h0 D0; exact ⟨[], [], ρ0, ⟨rfl, rfl⟩, Ext.refl _, DL.nil, by simpa using D0⟩
  | [], _, [], _ :: _, _, _, _, h => h.elim
  | [], _, _ :: _, _, _, _, _, h => h.elim
  | _ :: _, _, [], _, _, _, _, h => h.elim
  | _ :: _, _, _ :: _, [], _, _, _, h => h.elim
  | t :: ts, shapes, v :: vs, d :: ds, ps, hs, hok, h => by
    obtain ⟨p, q, h1, h2, _⟩ := h
    simp only [List.mapM_cons, Option.pure_def, Option.bind_eq_bind, Option.bind_eq_some_iff, Option.some.injEq] at hs
    obtain ⟨sh, hsh, shs, hshs, rfl⟩ := hs
    intro ρ0 h0 D0
    obtain ⟨s, b1, ρ1, hs1, x1, hs2, D1⟩ := open_par hsh (hok 0 t v rfl rfl) h1 ρ0 h0 D0
    obtain ⟨ss, b2, ρ2, hss1, x2, hss2, D2⟩ := open_pars hshs (fun j t v ht hv => hok (j + 1) t v (by simpa using ht) (by simpa using hv)) h2 ρ1 _ D1
    rw [List.length_append] at hss1
    exact ⟨s :: ss, b1 ++ b2, ρ2, ⟨s, ss, b1, b2, rfl, rfl, hs1, hss1⟩, x1.trans x2, DL.cons (DV.mono x2 _ _ hs2) hss2, by rw [← List.append_assoc]; exact D2⟩


/-- A law's call, by the engine: for all arguments of the shapes. -/
theorem law_call {Γ : PC} (hΓ : PCok P Γ) (hm : P.follows .mixedOrders = true) {g : FuncId} {shapes : List (Bool × List Kd2)}
    (hf : ∀ ss bs, ParsOk 0 shapes ss bs → ∃ ss', leSVs ss ss' ∧ ∃ Λ n, fnS P Γ Λ n g ss' bs fun u _ => isYes u) {base : Nat} {spare : Nat → Bool} {held : Bool} {ts : List TypeId} {args : Array Value} {ds : List (DataW H)} {ps : List MemPlace} (hg : GlobOk (envOf w))
    (hs : ts.mapM (parT P) = some shapes) (hok : ∀ (j : Nat) t v, ts[j]? = some t → args[j]? = some v → Value.okWide P w .any base t v) (h : DataW.TrodAll enc P w 0 spare held ts args.toList ds ps) :
    Calls P g args w fun e w' => e = .returned (.bool true) ∧ RowKit.Below w.heap.size w w' := by
  obtain ⟨ss, bs, ρ1, h1, _, h2, D1⟩ := open_pars (w := w) (vs := args.toList) hs (fun j t v ht hv => hok j t v ht (by simpa using hv)) h _ _ (DH.start w hg)
  simp only [List.nil_append] at D1
  obtain ⟨ss', hle, Λ, n, hrun⟩ := hf ss bs h1
  have := fnS_ok hΓ hm (envOf w) n g _ _ _ hrun ρ1 w _ D1 (leSVs_DL _ _ _ hle h2)
  rw [Array.toArray_toList] at this
  refine this.mono ?_
  rintro e w' ⟨y, v, h', ρ', rfl, _, hy, hD, hv⟩
  have := isYes_DV hv hy
  subst this
  exact ⟨rfl, hD.below_of⟩

theorem ps_cons {n : Nat} {p : Bool × List Kd2} {ps : List (Bool × List Kd2)} {ss : List SV} {bs : List Blk} (h : ParsOk n (p :: ps) ss bs) : ∃ s r b1 b2, ss = s :: r ∧ bs = b1 ++ b2 ∧ ParOk n p s b1 ∧ ParsOk (n + b1.length) ps r b2 := h
theorem ps_nil {n : Nat} {ss : List SV} {bs : List Blk} (h : ParsOk n [] ss bs) : ss = [] ∧ bs = [] := h
theorem fa_int {n : Nat} {K : IntKind} {ks : List Kd2} {vs : List SV} {bs : List Blk} (h : Fa2 n (.k (.int K) :: ks) vs bs) : ∃ x r, vs = .i K x (kmin K) (kmax K) :: r ∧ (kmin K ≤ x ∧ x ≤ kmax K) ∧ Fa2 n ks r bs := by
  obtain ⟨s, r, rfl, ⟨x, rfl, hx⟩, hr⟩ := h
  exact ⟨x, r, rfl, hx, hr⟩
theorem fa_bool {n : Nat} {ks : List Kd2} {vs : List SV} {bs : List Blk} (h : Fa2 n (.k .bool :: ks) vs bs) : ∃ b r, vs = .b b :: r ∧ Fa2 n ks r bs := by
  obtain ⟨s, r, rfl, ⟨x, rfl⟩, hr⟩ := h
  exact ⟨x, r, rfl, hr⟩
theorem fa_str {n : Nat} {ks : List Kd2} {vs : List SV} {bs : List Blk} (h : Fa2 n (.k .str :: ks) vs bs) : ∃ b r, vs = .s b 9223372036854775807 :: r ∧ (b.size : Int) ≤ 9223372036854775807 ∧ Fa2 n ks r bs := by
  obtain ⟨s, r, rfl, ⟨x, rfl, hx⟩, hr⟩ := h
  exact ⟨x, r, rfl, hx, hr⟩
theorem fa_sl {n : Nat} {kd : List Kd} {ks : List Kd2} {vs : List SV} {bs : List Blk} (h : Fa2 n (.sl kd :: ks) vs bs) : ∃ xs r cs, vs = .row n :: r ∧ bs = .ror kd xs false :: cs ∧ (∀ x ∈ xs, Fa kd x) ∧ xs.length ≤ maxLen ∧ Fa2 (n + 1) ks r cs := by
  obtain ⟨r, xs, cs, rfl, rfl, h1, h2, h3⟩ := h
  exact ⟨xs, r, cs, rfl, rfl, h1, h2, h3⟩
theorem fa_rf {n : Nat} {kf : List Kf} {ks : List Kd2} {vs : List SV} {bs : List Blk} (h : Fa2 n (.rf kf :: ks) vs bs) : ∃ css r cs, vs = .row (n + 1) :: r ∧ bs = .rfm kf css :: .rof n :: cs ∧ RfF kf css ∧ Fa2 (n + 2) ks r cs := by
  obtain ⟨r, xs, cs, rfl, rfl, h1, h3⟩ := h
  exact ⟨xs, r, cs, rfl, rfl, h1, h3⟩
theorem fa_nil {n : Nat} {vs : List SV} {bs : List Blk} (h : Fa2 n [] vs bs) : vs = [] ∧ bs = [] := h
theorem par_agg {n : Nat} {k : List Kd2} {s : SV} {bs : List Blk} (h : ParOk n (true, k) s bs) : ∃ l, s = .agg l ∧ Fa2 n k l bs := h
theorem par_one {n : Nat} {k : List Kd2} {s : SV} {bs : List Blk} (h : ParOk n (false, k) s bs) : Fa2 n k [s] bs := h

end
end Go.Eng
