/- Small lemmas for the plain laws. No condition. -/
import Derived.Test.YtafmknblnamegaaDoorV8K
namespace Go.Eng
section
/-- A number that may have wrapped, as omega takes it. -/
theorem wrE (x : Int) : ∃ j : Int, IntKind.i64.wrap x = x + 18446744073709551616 * j ∧ -9223372036854775808 ≤ IntKind.i64.wrap x ∧ IntKind.i64.wrap x ≤ 9223372036854775807 := by
  have : (2 : Int) ^ 64 = 18446744073709551616 := by decide
  have h63 : (2 : Int) ^ 63 = 9223372036854775808 := by decide
  simp only [IntKind.wrap, IntKind.bits, IntKind.signed, this, Bool.true_and, show 64 - 1 = 63 from rfl, h63, ge_iff_le, decide_eq_true_eq]
  split
  · exact ⟨-(x / 18446744073709551616) - 1, by omega⟩
  · exact ⟨-(x / 18446744073709551616), by omega⟩
theorem introW64 {x : Int} {p : Int → Prop} (h : ∀ z j : Int, z = x + 18446744073709551616 * j → -9223372036854775808 ≤ z → z ≤ 9223372036854775807 → p z) : ∀ z : Int, z = IntKind.i64.wrap x → p z := by
  rintro _ rfl
  obtain ⟨j, h1, h2, h3⟩ := wrE x
  exact h _ j h1 h2 h3
theorem introWu64 {x : Int} {p : Int → Prop} (h : ∀ z : Int, z = x % 18446744073709551616 → p z) : ∀ z : Int, z = IntKind.u64.wrap x → p z := by
  rintro _ rfl
  exact h _ (by have : (2 : Int) ^ 64 = 18446744073709551616 := by decide
                simp only [IntKind.wrap, IntKind.bits, IntKind.signed, this, Bool.false_and, Bool.false_eq_true, if_false])

theorem wr64 (x : Int) : (-9223372036854775808 ≤ x ∧ x < 9223372036854775808) → IntKind.i64.wrap x = x := by
  intro h
  have : (2 : Int) ^ 64 = 18446744073709551616 := by decide
  have h63 : (2 : Int) ^ 63 = 9223372036854775808 := by decide
  simp only [IntKind.wrap, IntKind.bits, IntKind.signed, this, Bool.true_and, show 64 - 1 = 63 from rfl, h63, ge_iff_le, decide_eq_true_eq]
  split <;> omega
theorem introWx {x : Int} {p : Int → Prop} (hb : -9223372036854775808 ≤ x ∧ x < 9223372036854775808) (h : ∀ z : Int, z = x → p z) : ∀ z : Int, z = IntKind.i64.wrap x → p z := by
  rintro _ rfl
  exact h _ (wr64 x hb)
theorem introB {e : Bool} {p : Bool → Prop} (h : p e) : ∀ b : Bool, b = e → p b := by rintro _ rfl; exact h
theorem bif_intro {b : Bool} {p q : Prop} (h1 : b = true → p) (h2 : b = false → q) : cond b p q := by
  cases b
  · exact h2 rfl
  · exact h1 rfl

theorem cond_or {p q : Prop} [Decidable p] : (cond (decide p) True q) = (p ∨ q) := by
  by_cases h : p <;> simp [h]
/-- What is owed, paid; what follows. -/
theorem bif_need {b : Bool} {p : Prop} (h1 : b = true) (h2 : p) : cond b p False := by subst h1; exact h2
theorem need1 {b : Bool} {p : Prop} (h : p) : cond (b || !b) p False := by cases b <;> exact h
theorem need2 {b c : Bool} {p : Prop} (h : p) : cond ((cond c b true) || !b) p False := by cases b <;> cases c <;> exact h
theorem need3 {b : Bool} {p : Prop} (h : p) : cond (cond b true true) p False := by cases b <;> exact h
theorem need4 {b : Bool} {p : Prop} (h : p) : cond (cond b b true) p False := by cases b <;> exact h
theorem need5 {b : Bool} {p : Prop} (h : p) : cond (cond b true (!b)) p False := by cases b <;> exact h
theorem need6 {b c : Bool} {p : Prop} (h : p) : cond ((cond c (b && c) true) || !b) p False := by cases b <;> cases c <;> exact h
theorem need7 {b c : Bool} {p : Prop} (h : p) : cond ((cond c true true) || !b) p False := by cases b <;> cases c <;> exact h

/-- The law says so. -/
def isYes : SV → Prop
  | .v (.bool b) => b = true
  | .b b => b = true
  | _ => False
theorem isYes_DV {ρ : Rho} {s : SV} {y : Value} (h : isYes s) (hd : DV ρ s y) : y = .bool true := by
  unfold isYes at h
  split at h
  · subst h; simpa only [DV] using hd
  · subst h; simpa only [DV] using hd
  · exact h.elim


/-! ### Steps of a plain law -/
theorem spB {p : Prop} [Decidable p] {F : Bool → Prop} (h1 : p → F true) (h2 : ¬ p → F false) : ∀ b, b = decide p → F b := by
  rintro _ rfl
  by_cases h : p
  · rw [decide_eq_true h]; exact h1 h
  · rw [decide_eq_false h]; exact h2 h
theorem spN {p : Prop} [Decidable p] {F : Bool → Prop} (h1 : p → F false) (h2 : ¬ p → F true) : ∀ b, b = !decide p → F b := by
  rintro _ rfl
  by_cases h : p
  · rw [decide_eq_true h]; exact h1 h
  · rw [decide_eq_false h]; exact h2 h
theorem spT {e : Bool} {F : Bool → Prop} (h : e = true) (k : F true) : ∀ b, b = e → F b := by intro b hb; rw [hb, h]; exact k
theorem spF {e : Bool} {F : Bool → Prop} (h : e = false) (k : F false) : ∀ b, b = e → F b := by intro b hb; rw [hb, h]; exact k
theorem spV {e : Bool} {F : Bool → Prop} (h1 : e = true → F true) (h2 : e = false → F false) : ∀ b, b = e → F b := by
  intro b hb
  cases b
  · exact h2 hb.symm
  · exact h1 hb.symm
theorem spC {p : Prop} [Decidable p] {X Y : Prop} (h1 : p → X) (h2 : ¬ p → Y) : cond (decide p) X Y := by
  by_cases h : p
  · rw [decide_eq_true h]; exact h1 h
  · rw [decide_eq_false h]; exact h2 h
theorem coT {b : Bool} {X Y : Prop} (h : b = true) (k : X) : cond b X Y := by rw [h]; exact k
theorem coF {b : Bool} {X Y : Prop} (h : b = false) (k : Y) : cond b X Y := by rw [h]; exact k
/-- What is owed, a proposition. -/
theorem coP {p : Prop} [Decidable p] {X Y : Prop} (h : p) (k : X) : cond (decide p) X Y := by rw [decide_eq_true h]; exact k
theorem coA {a b : Bool} {X : Prop} (h : cond a (cond b X False) False) : cond (a && b) X False := by cases a <;> cases b <;> exact h
theorem coO {a : Bool} {X Y : Prop} (h : cond a X Y) : cond (a || !true) X Y := by cases a <;> exact h
theorem coO2 {a : Bool} {X Y : Prop} (h : cond a X Y) : cond (a || !!false) X Y := by cases a <;> exact h
theorem coO3 {a : Bool} {X Y : Prop} (k : X) : cond (a || !!true) X Y := by cases a <;> exact k
theorem coO4 {a : Bool} {X Y : Prop} (k : X) : cond (a || !false) X Y := by cases a <;> exact k
theorem spE {a b : Nat} {X Y : Prop} (h1 : a = b → X) (h2 : a ≠ b → Y) : cond (Nat.beq a b) X Y := by
  cases h : Nat.beq a b
  · exact h2 (fun e => by subst e; rw [Nat.beq_refl] at h; cases h)
  · exact h1 (Nat.eq_of_beq_eq_true h)
theorem take_snoc {α : Type} {xs : List α} {k : Nat} {d : α} (h : k < xs.length) : xs.take (k + 1) = xs.take k ++ [xs.getD k d] := by
  rw [List.take_succ_eq_append_getElem h, List.getD_eq_getElem?_getD, List.getElem?_eq_getElem h]; rfl
theorem getD_in {α : Type} {xs : List α} {k : Nat} {d : α} (h : k < xs.length) : xs.getD k d ∈ xs := by
  rw [List.getD_eq_getElem?_getD, List.getElem?_eq_getElem h]; exact List.getElem_mem h
theorem geti_bd {kd : List Kd} {l : List Value} (h : Wk kd l) {j : Nat} {K : IntKind} (hj : kd[j]? = some (.int K)) : kmin K ≤ geti l j ∧ geti l j ≤ kmax K := by
  obtain ⟨v, hv, n, rfl, h1, h2⟩ := Fa.get j h hj
  simp only [geti, hv]; exact ⟨h1, h2⟩
theorem geti_eq {kd : List Kd} {l : List Value} (h : Wk kd l) {j : Nat} {K : IntKind} (hj : kd[j]? = some (.int K)) : l[j]? = some (.int K (geti l j)) := by
  obtain ⟨v, hv, n, rfl, h1, h2⟩ := Fa.get j h hj
  simp only [geti, hv]
theorem gets_eq {kd : List Kd} {l : List Value} (h : Wk kd l) {j : Nat} (hj : kd[j]? = some .str) : l[j]? = some (.string (gets l j)) ∧ (gets l j).size ≤ maxLen := by
  obtain ⟨v, hv, n, rfl, h1⟩ := Fa.get j h hj
  simp only [gets, hv]; exact ⟨trivial, h1⟩
theorem getb_eq {kd : List Kd} {l : List Value} (h : Wk kd l) {j : Nat} (hj : kd[j]? = some .bool) : l[j]? = some (.bool (getb l j)) := by
  obtain ⟨v, hv, n, rfl⟩ := Fa.get j h hj
  simp only [getb, hv]
/-- A row's length, as the engine's bounds want it. -/
theorem len63 {α : Type} {xs : List α} (h : xs.length ≤ maxLen) : (xs.length : Int) ≤ 9223372036854775807 := by
  have : maxLen = 9223372036854775807 := by decide
  omega
theorem wr_congr {a b : Int} (j : Int) (h : a = b + 18446744073709551616 * j) : IntKind.i64.wrap a = IntKind.i64.wrap b := by
  subst h
  have h64 : (2 : Int) ^ 64 = 18446744073709551616 := by decide
  have : (b + 18446744073709551616 * j) % 18446744073709551616 = b % 18446744073709551616 := by omega
  simp only [IntKind.wrap, IntKind.bits, h64, this]
theorem wrAL (a b : Int) : IntKind.i64.wrap (IntKind.i64.wrap a + b) = IntKind.i64.wrap (a + b) := by
  obtain ⟨j, h, _⟩ := wrE a; exact wr_congr j (by omega)
theorem wrAR (a b : Int) : IntKind.i64.wrap (a + IntKind.i64.wrap b) = IntKind.i64.wrap (a + b) := by
  obtain ⟨j, h, _⟩ := wrE b; exact wr_congr j (by omega)
theorem wrSL (a b : Int) : IntKind.i64.wrap (IntKind.i64.wrap a - b) = IntKind.i64.wrap (a - b) := by
  obtain ⟨j, h, _⟩ := wrE a; exact wr_congr j (by omega)
theorem wrSR (a b : Int) : IntKind.i64.wrap (a - IntKind.i64.wrap b) = IntKind.i64.wrap (a - b) := by
  obtain ⟨j, h, _⟩ := wrE b; exact wr_congr (-j) (by omega)
theorem wrW (a : Int) : IntKind.i64.wrap (IntKind.i64.wrap a) = IntKind.i64.wrap a := by
  obtain ⟨j, h, _⟩ := wrE a; exact wr_congr j (by omega)
theorem cDecF {p X : Prop} [Decidable p] : cond (decide p) X False = (p ∧ X) := by by_cases h : p <;> simp [h]
theorem cDecT {p X : Prop} [Decidable p] : cond (decide p) X True = (p → X) := by by_cases h : p <;> simp [h]
theorem cDecFl {p X : Prop} [Decidable p] : cond (decide p) False X = (¬ p ∧ X) := by by_cases h : p <;> simp [h]
theorem cDec {p X Y : Prop} [Decidable p] : cond (decide p) X Y = ((p → X) ∧ (¬ p → Y)) := by by_cases h : p <;> simp [h]
theorem cVarF {b : Bool} {X : Prop} : cond b X False = (b = true ∧ X) := by cases b <;> simp
theorem cVar {b : Bool} {X Y : Prop} : cond b X Y = ((b = true → X) ∧ (b = false → Y)) := by cases b <;> simp
theorem bEqDec {b : Bool} {p : Prop} [Decidable p] : (b = decide p) = (b = true ↔ p) := by by_cases h : p <;> cases b <;> simp [h]
theorem imp_and' {p X Y : Prop} : (p → X ∧ Y) = ((p → X) ∧ (p → Y)) := propext ⟨fun h => ⟨fun a => (h a).1, fun a => (h a).2⟩, fun h a => ⟨h.1 a, h.2 a⟩⟩
theorem natI {n : Nat} : (0 : Int) ≤ (n : Int) := Int.natCast_nonneg n
end
end Go.Eng
