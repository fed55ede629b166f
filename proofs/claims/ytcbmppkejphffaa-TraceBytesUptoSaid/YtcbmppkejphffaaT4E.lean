/- TraceBytes: rows and their bytes, in plain Lean. No condition. -/
import Derived.Test.YtcbmppkejphffaaT4YT
import Derived.Test.YtcbmppkejphffaaV6N
namespace Go.Proofs.Ytcbmppkejphffaa
open Go.Eng
/-- Bytes as elements. -/
def U8 (l : List (List Value)) : Prop := ∀ y ∈ l, ∃ n : UInt8, y = [.int .u8 (n.toNat : Int)]
theorem U8.append {a b : List (List Value)} (h : U8 a) (k : U8 b) : U8 (a ++ b) := fun y hy => by
  rcases List.mem_append.1 hy with h1 | h1
  · exact h y h1
  · exact k y h1
theorem u8_b8 (x d : Int) : ∃ n : UInt8, b8 x d = [.int .u8 (n.toNat : Int)] := by
  refine ⟨UInt8.ofNat ((x / d) % 256).toNat, ?_⟩
  have h : 0 ≤ (x / d) % 256 ∧ (x / d) % 256 < 256 := by omega
  have e : IntKind.u8.wrap (x / d) = (x / d) % 256 := by simp [IntKind.wrap, IntKind.signed, IntKind.bits]
  unfold b8
  rw [e, UInt8.toNat_ofNat', Nat.mod_eq_of_lt (by omega)]
  congr 2
  omega
theorem u8_e8 (x : Int) : U8 (e8 x) := by
  intro y hy
  simp only [e8, List.nil_append, List.cons_append, List.mem_cons, List.not_mem_nil, or_false] at hy
  rcases hy with rfl | rfl | rfl | rfl | rfl | rfl | rfl | rfl <;> exact u8_b8 _ _
theorem u8_str (s : ByteArray) : U8 (strEl s) := by
  intro y hy
  obtain ⟨b, _, rfl⟩ := List.mem_map.1 hy
  exact ⟨b, rfl⟩
theorem u8_saw (x : List Value) : U8 (sawB x) := by
  unfold sawB
  exact (u8_e8 _).append ((u8_e8 _).append ((u8_e8 _).append ((u8_e8 _).append ((u8_e8 _).append (u8_str _)))))
theorem u8_byts : ∀ l, U8 (byts l)
  | [] => fun y hy => by cases hy
  | x :: l => (u8_saw x).append (u8_byts l)
theorem u8_back : ∀ {l : List (List Value)}, U8 l → l = (bytesOf l).data.toList.map fun b => [.int .u8 (b.toNat : Int)]
  | [], _ => by simp [bytesOf, strOfNums_data]
  | y :: l, h => by
    obtain ⟨n, e⟩ := h y (by simp)
    have ih := u8_back (l := l) fun z hz => h z (by simp [hz])
    have e2 : (bytesOf (y :: l)).data.toList = n :: (bytesOf l).data.toList := by
      rw [e]
      simp only [bytesOf, strOfNums_data, List.map_cons]
      congr 1
      show UInt8.ofNat ((n.toNat : Int)).toNat = n
      rw [Int.toNat_natCast]; simp
    rw [e2, List.map_cons, ← ih, e]
theorem bytesOf_inj {a b : List (List Value)} (ha : U8 a) (hb : U8 b) (h : bytesOf a = bytesOf b) : a = b := by
  rw [u8_back ha, u8_back hb, h]
theorem e8_inj {x y : Int} (hx : 0 ≤ x ∧ x < 18446744073709551616) (hy : 0 ≤ y ∧ y < 18446744073709551616) (h : e8 x = e8 y) : x = y := by
  have e : ∀ v, IntKind.u8.wrap v = v % 256 := fun v => by simp [IntKind.wrap, IntKind.signed, IntKind.bits]
  simp only [e8, b8, e, List.nil_append, List.cons_append, List.cons.injEq, Value.int.injEq, true_and, and_true] at h
  omega
theorem sw_rng {x : List Value} (h : Wk SW x) : (-9223372036854775808 ≤ geti x 0 ∧ geti x 0 ≤ 9223372036854775807) ∧ (-9223372036854775808 ≤ geti x 1 ∧ geti x 1 ≤ 9223372036854775807) ∧ (gets x 2).size ≤ maxLen ∧
    (-9223372036854775808 ≤ geti x 3 ∧ geti x 3 ≤ 9223372036854775807) ∧ (0 ≤ geti x 4 ∧ geti x 4 ≤ 18446744073709551615) := by
  have r : ∀ (j : Nat) (K : IntKind), SW[j]? = some (.int K) → kmin K ≤ geti x j ∧ geti x j ≤ kmax K := fun j K hj => by
    obtain ⟨v, hv, n, rfl, h1, h2⟩ := Fa.get j h hj
    simp only [geti, hv]; exact ⟨h1, h2⟩
  exact ⟨r 0 .i64 rfl, r 1 .i64 rfl, (gets_eq (j := 2) h rfl).2, r 3 .i64 rfl, r 4 .u64 rfl⟩
theorem uW_inj {x y : Int} (hx : -9223372036854775808 ≤ x ∧ x ≤ 9223372036854775807) (hy : -9223372036854775808 ≤ y ∧ y ≤ 9223372036854775807) (h : uW x = uW y) : x = y := by
  have e : ∀ v, uW v = v % 18446744073709551616 := fun v => by simp [uW, IntKind.wrap, IntKind.signed, IntKind.bits]
  rw [e, e] at h
  omega
theorem uW_rng (x : Int) : 0 ≤ uW x ∧ uW x < 18446744073709551616 := by
  have e : uW x = x % 18446744073709551616 := by simp [uW, IntKind.wrap, IntKind.signed, IntKind.bits]
  omega
theorem strEl_inj {s t : ByteArray} (h : strEl s = strEl t) : s = t := by
  have := congrArg bytesOf h
  rwa [bytesOf_str, bytesOf_str] at this
theorem sawB_inj {x y : List Value} {r q : List (List Value)} (hx : Wk SW x) (hy : Wk SW y) (h : sawB x ++ r = sawB y ++ q) : x = y ∧ r = q := by
  obtain ⟨x0, x1, x2, x3, x4⟩ := sw_rng hx
  obtain ⟨y0, y1, y2, y3, y4⟩ := sw_rng hy
  have hM : maxLen = 9223372036854775807 := by decide
  unfold sawB at h
  simp only [List.append_assoc] at h
  obtain ⟨h0, h⟩ := List.append_inj h rfl
  obtain ⟨h1, h⟩ := List.append_inj h rfl
  obtain ⟨h3, h⟩ := List.append_inj h rfl
  obtain ⟨h4, h⟩ := List.append_inj h rfl
  obtain ⟨h5, h⟩ := List.append_inj h rfl
  have k0 := uW_inj x0 y0 (e8_inj (uW_rng _) (uW_rng _) h0)
  have k1 := uW_inj x1 y1 (e8_inj (uW_rng _) (uW_rng _) h1)
  have k3 := uW_inj x3 y3 (e8_inj (uW_rng _) (uW_rng _) h3)
  have k4 := e8_inj (by omega) (by omega) h4
  have k5 := e8_inj (by omega) (by omega) h5
  obtain ⟨h2, h6⟩ := List.append_inj h (by rw [strEl_len, strEl_len]; omega)
  have k2 := strEl_inj h2
  refine ⟨?_, h6⟩
  rw [sw_of hx, sw_of hy, k0, k1, k2, k3, k4]
theorem byts_inj : ∀ {a b : List (List Value)}, (∀ x ∈ a, Wk SW x) → (∀ x ∈ b, Wk SW x) → byts a = byts b → a = b
  | [], [], _, _, _ => rfl
  | [], y :: b, _, _, h => by
    have := congrArg List.length h
    rw [byts, byts, List.length_append, sawB_len] at this
    simp at this <;> omega
  | x :: a, [], _, _, h => by
    have := congrArg List.length h
    rw [byts, byts, List.length_append, sawB_len] at this
    simp at this <;> omega
  | x :: a, y :: b, ha, hb, h => by
    rw [byts, byts] at h
    obtain ⟨h1, h2⟩ := sawB_inj (ha x (by simp)) (hb y (by simp)) h
    rw [h1, byts_inj (fun z hz => ha z (by simp [hz])) (fun z hz => hb z (by simp [hz])) h2]

/-- One round of the law: two rows, laid side by side. -/
def Inn (a b : List (List Value)) (ga gb : Nat → List Value) (T : Prop) : Prop :=
  ∃ s47 : Int, YInv a s47 ∧ ((0 = s47 ∧ 0 ≤ s47 ∧ s47 ≤ 9223372036854775807) ∧ decide ((a.length : Int) = (b.length : Int)) = smB a b s47) ∧ ∀ (z47 : Int), YInv a z47 →
    bif smB a b z47 && decide (z47 < (a.length : Int)) then
      (0 ≤ z47 ∧ z47 < (a.length : Int)) ∧ (0 ≤ z47 ∧ z47 < (b.length : Int)) ∧ ∃ s80 : Int, YInv a s80 ∧ mY a s80 < mY a z47 ∧ (IntKind.i64.wrap (z47 + 1) = s80 ∧ 0 ≤ s80 ∧ s80 ≤ 9223372036854775807) ∧
        (geti (ga z47.toNat) 0 == geti (gb z47.toNat) 0 && (geti (ga z47.toNat) 1 == geti (gb z47.toNat) 1 && (gets (ga z47.toNat) 2 == gets (gb z47.toNat) 2 && (geti (ga z47.toNat) 3 == geti (gb z47.toNat) 3 && geti (ga z47.toNat) 4 == geti (gb z47.toNat) 4)))) = smB a b s80
    else (a.length : Int) ≤ 1466015503701 ∧ (a.length : Int) ≤ 1466015503701 ∧ (b.length : Int) ≤ 1466015503701 ∧ ((byts a).length : Int) ≤ 100000000 ∧ ((byts b).length : Int) ≤ 100000000 ∧
      bif decide (((byts (a ++ b)).length : Int) ≤ 100000000) || (!((bytesOf (byts a)).toList == (bytesOf (byts b)).toList) == smB a b z47 || difB a b == smB a b z47) then
        bif decide (((byts a).length : Int) ≤ 100000000) || (!((bytesOf (byts a)).toList == (bytesOf (byts b)).toList) == smB a b z47 || difB a b == smB a b z47) then
          bif decide (((byts b).length : Int) ≤ 100000000) || (!((bytesOf (byts a)).toList == (bytesOf (byts b)).toList) == smB a b z47 || difB a b == smB a b z47) then
            bif decide ((((bytesOf (byts a)).size + (bytesOf (byts b)).size : Nat) : Int) ≤ 9223372036854775807) || (!((bytesOf (byts a)).toList == (bytesOf (byts b)).toList) == smB a b z47 || difB a b == smB a b z47) then
              bif !((bytesOf (byts a)).toList == (bytesOf (byts b)).toList) == smB a b z47 || difB a b == smB a b z47 || !(bytesOf (byts (a ++ b))).toList == (bytesOf (byts a) ++ bytesOf (byts b)).toList then False else T
            else False
          else False
        else False
      else False

theorem smB_iff {a b : List (List Value)} {i : Int} : smB a b i = true ↔ (a.length = b.length ∧ ∀ j : Nat, (j : Int) < i → a.getD j [] = b.getD j []) := by
  unfold smB
  exact ⟨dB_true, dB_intro⟩
theorem bl_beq (a b : ByteArray) : (a.toList == b.toList) = dB (a = b) := by
  rw [Bool.eq_iff_iff, Go.ByteArray.toList_eq, Go.ByteArray.toList_eq]
  constructor
  · intro h
    have h := eq_of_beq h
    refine dB_intro ?_
    cases a; cases b
    congr
    exact Array.toList_inj.1 h
  · intro h
    rw [dB_true h]; exact beq_self_eq_true _
theorem inner_ok {a b : List (List Value)} {ga gb : Nat → List Value} {T : Prop} (ha : ∀ x ∈ a, Wk SW x) (hb : ∀ x ∈ b, Wk SW x) (la : a.length ≤ 20) (lb : b.length ≤ 20) (ya : (byts a).length ≤ 30000000) (yb : (byts b).length ≤ 30000000)
    (hga : ∀ i, i < a.length → ga i = a.getD i []) (hgb : ∀ i, i < b.length → gb i = b.getD i []) (hT : T) : Inn a b ga gb T := by
  have mem : ∀ {l : List (List Value)} {i : Nat}, i < l.length → l.getD i [] ∈ l := fun h => by rw [List.getD_eq_getElem?_getD, List.getElem?_eq_getElem h]; exact List.getElem_mem _
  refine ⟨0, ⟨by omega, by omega⟩, ⟨⟨rfl, by omega, by omega⟩, ?_⟩, fun z hz => ?_⟩
  · rw [Bool.eq_iff_iff, smB_iff]
    simp only [decide_eq_true_eq]
    exact ⟨fun h => ⟨by omega, fun j hj => by omega⟩, fun h => by omega⟩
  · have z0 := hz.i0
    have z1 := hz.i1
    cases hS : (smB a b z && decide (z < (a.length : Int))) with
    | true =>
      simp only [Bool.and_eq_true, decide_eq_true_eq] at hS
      obtain ⟨h1, h2⟩ := hS
      obtain ⟨h3, h4⟩ := smB_iff.1 h1
      refine ⟨⟨z0, h2⟩, ⟨z0, by omega⟩, z + 1, ⟨by omega, by omega⟩, by unfold mY; omega, ⟨wr64 _ (by omega), by omega, by omega⟩, ?_⟩
      have i1 : z.toNat < a.length := by omega
      have i2 : z.toNat < b.length := by omega
      rw [hga _ i1, hgb _ i2, Bool.eq_iff_iff, sw_eq (ha _ (mem i1)) (hb _ (mem i2)), smB_iff]
      refine ⟨fun h => ⟨h3, fun j hj => ?_⟩, fun h => h.2 z.toNat (by omega)⟩
      by_cases e : j = z.toNat
      · rw [e]; exact h
      · exact h4 j (by omega)
    | false =>
      have eS : smB a b z = dB (a = b) := by
        rw [Bool.eq_iff_iff, smB_iff]
        constructor
        · rintro ⟨h3, h4⟩
          have hlt : ¬ z < (a.length : Int) := fun h => by
            rw [smB_iff.2 ⟨h3, h4⟩, decide_eq_true h] at hS; cases hS
          refine dB_intro (List.ext_getElem? fun j => ?_)
          by_cases hj : j < a.length
          · have := h4 j (by omega)
            rw [List.getD_eq_getElem?_getD, List.getD_eq_getElem?_getD, List.getElem?_eq_getElem hj, List.getElem?_eq_getElem (by omega)] at this
            rw [List.getElem?_eq_getElem hj, List.getElem?_eq_getElem (by omega)]
            simpa using this
          · rw [List.getElem?_eq_none (by omega), List.getElem?_eq_none (by omega)]
        · intro h
          have := dB_true h
          subst this
          exact ⟨rfl, fun _ _ => rfl⟩
      have eX : ((bytesOf (byts a)).toList == (bytesOf (byts b)).toList) = dB (a = b) := by
        rw [bl_beq, Bool.eq_iff_iff]
        constructor
        · intro h
          exact dB_intro (byts_inj ha hb (bytesOf_inj (u8_byts _) (u8_byts _) (dB_true h)))
        · intro h
          rw [dB_true h]; exact dB_intro rfl
      have eD : difB a b = !dB (a = b) := by
        unfold difB
        by_cases h : a = b
        · rw [dB_intro h, dB_no (by simpa using h)]; rfl
        · rw [dB_no h, dB_intro h]; rfl
      have eB : ((bytesOf (byts (a ++ b))).toList == (bytesOf (byts a) ++ bytesOf (byts b)).toList) = true := by
        rw [bl_beq]; exact dB_intro (by rw [byts_append, bytesOf_append])
      have hyab : (byts (a ++ b)).length ≤ 100000000 := by rw [byts_append, List.length_append]; omega
      have d1 : decide (((byts (a ++ b)).length : Int) ≤ 100000000) = true := decide_eq_true (by omega)
      have d2 : decide (((byts a).length : Int) ≤ 100000000) = true := decide_eq_true (by omega)
      have d3 : decide (((byts b).length : Int) ≤ 100000000) = true := decide_eq_true (by omega)
      have d4 : decide ((((bytesOf (byts a)).size + (bytesOf (byts b)).size : Nat) : Int) ≤ 9223372036854775807) = true := decide_eq_true (by rw [bytesOf_len, bytesOf_len]; omega)
      simp only [cond_false]
      refine ⟨by omega, by omega, by omega, by omega, by omega, ?_⟩
      rw [d1, d2, d3, d4, eS, eX, eD, eB]
      cases dB (a = b) <;> exact hT

/-- What is owed at the outer loop's head. -/
def TailY (x0 x1 : List (List Value)) : Prop := ∀ (z36 : TY), OInv x0 x1 z36 → z36.k < 3 → (0 ≤ z36.k ∧ z36.k < 3) ∧
  ((z36.k = 0 → Inn (List.take 20 x0) (List.take 20 x1) (fun i => x0.getD (0 + i) []) (fun i => x1.getD (0 + i) []) (∃ s84, OInv x0 x1 s84 ∧ mO s84 < mO z36 ∧ (1 = s84.k ∧ 0 ≤ s84.k ∧ s84.k ≤ 9223372036854775807) ∧ z36.c = s84.c)) ∧
   (z36.k = 1 → Inn (List.take 20 x0) z36.c (fun i => x0.getD (0 + i) []) (fun i => z36.c.getD i []) (∃ s84, OInv x0 x1 s84 ∧ mO s84 < mO z36 ∧ (2 = s84.k ∧ 0 ≤ s84.k ∧ s84.k ≤ 9223372036854775807) ∧ z36.c = s84.c))) ∧
  (z36.k = 2 → Inn (List.take 20 x1) z36.c (fun i => x1.getD (0 + i) []) (fun i => z36.c.getD i []) (∃ s84, OInv x0 x1 s84 ∧ mO s84 < mO z36 ∧ (3 = s84.k ∧ 0 ≤ s84.k ∧ s84.k ≤ 9223372036854775807) ∧ z36.c = s84.c))
theorem tailY_ok {x0 x1 : List (List Value)} (w0 : ∀ x ∈ x0, Wk SW x) (w1 : ∀ x ∈ x1, Wk SW x) (z0 : Szr 1048576 x0) (z1 : Szr 1048576 x1) : TailY x0 x1 := by
  rintro ⟨k, c⟩ hI hk
  have k0 := hI.k0
  have hl := hI.len
  have hw := hI.wk
  have hy := hI.byt
  dsimp only at k0 hl hw hy hk ⊢
  have l0 : (x0.take 20).length ≤ 20 := by simp; omega
  have l1 : (x1.take 20).length ≤ 20 := by simp; omega
  have y0 := byts_20 z0
  have y1 := byts_20 z1
  have t0 : ∀ x ∈ x0.take 20, Wk SW x := fun x hx => w0 x (List.mem_of_mem_take hx)
  have t1 : ∀ x ∈ x1.take 20, Wk SW x := fun x hx => w1 x (List.mem_of_mem_take hx)
  have g : ∀ (l : List (List Value)) (i : Nat), i < (l.take 20).length → l.getD (0 + i) [] = (l.take 20).getD i [] := fun l i hi => by
    rw [Nat.zero_add, List.getD_eq_getElem?_getD, List.getD_eq_getElem?_getD, List.getElem?_take, if_pos (by simp at hi; omega)]
  have nx : ∀ j : Int, j = k + 1 → ∃ s84, OInv x0 x1 s84 ∧ mO s84 < mO ⟨k, c⟩ ∧ (j = s84.k ∧ 0 ≤ s84.k ∧ s84.k ≤ 9223372036854775807) ∧ c = s84.c := fun j hj =>
    ⟨⟨k + 1, c⟩, ⟨by dsimp only; omega, by dsimp only; omega, hl, hw, hy⟩, by unfold mO; dsimp only; omega, ⟨hj, by dsimp only; omega, by dsimp only; omega⟩, rfl⟩
  refine ⟨⟨k0, hk⟩, ⟨fun e => ?_, fun e => ?_⟩, fun e => ?_⟩
  · exact inner_ok t0 t1 l0 l1 (by omega) (by omega) (g x0) (g x1) (nx 1 (by omega))
  · exact inner_ok t0 hw l0 hl (by omega) hy (g x0) (fun _ _ => rfl) (nx 2 (by omega))
  · exact inner_ok t1 hw l1 hl (by omega) hy (g x1) (fun _ _ => rfl) (nx 3 (by omega))
theorem xor_rng (k : IntKind) (x y : Int) : kmin k ≤ xorI k x y ∧ xorI k x y ≤ kmax k := by
  unfold xorI
  exact wf_range (wf_wrap k _)
/-- The third row may go round. -/
theorem oinv_set {x0 x1 : List (List Value)} {n : Nat} {k t r u : Int} {s : ByteArray} (w0 : ∀ x ∈ x0, Wk SW x) (z0 : Szr 1048576 x0)
    (hk : -9223372036854775808 ≤ k ∧ k ≤ 9223372036854775807) (ht : -9223372036854775808 ≤ t ∧ t ≤ 9223372036854775807) (hr : -9223372036854775808 ≤ r ∧ r ≤ 9223372036854775807) (hu : 0 ≤ u ∧ u ≤ 18446744073709551615) (hs : s.size ≤ 1048577) :
    OInv x0 x1 ⟨0, (x0.take 20).set n [.int .i64 k, .int .i64 t, .string s, .int .i64 r, .int .u64 u]⟩ := by
  have hM : maxLen = 9223372036854775807 := by decide
  have hl : ((x0.take 20).set n [.int .i64 k, .int .i64 t, .string s, .int .i64 r, .int .u64 u]).length ≤ 20 := by simp; omega
  have hz : Szr 1048577 ((x0.take 20).set n [.int .i64 k, .int .i64 t, .string s, .int .i64 r, .int .u64 u]) := fun x hx => by
    rcases List.mem_or_eq_of_mem_set hx with h | h
    · exact fun q hq => Nat.le_succ_of_le (z0 x (List.mem_of_mem_take h) q hq)
    · subst h
      intro q hq
      simp at hq
      subst hq; exact hs
  refine ⟨by dsimp only; omega, by dsimp only; omega, hl, fun x hx => ?_, ?_⟩
  · rcases List.mem_or_eq_of_mem_set hx with h | h
    · exact w0 x (List.mem_of_mem_take h)
    · subst h
      exact ⟨⟨k, rfl, hk⟩, ⟨t, rfl, ht⟩, ⟨s, rfl, by omega⟩, ⟨r, rfl, hr⟩, ⟨u, rfl, hu⟩, trivial⟩
  · have := byts_small hz
    have h2 := Nat.mul_le_mul_right (40 + 1048577) hl
    dsimp only
    omega
theorem oinv_id {x0 x1 : List (List Value)} (w0 : ∀ x ∈ x0, Wk SW x) (z0 : Szr 1048576 x0) : OInv x0 x1 ⟨0, x0.take 20⟩ :=
  ⟨by dsimp only; omega, by dsimp only; omega, by simp; omega, fun x hx => w0 x (List.mem_of_mem_take hx), by have := byts_20 z0; dsimp only; omega⟩
end Go.Proofs.Ytcbmppkejphffaa
