/- These contracts hold. No condition. -/
import Derived.Test.YtafmknblnamegaaDoorU5CT
import Derived.Test.YtafmknblnamegaaDoorV8N
namespace Go.Proofs.YtafmknblnamegaaDoor
open Go.Eng
set_option linter.unusedSimpArgs false
theorem orF_l {x y : Fl} (h : x.c ≠ 0) : orF x y = x := by unfold orF; rw [if_neg h]
theorem orF_r {x y : Fl} (h : x.c = 0) : orF x y = y := by unfold orF; rw [if_pos h]
theorem scanF_none {p : Int} {f : Nat → Int} : ∀ {n : Nat}, (∀ j, j < n → f j = 0) → (scanF p f n).c = 0
  | 0, _ => rfl
  | n + 1, h => by
    unfold scanF
    rw [orF_r (scanF_none fun j hj => h j (by omega))]
    exact h n (by omega)
theorem scanF_hit {p : Int} {f : Nat → Int} {k : Nat} (h : ∀ j, j < k → f j = 0) (hk : f k ≠ 0) : ∀ {n : Nat}, k < n → scanF p f n = ⟨f k, p, k⟩
  | 0, hn => by omega
  | n + 1, hn => by
    unfold scanF
    rcases Nat.lt_or_ge k n with g | g
    · rw [scanF_hit h hk g, orF_l hk]
    · have e : k = n := by omega
      subst e
      rw [orF_r (scanF_none h)]
theorem scanE_none {f : Nat → Int} : ∀ {n : Nat}, (∀ j, j < n → f j = 0) → scanE f n = 0
  | 0, _ => rfl
  | n + 1, h => by
    unfold scanE
    rw [if_pos (scanE_none fun j hj => h j (by omega))]
    exact h n (by omega)
theorem scanE_hit {f : Nat → Int} {k : Nat} (h : ∀ j, j < k → f j = 0) (hk : f k ≠ 0) : ∀ {n : Nat}, k < n → scanE f n = f k
  | 0, hn => by omega
  | n + 1, hn => by
    unfold scanE
    rcases Nat.lt_or_ge k n with g | g
    · rw [scanE_hit h hk g, if_neg hk]
    · have e : k = n := by omega
      subst e
      rw [if_pos (scanE_none h)]
theorem ex_hit {F : Fl} {e p i : Int} (h : F = ⟨e, p, i⟩) (he : e ≠ 0) : false = decide (F.c = 0) ∧ [[Value.int .i64 e, Value.int .i64 p, Value.int .i64 i]] = flR F := by
  subst h
  have hd : decide ((⟨e, p, i⟩ : Fl).c = 0) = false := decide_eq_false he
  refine ⟨hd.symm, ?_⟩
  unfold flR; rw [hd]; rfl
theorem ok_step {f : Nat → Int} {k : Int} (hk : 0 ≤ k) (h : ∀ j, j < k.toNat → f j = 0) (h1 : f k.toNat = 0) : ∀ j, j < (k + 1).toNat → f j = 0 := fun j hj => by
  rcases Nat.lt_or_ge j k.toNat with g | g
  · exact h j g
  · have e : j = k.toNat := by omega
    rw [e]; exact h1
theorem w1 {k n : Int} (h : 0 ≤ k) (h2 : k < n) (h3 : n ≤ 9223372036854775807) : IntKind.i64.wrap (k + 1) = k + 1 := wr64 _ (by omega)
theorem mu_lt {k : Int} {n : Nat} (h : 0 ≤ k) (h2 : k < n) : ((n : Int) - (k + 1)).toNat < ((n : Int) - k).toNat := by omega
theorem mhas_mset (m : Mp) (k r : Int) (v : List Value) : mhas (mset m k v) r = (decide (k = r) || mhas m r) := by
  induction m with
  | nil => simp [mset, mhas]
  | cons x l ih =>
    unfold mset
    by_cases hx : x.1 = k
    · rw [decide_eq_true hx, cond_true]; unfold mhas; subst hx
      by_cases hr : x.1 = r <;> simp [hr]
    · rw [decide_eq_false hx, cond_false]; unfold mhas
      by_cases hr : x.1 = r
      · simp [hr]
      · simp [hr, ih]
theorem mget_mset (m : Mp) (k r : Int) (v z : List Value) : mget (mset m k v) r z = if k = r then v else mget m r z := by
  induction m with
  | nil => by_cases h : k = r <;> simp [mset, mget, h]
  | cons x l ih =>
    unfold mset
    by_cases hx : x.1 = k
    · rw [decide_eq_true hx, cond_true]; unfold mget; subst hx
      by_cases hr : x.1 = r <;> simp [hr]
    · rw [decide_eq_false hx, cond_false]; unfold mget
      by_cases hr : x.1 = r
      · have : ¬ k = r := fun e => hx (by rw [hr, e])
        simp [hr, this]
      · simp [hr, ih]
theorem getD_get {α : Type} {l : List α} {k : Nat} {d : α} (h : k < l.length) : l.getD k d = l[k] := by rw [List.getD_eq_getElem?_getD, List.getElem?_eq_getElem h]; rfl
theorem ownAll_succ (cs : Fm) {k : Nat} (h : k < cs.length) : ownAll (cs.take (k + 1)) = ownAll (cs.take k) ++ (own (cs.getD k [])).map fun y => geti y 0 := by
  unfold ownAll
  rw [getD_get h, List.take_succ_eq_append_getElem h, List.flatMap_append]
  simp only [List.flatMap_cons, List.flatMap_nil, List.append_nil]
theorem ownTo_full (cs : Fm) {k : Nat} (h : k < cs.length) : ownTo cs k (own (cs.getD k [])).length = ownAll (cs.take (k + 1)) := by
  rw [ownAll_succ cs h]; unfold ownTo; rw [List.take_length]
theorem ownTo_zero (cs : Fm) (k : Nat) : ownTo cs k 0 = ownAll (cs.take k) := by simp [ownTo]
theorem ownTo_succ (cs : Fm) (k : Nat) {i : Nat} (h : i < (own (cs.getD k [])).length) : ownTo cs k (i + 1) = ownTo cs k i ++ [geti ((own (cs.getD k [])).getD i []) 0] := by
  unfold ownTo
  rw [getD_get h, List.take_succ_eq_append_getElem h, List.map_append, List.append_assoc]; rfl
theorem ltTo_succ (ls : Rw) {i : Nat} (h : i < ls.length) : ltTo ls (i + 1) = ltTo ls i ++ [geti (ls.getD i []) 0] := by
  unfold ltTo
  rw [getD_get h, List.take_succ_eq_append_getElem h, List.map_append]; rfl
theorem hit_1 {e p i : Int} {y : Fl} (he : e ≠ 0) : false = decide ((orF ⟨e, p, i⟩ y).c = 0) ∧ [[Value.int .i64 e, Value.int .i64 p, Value.int .i64 i]] = flR (orF ⟨e, p, i⟩ y) := ex_hit (orF_l he) he
theorem hit_sc {p : Int} {f : Nat → Int} {n : Nat} {y : Fl} {k e : Int} (h0 : 0 ≤ k) (hk : k < n) (ok : ∀ j, j < k.toNat → f j = 0) (hc : f k.toNat = e) (he : e ≠ 0) : false = decide ((orF (scanF p f n) y).c = 0) ∧ [[Value.int .i64 e, Value.int .i64 p, Value.int .i64 k]] = flR (orF (scanF p f n) y) := by
  have e1 : ((k.toNat : Nat) : Int) = k := by omega
  have hf : f k.toNat ≠ 0 := by rw [hc]; exact he
  have := ex_hit (F := orF (scanF p f n) y) (e := f k.toNat) (p := p) (i := (k.toNat : Nat)) (by rw [scanF_hit ok hf (by omega : k.toNat < n)]; exact orF_l hf) hf
  rw [hc, e1] at this; exact this
theorem hit_sl {p : Int} {f : Nat → Int} {n : Nat} {k e : Int} (h0 : 0 ≤ k) (hk : k < n) (ok : ∀ j, j < k.toNat → f j = 0) (hc : f k.toNat = e) (he : e ≠ 0) : false = decide ((scanF p f n).c = 0) ∧ [[Value.int .i64 e, Value.int .i64 p, Value.int .i64 k]] = flR (scanF p f n) := by
  have e1 : ((k.toNat : Nat) : Int) = k := by omega
  have hf : f k.toNat ≠ 0 := by rw [hc]; exact he
  have := ex_hit (F := scanF p f n) (e := f k.toNat) (p := p) (i := (k.toNat : Nat)) (scanF_hit ok hf (by omega : k.toNat < n)) hf
  rw [hc, e1] at this; exact this
theorem nil_fl {F : Fl} (h : F.c = 0) : true = decide (F.c = 0) ∧ ([] : Rw) = flR F := by
  have hd : decide (F.c = 0) = true := decide_eq_true h
  refine ⟨hd.symm, ?_⟩
  unfold flR; rw [hd]; rfl
theorem ck_0 {ts : Rw} {cs : Fm} {ls : Rw} {a b d : Int} {ds : Nat} (h : cnF ts cs ls ds = 0) : ckF ts cs ls a b d ds = orF (scanF 0 (cntE cs) cs.length) (orF ⟨agF a b d, 0, 0⟩ (orF (scanF 1 (rqsE ts) ts.length) (orF (scanF 2 (carE ts cs) cs.length) (orF (scanF 2 (unE cs) ts.length) (scanF 3 (ltE ts ls) ls.length))))) := by
  unfold ckF; rw [orF_r (x := ⟨cnF ts cs ls ds, 0, 0⟩) h]
theorem j0 {α : Prop} {j : Nat} (h : j < (0 : Int).toNat) : α := absurd h (Nat.not_lt_zero j)
set_option maxHeartbeats 4000000 in
theorem okCk : CtrOk Tryd.prog 11 kCk := good_of okG18 mixed (fun ((ts, cs, ls, a, b, d, ds, _), _) => ckL ts cs ls) 100 fun ((ts, cs, ls, a, b, d, ds, _), _) hf hn => by
  refine ⟨rfl, Eq.mpr (tCk ts cs ls a b d ds) ?_⟩
  (simp only [eq_self_iff_true, true_and, and_true, false_and, and_false, Bool.or_not_self, Bool.not_or_self, Bool.cond_self, cond_true, cond_false, Bool.cond_true_right, Bool.cond_true_left, Bool.cond_false_right, Bool.cond_false_left, Bool.or_true, Bool.true_or, Bool.or_false, Bool.false_or, Bool.and_true, Bool.true_and, Bool.and_false, Bool.false_and, Bool.not_not, forall_eq, ← Bool.decide_and, ← Bool.decide_or, ← decide_not, cDecF, cDecT, cDecFl, Decidable.not_not, Bool.not_true, Bool.not_false, Bool.false_eq_true, imp_false, not_true_eq_false, not_false_eq_true, forall_const, true_implies, false_implies, implies_true, decide_true, decide_false]; try simp only [cDec, eq_self_iff_true, true_and, and_true, false_and, and_false, Bool.or_not_self, Bool.not_or_self, Bool.cond_self, cond_true, cond_false, Bool.cond_true_right, Bool.cond_true_left, Bool.cond_false_right, Bool.cond_false_left, Bool.or_true, Bool.true_or, Bool.or_false, Bool.false_or, Bool.and_true, Bool.true_and, Bool.and_false, Bool.false_and, Bool.not_not, forall_eq, ← Bool.decide_and, ← Bool.decide_or, ← decide_not, cDecF, cDecT, cDecFl, Decidable.not_not, Bool.not_true, Bool.not_false, Bool.false_eq_true, imp_false, not_true_eq_false, not_false_eq_true, forall_const, true_implies, false_implies, implies_true, decide_true, decide_false])
  have hm : maxLen = 9223372036854775807 := by decide
  have hts : ts.length ≤ 9223372036854775807 := hm ▸ hf.1.1.2
  have hcs : cs.length ≤ 9223372036854775807 := hm ▸ hf.1.2.1.2
  have hls : ls.length ≤ 9223372036854775807 := hm ▸ hf.1.2.2.1.2
  have hin := hf.1.2.1.1
  refine ⟨fun h => ex_hit (F := ckF ts cs ls a b d ds) (e := cnF ts cs ls ds) (by unfold ckF; exact orF_l h) h, fun h0 => ?_⟩
  rw [ck_0 h0]
  refine ⟨0, ⟨by omega, by omega, fun j hj => j0 hj⟩, ⟨rfl, by omega, by omega⟩, ?_⟩
  rintro k ⟨ka, kb, kok⟩
  refine ⟨fun hlt => ⟨⟨ka, hlt⟩, fun h => hit_sc ka hlt kok rfl h, fun h => ?_⟩, fun hge => ?_⟩
  · exact ⟨k + 1, ⟨by omega, by omega, ok_step ka kok h⟩, mu_lt ka hlt, w1 ka hlt (by omega), by omega, by omega⟩
  have ck : ∀ j, j < cs.length → cntE cs j = 0 := fun j hj => kok j (by omega)
  rw [orF_r (scanF_none ck)]
  clear kok
  refine ⟨fun h => hit_1 h, fun ha => ?_⟩
  rw [orF_r (x := ⟨agF a b d, 0, 0⟩) ha]
  refine ⟨0, ⟨by omega, by omega, fun j hj => j0 hj⟩, ⟨rfl, by omega, by omega⟩, ?_⟩
  rintro k1 ⟨ka1, kb1, kok1⟩
  refine ⟨fun hlt => ⟨⟨ka1, hlt⟩, fun h => hit_sc ka1 hlt kok1 rfl h, fun h => ?_⟩, fun hge1 => ?_⟩
  · exact ⟨k1 + 1, ⟨by omega, by omega, ok_step ka1 kok1 h⟩, mu_lt ka1 hlt, w1 ka1 hlt (by omega), by omega, by omega⟩
  have ck1 : ∀ j, j < ts.length → rqsE ts j = 0 := fun j hj => kok1 j (by omega)
  rw [orF_r (scanF_none ck1)]
  clear kok1
  refine ⟨⟨0, []⟩, ⟨Int.le_refl _, Int.natCast_nonneg _, fun j hj => j0 hj, fun r => by simp [mhas, ownAll]⟩, ⟨⟨rfl, Int.le_refl _, (by decide : (0 : Int) ≤ 9223372036854775807)⟩, rfl⟩, ?_⟩
  rintro ⟨k2, m2⟩ ⟨ka2, kb2, kok2, khas2⟩
  dsimp only at ka2 kb2 kok2 khas2 ⊢
  refine ⟨fun hlt2 => ⟨⟨ka2, hlt2⟩, 0, ⟨by omega, by omega, fun j hj => j0 hj⟩, ⟨rfl, by omega, by omega⟩, ?_⟩, fun hge2 => ?_⟩
  · have hk2 : k2.toNat < cs.length := by omega
    obtain ⟨_, hinl⟩ := hin _ (getD_in (d := []) hk2)
    have hfl : (fle (cs.getD k2.toNat [])).length ≤ 9223372036854775807 := hm ▸ (hinl 0 57 VK rfl).2
    have hol : (own (cs.getD k2.toNat [])).length ≤ 9223372036854775807 := hm ▸ (hinl 1 3 I64 rfl).2
    rintro i ⟨ia, ib, iok⟩
    refine ⟨fun hlt => ⟨⟨ia, hlt⟩, fun h => ?_, fun h => ?_⟩, fun hge => ?_⟩
    · have h' : vesE cs k2.toNat i.toNat ≠ 0 := h
      have hl' : i < ((fle (cs.getD k2.toNat [])).length : Int) := hlt
      have hv : carE ts cs k2.toNat = vesE cs k2.toNat i.toNat := by
        unfold carE; rw [scanE_hit iok h' (by omega : i.toNat < (fle (cs.getD k2.toNat [])).length), if_neg h']
      exact hit_sc ka2 hlt2 kok2 hv h
    · have hl' : i < ((fle (cs.getD k2.toNat [])).length : Int) := hlt
      exact ⟨i + 1, ⟨by omega, by omega, ok_step ia iok h⟩, mu_lt ia hlt, w1 ia hl' (by omega), by omega, by omega⟩
    have hg' : ¬ i < ((fle (cs.getD k2.toNat [])).length : Int) := hge
    have vk : scanE (vesE cs k2.toNat) (fle (cs.getD k2.toNat [])).length = 0 := scanE_none fun j hj => iok j (by omega)
    have hcar : carE ts cs k2.toNat = scanE (owE ts cs k2.toNat) (own (cs.getD k2.toNat [])).length := by unfold carE; rw [if_pos vk]
    refine ⟨⟨0, m2⟩, ⟨Int.le_refl _, Int.natCast_nonneg _, fun j hj => j0 hj, fun r => by rw [show ((0 : Int).toNat) = 0 from rfl, ownTo_zero]; exact khas2 r⟩, ⟨⟨rfl, Int.le_refl _, (by decide : (0 : Int) ≤ 9223372036854775807)⟩, rfl⟩, ?_⟩
    rintro ⟨q, m⟩ ⟨qa, qb, qok, qhas⟩
    dsimp only at qa qb qok qhas ⊢
    have eo : (cs.getD k2.toNat []).getD 1 [] = own (cs.getD k2.toNat []) := rfl
    rw [eo]
    refine ⟨fun hlt => ⟨⟨qa, hlt⟩, fun h => ?_, fun h => ?_⟩, fun hge => ?_⟩
    · have ho : owE ts cs k2.toNat q.toNat = 12 := by unfold owE; rw [if_neg]; rintro ⟨h1, h2⟩; exact h ⟨h1, by omega⟩
      exact hit_sc ka2 hlt2 kok2 (by rw [hcar, scanE_hit qok (by rw [ho]; decide) (by omega : q.toNat < (own (cs.getD k2.toNat [])).length), ho]) (by decide)
    · have hx := qhas (geti ((own (cs.getD k2.toNat [])).getD q.toNat []) 0)
      have hin : 0 ≤ geti ((own (cs.getD k2.toNat [])).getD q.toNat []) 0 ∧ geti ((own (cs.getD k2.toNat [])).getD q.toNat []) 0 < (ts.length : Int) := ⟨h.1, by omega⟩
      by_cases hmem : geti ((own (cs.getD k2.toNat [])).getD q.toNat []) 0 ∈ ownTo cs k2.toNat q.toNat
      · rw [hx, decide_eq_true hmem, cond_true]
        have ho : owE ts cs k2.toNat q.toNat = 13 := by unfold owE; rw [if_pos hin, if_pos hmem]
        exact hit_sc ka2 hlt2 kok2 (by rw [hcar, scanE_hit qok (by rw [ho]; decide) (by omega : q.toNat < (own (cs.getD k2.toNat [])).length), ho]) (by decide)
      · rw [hx, decide_eq_false hmem, cond_false]
        have ho : owE ts cs k2.toNat q.toNat = 0 := by unfold owE; rw [if_pos hin, if_neg hmem]
        refine ⟨⟨q + 1, mset m (geti ((own (cs.getD k2.toNat [])).getD q.toNat []) 0) [Value.int .i64 k2]⟩, ⟨by show 0 ≤ q + 1; omega, by show q + 1 ≤ _; omega, ok_step qa qok ho, fun r => ?_⟩, mu_lt qa hlt, ⟨w1 qa hlt (by omega), by show 0 ≤ q + 1; omega, by show q + 1 ≤ _; omega⟩, rfl⟩
        show mhas (mset m _ _) r = decide (r ∈ ownTo cs k2.toNat (q + 1).toNat)
        rw [mhas_mset, qhas, show (q + 1).toNat = q.toNat + 1 by omega, ownTo_succ cs _ (by omega)]
        by_cases hr : geti ((own (cs.getD k2.toNat [])).getD q.toNat []) 0 = r
        · rw [decide_eq_true hr, Bool.true_or]; symm; apply decide_eq_true; rw [← hr]; simp
        · rw [decide_eq_false hr, Bool.false_or]; apply decide_eq_decide.2; rw [List.mem_append, List.mem_singleton]; exact ⟨.inl, fun hh => hh.elim id fun hh => absurd hh.symm hr⟩
    · have e1 : q.toNat = (own (cs.getD k2.toNat [])).length := by omega
      refine ⟨⟨k2 + 1, m⟩, ⟨by show 0 ≤ k2 + 1; omega, by show k2 + 1 ≤ _; omega, ok_step ka2 kok2 (by rw [hcar]; exact scanE_none fun j hj => qok j (by omega)), fun r => ?_⟩, mu_lt ka2 hlt2, ⟨w1 ka2 hlt2 (by omega), by show 0 ≤ k2 + 1; omega, by show k2 + 1 ≤ _; omega⟩, rfl⟩
      show mhas m r = decide (r ∈ ownAll (cs.take (k2 + 1).toNat))
      rw [qhas, e1, ownTo_full cs hk2, show (k2 + 1).toNat = k2.toNat + 1 by omega]
  · have ck2 : ∀ j, j < cs.length → carE ts cs j = 0 := fun j hj => kok2 j (by omega)
    have hall : ∀ r, mhas m2 r = decide (r ∈ ownAll cs) := fun r => by rw [khas2, show k2.toNat = cs.length by omega, List.take_length]
    rw [orF_r (scanF_none ck2)]
    clear kok2 khas2
    refine ⟨0, ⟨by omega, by omega, fun j hj => j0 hj⟩, ⟨rfl, by omega, by omega⟩, ?_⟩
    rintro k3 ⟨ka3, kb3, kok3⟩
    have e3 : ((k3.toNat : Nat) : Int) = k3 := by omega
    have hu : (bif !mhas m2 k3 then (11 : Int) else 0) = unE cs k3.toNat := by unfold unE; rw [hall, e3]
    rw [hu]
    refine ⟨fun hlt => ⟨fun h => hit_sc ka3 hlt kok3 rfl h, fun h => ?_⟩, fun hge3 => ?_⟩
    · exact ⟨k3 + 1, ⟨by omega, by omega, ok_step ka3 kok3 h⟩, mu_lt ka3 hlt, w1 ka3 hlt (by omega), by omega, by omega⟩
    have ck3 : ∀ j, j < ts.length → unE cs j = 0 := fun j hj => kok3 j (by omega)
    rw [orF_r (scanF_none ck3)]
    clear kok3
    refine ⟨⟨0, []⟩, ⟨Int.le_refl _, Int.natCast_nonneg _, fun j hj => j0 hj, fun r => by simp [mget, ltTo]⟩, ⟨⟨rfl, Int.le_refl _, (by decide : (0 : Int) ≤ 9223372036854775807)⟩, rfl⟩, ?_⟩
    rintro ⟨k4, m4⟩ ⟨ka4, kb4, kok4, khas4⟩
    dsimp only at ka4 kb4 kok4 khas4 ⊢
    refine ⟨fun hlt => ⟨⟨ka4, hlt⟩, fun h => ?_, fun h => ?_⟩, fun hge => nil_fl (scanF_none fun j hj => kok4 j (by omega))⟩
    · have ho : ltE ts ls k4.toNat = 12 := by unfold ltE; rw [if_neg]; rintro ⟨h1, h2⟩; exact h ⟨h1, by omega⟩
      exact hit_sl ka4 hlt kok4 ho (by decide)
    · have hin : 0 ≤ geti (ls.getD k4.toNat []) 0 ∧ geti (ls.getD k4.toNat []) 0 < (ts.length : Int) := ⟨h.1, by omega⟩
      have hx := khas4 (geti (ls.getD k4.toNat []) 0)
      rw [hx, mget_mset, if_pos rfl]
      by_cases hmem : geti (ls.getD k4.toNat []) 0 ∈ ltTo ls k4.toNat
      · rw [if_pos hmem]
        refine ⟨fun _ => hit_sl ka4 hlt kok4 (by unfold ltE; rw [if_pos hin, if_pos hmem]) (by decide), fun hh => absurd (show (1 : Int) < geti [Value.int .i64 (IntKind.i64.wrap (geti [Value.int .i64 1] 0 + 1))] 0 by decide) hh⟩
      · rw [if_neg hmem]
        have hz : geti [Value.int .i64 (IntKind.i64.wrap (geti [Value.int .i64 0] 0 + 1))] 0 = 1 := by decide
        rw [hz]
        refine ⟨fun hh => absurd hh (by decide), fun _ => ⟨fun h1 => ?_, fun h1 => ?_⟩⟩
        · have hr : ¬ (0 ≤ geti (ls.getD k4.toNat []) 1 ∧ geti (ls.getD k4.toNat []) 1 ≤ 16777216) := fun hr => h1 (by rw [decide_eq_false (not_not_intro hr)]; rfl)
          have e5 : (bif decide (¬(0 ≤ geti (ls.getD k4.toNat []) 1 ∧ geti (ls.getD k4.toNat []) 1 ≤ 16777216)) then (3 : Int) else 0) = 3 := by rw [decide_eq_true hr]; rfl
          rw [e5]
          exact hit_sl ka4 hlt kok4 (by unfold ltE; rw [if_pos hin, if_neg hmem, if_neg hr]) (by decide)
        · have hr : 0 ≤ geti (ls.getD k4.toNat []) 1 ∧ geti (ls.getD k4.toNat []) 1 ≤ 16777216 := Classical.byContradiction fun hr => by
            rw [decide_eq_true hr] at h1; exact absurd h1 (by decide)
          have ho : ltE ts ls k4.toNat = 0 := by unfold ltE; rw [if_pos hin, if_neg hmem, if_pos hr]
          have hw : IntKind.i64.wrap (geti [Value.int .i64 0] 0 + 1) = 1 := by decide
          rw [hw]
          refine ⟨⟨k4 + 1, mset m4 (geti (ls.getD k4.toNat []) 0) [Value.int .i64 1]⟩, ⟨by show 0 ≤ k4 + 1; omega, by show k4 + 1 ≤ _; omega, ok_step ka4 kok4 ho, fun r => ?_⟩, mu_lt ka4 hlt, ⟨w1 ka4 hlt (by omega), by show 0 ≤ k4 + 1; omega, by show k4 + 1 ≤ _; omega⟩, rfl⟩
          show mget (mset m4 _ _) r [Value.int .i64 0] = [Value.int .i64 (if r ∈ ltTo ls (k4 + 1).toNat then 1 else 0)]
          rw [mget_mset, khas4, show (k4 + 1).toNat = k4.toNat + 1 by omega, ltTo_succ ls (by omega)]
          by_cases hr : geti (ls.getD k4.toNat []) 0 = r
          · rw [if_pos hr, if_pos (by rw [← hr]; simp)]
          · rw [if_neg hr]
            by_cases h2 : r ∈ ltTo ls k4.toNat
            · rw [if_pos h2, if_pos (List.mem_append_left _ h2)]
            · rw [if_neg h2, if_neg (by rw [List.mem_append, List.mem_singleton]; exact fun hh => hh.elim h2 fun hh => hr hh.symm)]
theorem okG19 : PCok Tryd.prog G19 := addPC_ok okG18 okCk
end Go.Proofs.YtafmknblnamegaaDoor
