/- The law TraceTells: its loops, and its normal forms. No condition. -/
import Derived.Test.YtcbmppkejphffaaT5P
import Derived.Test.YtcbmppkejphffaaV6M
namespace Go.Proofs.Ytcbmppkejphffaa
open Go.Eng
set_option linter.unusedSimpArgs false
def AK : List Kd := [.int .u8, .int .i64, .int .i64, .str, .int .i64, .int .u64]
structure TR where
  i : Int
  css : Rows4
structure TInv (acts : List (List Value)) (s : TR) : Prop where
  i0 : 0 ≤ s.i
  i1 : s.i ≤ acts.length
  i2 : s.i ≤ 40
  one : ∀ x ∈ s.css, x.length = 1
  row : ∀ x ∈ s.css, ∀ l ∈ x, (l.length : Int) ≤ s.i ∧ (l.length = 0 ∨ 0 ≤ lastT l)
def ttSpec (acts : List (List Value)) : LoopSpec where
  S := TR
  regs := fun s => [(9, K s.i)]
  keep := [1]
  heap := fun _ => [(5, .cells 56 [.row 1000001]), (7, .cells 58 [.row 1000003])]
  news := fun s => [.fam KF s.css none, .rr 38 1000000, .fam KF s.css none, .rr 38 1000002]
  inv := TInv acts
  mu := fun s => (acts.length - s.i).toNat
def ttNil : LoopSpec where
  S := Int
  regs := fun k => [(9, K k)]
  keep := [1]
  heap := fun _ => []
  inv := fun k => k = 0
  mu := fun _ => 0
def ttK : LoopSpec where
  S := Int
  regs := fun k => [(11, I k)]
  keep := [1, 5, 7]
  heap := fun _ => []
  inv := fun k => -1 ≤ k ∧ k ≤ 10
  mu := fun k => (10 - k).toNat
def ttL (acts : List (List Value)) : LoopSpecs := fun g i => cond (Nat.beq g 3) (cond (Nat.beq i 6) (some fun st => match st.regs.getD 7 .any with
  | .ptr _ _ => ttSpec acts
  | _ => ttNil) (cond (Nat.beq i 12) (some fun _ => ttK) none)) none
set_option maxRecDepth 1000000 in
theorem tTT (x0 : Int) (x1 : List (List Value)) : (fnS Try.prog G9 (ttL x1) 400 3 [.i .i64 x0 (-9223372036854775808) 9223372036854775807, .row 0] [.ror AK x1 false] fun u _ => isYes u) =
(∀ (b3 : Bool),
  b3 = decide (x0 < (1 : Int)) →
    bif !b3 || !!b3 then
      ∀ (b5 : Bool),
        b5 = decide ((8 : Int) < x0) →
          bif bif b3 then true else true then
            bif bif b3 then true else !b3 then
              ∀ (b7 : Bool),
                (b7 = bif b3 then true else b5) →
                  bif b7 then ∀ (b9 : Bool), b9 = decide (x0 < (1 : Int)) → bif !b9 || !!b9 then ∀ (b11 : Bool), b11 = decide ((8 : Int) < x0) → bif bif b9 then true else true then bif bif b9 then true else !b9 then ∀ (b13 : Bool), (b13 = bif b9 then true else b11) → bif b13 then ∃ (s16 : Int), s16 = (0 : Int) ∧ (((0 : Int) = s16 ∧ (0 : Int) ≤ s16 ∧ s16 ≤ (9223372036854775807 : Int)) ∧ x1 = x1 ∧ True) ∧ ∀ (z16 : Int), z16 = (0 : Int) → true = true else bif decide ((0 : Int) ≤ x0) && (decide (x0 = x0) && decide (x0 * (24 : Int) ≤ (140737488355328 : Int))) then false = true else False else False else False else False
                  else
                    bif decide ((0 : Int) ≤ x0) && (decide (x0 = x0) && decide (x0 * (24 : Int) ≤ (140737488355328 : Int))) then
                      ∀ (b9 : Bool),
                        b9 = decide (x0 < (1 : Int)) →
                          bif !b9 || !!b9 then
                            ∀ (b11 : Bool),
                              b11 = decide ((8 : Int) < x0) →
                                bif bif b9 then true else true then
                                  bif bif b9 then true else !b9 then
                                    ∀ (b13 : Bool),
                                      (b13 = bif b9 then true else b11) →
                                        bif b13 then false = true
                                        else
                                          bif decide ((0 : Int) ≤ x0) && (decide (x0 = x0) && decide (x0 * (24 : Int) ≤ (140737488355328 : Int))) then
                                            ∃ (s16 : TR),
                                              TInv x1 s16 ∧
                                                (((0 : Int) = s16.i ∧ (0 : Int) ≤ s16.i ∧ s16.i ≤ (9223372036854775807 : Int)) ∧ (True ∧ True) ∧ (True ∧ True) ∧ x1 = x1 ∧ List.replicate x0.toNat [[]] = s16.css ∧ True ∧ List.replicate x0.toNat [[]] = s16.css ∧ True ∧ True) ∧
                                                  ∀ (z16 : TR),
                                                    TInv x1 z16 →
                                                      ∀ (z18 : Int),
                                                        z18 = (↑x1.length : Int) →
                                                          ∀ (b20 : Bool),
                                                            b20 = decide (z16.i < z18) →
                                                              ∀ (b22 : Bool),
                                                                b22 = b20 →
                                                                  bif b22 || !b22 then
                                                                    ∀ (b24 : Bool),
                                                                      b24 = decide (z16.i < (40 : Int)) →
                                                                        bif bif b22 then b22 else true then
                                                                          bif bif b22 then true else true then
                                                                            ∀ (b26 : Bool),
                                                                              (b26 = bif b22 then b24 else false) →
                                                                                bif b26 then
                                                                                  bif decide ((0 : Int) ≤ z16.i) && decide (z16.i < (↑x1.length : Int)) then
                                                                                    ∀ (z28 : Int),
                                                                                      z28 = geti (x1.getD z16.i.toNat []) (0 : Nat) →
                                                                                        ∀ (z30 : Int),
                                                                                          z30 = z28 % (10 : Int) →
                                                                                            ∀ (z32 : Int),
                                                                                              z32 = z30 →
                                                                                                ∀ (z34 : Int),
                                                                                                  z34 = z32 - (1 : Int) →
                                                                                                    bif decide ((0 : Int) ≤ z16.i) && decide (z16.i < (↑x1.length : Int)) then
                                                                                                      ∀ (z36 : Int),
                                                                                                        z36 = geti (x1.getD z16.i.toNat []) (1 : Nat) →
                                                                                                          ∀ (z38 : Int),
                                                                                                            z38 = geti (x1.getD z16.i.toNat []) (2 : Nat) →
                                                                                                              ∀ (z40 : ByteArray),
                                                                                                                z40 = gets (x1.getD z16.i.toNat []) (3 : Nat) →
                                                                                                                  ∀ (z42 : Int),
                                                                                                                    z42 = geti (x1.getD z16.i.toNat []) (4 : Nat) →
                                                                                                                      ∀ (z44 : Int),
                                                                                                                        z44 = geti (x1.getD z16.i.toNat []) (5 : Nat) →
                                                                                                                          bif decide ((rowK z16.css z34).length ≤ (1000000 : Nat)) then
                                                                                                                            ∀ (z46 : Int),
                                                                                                                              z46 = addC (tickT (rowK z16.css z34) z38) z16.css z34 z36 z40 z42 z44 →
                                                                                                                                bif decide ((0 : Int) ≤ z16.i) && decide (z16.i < (↑x1.length : Int)) then
                                                                                                                                  ∀ (z48 : Int),
                                                                                                                                    z48 = geti (x1.getD z16.i.toNat []) (1 : Nat) →
                                                                                                                                      ∀ (z50 : Int),
                                                                                                                                        z50 = geti (x1.getD z16.i.toNat []) (2 : Nat) →
                                                                                                                                          ∀ (z52 : ByteArray),
                                                                                                                                            z52 = gets (x1.getD z16.i.toNat []) (3 : Nat) →
                                                                                                                                              ∀ (z54 : Int),
                                                                                                                                                z54 = geti (x1.getD z16.i.toNat []) (4 : Nat) →
                                                                                                                                                  ∀ (z56 : Int),
                                                                                                                                                    z56 = geti (x1.getD z16.i.toNat []) (5 : Nat) →
                                                                                                                                                      bif decide ((rowK z16.css z34).length ≤ (1000000 : Nat)) then
                                                                                                                                                        ∀ (z58 : Int),
                                                                                                                                                          z58 = addC (tickB (rowK z16.css z34) z50) z16.css z34 z48 z52 z54 z56 →
                                                                                                                                                            ∀ (b60 : Bool),
                                                                                                                                                              b60 = !decide (z46 = z58) →
                                                                                                                                                                bif b60 then false = true
                                                                                                                                                                else
                                                                                                                                                                  ∃ (s63 : Int),
                                                                                                                                                                    ((-1 : Int) ≤ s63 ∧ s63 ≤ (10 : Int)) ∧
                                                                                                                                                                      (((-1 : Int) = s63 ∧ (-9223372036854775808 : Int) ≤ s63 ∧ s63 ≤ (9223372036854775807 : Int)) ∧ x1 = x1 ∧ (True ∧ True) ∧ (True ∧ True) ∧ True ∧ True ∧ addS (addC (tickT (rowK z16.css z34) z38) z16.css z34 z36 z40 z42 z44) z16.css z34 (sawV z36 z38 z40 z42 z44) = addS (addC (tickT (rowK z16.css z34) z38) z16.css z34 z36 z40 z42 z44) z16.css z34 (sawV z36 z38 z40 z42 z44) ∧ addS (addC (tickB (rowK z16.css z34) z50) z16.css z34 z48 z52 z54 z56) z16.css z34 (sawV z48 z50 z52 z54 z56) = addS (addC (tickB (rowK z16.css z34) z50) z16.css z34 z48 z52 z54 z56) z16.css z34 (sawV z48 z50 z52 z54 z56) ∧ True) ∧
                                                                                                                                                                        ∀ (z63 : Int),
                                                                                                                                                                          (-1 : Int) ≤ z63 ∧ z63 ≤ (10 : Int) →
                                                                                                                                                                            ∀ (b65 : Bool),
                                                                                                                                                                              b65 = decide (z63 < (10 : Int)) →
                                                                                                                                                                                bif b65 then
                                                                                                                                                                                  ∀ (b67 : Bool),
                                                                                                                                                                                    b67 = decide (z63 < (0 : Int)) →
                                                                                                                                                                                      ∀ (b69 : Bool),
                                                                                                                                                                                        b69 = b67 →
                                                                                                                                                                                          bif !b69 || !!b69 then
                                                                                                                                                                                            bif !b69 || !!b69 then
                                                                                                                                                                                              bif !b69 || !!b69 then
                                                                                                                                                                                                bif !b69 || !!b69 then
                                                                                                                                                                                                  ∀ (z71 : Int),
                                                                                                                                                                                                    z71 = (↑(List.length (addS (addC (tickT (rowK z16.css z34) z38) z16.css z34 z36 z40 z42 z44) z16.css z34 (sawV z36 z38 z40 z42 z44))) : Int) →
                                                                                                                                                                                                      bif !b69 || !!b69 then
                                                                                                                                                                                                        bif !b69 || !!b69 then
                                                                                                                                                                                                          ∀ (b73 : Bool),
                                                                                                                                                                                                            b73 = decide (z71 ≤ z63) →
                                                                                                                                                                                                              bif bif b69 then true else true then
                                                                                                                                                                                                                bif bif b69 then true else !b69 then
                                                                                                                                                                                                                  ∀ (b75 : Bool),
                                                                                                                                                                                                                    (b75 = bif b69 then true else b73) →
                                                                                                                                                                                                                      bif b75 then
                                                                                                                                                                                                                        ∀ (b77 : Bool),
                                                                                                                                                                                                                          b77 = decide (z63 < (0 : Int)) →
                                                                                                                                                                                                                            bif !b77 || !!b77 then
                                                                                                                                                                                                                              bif !b77 || !!b77 then
                                                                                                                                                                                                                                bif !b77 || !!b77 then
                                                                                                                                                                                                                                  bif !b77 || !!b77 then
                                                                                                                                                                                                                                    ∀ (z79 : Int),
                                                                                                                                                                                                                                      z79 = (↑(List.length (addS (addC (tickB (rowK z16.css z34) z50) z16.css z34 z48 z52 z54 z56) z16.css z34 (sawV z48 z50 z52 z54 z56))) : Int) →
                                                                                                                                                                                                                                        bif !b77 || !!b77 then
                                                                                                                                                                                                                                          bif !b77 || !!b77 then
                                                                                                                                                                                                                                            ∀ (b81 : Bool),
                                                                                                                                                                                                                                              b81 = decide (z79 ≤ z63) →
                                                                                                                                                                                                                                                bif bif b77 then true else true then
                                                                                                                                                                                                                                                  bif bif b77 then true else !b77 then
                                                                                                                                                                                                                                                    ∀ (b83 : Bool),
                                                                                                                                                                                                                                                      (b83 = bif b77 then true else b81) →
                                                                                                                                                                                                                                                        bif b83 then bif !dB (([] : List (List Value)) = []) then false = true else ∀ (z85 : Int), z85 = IntKind.i64.wrap (z63 + (1 : Int)) → ∃ (s88 : Int), ((-1 : Int) ≤ s88 ∧ s88 ≤ (10 : Int)) ∧ ((10 : Int) - s88).toNat < ((10 : Int) - z63).toNat ∧ (z85 = s88 ∧ True) ∧ x1 = x1 ∧ (True ∧ True) ∧ (True ∧ True) ∧ True ∧ True ∧ addS (addC (tickT (rowK z16.css z34) z38) z16.css z34 z36 z40 z42 z44) z16.css z34 (sawV z36 z38 z40 z42 z44) = addS (addC (tickT (rowK z16.css z34) z38) z16.css z34 z36 z40 z42 z44) z16.css z34 (sawV z36 z38 z40 z42 z44) ∧ addS (addC (tickB (rowK z16.css z34) z50) z16.css z34 z48 z52 z54 z56) z16.css z34 (sawV z48 z50 z52 z54 z56) = addS (addC (tickB (rowK z16.css z34) z50) z16.css z34 z48 z52 z54 z56) z16.css z34 (sawV z48 z50 z52 z54 z56) ∧ True
                                                                                                                                                                                                                                                        else
                                                                                                                                                                                                                                                          bif decide ((0 : Int) ≤ z63) && decide (z63 < (↑(List.length (addS (addC (tickB (rowK z16.css z34) z50) z16.css z34 z48 z52 z54 z56) z16.css z34 (sawV z48 z50 z52 z54 z56))) : Int)) then
                                                                                                                                                                                                                                                            ∀ (b85 : Bool),
                                                                                                                                                                                                                                                              b85 =
                                                                                                                                                                                                                                                                  dB
                                                                                                                                                                                                                                                                    ([] =
                                                                                                                                                                                                                                                                      List.getD ((List.getD (addS (addC (tickB (rowK z16.css z34) z50) z16.css z34 z48 z52 z54 z56) z16.css z34 (sawV z48 z50 z52 z54 z56)) z63.toNat [])) ((0 : Nat)) []) →
                                                                                                                                                                                                                                                                ∀ (b87 : Bool), b87 = !b85 → bif b87 then false = true else ∀ (z89 : Int), z89 = IntKind.i64.wrap (z63 + (1 : Int)) → ∃ (s92 : Int), ((-1 : Int) ≤ s92 ∧ s92 ≤ (10 : Int)) ∧ ((10 : Int) - s92).toNat < ((10 : Int) - z63).toNat ∧ (z89 = s92 ∧ True) ∧ x1 = x1 ∧ (True ∧ True) ∧ (True ∧ True) ∧ True ∧ True ∧ addS (addC (tickT (rowK z16.css z34) z38) z16.css z34 z36 z40 z42 z44) z16.css z34 (sawV z36 z38 z40 z42 z44) = addS (addC (tickT (rowK z16.css z34) z38) z16.css z34 z36 z40 z42 z44) z16.css z34 (sawV z36 z38 z40 z42 z44) ∧ addS (addC (tickB (rowK z16.css z34) z50) z16.css z34 z48 z52 z54 z56) z16.css z34 (sawV z48 z50 z52 z54 z56) = addS (addC (tickB (rowK z16.css z34) z50) z16.css z34 z48 z52 z54 z56) z16.css z34 (sawV z48 z50 z52 z54 z56) ∧ True
                                                                                                                                                                                                                                                          else False
                                                                                                                                                                                                                                                  else False
                                                                                                                                                                                                                                                else False
                                                                                                                                                                                                                                          else False
                                                                                                                                                                                                                                        else False
                                                                                                                                                                                                                                  else False
                                                                                                                                                                                                                                else False
                                                                                                                                                                                                                              else False
                                                                                                                                                                                                                            else False
                                                                                                                                                                                                                      else
                                                                                                                                                                                                                        bif decide ((0 : Int) ≤ z63) && decide (z63 < (↑(List.length (addS (addC (tickT (rowK z16.css z34) z38) z16.css z34 z36 z40 z42 z44) z16.css z34 (sawV z36 z38 z40 z42 z44))) : Int)) then
                                                                                                                                                                                                                          bif
                                                                                                                                                                                                                              decide
                                                                                                                                                                                                                                ((List.getD ((List.getD (addS (addC (tickT (rowK z16.css z34) z38) z16.css z34 z36 z40 z42 z44) z16.css z34 (sawV z36 z38 z40 z42 z44)) z63.toNat [])) ((0 : Nat)) []).length ≤
                                                                                                                                                                                                                                  (1000000 : Nat)) then
                                                                                                                                                                                                                            ∀ (b77 : Bool),
                                                                                                                                                                                                                              b77 = decide (z63 < (0 : Int)) →
                                                                                                                                                                                                                                bif !b77 || !!b77 then
                                                                                                                                                                                                                                  bif !b77 || !!b77 then
                                                                                                                                                                                                                                    bif !b77 || !!b77 then
                                                                                                                                                                                                                                      bif !b77 || !!b77 then
                                                                                                                                                                                                                                        ∀ (z79 : Int),
                                                                                                                                                                                                                                          z79 = (↑(List.length (addS (addC (tickB (rowK z16.css z34) z50) z16.css z34 z48 z52 z54 z56) z16.css z34 (sawV z48 z50 z52 z54 z56))) : Int) →
                                                                                                                                                                                                                                            bif !b77 || !!b77 then
                                                                                                                                                                                                                                              bif !b77 || !!b77 then
                                                                                                                                                                                                                                                ∀ (b81 : Bool),
                                                                                                                                                                                                                                                  b81 = decide (z79 ≤ z63) →
                                                                                                                                                                                                                                                    bif bif b77 then true else true then
                                                                                                                                                                                                                                                      bif bif b77 then true else !b77 then
                                                                                                                                                                                                                                                        ∀ (b83 : Bool),
                                                                                                                                                                                                                                                          (b83 = bif b77 then true else b81) →
                                                                                                                                                                                                                                                            bif b83 then
                                                                                                                                                                                                                                                              ∀ (b85 : Bool),
                                                                                                                                                                                                                                                                b85 =
                                                                                                                                                                                                                                                                    dB
                                                                                                                                                                                                                                                                      ((List.getD ((List.getD (addS (addC (tickT (rowK z16.css z34) z38) z16.css z34 z36 z40 z42 z44) z16.css z34 (sawV z36 z38 z40 z42 z44)) z63.toNat [])) ((0 : Nat)) []) =
                                                                                                                                                                                                                                                                        []) →
                                                                                                                                                                                                                                                                  ∀ (b87 : Bool), b87 = !b85 → bif b87 then false = true else ∀ (z89 : Int), z89 = IntKind.i64.wrap (z63 + (1 : Int)) → ∃ (s92 : Int), ((-1 : Int) ≤ s92 ∧ s92 ≤ (10 : Int)) ∧ ((10 : Int) - s92).toNat < ((10 : Int) - z63).toNat ∧ (z89 = s92 ∧ True) ∧ x1 = x1 ∧ (True ∧ True) ∧ (True ∧ True) ∧ True ∧ True ∧ addS (addC (tickT (rowK z16.css z34) z38) z16.css z34 z36 z40 z42 z44) z16.css z34 (sawV z36 z38 z40 z42 z44) = addS (addC (tickT (rowK z16.css z34) z38) z16.css z34 z36 z40 z42 z44) z16.css z34 (sawV z36 z38 z40 z42 z44) ∧ addS (addC (tickB (rowK z16.css z34) z50) z16.css z34 z48 z52 z54 z56) z16.css z34 (sawV z48 z50 z52 z54 z56) = addS (addC (tickB (rowK z16.css z34) z50) z16.css z34 z48 z52 z54 z56) z16.css z34 (sawV z48 z50 z52 z54 z56) ∧ True
                                                                                                                                                                                                                                                            else
                                                                                                                                                                                                                                                              bif decide ((0 : Int) ≤ z63) && decide (z63 < (↑(List.length (addS (addC (tickB (rowK z16.css z34) z50) z16.css z34 z48 z52 z54 z56) z16.css z34 (sawV z48 z50 z52 z54 z56))) : Int)) then
                                                                                                                                                                                                                                                                ∀ (b85 : Bool),
                                                                                                                                                                                                                                                                  b85 =
                                                                                                                                                                                                                                                                      dB
                                                                                                                                                                                                                                                                        ((List.getD ((List.getD (addS (addC (tickT (rowK z16.css z34) z38) z16.css z34 z36 z40 z42 z44) z16.css z34 (sawV z36 z38 z40 z42 z44)) z63.toNat [])) ((0 : Nat)) []) =
                                                                                                                                                                                                                                                                          List.getD ((List.getD (addS (addC (tickB (rowK z16.css z34) z50) z16.css z34 z48 z52 z54 z56) z16.css z34 (sawV z48 z50 z52 z54 z56)) z63.toNat [])) ((0 : Nat)) []) →
                                                                                                                                                                                                                                                                    ∀ (b87 : Bool), b87 = !b85 → bif b87 then false = true else ∀ (z89 : Int), z89 = IntKind.i64.wrap (z63 + (1 : Int)) → ∃ (s92 : Int), ((-1 : Int) ≤ s92 ∧ s92 ≤ (10 : Int)) ∧ ((10 : Int) - s92).toNat < ((10 : Int) - z63).toNat ∧ (z89 = s92 ∧ True) ∧ x1 = x1 ∧ (True ∧ True) ∧ (True ∧ True) ∧ True ∧ True ∧ addS (addC (tickT (rowK z16.css z34) z38) z16.css z34 z36 z40 z42 z44) z16.css z34 (sawV z36 z38 z40 z42 z44) = addS (addC (tickT (rowK z16.css z34) z38) z16.css z34 z36 z40 z42 z44) z16.css z34 (sawV z36 z38 z40 z42 z44) ∧ addS (addC (tickB (rowK z16.css z34) z50) z16.css z34 z48 z52 z54 z56) z16.css z34 (sawV z48 z50 z52 z54 z56) = addS (addC (tickB (rowK z16.css z34) z50) z16.css z34 z48 z52 z54 z56) z16.css z34 (sawV z48 z50 z52 z54 z56) ∧ True
                                                                                                                                                                                                                                                              else False
                                                                                                                                                                                                                                                      else False
                                                                                                                                                                                                                                                    else False
                                                                                                                                                                                                                                              else False
                                                                                                                                                                                                                                            else False
                                                                                                                                                                                                                                      else False
                                                                                                                                                                                                                                    else False
                                                                                                                                                                                                                                  else False
                                                                                                                                                                                                                                else False
                                                                                                                                                                                                                          else False
                                                                                                                                                                                                                        else False
                                                                                                                                                                                                                else False
                                                                                                                                                                                                              else False
                                                                                                                                                                                                        else False
                                                                                                                                                                                                      else False
                                                                                                                                                                                                else False
                                                                                                                                                                                              else False
                                                                                                                                                                                            else False
                                                                                                                                                                                          else False
                                                                                                                                                                                else ∀ (z67 : Int), z67 = IntKind.i64.wrap (z16.i + (1 : Int)) → ∃ (s70 : TR), TInv x1 s70 ∧ ((↑x1.length : Int) - s70.i).toNat < ((↑x1.length : Int) - z16.i).toNat ∧ (z67 = s70.i ∧ (0 : Int) ≤ s70.i ∧ s70.i ≤ (9223372036854775807 : Int)) ∧ (True ∧ True) ∧ (True ∧ True) ∧ x1 = x1 ∧ addS (addC (tickT (rowK z16.css z34) z38) z16.css z34 z36 z40 z42 z44) z16.css z34 (sawV z36 z38 z40 z42 z44) = s70.css ∧ True ∧ addS (addC (tickB (rowK z16.css z34) z50) z16.css z34 z48 z52 z54 z56) z16.css z34 (sawV z48 z50 z52 z54 z56) = s70.css ∧ True ∧ True
                                                                                                                                                      else False
                                                                                                                                else False
                                                                                                                          else False
                                                                                                    else False
                                                                                  else False
                                                                                else true = true
                                                                          else False
                                                                        else False
                                                                  else False
                                          else False
                                  else False
                                else False
                          else False
                    else False
            else False
          else False
    else False) := by kernel_rfl
end Go.Proofs.Ytcbmppkejphffaa
