/- The engine's normal forms of these functions. No condition. -/
import Derived.Test.YtcbmppkejphffaaT5Ctr
namespace Go.Proofs.Ytcbmppkejphffaa
open Go.Eng
set_option maxRecDepth 1000000 in
theorem tTad (css : Rows4) (c k t : Int) (b : ByteArray) (r n : Int) : (fnS Try.prog G7 (noLoops) 200 11 [.ptr 2 0, I c, saw k t b r n] [.fam KF css none, .rr 38 0, .cells 56 [.row 1]] (fitM [.fam KF css none, .rr 38 0, .cells 56 [.row 1]] ({ need := [decide ((rowK css c).length ≤ 1000000)], val := .i .i64 (addC (tickT (rowK css c) t) css c k b r n) 0 12, heap := [(2, .cells 56 [.row 1000001])], news := [.fam KF (addS (addC (tickT (rowK css c) t) css c k b r n) css c (sawV k t b r n)) none, .rr 38 1000000] }))) =
(∀ (b8 : Bool),
  b8 = decide (c < (0 : Int)) →
    bif !b8 || !!b8 then
      bif !b8 || !!b8 then
        bif !b8 || !!b8 then
          bif !b8 || !!b8 then
            ∀ (z10 : Int),
              z10 = (↑(List.length css) : Int) →
                bif !b8 || !!b8 then
                  bif !b8 || !!b8 then
                    ∀ (b12 : Bool),
                      b12 = decide (z10 ≤ c) →
                        bif bif b8 then true else true then
                          bif bif b8 then true else !b8 then
                            ∀ (b14 : Bool),
                              (b14 = bif b8 then true else b12) →
                                bif b14 then ((12 : Int) = addC (tickT (rowK css c) t) css c k b r n ∧ (0 : Int) ≤ addC (tickT (rowK css c) t) css c k b r n ∧ addC (tickT (rowK css c) t) css c k b r n ≤ (12 : Int)) ∧ (True ∧ True) ∧ css = addS (addC (tickT (rowK css c) t) css c k b r n) css c (sawV k t b r n) ∧ True ∧ True
                                else
                                  bif decide ((0 : Int) ≤ c) && decide (c < (↑(List.length css) : Int)) then
                                    ∀ (z16 : Int),
                                      z16 =
                                          (↑(List.getD ((List.getD css c.toNat [])) ((0 : Nat)) []).length :
                                            Int) →
                                        ∀ (b18 : Bool),
                                          b18 = decide ((0 : Int) < z16) →
                                            bif b18 then
                                              bif decide ((0 : Int) ≤ c) && decide (c < (↑(List.length css) : Int)) then
                                                ∀ (z20 : Int),
                                                  z20 = z16 - (1 : Int) →
                                                    bif
                                                        decide ((0 : Int) ≤ z20) &&
                                                          decide
                                                            (z20 <
                                                              (↑(List.getD ((List.getD css c.toNat [])) ((0 : Nat)) []).length :
                                                                Int)) then
                                                      ∀ (z22 : Int),
                                                        z22 = geti (((List.getD css c.toNat []).getD (0 : Nat) []).getD z20.toNat []) (1 : Nat) →
                                                          ∀ (b24 : Bool),
                                                            b24 = decide (t < z22) →
                                                              bif !b24 || !!b24 then
                                                                ∀ (b26 : Bool),
                                                                  b26 = mayB k b r n →
                                                                    bif !b24 || !!b24 then
                                                                      ∀ (b28 : Bool),
                                                                        b28 = !b26 →
                                                                          bif bif b24 then true else true then
                                                                            bif bif b24 then true else !b24 then
                                                                              ∀ (b30 : Bool),
                                                                                (b30 = bif b24 then true else b28) →
                                                                                  bif b30 then ((2 : Int) = addC (tickT (rowK css c) t) css c k b r n ∧ (0 : Int) ≤ addC (tickT (rowK css c) t) css c k b r n ∧ addC (tickT (rowK css c) t) css c k b r n ≤ (12 : Int)) ∧ (True ∧ True) ∧ css = addS (addC (tickT (rowK css c) t) css c k b r n) css c (sawV k t b r n) ∧ True ∧ True
                                                                                  else
                                                                                    bif decide ((0 : Int) ≤ c) && decide (c < (↑(List.length css) : Int)) then
                                                                                      bif
                                                                                          decide
                                                                                            (lenI
                                                                                                (List.getD ((List.getD css c.toNat [])) ((0 : Nat)) []) ≤
                                                                                              (1466015503701 : Int)) then
                                                                                        bif decide ((0 : Int) ≤ c) && decide (c < (↑(List.length css) : Int)) then
                                                                                          bif decide (c.toNat * (1 : Nat) + (0 : Nat) = c.toNat * (1 : Nat) + (0 : Nat)) then
                                                                                            ((0 : Int) = addC (tickT (rowK css c) t) css c k b r n ∧ (0 : Int) ≤ addC (tickT (rowK css c) t) css c k b r n ∧ addC (tickT (rowK css c) t) css c k b r n ≤ (12 : Int)) ∧
                                                                                              (True ∧ True) ∧
                                                                                                List.set css c.toNat
                                                                                                      (List.take (0 : Nat)
                                                                                                            (List.getD (css) (c.toNat) []) ++
                                                                                                          [(List.getD ((List.getD css c.toNat [])) ((0 : Nat)) []) ++
                                                                                                              [[Value.int IntKind.i64 k, Value.int IntKind.i64 t, Value.string b, Value.int IntKind.i64 r, Value.int IntKind.u64 n]]] ++
                                                                                                        List.drop
                                                                                                          ((0 : Nat) +
                                                                                                            [(List.getD ((List.getD css c.toNat [])) ((0 : Nat)) []) ++
                                                                                                                  [[Value.int IntKind.i64 k, Value.int IntKind.i64 t, Value.string b, Value.int IntKind.i64 r, Value.int IntKind.u64 n]]].length)
                                                                                                          (List.getD (css) (c.toNat) [])) =
                                                                                                    addS (addC (tickT (rowK css c) t) css c k b r n) css c (sawV k t b r n) ∧
                                                                                                  True ∧ True
                                                                                          else False
                                                                                        else False
                                                                                      else False
                                                                                    else False
                                                                            else False
                                                                          else False
                                                                    else False
                                                              else False
                                                    else False
                                              else False
                                            else
                                              ∀ (b20 : Bool),
                                                b20 = decide (t < (0 : Int)) →
                                                  bif !b20 || !!b20 then
                                                    ∀ (b22 : Bool),
                                                      b22 = mayB k b r n →
                                                        bif !b20 || !!b20 then
                                                          ∀ (b24 : Bool),
                                                            b24 = !b22 →
                                                              bif bif b20 then true else true then
                                                                bif bif b20 then true else !b20 then
                                                                  ∀ (b26 : Bool),
                                                                    (b26 = bif b20 then true else b24) →
                                                                      bif b26 then ((2 : Int) = addC (tickT (rowK css c) t) css c k b r n ∧ (0 : Int) ≤ addC (tickT (rowK css c) t) css c k b r n ∧ addC (tickT (rowK css c) t) css c k b r n ≤ (12 : Int)) ∧ (True ∧ True) ∧ css = addS (addC (tickT (rowK css c) t) css c k b r n) css c (sawV k t b r n) ∧ True ∧ True
                                                                      else
                                                                        bif decide ((0 : Int) ≤ c) && decide (c < (↑(List.length css) : Int)) then
                                                                          bif
                                                                              decide
                                                                                (lenI
                                                                                    (List.getD ((List.getD css c.toNat [])) ((0 : Nat)) []) ≤
                                                                                  (1466015503701 : Int)) then
                                                                            bif decide ((0 : Int) ≤ c) && decide (c < (↑(List.length css) : Int)) then
                                                                              bif decide (c.toNat * (1 : Nat) + (0 : Nat) = c.toNat * (1 : Nat) + (0 : Nat)) then
                                                                                ((0 : Int) = addC (tickT (rowK css c) t) css c k b r n ∧ (0 : Int) ≤ addC (tickT (rowK css c) t) css c k b r n ∧ addC (tickT (rowK css c) t) css c k b r n ≤ (12 : Int)) ∧
                                                                                  (True ∧ True) ∧
                                                                                    List.set css c.toNat
                                                                                          (List.take (0 : Nat)
                                                                                                (List.getD (css) (c.toNat) []) ++
                                                                                              [(List.getD ((List.getD css c.toNat [])) ((0 : Nat)) []) ++
                                                                                                  [[Value.int IntKind.i64 k, Value.int IntKind.i64 t, Value.string b, Value.int IntKind.i64 r, Value.int IntKind.u64 n]]] ++
                                                                                            List.drop
                                                                                              ((0 : Nat) +
                                                                                                [(List.getD ((List.getD css c.toNat [])) ((0 : Nat)) []) ++
                                                                                                      [[Value.int IntKind.i64 k, Value.int IntKind.i64 t, Value.string b, Value.int IntKind.i64 r, Value.int IntKind.u64 n]]].length)
                                                                                              (List.getD (css) (c.toNat) [])) =
                                                                                        addS (addC (tickT (rowK css c) t) css c k b r n) css c (sawV k t b r n) ∧
                                                                                      True ∧ True
                                                                              else False
                                                                            else False
                                                                          else False
                                                                        else False
                                                                else False
                                                              else False
                                                        else False
                                                  else False
                                  else False
                          else False
                        else False
                  else False
                else False
          else False
        else False
      else False
    else False) := by kernel_rfl
set_option maxRecDepth 1000000 in
theorem tTar (css : Rows4) (c k t : Int) (b : ByteArray) (r n : Int) : (fnS Try.prog G8 (noLoops) 200 12 [.ptr 2 0, I c, saw k t b r n] [.fam KF css none, .rr 38 0, .cells 58 [.row 1]] (fitM [.fam KF css none, .rr 38 0, .cells 58 [.row 1]] ({ need := [decide ((rowK css c).length ≤ 1000000)], val := .i .i64 (addC (tickB (rowK css c) t) css c k b r n) 0 12, heap := [(2, .cells 58 [.row 1000001])], news := [.fam KF (addS (addC (tickB (rowK css c) t) css c k b r n) css c (sawV k t b r n)) none, .rr 38 1000000] }))) =
(∀ (b8 : Bool),
  b8 = decide (c < (0 : Int)) →
    bif !b8 || !!b8 then
      bif !b8 || !!b8 then
        bif !b8 || !!b8 then
          bif !b8 || !!b8 then
            ∀ (z10 : Int),
              z10 = (↑(List.length css) : Int) →
                bif !b8 || !!b8 then
                  bif !b8 || !!b8 then
                    ∀ (b12 : Bool),
                      b12 = decide (z10 ≤ c) →
                        bif bif b8 then true else true then
                          bif bif b8 then true else !b8 then
                            ∀ (b14 : Bool),
                              (b14 = bif b8 then true else b12) →
                                bif b14 then ((12 : Int) = addC (tickB (rowK css c) t) css c k b r n ∧ (0 : Int) ≤ addC (tickB (rowK css c) t) css c k b r n ∧ addC (tickB (rowK css c) t) css c k b r n ≤ (12 : Int)) ∧ (True ∧ True) ∧ css = addS (addC (tickB (rowK css c) t) css c k b r n) css c (sawV k t b r n) ∧ True ∧ True
                                else
                                  bif decide ((0 : Int) ≤ c) && decide (c < (↑(List.length css) : Int)) then
                                    ∀ (b16 : Bool),
                                      b16 =
                                          (tickB
                                              (List.getD ((List.getD css c.toNat [])) ((0 : Nat)) [])
                                              t &&
                                            mayB k b r n) →
                                        ∀ (b18 : Bool),
                                          b18 = !b16 →
                                            bif b18 then ((2 : Int) = addC (tickB (rowK css c) t) css c k b r n ∧ (0 : Int) ≤ addC (tickB (rowK css c) t) css c k b r n ∧ addC (tickB (rowK css c) t) css c k b r n ≤ (12 : Int)) ∧ (True ∧ True) ∧ css = addS (addC (tickB (rowK css c) t) css c k b r n) css c (sawV k t b r n) ∧ True ∧ True
                                            else
                                              bif decide ((0 : Int) ≤ c) && decide (c < (↑(List.length css) : Int)) then
                                                bif
                                                    decide
                                                      (lenI
                                                          (List.getD ((List.getD css c.toNat [])) ((0 : Nat)) []) ≤
                                                        (1466015503701 : Int)) then
                                                  bif decide ((0 : Int) ≤ c) && decide (c < (↑(List.length css) : Int)) then
                                                    bif decide (c.toNat * (1 : Nat) + (0 : Nat) = c.toNat * (1 : Nat) + (0 : Nat)) then
                                                      ((0 : Int) = addC (tickB (rowK css c) t) css c k b r n ∧ (0 : Int) ≤ addC (tickB (rowK css c) t) css c k b r n ∧ addC (tickB (rowK css c) t) css c k b r n ≤ (12 : Int)) ∧
                                                        (True ∧ True) ∧
                                                          List.set css c.toNat
                                                                (List.take (0 : Nat)
                                                                      (List.getD (css) (c.toNat) []) ++
                                                                    [(List.getD ((List.getD css c.toNat [])) ((0 : Nat)) []) ++
                                                                        [[Value.int IntKind.i64 k, Value.int IntKind.i64 t, Value.string b, Value.int IntKind.i64 r, Value.int IntKind.u64 n]]] ++
                                                                  List.drop
                                                                    ((0 : Nat) +
                                                                      [(List.getD ((List.getD css c.toNat [])) ((0 : Nat)) []) ++
                                                                            [[Value.int IntKind.i64 k, Value.int IntKind.i64 t, Value.string b, Value.int IntKind.i64 r, Value.int IntKind.u64 n]]].length)
                                                                    (List.getD (css) (c.toNat) [])) =
                                                              addS (addC (tickB (rowK css c) t) css c k b r n) css c (sawV k t b r n) ∧
                                                            True ∧ True
                                                    else False
                                                  else False
                                                else False
                                              else False
                                  else False
                          else False
                        else False
                  else False
                else False
          else False
        else False
      else False
    else False) := by kernel_rfl
set_option maxRecDepth 1000000 in
theorem tTof (css : Rows4) (c : Int) : (fnS Try.prog G9 (noLoops) 200 14 [.ptr 2 0, I c] [.fam KF css none, .rr 38 0, .cells 56 [.row 1]] (fitM [.fam KF css none, .rr 38 0, .cells 56 [.row 1]] ({ need := [decide ((rowK css c).length ≤ 1000000)], val := .row 1000000, heap := [(0, .fam KF css none), (1, .rr 38 0), (2, .cells 56 [.row 1])], news := [.row 33 SW (rowO css c)] }))) =
(∀ (b3 : Bool),
  b3 = decide (c < (0 : Int)) →
    ∀ (b5 : Bool),
      b5 = b3 →
        bif !b5 || !!b5 then
          bif !b5 || !!b5 then
            bif !b5 || !!b5 then
              bif !b5 || !!b5 then
                ∀ (z7 : Int),
                  z7 = (↑(List.length css) : Int) →
                    bif !b5 || !!b5 then
                      bif !b5 || !!b5 then
                        ∀ (b9 : Bool),
                          b9 = decide (z7 ≤ c) →
                            bif bif b5 then true else true then
                              bif bif b5 then true else !b5 then
                                ∀ (b11 : Bool),
                                  (b11 = bif b5 then true else b9) →
                                    bif b11 then True ∧ css = css ∧ True ∧ (True ∧ True) ∧ [] = rowO css c ∧ True
                                    else
                                      bif decide ((0 : Int) ≤ c) && decide (c < (↑(List.length css) : Int)) then
                                        bif
                                            decide
                                              ((List.getD ((List.getD css c.toNat [])) ((0 : Nat)) []).length ≤
                                                (1000000 : Nat)) then
                                          True ∧
                                            css = css ∧
                                              True ∧
                                                (True ∧ True) ∧
                                                  (List.getD ((List.getD css c.toNat [])) ((0 : Nat)) []) =
                                                      rowO css c ∧
                                                    True
                                        else False
                                      else False
                              else False
                            else False
                      else False
                    else False
              else False
            else False
          else False
        else False) := by kernel_rfl
end Go.Proofs.Ytcbmppkejphffaa
