/- The engine's normal forms for chapter 3's laws. No condition. -/
import Derived.Test.YtpafjmedjlcgcaaCtr
namespace Go.Proofs.Ytpafjmedjlcgcaa
open Go.Eng
theorem t4 (x0 x1 t0 t1 d : Int) (R : SV → Prop) : (fnS Try.prog G3 noLoops 100 4 [.agg [.v (.int .u8 x0), .v (.int .u8 x1)], .agg [.v (.int .i8 t0), .v (.int .i8 t1)], .v (.int .i8 d)] [] fun v _ => R v) =
(bif
    waitB ((IntKind.i64.wrap x0).tmod (90 : Int)) (IntKind.i64.wrap ((IntKind.i64.wrap x0).tmod (90 : Int) + (IntKind.i64.wrap x1).tmod (90 : Int)))
      (IntKind.i64.wrap (if t1 > t0 then t1 else t0)) then
  bif
      !waitB ((IntKind.i64.wrap x0).tmod (90 : Int)) (IntKind.i64.wrap ((IntKind.i64.wrap x0).tmod (90 : Int) + (IntKind.i64.wrap x1).tmod (90 : Int)))
          (IntKind.i64.wrap (if t1 < t0 then t1 else t0)) then
    R (SV.v (Value.bool false))
  else
    bif
        waitB ((IntKind.i64.wrap x0).tmod (90 : Int)) (IntKind.i64.wrap ((IntKind.i64.wrap x0).tmod (90 : Int) + (IntKind.i64.wrap x1).tmod (90 : Int)))
          (IntKind.i64.wrap (if t1 < t0 then t1 else t0)) then
      bif
          !hasB ((IntKind.i64.wrap x0).tmod (90 : Int)) (IntKind.i64.wrap ((IntKind.i64.wrap x0).tmod (90 : Int) + (IntKind.i64.wrap x1).tmod (90 : Int)))
              (waitN ((IntKind.i64.wrap x0).tmod (90 : Int)) (IntKind.i64.wrap ((IntKind.i64.wrap x0).tmod (90 : Int) + (IntKind.i64.wrap x1).tmod (90 : Int)))
                (IntKind.i64.wrap (if t1 < t0 then t1 else t0))) then
        R (SV.v (Value.bool false))
      else
        bif
            decide
              (waitN ((IntKind.i64.wrap x0).tmod (90 : Int)) (IntKind.i64.wrap ((IntKind.i64.wrap x0).tmod (90 : Int) + (IntKind.i64.wrap x1).tmod (90 : Int)))
                  (IntKind.i64.wrap (if t1 < t0 then t1 else t0)) <
                IntKind.i64.wrap (if t1 < t0 then t1 else t0)) then
          R (SV.v (Value.bool false))
        else
          bif
              decide
                (waitN ((IntKind.i64.wrap x0).tmod (90 : Int)) (IntKind.i64.wrap ((IntKind.i64.wrap x0).tmod (90 : Int) + (IntKind.i64.wrap x1).tmod (90 : Int)))
                    (IntKind.i64.wrap (if t1 < t0 then t1 else t0)) >
                  IntKind.i64.wrap (if t1 < t0 then t1 else t0)) then
            bif
                hasB ((IntKind.i64.wrap x0).tmod (90 : Int)) (IntKind.i64.wrap ((IntKind.i64.wrap x0).tmod (90 : Int) + (IntKind.i64.wrap x1).tmod (90 : Int)))
                  (IntKind.i64.wrap
                    (waitN ((IntKind.i64.wrap x0).tmod (90 : Int)) (IntKind.i64.wrap ((IntKind.i64.wrap x0).tmod (90 : Int) + (IntKind.i64.wrap x1).tmod (90 : Int)))
                        (IntKind.i64.wrap (if t1 < t0 then t1 else t0)) -
                      (1 : Int))) then
              bif
                  decide
                    (IntKind.i64.wrap
                        (waitN ((IntKind.i64.wrap x0).tmod (90 : Int)) (IntKind.i64.wrap ((IntKind.i64.wrap x0).tmod (90 : Int) + (IntKind.i64.wrap x1).tmod (90 : Int)))
                            (IntKind.i64.wrap (if t1 < t0 then t1 else t0)) -
                          (1 : Int)) ≥
                      IntKind.i64.wrap (if t1 < t0 then t1 else t0)) then
                R (SV.v (Value.bool false))
              else
                bif
                    !waitB ((IntKind.i64.wrap x0).tmod (90 : Int)) (IntKind.i64.wrap ((IntKind.i64.wrap x0).tmod (90 : Int) + (IntKind.i64.wrap x1).tmod (90 : Int)))
                          (IntKind.i64.wrap (if t1 < t0 then t1 else t0)) ==
                        decide (IntKind.i64.wrap (if t1 < t0 then t1 else t0) ≤ IntKind.i64.wrap ((IntKind.i64.wrap x0).tmod (90 : Int) + (IntKind.i64.wrap x1).tmod (90 : Int))) then
                  R (SV.v (Value.bool false))
                else
                  bif
                      waitB ((IntKind.i64.wrap x0).tmod (90 : Int)) (IntKind.i64.wrap ((IntKind.i64.wrap x0).tmod (90 : Int) + (IntKind.i64.wrap x1).tmod (90 : Int)))
                        (IntKind.i64.wrap (if t1 > t0 then t1 else t0)) then
                    bif
                        decide
                          (waitN ((IntKind.i64.wrap x0).tmod (90 : Int)) (IntKind.i64.wrap ((IntKind.i64.wrap x0).tmod (90 : Int) + (IntKind.i64.wrap x1).tmod (90 : Int)))
                              (IntKind.i64.wrap (if t1 > t0 then t1 else t0)) <
                            waitN ((IntKind.i64.wrap x0).tmod (90 : Int)) (IntKind.i64.wrap ((IntKind.i64.wrap x0).tmod (90 : Int) + (IntKind.i64.wrap x1).tmod (90 : Int)))
                              (IntKind.i64.wrap (if t1 < t0 then t1 else t0))) then
                      R (SV.v (Value.bool false))
                    else
                      bif
                          !shiftB ((IntKind.i64.wrap x0).tmod (90 : Int)) (IntKind.i64.wrap ((IntKind.i64.wrap x0).tmod (90 : Int) + (IntKind.i64.wrap x1).tmod (90 : Int))) (IntKind.i64.wrap d) ==
                              decide (IntKind.i64.wrap ((IntKind.i64.wrap x0).tmod (90 : Int) + IntKind.i64.wrap d) ≥ (0 : Int)) then
                        R (SV.v (Value.bool false))
                      else
                        bif !shiftB ((IntKind.i64.wrap x0).tmod (90 : Int)) (IntKind.i64.wrap ((IntKind.i64.wrap x0).tmod (90 : Int) + (IntKind.i64.wrap x1).tmod (90 : Int))) (IntKind.i64.wrap d) then
                          R (SV.v (Value.bool true))
                        else
                          bif
                              shiftB
                                (shiftE ((IntKind.i64.wrap x0).tmod (90 : Int)) (IntKind.i64.wrap ((IntKind.i64.wrap x0).tmod (90 : Int) + (IntKind.i64.wrap x1).tmod (90 : Int))) (IntKind.i64.wrap d))
                                (shiftL ((IntKind.i64.wrap x0).tmod (90 : Int)) (IntKind.i64.wrap ((IntKind.i64.wrap x0).tmod (90 : Int) + (IntKind.i64.wrap x1).tmod (90 : Int))) (IntKind.i64.wrap d))
                                (IntKind.i64.wrap ((0 : Int) - IntKind.i64.wrap d)) then
                            bif
                                shiftE
                                      (shiftE ((IntKind.i64.wrap x0).tmod (90 : Int)) (IntKind.i64.wrap ((IntKind.i64.wrap x0).tmod (90 : Int) + (IntKind.i64.wrap x1).tmod (90 : Int)))
                                        (IntKind.i64.wrap d))
                                      (shiftL ((IntKind.i64.wrap x0).tmod (90 : Int)) (IntKind.i64.wrap ((IntKind.i64.wrap x0).tmod (90 : Int) + (IntKind.i64.wrap x1).tmod (90 : Int)))
                                        (IntKind.i64.wrap d))
                                      (IntKind.i64.wrap ((0 : Int) - IntKind.i64.wrap d)) ==
                                    (IntKind.i64.wrap x0).tmod (90 : Int) &&
                                  shiftL
                                      (shiftE ((IntKind.i64.wrap x0).tmod (90 : Int)) (IntKind.i64.wrap ((IntKind.i64.wrap x0).tmod (90 : Int) + (IntKind.i64.wrap x1).tmod (90 : Int)))
                                        (IntKind.i64.wrap d))
                                      (shiftL ((IntKind.i64.wrap x0).tmod (90 : Int)) (IntKind.i64.wrap ((IntKind.i64.wrap x0).tmod (90 : Int) + (IntKind.i64.wrap x1).tmod (90 : Int)))
                                        (IntKind.i64.wrap d))
                                      (IntKind.i64.wrap ((0 : Int) - IntKind.i64.wrap d)) ==
                                    IntKind.i64.wrap ((IntKind.i64.wrap x0).tmod (90 : Int) + (IntKind.i64.wrap x1).tmod (90 : Int)) then
                              bif
                                  waitB
                                      (shiftE ((IntKind.i64.wrap x0).tmod (90 : Int)) (IntKind.i64.wrap ((IntKind.i64.wrap x0).tmod (90 : Int) + (IntKind.i64.wrap x1).tmod (90 : Int)))
                                        (IntKind.i64.wrap d))
                                      (shiftL ((IntKind.i64.wrap x0).tmod (90 : Int)) (IntKind.i64.wrap ((IntKind.i64.wrap x0).tmod (90 : Int) + (IntKind.i64.wrap x1).tmod (90 : Int)))
                                        (IntKind.i64.wrap d))
                                      (IntKind.i64.wrap (IntKind.i64.wrap (if t1 < t0 then t1 else t0) + IntKind.i64.wrap d)) ==
                                    waitB ((IntKind.i64.wrap x0).tmod (90 : Int)) (IntKind.i64.wrap ((IntKind.i64.wrap x0).tmod (90 : Int) + (IntKind.i64.wrap x1).tmod (90 : Int)))
                                      (IntKind.i64.wrap (if t1 < t0 then t1 else t0)) then
                                bif
                                    !waitB ((IntKind.i64.wrap x0).tmod (90 : Int)) (IntKind.i64.wrap ((IntKind.i64.wrap x0).tmod (90 : Int) + (IntKind.i64.wrap x1).tmod (90 : Int)))
                                        (IntKind.i64.wrap (if t1 < t0 then t1 else t0)) then
                                  R (SV.v (Value.bool true))
                                else
                                  R
                                    (SV.v
                                      (Value.bool
                                        (waitN
                                            (shiftE ((IntKind.i64.wrap x0).tmod (90 : Int)) (IntKind.i64.wrap ((IntKind.i64.wrap x0).tmod (90 : Int) + (IntKind.i64.wrap x1).tmod (90 : Int)))
                                              (IntKind.i64.wrap d))
                                            (shiftL ((IntKind.i64.wrap x0).tmod (90 : Int)) (IntKind.i64.wrap ((IntKind.i64.wrap x0).tmod (90 : Int) + (IntKind.i64.wrap x1).tmod (90 : Int)))
                                              (IntKind.i64.wrap d))
                                            (IntKind.i64.wrap (IntKind.i64.wrap (if t1 < t0 then t1 else t0) + IntKind.i64.wrap d)) ==
                                          IntKind.i64.wrap
                                            (waitN ((IntKind.i64.wrap x0).tmod (90 : Int)) (IntKind.i64.wrap ((IntKind.i64.wrap x0).tmod (90 : Int) + (IntKind.i64.wrap x1).tmod (90 : Int)))
                                                (IntKind.i64.wrap (if t1 < t0 then t1 else t0)) +
                                              IntKind.i64.wrap d))))
                              else R (SV.v (Value.bool false))
                            else R (SV.v (Value.bool false))
                          else R (SV.v (Value.bool false))
                  else
                    bif
                        !shiftB ((IntKind.i64.wrap x0).tmod (90 : Int)) (IntKind.i64.wrap ((IntKind.i64.wrap x0).tmod (90 : Int) + (IntKind.i64.wrap x1).tmod (90 : Int))) (IntKind.i64.wrap d) ==
                            decide (IntKind.i64.wrap ((IntKind.i64.wrap x0).tmod (90 : Int) + IntKind.i64.wrap d) ≥ (0 : Int)) then
                      R (SV.v (Value.bool false))
                    else
                      bif !shiftB ((IntKind.i64.wrap x0).tmod (90 : Int)) (IntKind.i64.wrap ((IntKind.i64.wrap x0).tmod (90 : Int) + (IntKind.i64.wrap x1).tmod (90 : Int))) (IntKind.i64.wrap d) then
                        R (SV.v (Value.bool true))
                      else
                        bif
                            shiftB
                              (shiftE ((IntKind.i64.wrap x0).tmod (90 : Int)) (IntKind.i64.wrap ((IntKind.i64.wrap x0).tmod (90 : Int) + (IntKind.i64.wrap x1).tmod (90 : Int))) (IntKind.i64.wrap d))
                              (shiftL ((IntKind.i64.wrap x0).tmod (90 : Int)) (IntKind.i64.wrap ((IntKind.i64.wrap x0).tmod (90 : Int) + (IntKind.i64.wrap x1).tmod (90 : Int))) (IntKind.i64.wrap d))
                              (IntKind.i64.wrap ((0 : Int) - IntKind.i64.wrap d)) then
                          bif
                              shiftE
                                    (shiftE ((IntKind.i64.wrap x0).tmod (90 : Int)) (IntKind.i64.wrap ((IntKind.i64.wrap x0).tmod (90 : Int) + (IntKind.i64.wrap x1).tmod (90 : Int)))
                                      (IntKind.i64.wrap d))
                                    (shiftL ((IntKind.i64.wrap x0).tmod (90 : Int)) (IntKind.i64.wrap ((IntKind.i64.wrap x0).tmod (90 : Int) + (IntKind.i64.wrap x1).tmod (90 : Int)))
                                      (IntKind.i64.wrap d))
                                    (IntKind.i64.wrap ((0 : Int) - IntKind.i64.wrap d)) ==
                                  (IntKind.i64.wrap x0).tmod (90 : Int) &&
                                shiftL
                                    (shiftE ((IntKind.i64.wrap x0).tmod (90 : Int)) (IntKind.i64.wrap ((IntKind.i64.wrap x0).tmod (90 : Int) + (IntKind.i64.wrap x1).tmod (90 : Int)))
                                      (IntKind.i64.wrap d))
                                    (shiftL ((IntKind.i64.wrap x0).tmod (90 : Int)) (IntKind.i64.wrap ((IntKind.i64.wrap x0).tmod (90 : Int) + (IntKind.i64.wrap x1).tmod (90 : Int)))
                                      (IntKind.i64.wrap d))
                                    (IntKind.i64.wrap ((0 : Int) - IntKind.i64.wrap d)) ==
                                  IntKind.i64.wrap ((IntKind.i64.wrap x0).tmod (90 : Int) + (IntKind.i64.wrap x1).tmod (90 : Int)) then
                            bif
                                waitB
                                    (shiftE ((IntKind.i64.wrap x0).tmod (90 : Int)) (IntKind.i64.wrap ((IntKind.i64.wrap x0).tmod (90 : Int) + (IntKind.i64.wrap x1).tmod (90 : Int)))
                                      (IntKind.i64.wrap d))
                                    (shiftL ((IntKind.i64.wrap x0).tmod (90 : Int)) (IntKind.i64.wrap ((IntKind.i64.wrap x0).tmod (90 : Int) + (IntKind.i64.wrap x1).tmod (90 : Int)))
                                      (IntKind.i64.wrap d))
                                    (IntKind.i64.wrap (IntKind.i64.wrap (if t1 < t0 then t1 else t0) + IntKind.i64.wrap d)) ==
                                  waitB ((IntKind.i64.wrap x0).tmod (90 : Int)) (IntKind.i64.wrap ((IntKind.i64.wrap x0).tmod (90 : Int) + (IntKind.i64.wrap x1).tmod (90 : Int)))
                                    (IntKind.i64.wrap (if t1 < t0 then t1 else t0)) then
                              bif
                                  !waitB ((IntKind.i64.wrap x0).tmod (90 : Int)) (IntKind.i64.wrap ((IntKind.i64.wrap x0).tmod (90 : Int) + (IntKind.i64.wrap x1).tmod (90 : Int)))
                                      (IntKind.i64.wrap (if t1 < t0 then t1 else t0)) then
                                R (SV.v (Value.bool true))
                              else
                                R
                                  (SV.v
                                    (Value.bool
                                      (waitN
                                          (shiftE ((IntKind.i64.wrap x0).tmod (90 : Int)) (IntKind.i64.wrap ((IntKind.i64.wrap x0).tmod (90 : Int) + (IntKind.i64.wrap x1).tmod (90 : Int)))
                                            (IntKind.i64.wrap d))
                                          (shiftL ((IntKind.i64.wrap x0).tmod (90 : Int)) (IntKind.i64.wrap ((IntKind.i64.wrap x0).tmod (90 : Int) + (IntKind.i64.wrap x1).tmod (90 : Int)))
                                            (IntKind.i64.wrap d))
                                          (IntKind.i64.wrap (IntKind.i64.wrap (if t1 < t0 then t1 else t0) + IntKind.i64.wrap d)) ==
                                        IntKind.i64.wrap
                                          (waitN ((IntKind.i64.wrap x0).tmod (90 : Int)) (IntKind.i64.wrap ((IntKind.i64.wrap x0).tmod (90 : Int) + (IntKind.i64.wrap x1).tmod (90 : Int)))
                                              (IntKind.i64.wrap (if t1 < t0 then t1 else t0)) +
                                            IntKind.i64.wrap d))))
                            else R (SV.v (Value.bool false))
                          else R (SV.v (Value.bool false))
                        else R (SV.v (Value.bool false))
            else
              bif
                  !waitB ((IntKind.i64.wrap x0).tmod (90 : Int)) (IntKind.i64.wrap ((IntKind.i64.wrap x0).tmod (90 : Int) + (IntKind.i64.wrap x1).tmod (90 : Int)))
                        (IntKind.i64.wrap (if t1 < t0 then t1 else t0)) ==
                      decide (IntKind.i64.wrap (if t1 < t0 then t1 else t0) ≤ IntKind.i64.wrap ((IntKind.i64.wrap x0).tmod (90 : Int) + (IntKind.i64.wrap x1).tmod (90 : Int))) then
                R (SV.v (Value.bool false))
              else
                bif
                    waitB ((IntKind.i64.wrap x0).tmod (90 : Int)) (IntKind.i64.wrap ((IntKind.i64.wrap x0).tmod (90 : Int) + (IntKind.i64.wrap x1).tmod (90 : Int)))
                      (IntKind.i64.wrap (if t1 > t0 then t1 else t0)) then
                  bif
                      decide
                        (waitN ((IntKind.i64.wrap x0).tmod (90 : Int)) (IntKind.i64.wrap ((IntKind.i64.wrap x0).tmod (90 : Int) + (IntKind.i64.wrap x1).tmod (90 : Int)))
                            (IntKind.i64.wrap (if t1 > t0 then t1 else t0)) <
                          waitN ((IntKind.i64.wrap x0).tmod (90 : Int)) (IntKind.i64.wrap ((IntKind.i64.wrap x0).tmod (90 : Int) + (IntKind.i64.wrap x1).tmod (90 : Int)))
                            (IntKind.i64.wrap (if t1 < t0 then t1 else t0))) then
                    R (SV.v (Value.bool false))
                  else
                    bif
                        !shiftB ((IntKind.i64.wrap x0).tmod (90 : Int)) (IntKind.i64.wrap ((IntKind.i64.wrap x0).tmod (90 : Int) + (IntKind.i64.wrap x1).tmod (90 : Int))) (IntKind.i64.wrap d) ==
                            decide (IntKind.i64.wrap ((IntKind.i64.wrap x0).tmod (90 : Int) + IntKind.i64.wrap d) ≥ (0 : Int)) then
                      R (SV.v (Value.bool false))
                    else
                      bif !shiftB ((IntKind.i64.wrap x0).tmod (90 : Int)) (IntKind.i64.wrap ((IntKind.i64.wrap x0).tmod (90 : Int) + (IntKind.i64.wrap x1).tmod (90 : Int))) (IntKind.i64.wrap d) then
                        R (SV.v (Value.bool true))
                      else
                        bif
                            shiftB
                              (shiftE ((IntKind.i64.wrap x0).tmod (90 : Int)) (IntKind.i64.wrap ((IntKind.i64.wrap x0).tmod (90 : Int) + (IntKind.i64.wrap x1).tmod (90 : Int))) (IntKind.i64.wrap d))
                              (shiftL ((IntKind.i64.wrap x0).tmod (90 : Int)) (IntKind.i64.wrap ((IntKind.i64.wrap x0).tmod (90 : Int) + (IntKind.i64.wrap x1).tmod (90 : Int))) (IntKind.i64.wrap d))
                              (IntKind.i64.wrap ((0 : Int) - IntKind.i64.wrap d)) then
                          bif
                              shiftE
                                    (shiftE ((IntKind.i64.wrap x0).tmod (90 : Int)) (IntKind.i64.wrap ((IntKind.i64.wrap x0).tmod (90 : Int) + (IntKind.i64.wrap x1).tmod (90 : Int)))
                                      (IntKind.i64.wrap d))
                                    (shiftL ((IntKind.i64.wrap x0).tmod (90 : Int)) (IntKind.i64.wrap ((IntKind.i64.wrap x0).tmod (90 : Int) + (IntKind.i64.wrap x1).tmod (90 : Int)))
                                      (IntKind.i64.wrap d))
                                    (IntKind.i64.wrap ((0 : Int) - IntKind.i64.wrap d)) ==
                                  (IntKind.i64.wrap x0).tmod (90 : Int) &&
                                shiftL
                                    (shiftE ((IntKind.i64.wrap x0).tmod (90 : Int)) (IntKind.i64.wrap ((IntKind.i64.wrap x0).tmod (90 : Int) + (IntKind.i64.wrap x1).tmod (90 : Int)))
                                      (IntKind.i64.wrap d))
                                    (shiftL ((IntKind.i64.wrap x0).tmod (90 : Int)) (IntKind.i64.wrap ((IntKind.i64.wrap x0).tmod (90 : Int) + (IntKind.i64.wrap x1).tmod (90 : Int)))
                                      (IntKind.i64.wrap d))
                                    (IntKind.i64.wrap ((0 : Int) - IntKind.i64.wrap d)) ==
                                  IntKind.i64.wrap ((IntKind.i64.wrap x0).tmod (90 : Int) + (IntKind.i64.wrap x1).tmod (90 : Int)) then
                            bif
                                waitB
                                    (shiftE ((IntKind.i64.wrap x0).tmod (90 : Int)) (IntKind.i64.wrap ((IntKind.i64.wrap x0).tmod (90 : Int) + (IntKind.i64.wrap x1).tmod (90 : Int)))
                                      (IntKind.i64.wrap d))
                                    (shiftL ((IntKind.i64.wrap x0).tmod (90 : Int)) (IntKind.i64.wrap ((IntKind.i64.wrap x0).tmod (90 : Int) + (IntKind.i64.wrap x1).tmod (90 : Int)))
                                      (IntKind.i64.wrap d))
                                    (IntKind.i64.wrap (IntKind.i64.wrap (if t1 < t0 then t1 else t0) + IntKind.i64.wrap d)) ==
                                  waitB ((IntKind.i64.wrap x0).tmod (90 : Int)) (IntKind.i64.wrap ((IntKind.i64.wrap x0).tmod (90 : Int) + (IntKind.i64.wrap x1).tmod (90 : Int)))
                                    (IntKind.i64.wrap (if t1 < t0 then t1 else t0)) then
                              bif
                                  !waitB ((IntKind.i64.wrap x0).tmod (90 : Int)) (IntKind.i64.wrap ((IntKind.i64.wrap x0).tmod (90 : Int) + (IntKind.i64.wrap x1).tmod (90 : Int)))
                                      (IntKind.i64.wrap (if t1 < t0 then t1 else t0)) then
                                R (SV.v (Value.bool true))
                              else
                                R
                                  (SV.v
                                    (Value.bool
                                      (waitN
                                          (shiftE ((IntKind.i64.wrap x0).tmod (90 : Int)) (IntKind.i64.wrap ((IntKind.i64.wrap x0).tmod (90 : Int) + (IntKind.i64.wrap x1).tmod (90 : Int)))
                                            (IntKind.i64.wrap d))
                                          (shiftL ((IntKind.i64.wrap x0).tmod (90 : Int)) (IntKind.i64.wrap ((IntKind.i64.wrap x0).tmod (90 : Int) + (IntKind.i64.wrap x1).tmod (90 : Int)))
                                            (IntKind.i64.wrap d))
                                          (IntKind.i64.wrap (IntKind.i64.wrap (if t1 < t0 then t1 else t0) + IntKind.i64.wrap d)) ==
                                        IntKind.i64.wrap
                                          (waitN ((IntKind.i64.wrap x0).tmod (90 : Int)) (IntKind.i64.wrap ((IntKind.i64.wrap x0).tmod (90 : Int) + (IntKind.i64.wrap x1).tmod (90 : Int)))
                                              (IntKind.i64.wrap (if t1 < t0 then t1 else t0)) +
                                            IntKind.i64.wrap d))))
                            else R (SV.v (Value.bool false))
                          else R (SV.v (Value.bool false))
                        else R (SV.v (Value.bool false))
                else
                  bif
                      !shiftB ((IntKind.i64.wrap x0).tmod (90 : Int)) (IntKind.i64.wrap ((IntKind.i64.wrap x0).tmod (90 : Int) + (IntKind.i64.wrap x1).tmod (90 : Int))) (IntKind.i64.wrap d) ==
                          decide (IntKind.i64.wrap ((IntKind.i64.wrap x0).tmod (90 : Int) + IntKind.i64.wrap d) ≥ (0 : Int)) then
                    R (SV.v (Value.bool false))
                  else
                    bif !shiftB ((IntKind.i64.wrap x0).tmod (90 : Int)) (IntKind.i64.wrap ((IntKind.i64.wrap x0).tmod (90 : Int) + (IntKind.i64.wrap x1).tmod (90 : Int))) (IntKind.i64.wrap d) then
                      R (SV.v (Value.bool true))
                    else
                      bif
                          shiftB
                            (shiftE ((IntKind.i64.wrap x0).tmod (90 : Int)) (IntKind.i64.wrap ((IntKind.i64.wrap x0).tmod (90 : Int) + (IntKind.i64.wrap x1).tmod (90 : Int))) (IntKind.i64.wrap d))
                            (shiftL ((IntKind.i64.wrap x0).tmod (90 : Int)) (IntKind.i64.wrap ((IntKind.i64.wrap x0).tmod (90 : Int) + (IntKind.i64.wrap x1).tmod (90 : Int))) (IntKind.i64.wrap d))
                            (IntKind.i64.wrap ((0 : Int) - IntKind.i64.wrap d)) then
                        bif
                            shiftE
                                  (shiftE ((IntKind.i64.wrap x0).tmod (90 : Int)) (IntKind.i64.wrap ((IntKind.i64.wrap x0).tmod (90 : Int) + (IntKind.i64.wrap x1).tmod (90 : Int)))
                                    (IntKind.i64.wrap d))
                                  (shiftL ((IntKind.i64.wrap x0).tmod (90 : Int)) (IntKind.i64.wrap ((IntKind.i64.wrap x0).tmod (90 : Int) + (IntKind.i64.wrap x1).tmod (90 : Int)))
                                    (IntKind.i64.wrap d))
                                  (IntKind.i64.wrap ((0 : Int) - IntKind.i64.wrap d)) ==
                                (IntKind.i64.wrap x0).tmod (90 : Int) &&
                              shiftL
                                  (shiftE ((IntKind.i64.wrap x0).tmod (90 : Int)) (IntKind.i64.wrap ((IntKind.i64.wrap x0).tmod (90 : Int) + (IntKind.i64.wrap x1).tmod (90 : Int)))
                                    (IntKind.i64.wrap d))
                                  (shiftL ((IntKind.i64.wrap x0).tmod (90 : Int)) (IntKind.i64.wrap ((IntKind.i64.wrap x0).tmod (90 : Int) + (IntKind.i64.wrap x1).tmod (90 : Int)))
                                    (IntKind.i64.wrap d))
                                  (IntKind.i64.wrap ((0 : Int) - IntKind.i64.wrap d)) ==
                                IntKind.i64.wrap ((IntKind.i64.wrap x0).tmod (90 : Int) + (IntKind.i64.wrap x1).tmod (90 : Int)) then
                          bif
                              waitB
                                  (shiftE ((IntKind.i64.wrap x0).tmod (90 : Int)) (IntKind.i64.wrap ((IntKind.i64.wrap x0).tmod (90 : Int) + (IntKind.i64.wrap x1).tmod (90 : Int)))
                                    (IntKind.i64.wrap d))
                                  (shiftL ((IntKind.i64.wrap x0).tmod (90 : Int)) (IntKind.i64.wrap ((IntKind.i64.wrap x0).tmod (90 : Int) + (IntKind.i64.wrap x1).tmod (90 : Int)))
                                    (IntKind.i64.wrap d))
                                  (IntKind.i64.wrap (IntKind.i64.wrap (if t1 < t0 then t1 else t0) + IntKind.i64.wrap d)) ==
                                waitB ((IntKind.i64.wrap x0).tmod (90 : Int)) (IntKind.i64.wrap ((IntKind.i64.wrap x0).tmod (90 : Int) + (IntKind.i64.wrap x1).tmod (90 : Int)))
                                  (IntKind.i64.wrap (if t1 < t0 then t1 else t0)) then
                            bif
                                !waitB ((IntKind.i64.wrap x0).tmod (90 : Int)) (IntKind.i64.wrap ((IntKind.i64.wrap x0).tmod (90 : Int) + (IntKind.i64.wrap x1).tmod (90 : Int)))
                                    (IntKind.i64.wrap (if t1 < t0 then t1 else t0)) then
                              R (SV.v (Value.bool true))
                            else
                              R
                                (SV.v
                                  (Value.bool
                                    (waitN
                                        (shiftE ((IntKind.i64.wrap x0).tmod (90 : Int)) (IntKind.i64.wrap ((IntKind.i64.wrap x0).tmod (90 : Int) + (IntKind.i64.wrap x1).tmod (90 : Int)))
                                          (IntKind.i64.wrap d))
                                        (shiftL ((IntKind.i64.wrap x0).tmod (90 : Int)) (IntKind.i64.wrap ((IntKind.i64.wrap x0).tmod (90 : Int) + (IntKind.i64.wrap x1).tmod (90 : Int)))
                                          (IntKind.i64.wrap d))
                                        (IntKind.i64.wrap (IntKind.i64.wrap (if t1 < t0 then t1 else t0) + IntKind.i64.wrap d)) ==
                                      IntKind.i64.wrap
                                        (waitN ((IntKind.i64.wrap x0).tmod (90 : Int)) (IntKind.i64.wrap ((IntKind.i64.wrap x0).tmod (90 : Int) + (IntKind.i64.wrap x1).tmod (90 : Int)))
                                            (IntKind.i64.wrap (if t1 < t0 then t1 else t0)) +
                                          IntKind.i64.wrap d))))
                          else R (SV.v (Value.bool false))
                        else R (SV.v (Value.bool false))
                      else R (SV.v (Value.bool false))
          else
            bif
                !waitB ((IntKind.i64.wrap x0).tmod (90 : Int)) (IntKind.i64.wrap ((IntKind.i64.wrap x0).tmod (90 : Int) + (IntKind.i64.wrap x1).tmod (90 : Int)))
                      (IntKind.i64.wrap (if t1 < t0 then t1 else t0)) ==
                    decide (IntKind.i64.wrap (if t1 < t0 then t1 else t0) ≤ IntKind.i64.wrap ((IntKind.i64.wrap x0).tmod (90 : Int) + (IntKind.i64.wrap x1).tmod (90 : Int))) then
              R (SV.v (Value.bool false))
            else
              bif
                  waitB ((IntKind.i64.wrap x0).tmod (90 : Int)) (IntKind.i64.wrap ((IntKind.i64.wrap x0).tmod (90 : Int) + (IntKind.i64.wrap x1).tmod (90 : Int)))
                    (IntKind.i64.wrap (if t1 > t0 then t1 else t0)) then
                bif
                    decide
                      (waitN ((IntKind.i64.wrap x0).tmod (90 : Int)) (IntKind.i64.wrap ((IntKind.i64.wrap x0).tmod (90 : Int) + (IntKind.i64.wrap x1).tmod (90 : Int)))
                          (IntKind.i64.wrap (if t1 > t0 then t1 else t0)) <
                        waitN ((IntKind.i64.wrap x0).tmod (90 : Int)) (IntKind.i64.wrap ((IntKind.i64.wrap x0).tmod (90 : Int) + (IntKind.i64.wrap x1).tmod (90 : Int)))
                          (IntKind.i64.wrap (if t1 < t0 then t1 else t0))) then
                  R (SV.v (Value.bool false))
                else
                  bif
                      !shiftB ((IntKind.i64.wrap x0).tmod (90 : Int)) (IntKind.i64.wrap ((IntKind.i64.wrap x0).tmod (90 : Int) + (IntKind.i64.wrap x1).tmod (90 : Int))) (IntKind.i64.wrap d) ==
                          decide (IntKind.i64.wrap ((IntKind.i64.wrap x0).tmod (90 : Int) + IntKind.i64.wrap d) ≥ (0 : Int)) then
                    R (SV.v (Value.bool false))
                  else
                    bif !shiftB ((IntKind.i64.wrap x0).tmod (90 : Int)) (IntKind.i64.wrap ((IntKind.i64.wrap x0).tmod (90 : Int) + (IntKind.i64.wrap x1).tmod (90 : Int))) (IntKind.i64.wrap d) then
                      R (SV.v (Value.bool true))
                    else
                      bif
                          shiftB
                            (shiftE ((IntKind.i64.wrap x0).tmod (90 : Int)) (IntKind.i64.wrap ((IntKind.i64.wrap x0).tmod (90 : Int) + (IntKind.i64.wrap x1).tmod (90 : Int))) (IntKind.i64.wrap d))
                            (shiftL ((IntKind.i64.wrap x0).tmod (90 : Int)) (IntKind.i64.wrap ((IntKind.i64.wrap x0).tmod (90 : Int) + (IntKind.i64.wrap x1).tmod (90 : Int))) (IntKind.i64.wrap d))
                            (IntKind.i64.wrap ((0 : Int) - IntKind.i64.wrap d)) then
                        bif
                            shiftE
                                  (shiftE ((IntKind.i64.wrap x0).tmod (90 : Int)) (IntKind.i64.wrap ((IntKind.i64.wrap x0).tmod (90 : Int) + (IntKind.i64.wrap x1).tmod (90 : Int)))
                                    (IntKind.i64.wrap d))
                                  (shiftL ((IntKind.i64.wrap x0).tmod (90 : Int)) (IntKind.i64.wrap ((IntKind.i64.wrap x0).tmod (90 : Int) + (IntKind.i64.wrap x1).tmod (90 : Int)))
                                    (IntKind.i64.wrap d))
                                  (IntKind.i64.wrap ((0 : Int) - IntKind.i64.wrap d)) ==
                                (IntKind.i64.wrap x0).tmod (90 : Int) &&
                              shiftL
                                  (shiftE ((IntKind.i64.wrap x0).tmod (90 : Int)) (IntKind.i64.wrap ((IntKind.i64.wrap x0).tmod (90 : Int) + (IntKind.i64.wrap x1).tmod (90 : Int)))
                                    (IntKind.i64.wrap d))
                                  (shiftL ((IntKind.i64.wrap x0).tmod (90 : Int)) (IntKind.i64.wrap ((IntKind.i64.wrap x0).tmod (90 : Int) + (IntKind.i64.wrap x1).tmod (90 : Int)))
                                    (IntKind.i64.wrap d))
                                  (IntKind.i64.wrap ((0 : Int) - IntKind.i64.wrap d)) ==
                                IntKind.i64.wrap ((IntKind.i64.wrap x0).tmod (90 : Int) + (IntKind.i64.wrap x1).tmod (90 : Int)) then
                          bif
                              waitB
                                  (shiftE ((IntKind.i64.wrap x0).tmod (90 : Int)) (IntKind.i64.wrap ((IntKind.i64.wrap x0).tmod (90 : Int) + (IntKind.i64.wrap x1).tmod (90 : Int)))
                                    (IntKind.i64.wrap d))
                                  (shiftL ((IntKind.i64.wrap x0).tmod (90 : Int)) (IntKind.i64.wrap ((IntKind.i64.wrap x0).tmod (90 : Int) + (IntKind.i64.wrap x1).tmod (90 : Int)))
                                    (IntKind.i64.wrap d))
                                  (IntKind.i64.wrap (IntKind.i64.wrap (if t1 < t0 then t1 else t0) + IntKind.i64.wrap d)) ==
                                waitB ((IntKind.i64.wrap x0).tmod (90 : Int)) (IntKind.i64.wrap ((IntKind.i64.wrap x0).tmod (90 : Int) + (IntKind.i64.wrap x1).tmod (90 : Int)))
                                  (IntKind.i64.wrap (if t1 < t0 then t1 else t0)) then
                            bif
                                !waitB ((IntKind.i64.wrap x0).tmod (90 : Int)) (IntKind.i64.wrap ((IntKind.i64.wrap x0).tmod (90 : Int) + (IntKind.i64.wrap x1).tmod (90 : Int)))
                                    (IntKind.i64.wrap (if t1 < t0 then t1 else t0)) then
                              R (SV.v (Value.bool true))
                            else
                              R
                                (SV.v
                                  (Value.bool
                                    (waitN
                                        (shiftE ((IntKind.i64.wrap x0).tmod (90 : Int)) (IntKind.i64.wrap ((IntKind.i64.wrap x0).tmod (90 : Int) + (IntKind.i64.wrap x1).tmod (90 : Int)))
                                          (IntKind.i64.wrap d))
                                        (shiftL ((IntKind.i64.wrap x0).tmod (90 : Int)) (IntKind.i64.wrap ((IntKind.i64.wrap x0).tmod (90 : Int) + (IntKind.i64.wrap x1).tmod (90 : Int)))
                                          (IntKind.i64.wrap d))
                                        (IntKind.i64.wrap (IntKind.i64.wrap (if t1 < t0 then t1 else t0) + IntKind.i64.wrap d)) ==
                                      IntKind.i64.wrap
                                        (waitN ((IntKind.i64.wrap x0).tmod (90 : Int)) (IntKind.i64.wrap ((IntKind.i64.wrap x0).tmod (90 : Int) + (IntKind.i64.wrap x1).tmod (90 : Int)))
                                            (IntKind.i64.wrap (if t1 < t0 then t1 else t0)) +
                                          IntKind.i64.wrap d))))
                          else R (SV.v (Value.bool false))
                        else R (SV.v (Value.bool false))
                      else R (SV.v (Value.bool false))
              else
                bif
                    !shiftB ((IntKind.i64.wrap x0).tmod (90 : Int)) (IntKind.i64.wrap ((IntKind.i64.wrap x0).tmod (90 : Int) + (IntKind.i64.wrap x1).tmod (90 : Int))) (IntKind.i64.wrap d) ==
                        decide (IntKind.i64.wrap ((IntKind.i64.wrap x0).tmod (90 : Int) + IntKind.i64.wrap d) ≥ (0 : Int)) then
                  R (SV.v (Value.bool false))
                else
                  bif !shiftB ((IntKind.i64.wrap x0).tmod (90 : Int)) (IntKind.i64.wrap ((IntKind.i64.wrap x0).tmod (90 : Int) + (IntKind.i64.wrap x1).tmod (90 : Int))) (IntKind.i64.wrap d) then
                    R (SV.v (Value.bool true))
                  else
                    bif
                        shiftB (shiftE ((IntKind.i64.wrap x0).tmod (90 : Int)) (IntKind.i64.wrap ((IntKind.i64.wrap x0).tmod (90 : Int) + (IntKind.i64.wrap x1).tmod (90 : Int))) (IntKind.i64.wrap d))
                          (shiftL ((IntKind.i64.wrap x0).tmod (90 : Int)) (IntKind.i64.wrap ((IntKind.i64.wrap x0).tmod (90 : Int) + (IntKind.i64.wrap x1).tmod (90 : Int))) (IntKind.i64.wrap d))
                          (IntKind.i64.wrap ((0 : Int) - IntKind.i64.wrap d)) then
                      bif
                          shiftE
                                (shiftE ((IntKind.i64.wrap x0).tmod (90 : Int)) (IntKind.i64.wrap ((IntKind.i64.wrap x0).tmod (90 : Int) + (IntKind.i64.wrap x1).tmod (90 : Int))) (IntKind.i64.wrap d))
                                (shiftL ((IntKind.i64.wrap x0).tmod (90 : Int)) (IntKind.i64.wrap ((IntKind.i64.wrap x0).tmod (90 : Int) + (IntKind.i64.wrap x1).tmod (90 : Int))) (IntKind.i64.wrap d))
                                (IntKind.i64.wrap ((0 : Int) - IntKind.i64.wrap d)) ==
                              (IntKind.i64.wrap x0).tmod (90 : Int) &&
                            shiftL
                                (shiftE ((IntKind.i64.wrap x0).tmod (90 : Int)) (IntKind.i64.wrap ((IntKind.i64.wrap x0).tmod (90 : Int) + (IntKind.i64.wrap x1).tmod (90 : Int))) (IntKind.i64.wrap d))
                                (shiftL ((IntKind.i64.wrap x0).tmod (90 : Int)) (IntKind.i64.wrap ((IntKind.i64.wrap x0).tmod (90 : Int) + (IntKind.i64.wrap x1).tmod (90 : Int))) (IntKind.i64.wrap d))
                                (IntKind.i64.wrap ((0 : Int) - IntKind.i64.wrap d)) ==
                              IntKind.i64.wrap ((IntKind.i64.wrap x0).tmod (90 : Int) + (IntKind.i64.wrap x1).tmod (90 : Int)) then
                        bif
                            waitB
                                (shiftE ((IntKind.i64.wrap x0).tmod (90 : Int)) (IntKind.i64.wrap ((IntKind.i64.wrap x0).tmod (90 : Int) + (IntKind.i64.wrap x1).tmod (90 : Int))) (IntKind.i64.wrap d))
                                (shiftL ((IntKind.i64.wrap x0).tmod (90 : Int)) (IntKind.i64.wrap ((IntKind.i64.wrap x0).tmod (90 : Int) + (IntKind.i64.wrap x1).tmod (90 : Int))) (IntKind.i64.wrap d))
                                (IntKind.i64.wrap (IntKind.i64.wrap (if t1 < t0 then t1 else t0) + IntKind.i64.wrap d)) ==
                              waitB ((IntKind.i64.wrap x0).tmod (90 : Int)) (IntKind.i64.wrap ((IntKind.i64.wrap x0).tmod (90 : Int) + (IntKind.i64.wrap x1).tmod (90 : Int)))
                                (IntKind.i64.wrap (if t1 < t0 then t1 else t0)) then
                          bif
                              !waitB ((IntKind.i64.wrap x0).tmod (90 : Int)) (IntKind.i64.wrap ((IntKind.i64.wrap x0).tmod (90 : Int) + (IntKind.i64.wrap x1).tmod (90 : Int)))
                                  (IntKind.i64.wrap (if t1 < t0 then t1 else t0)) then
                            R (SV.v (Value.bool true))
                          else
                            R
                              (SV.v
                                (Value.bool
                                  (waitN
                                      (shiftE ((IntKind.i64.wrap x0).tmod (90 : Int)) (IntKind.i64.wrap ((IntKind.i64.wrap x0).tmod (90 : Int) + (IntKind.i64.wrap x1).tmod (90 : Int)))
                                        (IntKind.i64.wrap d))
                                      (shiftL ((IntKind.i64.wrap x0).tmod (90 : Int)) (IntKind.i64.wrap ((IntKind.i64.wrap x0).tmod (90 : Int) + (IntKind.i64.wrap x1).tmod (90 : Int)))
                                        (IntKind.i64.wrap d))
                                      (IntKind.i64.wrap (IntKind.i64.wrap (if t1 < t0 then t1 else t0) + IntKind.i64.wrap d)) ==
                                    IntKind.i64.wrap
                                      (waitN ((IntKind.i64.wrap x0).tmod (90 : Int)) (IntKind.i64.wrap ((IntKind.i64.wrap x0).tmod (90 : Int) + (IntKind.i64.wrap x1).tmod (90 : Int)))
                                          (IntKind.i64.wrap (if t1 < t0 then t1 else t0)) +
                                        IntKind.i64.wrap d))))
                        else R (SV.v (Value.bool false))
                      else R (SV.v (Value.bool false))
                    else R (SV.v (Value.bool false))
    else
      bif
          !waitB ((IntKind.i64.wrap x0).tmod (90 : Int)) (IntKind.i64.wrap ((IntKind.i64.wrap x0).tmod (90 : Int) + (IntKind.i64.wrap x1).tmod (90 : Int)))
                (IntKind.i64.wrap (if t1 < t0 then t1 else t0)) ==
              decide (IntKind.i64.wrap (if t1 < t0 then t1 else t0) ≤ IntKind.i64.wrap ((IntKind.i64.wrap x0).tmod (90 : Int) + (IntKind.i64.wrap x1).tmod (90 : Int))) then
        R (SV.v (Value.bool false))
      else
        bif
            waitB ((IntKind.i64.wrap x0).tmod (90 : Int)) (IntKind.i64.wrap ((IntKind.i64.wrap x0).tmod (90 : Int) + (IntKind.i64.wrap x1).tmod (90 : Int)))
              (IntKind.i64.wrap (if t1 > t0 then t1 else t0)) then
          bif
              decide
                (waitN ((IntKind.i64.wrap x0).tmod (90 : Int)) (IntKind.i64.wrap ((IntKind.i64.wrap x0).tmod (90 : Int) + (IntKind.i64.wrap x1).tmod (90 : Int)))
                    (IntKind.i64.wrap (if t1 > t0 then t1 else t0)) <
                  waitN ((IntKind.i64.wrap x0).tmod (90 : Int)) (IntKind.i64.wrap ((IntKind.i64.wrap x0).tmod (90 : Int) + (IntKind.i64.wrap x1).tmod (90 : Int)))
                    (IntKind.i64.wrap (if t1 < t0 then t1 else t0))) then
            R (SV.v (Value.bool false))
          else
            bif
                !shiftB ((IntKind.i64.wrap x0).tmod (90 : Int)) (IntKind.i64.wrap ((IntKind.i64.wrap x0).tmod (90 : Int) + (IntKind.i64.wrap x1).tmod (90 : Int))) (IntKind.i64.wrap d) ==
                    decide (IntKind.i64.wrap ((IntKind.i64.wrap x0).tmod (90 : Int) + IntKind.i64.wrap d) ≥ (0 : Int)) then
              R (SV.v (Value.bool false))
            else
              bif !shiftB ((IntKind.i64.wrap x0).tmod (90 : Int)) (IntKind.i64.wrap ((IntKind.i64.wrap x0).tmod (90 : Int) + (IntKind.i64.wrap x1).tmod (90 : Int))) (IntKind.i64.wrap d) then
                R (SV.v (Value.bool true))
              else
                bif
                    shiftB (shiftE ((IntKind.i64.wrap x0).tmod (90 : Int)) (IntKind.i64.wrap ((IntKind.i64.wrap x0).tmod (90 : Int) + (IntKind.i64.wrap x1).tmod (90 : Int))) (IntKind.i64.wrap d))
                      (shiftL ((IntKind.i64.wrap x0).tmod (90 : Int)) (IntKind.i64.wrap ((IntKind.i64.wrap x0).tmod (90 : Int) + (IntKind.i64.wrap x1).tmod (90 : Int))) (IntKind.i64.wrap d))
                      (IntKind.i64.wrap ((0 : Int) - IntKind.i64.wrap d)) then
                  bif
                      shiftE (shiftE ((IntKind.i64.wrap x0).tmod (90 : Int)) (IntKind.i64.wrap ((IntKind.i64.wrap x0).tmod (90 : Int) + (IntKind.i64.wrap x1).tmod (90 : Int))) (IntKind.i64.wrap d))
                            (shiftL ((IntKind.i64.wrap x0).tmod (90 : Int)) (IntKind.i64.wrap ((IntKind.i64.wrap x0).tmod (90 : Int) + (IntKind.i64.wrap x1).tmod (90 : Int))) (IntKind.i64.wrap d))
                            (IntKind.i64.wrap ((0 : Int) - IntKind.i64.wrap d)) ==
                          (IntKind.i64.wrap x0).tmod (90 : Int) &&
                        shiftL (shiftE ((IntKind.i64.wrap x0).tmod (90 : Int)) (IntKind.i64.wrap ((IntKind.i64.wrap x0).tmod (90 : Int) + (IntKind.i64.wrap x1).tmod (90 : Int))) (IntKind.i64.wrap d))
                            (shiftL ((IntKind.i64.wrap x0).tmod (90 : Int)) (IntKind.i64.wrap ((IntKind.i64.wrap x0).tmod (90 : Int) + (IntKind.i64.wrap x1).tmod (90 : Int))) (IntKind.i64.wrap d))
                            (IntKind.i64.wrap ((0 : Int) - IntKind.i64.wrap d)) ==
                          IntKind.i64.wrap ((IntKind.i64.wrap x0).tmod (90 : Int) + (IntKind.i64.wrap x1).tmod (90 : Int)) then
                    bif
                        waitB (shiftE ((IntKind.i64.wrap x0).tmod (90 : Int)) (IntKind.i64.wrap ((IntKind.i64.wrap x0).tmod (90 : Int) + (IntKind.i64.wrap x1).tmod (90 : Int))) (IntKind.i64.wrap d))
                            (shiftL ((IntKind.i64.wrap x0).tmod (90 : Int)) (IntKind.i64.wrap ((IntKind.i64.wrap x0).tmod (90 : Int) + (IntKind.i64.wrap x1).tmod (90 : Int))) (IntKind.i64.wrap d))
                            (IntKind.i64.wrap (IntKind.i64.wrap (if t1 < t0 then t1 else t0) + IntKind.i64.wrap d)) ==
                          waitB ((IntKind.i64.wrap x0).tmod (90 : Int)) (IntKind.i64.wrap ((IntKind.i64.wrap x0).tmod (90 : Int) + (IntKind.i64.wrap x1).tmod (90 : Int)))
                            (IntKind.i64.wrap (if t1 < t0 then t1 else t0)) then
                      bif
                          !waitB ((IntKind.i64.wrap x0).tmod (90 : Int)) (IntKind.i64.wrap ((IntKind.i64.wrap x0).tmod (90 : Int) + (IntKind.i64.wrap x1).tmod (90 : Int)))
                              (IntKind.i64.wrap (if t1 < t0 then t1 else t0)) then
                        R (SV.v (Value.bool true))
                      else
                        R
                          (SV.v
                            (Value.bool
                              (waitN
                                  (shiftE ((IntKind.i64.wrap x0).tmod (90 : Int)) (IntKind.i64.wrap ((IntKind.i64.wrap x0).tmod (90 : Int) + (IntKind.i64.wrap x1).tmod (90 : Int)))
                                    (IntKind.i64.wrap d))
                                  (shiftL ((IntKind.i64.wrap x0).tmod (90 : Int)) (IntKind.i64.wrap ((IntKind.i64.wrap x0).tmod (90 : Int) + (IntKind.i64.wrap x1).tmod (90 : Int)))
                                    (IntKind.i64.wrap d))
                                  (IntKind.i64.wrap (IntKind.i64.wrap (if t1 < t0 then t1 else t0) + IntKind.i64.wrap d)) ==
                                IntKind.i64.wrap
                                  (waitN ((IntKind.i64.wrap x0).tmod (90 : Int)) (IntKind.i64.wrap ((IntKind.i64.wrap x0).tmod (90 : Int) + (IntKind.i64.wrap x1).tmod (90 : Int)))
                                      (IntKind.i64.wrap (if t1 < t0 then t1 else t0)) +
                                    IntKind.i64.wrap d))))
                    else R (SV.v (Value.bool false))
                  else R (SV.v (Value.bool false))
                else R (SV.v (Value.bool false))
        else
          bif
              !shiftB ((IntKind.i64.wrap x0).tmod (90 : Int)) (IntKind.i64.wrap ((IntKind.i64.wrap x0).tmod (90 : Int) + (IntKind.i64.wrap x1).tmod (90 : Int))) (IntKind.i64.wrap d) ==
                  decide (IntKind.i64.wrap ((IntKind.i64.wrap x0).tmod (90 : Int) + IntKind.i64.wrap d) ≥ (0 : Int)) then
            R (SV.v (Value.bool false))
          else
            bif !shiftB ((IntKind.i64.wrap x0).tmod (90 : Int)) (IntKind.i64.wrap ((IntKind.i64.wrap x0).tmod (90 : Int) + (IntKind.i64.wrap x1).tmod (90 : Int))) (IntKind.i64.wrap d) then
              R (SV.v (Value.bool true))
            else
              bif
                  shiftB (shiftE ((IntKind.i64.wrap x0).tmod (90 : Int)) (IntKind.i64.wrap ((IntKind.i64.wrap x0).tmod (90 : Int) + (IntKind.i64.wrap x1).tmod (90 : Int))) (IntKind.i64.wrap d))
                    (shiftL ((IntKind.i64.wrap x0).tmod (90 : Int)) (IntKind.i64.wrap ((IntKind.i64.wrap x0).tmod (90 : Int) + (IntKind.i64.wrap x1).tmod (90 : Int))) (IntKind.i64.wrap d))
                    (IntKind.i64.wrap ((0 : Int) - IntKind.i64.wrap d)) then
                bif
                    shiftE (shiftE ((IntKind.i64.wrap x0).tmod (90 : Int)) (IntKind.i64.wrap ((IntKind.i64.wrap x0).tmod (90 : Int) + (IntKind.i64.wrap x1).tmod (90 : Int))) (IntKind.i64.wrap d))
                          (shiftL ((IntKind.i64.wrap x0).tmod (90 : Int)) (IntKind.i64.wrap ((IntKind.i64.wrap x0).tmod (90 : Int) + (IntKind.i64.wrap x1).tmod (90 : Int))) (IntKind.i64.wrap d))
                          (IntKind.i64.wrap ((0 : Int) - IntKind.i64.wrap d)) ==
                        (IntKind.i64.wrap x0).tmod (90 : Int) &&
                      shiftL (shiftE ((IntKind.i64.wrap x0).tmod (90 : Int)) (IntKind.i64.wrap ((IntKind.i64.wrap x0).tmod (90 : Int) + (IntKind.i64.wrap x1).tmod (90 : Int))) (IntKind.i64.wrap d))
                          (shiftL ((IntKind.i64.wrap x0).tmod (90 : Int)) (IntKind.i64.wrap ((IntKind.i64.wrap x0).tmod (90 : Int) + (IntKind.i64.wrap x1).tmod (90 : Int))) (IntKind.i64.wrap d))
                          (IntKind.i64.wrap ((0 : Int) - IntKind.i64.wrap d)) ==
                        IntKind.i64.wrap ((IntKind.i64.wrap x0).tmod (90 : Int) + (IntKind.i64.wrap x1).tmod (90 : Int)) then
                  bif
                      waitB (shiftE ((IntKind.i64.wrap x0).tmod (90 : Int)) (IntKind.i64.wrap ((IntKind.i64.wrap x0).tmod (90 : Int) + (IntKind.i64.wrap x1).tmod (90 : Int))) (IntKind.i64.wrap d))
                          (shiftL ((IntKind.i64.wrap x0).tmod (90 : Int)) (IntKind.i64.wrap ((IntKind.i64.wrap x0).tmod (90 : Int) + (IntKind.i64.wrap x1).tmod (90 : Int))) (IntKind.i64.wrap d))
                          (IntKind.i64.wrap (IntKind.i64.wrap (if t1 < t0 then t1 else t0) + IntKind.i64.wrap d)) ==
                        waitB ((IntKind.i64.wrap x0).tmod (90 : Int)) (IntKind.i64.wrap ((IntKind.i64.wrap x0).tmod (90 : Int) + (IntKind.i64.wrap x1).tmod (90 : Int)))
                          (IntKind.i64.wrap (if t1 < t0 then t1 else t0)) then
                    bif
                        !waitB ((IntKind.i64.wrap x0).tmod (90 : Int)) (IntKind.i64.wrap ((IntKind.i64.wrap x0).tmod (90 : Int) + (IntKind.i64.wrap x1).tmod (90 : Int)))
                            (IntKind.i64.wrap (if t1 < t0 then t1 else t0)) then
                      R (SV.v (Value.bool true))
                    else
                      R
                        (SV.v
                          (Value.bool
                            (waitN
                                (shiftE ((IntKind.i64.wrap x0).tmod (90 : Int)) (IntKind.i64.wrap ((IntKind.i64.wrap x0).tmod (90 : Int) + (IntKind.i64.wrap x1).tmod (90 : Int))) (IntKind.i64.wrap d))
                                (shiftL ((IntKind.i64.wrap x0).tmod (90 : Int)) (IntKind.i64.wrap ((IntKind.i64.wrap x0).tmod (90 : Int) + (IntKind.i64.wrap x1).tmod (90 : Int))) (IntKind.i64.wrap d))
                                (IntKind.i64.wrap (IntKind.i64.wrap (if t1 < t0 then t1 else t0) + IntKind.i64.wrap d)) ==
                              IntKind.i64.wrap
                                (waitN ((IntKind.i64.wrap x0).tmod (90 : Int)) (IntKind.i64.wrap ((IntKind.i64.wrap x0).tmod (90 : Int) + (IntKind.i64.wrap x1).tmod (90 : Int)))
                                    (IntKind.i64.wrap (if t1 < t0 then t1 else t0)) +
                                  IntKind.i64.wrap d))))
                  else R (SV.v (Value.bool false))
                else R (SV.v (Value.bool false))
              else R (SV.v (Value.bool false))
else
  bif
      waitB ((IntKind.i64.wrap x0).tmod (90 : Int)) (IntKind.i64.wrap ((IntKind.i64.wrap x0).tmod (90 : Int) + (IntKind.i64.wrap x1).tmod (90 : Int)))
        (IntKind.i64.wrap (if t1 < t0 then t1 else t0)) then
    bif
        !hasB ((IntKind.i64.wrap x0).tmod (90 : Int)) (IntKind.i64.wrap ((IntKind.i64.wrap x0).tmod (90 : Int) + (IntKind.i64.wrap x1).tmod (90 : Int)))
            (waitN ((IntKind.i64.wrap x0).tmod (90 : Int)) (IntKind.i64.wrap ((IntKind.i64.wrap x0).tmod (90 : Int) + (IntKind.i64.wrap x1).tmod (90 : Int)))
              (IntKind.i64.wrap (if t1 < t0 then t1 else t0))) then
      R (SV.v (Value.bool false))
    else
      bif
          decide
            (waitN ((IntKind.i64.wrap x0).tmod (90 : Int)) (IntKind.i64.wrap ((IntKind.i64.wrap x0).tmod (90 : Int) + (IntKind.i64.wrap x1).tmod (90 : Int)))
                (IntKind.i64.wrap (if t1 < t0 then t1 else t0)) <
              IntKind.i64.wrap (if t1 < t0 then t1 else t0)) then
        R (SV.v (Value.bool false))
      else
        bif
            decide
              (waitN ((IntKind.i64.wrap x0).tmod (90 : Int)) (IntKind.i64.wrap ((IntKind.i64.wrap x0).tmod (90 : Int) + (IntKind.i64.wrap x1).tmod (90 : Int)))
                  (IntKind.i64.wrap (if t1 < t0 then t1 else t0)) >
                IntKind.i64.wrap (if t1 < t0 then t1 else t0)) then
          bif
              hasB ((IntKind.i64.wrap x0).tmod (90 : Int)) (IntKind.i64.wrap ((IntKind.i64.wrap x0).tmod (90 : Int) + (IntKind.i64.wrap x1).tmod (90 : Int)))
                (IntKind.i64.wrap
                  (waitN ((IntKind.i64.wrap x0).tmod (90 : Int)) (IntKind.i64.wrap ((IntKind.i64.wrap x0).tmod (90 : Int) + (IntKind.i64.wrap x1).tmod (90 : Int)))
                      (IntKind.i64.wrap (if t1 < t0 then t1 else t0)) -
                    (1 : Int))) then
            bif
                decide
                  (IntKind.i64.wrap
                      (waitN ((IntKind.i64.wrap x0).tmod (90 : Int)) (IntKind.i64.wrap ((IntKind.i64.wrap x0).tmod (90 : Int) + (IntKind.i64.wrap x1).tmod (90 : Int)))
                          (IntKind.i64.wrap (if t1 < t0 then t1 else t0)) -
                        (1 : Int)) ≥
                    IntKind.i64.wrap (if t1 < t0 then t1 else t0)) then
              R (SV.v (Value.bool false))
            else
              bif
                  !waitB ((IntKind.i64.wrap x0).tmod (90 : Int)) (IntKind.i64.wrap ((IntKind.i64.wrap x0).tmod (90 : Int) + (IntKind.i64.wrap x1).tmod (90 : Int)))
                        (IntKind.i64.wrap (if t1 < t0 then t1 else t0)) ==
                      decide (IntKind.i64.wrap (if t1 < t0 then t1 else t0) ≤ IntKind.i64.wrap ((IntKind.i64.wrap x0).tmod (90 : Int) + (IntKind.i64.wrap x1).tmod (90 : Int))) then
                R (SV.v (Value.bool false))
              else
                bif
                    waitB ((IntKind.i64.wrap x0).tmod (90 : Int)) (IntKind.i64.wrap ((IntKind.i64.wrap x0).tmod (90 : Int) + (IntKind.i64.wrap x1).tmod (90 : Int)))
                      (IntKind.i64.wrap (if t1 > t0 then t1 else t0)) then
                  bif
                      decide
                        (waitN ((IntKind.i64.wrap x0).tmod (90 : Int)) (IntKind.i64.wrap ((IntKind.i64.wrap x0).tmod (90 : Int) + (IntKind.i64.wrap x1).tmod (90 : Int)))
                            (IntKind.i64.wrap (if t1 > t0 then t1 else t0)) <
                          waitN ((IntKind.i64.wrap x0).tmod (90 : Int)) (IntKind.i64.wrap ((IntKind.i64.wrap x0).tmod (90 : Int) + (IntKind.i64.wrap x1).tmod (90 : Int)))
                            (IntKind.i64.wrap (if t1 < t0 then t1 else t0))) then
                    R (SV.v (Value.bool false))
                  else
                    bif
                        !shiftB ((IntKind.i64.wrap x0).tmod (90 : Int)) (IntKind.i64.wrap ((IntKind.i64.wrap x0).tmod (90 : Int) + (IntKind.i64.wrap x1).tmod (90 : Int))) (IntKind.i64.wrap d) ==
                            decide (IntKind.i64.wrap ((IntKind.i64.wrap x0).tmod (90 : Int) + IntKind.i64.wrap d) ≥ (0 : Int)) then
                      R (SV.v (Value.bool false))
                    else
                      bif !shiftB ((IntKind.i64.wrap x0).tmod (90 : Int)) (IntKind.i64.wrap ((IntKind.i64.wrap x0).tmod (90 : Int) + (IntKind.i64.wrap x1).tmod (90 : Int))) (IntKind.i64.wrap d) then
                        R (SV.v (Value.bool true))
                      else
                        bif
                            shiftB
                              (shiftE ((IntKind.i64.wrap x0).tmod (90 : Int)) (IntKind.i64.wrap ((IntKind.i64.wrap x0).tmod (90 : Int) + (IntKind.i64.wrap x1).tmod (90 : Int))) (IntKind.i64.wrap d))
                              (shiftL ((IntKind.i64.wrap x0).tmod (90 : Int)) (IntKind.i64.wrap ((IntKind.i64.wrap x0).tmod (90 : Int) + (IntKind.i64.wrap x1).tmod (90 : Int))) (IntKind.i64.wrap d))
                              (IntKind.i64.wrap ((0 : Int) - IntKind.i64.wrap d)) then
                          bif
                              shiftE
                                    (shiftE ((IntKind.i64.wrap x0).tmod (90 : Int)) (IntKind.i64.wrap ((IntKind.i64.wrap x0).tmod (90 : Int) + (IntKind.i64.wrap x1).tmod (90 : Int)))
                                      (IntKind.i64.wrap d))
                                    (shiftL ((IntKind.i64.wrap x0).tmod (90 : Int)) (IntKind.i64.wrap ((IntKind.i64.wrap x0).tmod (90 : Int) + (IntKind.i64.wrap x1).tmod (90 : Int)))
                                      (IntKind.i64.wrap d))
                                    (IntKind.i64.wrap ((0 : Int) - IntKind.i64.wrap d)) ==
                                  (IntKind.i64.wrap x0).tmod (90 : Int) &&
                                shiftL
                                    (shiftE ((IntKind.i64.wrap x0).tmod (90 : Int)) (IntKind.i64.wrap ((IntKind.i64.wrap x0).tmod (90 : Int) + (IntKind.i64.wrap x1).tmod (90 : Int)))
                                      (IntKind.i64.wrap d))
                                    (shiftL ((IntKind.i64.wrap x0).tmod (90 : Int)) (IntKind.i64.wrap ((IntKind.i64.wrap x0).tmod (90 : Int) + (IntKind.i64.wrap x1).tmod (90 : Int)))
                                      (IntKind.i64.wrap d))
                                    (IntKind.i64.wrap ((0 : Int) - IntKind.i64.wrap d)) ==
                                  IntKind.i64.wrap ((IntKind.i64.wrap x0).tmod (90 : Int) + (IntKind.i64.wrap x1).tmod (90 : Int)) then
                            bif
                                waitB
                                    (shiftE ((IntKind.i64.wrap x0).tmod (90 : Int)) (IntKind.i64.wrap ((IntKind.i64.wrap x0).tmod (90 : Int) + (IntKind.i64.wrap x1).tmod (90 : Int)))
                                      (IntKind.i64.wrap d))
                                    (shiftL ((IntKind.i64.wrap x0).tmod (90 : Int)) (IntKind.i64.wrap ((IntKind.i64.wrap x0).tmod (90 : Int) + (IntKind.i64.wrap x1).tmod (90 : Int)))
                                      (IntKind.i64.wrap d))
                                    (IntKind.i64.wrap (IntKind.i64.wrap (if t1 < t0 then t1 else t0) + IntKind.i64.wrap d)) ==
                                  waitB ((IntKind.i64.wrap x0).tmod (90 : Int)) (IntKind.i64.wrap ((IntKind.i64.wrap x0).tmod (90 : Int) + (IntKind.i64.wrap x1).tmod (90 : Int)))
                                    (IntKind.i64.wrap (if t1 < t0 then t1 else t0)) then
                              bif
                                  !waitB ((IntKind.i64.wrap x0).tmod (90 : Int)) (IntKind.i64.wrap ((IntKind.i64.wrap x0).tmod (90 : Int) + (IntKind.i64.wrap x1).tmod (90 : Int)))
                                      (IntKind.i64.wrap (if t1 < t0 then t1 else t0)) then
                                R (SV.v (Value.bool true))
                              else
                                R
                                  (SV.v
                                    (Value.bool
                                      (waitN
                                          (shiftE ((IntKind.i64.wrap x0).tmod (90 : Int)) (IntKind.i64.wrap ((IntKind.i64.wrap x0).tmod (90 : Int) + (IntKind.i64.wrap x1).tmod (90 : Int)))
                                            (IntKind.i64.wrap d))
                                          (shiftL ((IntKind.i64.wrap x0).tmod (90 : Int)) (IntKind.i64.wrap ((IntKind.i64.wrap x0).tmod (90 : Int) + (IntKind.i64.wrap x1).tmod (90 : Int)))
                                            (IntKind.i64.wrap d))
                                          (IntKind.i64.wrap (IntKind.i64.wrap (if t1 < t0 then t1 else t0) + IntKind.i64.wrap d)) ==
                                        IntKind.i64.wrap
                                          (waitN ((IntKind.i64.wrap x0).tmod (90 : Int)) (IntKind.i64.wrap ((IntKind.i64.wrap x0).tmod (90 : Int) + (IntKind.i64.wrap x1).tmod (90 : Int)))
                                              (IntKind.i64.wrap (if t1 < t0 then t1 else t0)) +
                                            IntKind.i64.wrap d))))
                            else R (SV.v (Value.bool false))
                          else R (SV.v (Value.bool false))
                        else R (SV.v (Value.bool false))
                else
                  bif
                      !shiftB ((IntKind.i64.wrap x0).tmod (90 : Int)) (IntKind.i64.wrap ((IntKind.i64.wrap x0).tmod (90 : Int) + (IntKind.i64.wrap x1).tmod (90 : Int))) (IntKind.i64.wrap d) ==
                          decide (IntKind.i64.wrap ((IntKind.i64.wrap x0).tmod (90 : Int) + IntKind.i64.wrap d) ≥ (0 : Int)) then
                    R (SV.v (Value.bool false))
                  else
                    bif !shiftB ((IntKind.i64.wrap x0).tmod (90 : Int)) (IntKind.i64.wrap ((IntKind.i64.wrap x0).tmod (90 : Int) + (IntKind.i64.wrap x1).tmod (90 : Int))) (IntKind.i64.wrap d) then
                      R (SV.v (Value.bool true))
                    else
                      bif
                          shiftB
                            (shiftE ((IntKind.i64.wrap x0).tmod (90 : Int)) (IntKind.i64.wrap ((IntKind.i64.wrap x0).tmod (90 : Int) + (IntKind.i64.wrap x1).tmod (90 : Int))) (IntKind.i64.wrap d))
                            (shiftL ((IntKind.i64.wrap x0).tmod (90 : Int)) (IntKind.i64.wrap ((IntKind.i64.wrap x0).tmod (90 : Int) + (IntKind.i64.wrap x1).tmod (90 : Int))) (IntKind.i64.wrap d))
                            (IntKind.i64.wrap ((0 : Int) - IntKind.i64.wrap d)) then
                        bif
                            shiftE
                                  (shiftE ((IntKind.i64.wrap x0).tmod (90 : Int)) (IntKind.i64.wrap ((IntKind.i64.wrap x0).tmod (90 : Int) + (IntKind.i64.wrap x1).tmod (90 : Int)))
                                    (IntKind.i64.wrap d))
                                  (shiftL ((IntKind.i64.wrap x0).tmod (90 : Int)) (IntKind.i64.wrap ((IntKind.i64.wrap x0).tmod (90 : Int) + (IntKind.i64.wrap x1).tmod (90 : Int)))
                                    (IntKind.i64.wrap d))
                                  (IntKind.i64.wrap ((0 : Int) - IntKind.i64.wrap d)) ==
                                (IntKind.i64.wrap x0).tmod (90 : Int) &&
                              shiftL
                                  (shiftE ((IntKind.i64.wrap x0).tmod (90 : Int)) (IntKind.i64.wrap ((IntKind.i64.wrap x0).tmod (90 : Int) + (IntKind.i64.wrap x1).tmod (90 : Int)))
                                    (IntKind.i64.wrap d))
                                  (shiftL ((IntKind.i64.wrap x0).tmod (90 : Int)) (IntKind.i64.wrap ((IntKind.i64.wrap x0).tmod (90 : Int) + (IntKind.i64.wrap x1).tmod (90 : Int)))
                                    (IntKind.i64.wrap d))
                                  (IntKind.i64.wrap ((0 : Int) - IntKind.i64.wrap d)) ==
                                IntKind.i64.wrap ((IntKind.i64.wrap x0).tmod (90 : Int) + (IntKind.i64.wrap x1).tmod (90 : Int)) then
                          bif
                              waitB
                                  (shiftE ((IntKind.i64.wrap x0).tmod (90 : Int)) (IntKind.i64.wrap ((IntKind.i64.wrap x0).tmod (90 : Int) + (IntKind.i64.wrap x1).tmod (90 : Int)))
                                    (IntKind.i64.wrap d))
                                  (shiftL ((IntKind.i64.wrap x0).tmod (90 : Int)) (IntKind.i64.wrap ((IntKind.i64.wrap x0).tmod (90 : Int) + (IntKind.i64.wrap x1).tmod (90 : Int)))
                                    (IntKind.i64.wrap d))
                                  (IntKind.i64.wrap (IntKind.i64.wrap (if t1 < t0 then t1 else t0) + IntKind.i64.wrap d)) ==
                                waitB ((IntKind.i64.wrap x0).tmod (90 : Int)) (IntKind.i64.wrap ((IntKind.i64.wrap x0).tmod (90 : Int) + (IntKind.i64.wrap x1).tmod (90 : Int)))
                                  (IntKind.i64.wrap (if t1 < t0 then t1 else t0)) then
                            bif
                                !waitB ((IntKind.i64.wrap x0).tmod (90 : Int)) (IntKind.i64.wrap ((IntKind.i64.wrap x0).tmod (90 : Int) + (IntKind.i64.wrap x1).tmod (90 : Int)))
                                    (IntKind.i64.wrap (if t1 < t0 then t1 else t0)) then
                              R (SV.v (Value.bool true))
                            else
                              R
                                (SV.v
                                  (Value.bool
                                    (waitN
                                        (shiftE ((IntKind.i64.wrap x0).tmod (90 : Int)) (IntKind.i64.wrap ((IntKind.i64.wrap x0).tmod (90 : Int) + (IntKind.i64.wrap x1).tmod (90 : Int)))
                                          (IntKind.i64.wrap d))
                                        (shiftL ((IntKind.i64.wrap x0).tmod (90 : Int)) (IntKind.i64.wrap ((IntKind.i64.wrap x0).tmod (90 : Int) + (IntKind.i64.wrap x1).tmod (90 : Int)))
                                          (IntKind.i64.wrap d))
                                        (IntKind.i64.wrap (IntKind.i64.wrap (if t1 < t0 then t1 else t0) + IntKind.i64.wrap d)) ==
                                      IntKind.i64.wrap
                                        (waitN ((IntKind.i64.wrap x0).tmod (90 : Int)) (IntKind.i64.wrap ((IntKind.i64.wrap x0).tmod (90 : Int) + (IntKind.i64.wrap x1).tmod (90 : Int)))
                                            (IntKind.i64.wrap (if t1 < t0 then t1 else t0)) +
                                          IntKind.i64.wrap d))))
                          else R (SV.v (Value.bool false))
                        else R (SV.v (Value.bool false))
                      else R (SV.v (Value.bool false))
          else
            bif
                !waitB ((IntKind.i64.wrap x0).tmod (90 : Int)) (IntKind.i64.wrap ((IntKind.i64.wrap x0).tmod (90 : Int) + (IntKind.i64.wrap x1).tmod (90 : Int)))
                      (IntKind.i64.wrap (if t1 < t0 then t1 else t0)) ==
                    decide (IntKind.i64.wrap (if t1 < t0 then t1 else t0) ≤ IntKind.i64.wrap ((IntKind.i64.wrap x0).tmod (90 : Int) + (IntKind.i64.wrap x1).tmod (90 : Int))) then
              R (SV.v (Value.bool false))
            else
              bif
                  waitB ((IntKind.i64.wrap x0).tmod (90 : Int)) (IntKind.i64.wrap ((IntKind.i64.wrap x0).tmod (90 : Int) + (IntKind.i64.wrap x1).tmod (90 : Int)))
                    (IntKind.i64.wrap (if t1 > t0 then t1 else t0)) then
                bif
                    decide
                      (waitN ((IntKind.i64.wrap x0).tmod (90 : Int)) (IntKind.i64.wrap ((IntKind.i64.wrap x0).tmod (90 : Int) + (IntKind.i64.wrap x1).tmod (90 : Int)))
                          (IntKind.i64.wrap (if t1 > t0 then t1 else t0)) <
                        waitN ((IntKind.i64.wrap x0).tmod (90 : Int)) (IntKind.i64.wrap ((IntKind.i64.wrap x0).tmod (90 : Int) + (IntKind.i64.wrap x1).tmod (90 : Int)))
                          (IntKind.i64.wrap (if t1 < t0 then t1 else t0))) then
                  R (SV.v (Value.bool false))
                else
                  bif
                      !shiftB ((IntKind.i64.wrap x0).tmod (90 : Int)) (IntKind.i64.wrap ((IntKind.i64.wrap x0).tmod (90 : Int) + (IntKind.i64.wrap x1).tmod (90 : Int))) (IntKind.i64.wrap d) ==
                          decide (IntKind.i64.wrap ((IntKind.i64.wrap x0).tmod (90 : Int) + IntKind.i64.wrap d) ≥ (0 : Int)) then
                    R (SV.v (Value.bool false))
                  else
                    bif !shiftB ((IntKind.i64.wrap x0).tmod (90 : Int)) (IntKind.i64.wrap ((IntKind.i64.wrap x0).tmod (90 : Int) + (IntKind.i64.wrap x1).tmod (90 : Int))) (IntKind.i64.wrap d) then
                      R (SV.v (Value.bool true))
                    else
                      bif
                          shiftB
                            (shiftE ((IntKind.i64.wrap x0).tmod (90 : Int)) (IntKind.i64.wrap ((IntKind.i64.wrap x0).tmod (90 : Int) + (IntKind.i64.wrap x1).tmod (90 : Int))) (IntKind.i64.wrap d))
                            (shiftL ((IntKind.i64.wrap x0).tmod (90 : Int)) (IntKind.i64.wrap ((IntKind.i64.wrap x0).tmod (90 : Int) + (IntKind.i64.wrap x1).tmod (90 : Int))) (IntKind.i64.wrap d))
                            (IntKind.i64.wrap ((0 : Int) - IntKind.i64.wrap d)) then
                        bif
                            shiftE
                                  (shiftE ((IntKind.i64.wrap x0).tmod (90 : Int)) (IntKind.i64.wrap ((IntKind.i64.wrap x0).tmod (90 : Int) + (IntKind.i64.wrap x1).tmod (90 : Int)))
                                    (IntKind.i64.wrap d))
                                  (shiftL ((IntKind.i64.wrap x0).tmod (90 : Int)) (IntKind.i64.wrap ((IntKind.i64.wrap x0).tmod (90 : Int) + (IntKind.i64.wrap x1).tmod (90 : Int)))
                                    (IntKind.i64.wrap d))
                                  (IntKind.i64.wrap ((0 : Int) - IntKind.i64.wrap d)) ==
                                (IntKind.i64.wrap x0).tmod (90 : Int) &&
                              shiftL
                                  (shiftE ((IntKind.i64.wrap x0).tmod (90 : Int)) (IntKind.i64.wrap ((IntKind.i64.wrap x0).tmod (90 : Int) + (IntKind.i64.wrap x1).tmod (90 : Int)))
                                    (IntKind.i64.wrap d))
                                  (shiftL ((IntKind.i64.wrap x0).tmod (90 : Int)) (IntKind.i64.wrap ((IntKind.i64.wrap x0).tmod (90 : Int) + (IntKind.i64.wrap x1).tmod (90 : Int)))
                                    (IntKind.i64.wrap d))
                                  (IntKind.i64.wrap ((0 : Int) - IntKind.i64.wrap d)) ==
                                IntKind.i64.wrap ((IntKind.i64.wrap x0).tmod (90 : Int) + (IntKind.i64.wrap x1).tmod (90 : Int)) then
                          bif
                              waitB
                                  (shiftE ((IntKind.i64.wrap x0).tmod (90 : Int)) (IntKind.i64.wrap ((IntKind.i64.wrap x0).tmod (90 : Int) + (IntKind.i64.wrap x1).tmod (90 : Int)))
                                    (IntKind.i64.wrap d))
                                  (shiftL ((IntKind.i64.wrap x0).tmod (90 : Int)) (IntKind.i64.wrap ((IntKind.i64.wrap x0).tmod (90 : Int) + (IntKind.i64.wrap x1).tmod (90 : Int)))
                                    (IntKind.i64.wrap d))
                                  (IntKind.i64.wrap (IntKind.i64.wrap (if t1 < t0 then t1 else t0) + IntKind.i64.wrap d)) ==
                                waitB ((IntKind.i64.wrap x0).tmod (90 : Int)) (IntKind.i64.wrap ((IntKind.i64.wrap x0).tmod (90 : Int) + (IntKind.i64.wrap x1).tmod (90 : Int)))
                                  (IntKind.i64.wrap (if t1 < t0 then t1 else t0)) then
                            bif
                                !waitB ((IntKind.i64.wrap x0).tmod (90 : Int)) (IntKind.i64.wrap ((IntKind.i64.wrap x0).tmod (90 : Int) + (IntKind.i64.wrap x1).tmod (90 : Int)))
                                    (IntKind.i64.wrap (if t1 < t0 then t1 else t0)) then
                              R (SV.v (Value.bool true))
                            else
                              R
                                (SV.v
                                  (Value.bool
                                    (waitN
                                        (shiftE ((IntKind.i64.wrap x0).tmod (90 : Int)) (IntKind.i64.wrap ((IntKind.i64.wrap x0).tmod (90 : Int) + (IntKind.i64.wrap x1).tmod (90 : Int)))
                                          (IntKind.i64.wrap d))
                                        (shiftL ((IntKind.i64.wrap x0).tmod (90 : Int)) (IntKind.i64.wrap ((IntKind.i64.wrap x0).tmod (90 : Int) + (IntKind.i64.wrap x1).tmod (90 : Int)))
                                          (IntKind.i64.wrap d))
                                        (IntKind.i64.wrap (IntKind.i64.wrap (if t1 < t0 then t1 else t0) + IntKind.i64.wrap d)) ==
                                      IntKind.i64.wrap
                                        (waitN ((IntKind.i64.wrap x0).tmod (90 : Int)) (IntKind.i64.wrap ((IntKind.i64.wrap x0).tmod (90 : Int) + (IntKind.i64.wrap x1).tmod (90 : Int)))
                                            (IntKind.i64.wrap (if t1 < t0 then t1 else t0)) +
                                          IntKind.i64.wrap d))))
                          else R (SV.v (Value.bool false))
                        else R (SV.v (Value.bool false))
                      else R (SV.v (Value.bool false))
              else
                bif
                    !shiftB ((IntKind.i64.wrap x0).tmod (90 : Int)) (IntKind.i64.wrap ((IntKind.i64.wrap x0).tmod (90 : Int) + (IntKind.i64.wrap x1).tmod (90 : Int))) (IntKind.i64.wrap d) ==
                        decide (IntKind.i64.wrap ((IntKind.i64.wrap x0).tmod (90 : Int) + IntKind.i64.wrap d) ≥ (0 : Int)) then
                  R (SV.v (Value.bool false))
                else
                  bif !shiftB ((IntKind.i64.wrap x0).tmod (90 : Int)) (IntKind.i64.wrap ((IntKind.i64.wrap x0).tmod (90 : Int) + (IntKind.i64.wrap x1).tmod (90 : Int))) (IntKind.i64.wrap d) then
                    R (SV.v (Value.bool true))
                  else
                    bif
                        shiftB (shiftE ((IntKind.i64.wrap x0).tmod (90 : Int)) (IntKind.i64.wrap ((IntKind.i64.wrap x0).tmod (90 : Int) + (IntKind.i64.wrap x1).tmod (90 : Int))) (IntKind.i64.wrap d))
                          (shiftL ((IntKind.i64.wrap x0).tmod (90 : Int)) (IntKind.i64.wrap ((IntKind.i64.wrap x0).tmod (90 : Int) + (IntKind.i64.wrap x1).tmod (90 : Int))) (IntKind.i64.wrap d))
                          (IntKind.i64.wrap ((0 : Int) - IntKind.i64.wrap d)) then
                      bif
                          shiftE
                                (shiftE ((IntKind.i64.wrap x0).tmod (90 : Int)) (IntKind.i64.wrap ((IntKind.i64.wrap x0).tmod (90 : Int) + (IntKind.i64.wrap x1).tmod (90 : Int))) (IntKind.i64.wrap d))
                                (shiftL ((IntKind.i64.wrap x0).tmod (90 : Int)) (IntKind.i64.wrap ((IntKind.i64.wrap x0).tmod (90 : Int) + (IntKind.i64.wrap x1).tmod (90 : Int))) (IntKind.i64.wrap d))
                                (IntKind.i64.wrap ((0 : Int) - IntKind.i64.wrap d)) ==
                              (IntKind.i64.wrap x0).tmod (90 : Int) &&
                            shiftL
                                (shiftE ((IntKind.i64.wrap x0).tmod (90 : Int)) (IntKind.i64.wrap ((IntKind.i64.wrap x0).tmod (90 : Int) + (IntKind.i64.wrap x1).tmod (90 : Int))) (IntKind.i64.wrap d))
                                (shiftL ((IntKind.i64.wrap x0).tmod (90 : Int)) (IntKind.i64.wrap ((IntKind.i64.wrap x0).tmod (90 : Int) + (IntKind.i64.wrap x1).tmod (90 : Int))) (IntKind.i64.wrap d))
                                (IntKind.i64.wrap ((0 : Int) - IntKind.i64.wrap d)) ==
                              IntKind.i64.wrap ((IntKind.i64.wrap x0).tmod (90 : Int) + (IntKind.i64.wrap x1).tmod (90 : Int)) then
                        bif
                            waitB
                                (shiftE ((IntKind.i64.wrap x0).tmod (90 : Int)) (IntKind.i64.wrap ((IntKind.i64.wrap x0).tmod (90 : Int) + (IntKind.i64.wrap x1).tmod (90 : Int))) (IntKind.i64.wrap d))
                                (shiftL ((IntKind.i64.wrap x0).tmod (90 : Int)) (IntKind.i64.wrap ((IntKind.i64.wrap x0).tmod (90 : Int) + (IntKind.i64.wrap x1).tmod (90 : Int))) (IntKind.i64.wrap d))
                                (IntKind.i64.wrap (IntKind.i64.wrap (if t1 < t0 then t1 else t0) + IntKind.i64.wrap d)) ==
                              waitB ((IntKind.i64.wrap x0).tmod (90 : Int)) (IntKind.i64.wrap ((IntKind.i64.wrap x0).tmod (90 : Int) + (IntKind.i64.wrap x1).tmod (90 : Int)))
                                (IntKind.i64.wrap (if t1 < t0 then t1 else t0)) then
                          bif
                              !waitB ((IntKind.i64.wrap x0).tmod (90 : Int)) (IntKind.i64.wrap ((IntKind.i64.wrap x0).tmod (90 : Int) + (IntKind.i64.wrap x1).tmod (90 : Int)))
                                  (IntKind.i64.wrap (if t1 < t0 then t1 else t0)) then
                            R (SV.v (Value.bool true))
                          else
                            R
                              (SV.v
                                (Value.bool
                                  (waitN
                                      (shiftE ((IntKind.i64.wrap x0).tmod (90 : Int)) (IntKind.i64.wrap ((IntKind.i64.wrap x0).tmod (90 : Int) + (IntKind.i64.wrap x1).tmod (90 : Int)))
                                        (IntKind.i64.wrap d))
                                      (shiftL ((IntKind.i64.wrap x0).tmod (90 : Int)) (IntKind.i64.wrap ((IntKind.i64.wrap x0).tmod (90 : Int) + (IntKind.i64.wrap x1).tmod (90 : Int)))
                                        (IntKind.i64.wrap d))
                                      (IntKind.i64.wrap (IntKind.i64.wrap (if t1 < t0 then t1 else t0) + IntKind.i64.wrap d)) ==
                                    IntKind.i64.wrap
                                      (waitN ((IntKind.i64.wrap x0).tmod (90 : Int)) (IntKind.i64.wrap ((IntKind.i64.wrap x0).tmod (90 : Int) + (IntKind.i64.wrap x1).tmod (90 : Int)))
                                          (IntKind.i64.wrap (if t1 < t0 then t1 else t0)) +
                                        IntKind.i64.wrap d))))
                        else R (SV.v (Value.bool false))
                      else R (SV.v (Value.bool false))
                    else R (SV.v (Value.bool false))
        else
          bif
              !waitB ((IntKind.i64.wrap x0).tmod (90 : Int)) (IntKind.i64.wrap ((IntKind.i64.wrap x0).tmod (90 : Int) + (IntKind.i64.wrap x1).tmod (90 : Int)))
                    (IntKind.i64.wrap (if t1 < t0 then t1 else t0)) ==
                  decide (IntKind.i64.wrap (if t1 < t0 then t1 else t0) ≤ IntKind.i64.wrap ((IntKind.i64.wrap x0).tmod (90 : Int) + (IntKind.i64.wrap x1).tmod (90 : Int))) then
            R (SV.v (Value.bool false))
          else
            bif
                waitB ((IntKind.i64.wrap x0).tmod (90 : Int)) (IntKind.i64.wrap ((IntKind.i64.wrap x0).tmod (90 : Int) + (IntKind.i64.wrap x1).tmod (90 : Int)))
                  (IntKind.i64.wrap (if t1 > t0 then t1 else t0)) then
              bif
                  decide
                    (waitN ((IntKind.i64.wrap x0).tmod (90 : Int)) (IntKind.i64.wrap ((IntKind.i64.wrap x0).tmod (90 : Int) + (IntKind.i64.wrap x1).tmod (90 : Int)))
                        (IntKind.i64.wrap (if t1 > t0 then t1 else t0)) <
                      waitN ((IntKind.i64.wrap x0).tmod (90 : Int)) (IntKind.i64.wrap ((IntKind.i64.wrap x0).tmod (90 : Int) + (IntKind.i64.wrap x1).tmod (90 : Int)))
                        (IntKind.i64.wrap (if t1 < t0 then t1 else t0))) then
                R (SV.v (Value.bool false))
              else
                bif
                    !shiftB ((IntKind.i64.wrap x0).tmod (90 : Int)) (IntKind.i64.wrap ((IntKind.i64.wrap x0).tmod (90 : Int) + (IntKind.i64.wrap x1).tmod (90 : Int))) (IntKind.i64.wrap d) ==
                        decide (IntKind.i64.wrap ((IntKind.i64.wrap x0).tmod (90 : Int) + IntKind.i64.wrap d) ≥ (0 : Int)) then
                  R (SV.v (Value.bool false))
                else
                  bif !shiftB ((IntKind.i64.wrap x0).tmod (90 : Int)) (IntKind.i64.wrap ((IntKind.i64.wrap x0).tmod (90 : Int) + (IntKind.i64.wrap x1).tmod (90 : Int))) (IntKind.i64.wrap d) then
                    R (SV.v (Value.bool true))
                  else
                    bif
                        shiftB (shiftE ((IntKind.i64.wrap x0).tmod (90 : Int)) (IntKind.i64.wrap ((IntKind.i64.wrap x0).tmod (90 : Int) + (IntKind.i64.wrap x1).tmod (90 : Int))) (IntKind.i64.wrap d))
                          (shiftL ((IntKind.i64.wrap x0).tmod (90 : Int)) (IntKind.i64.wrap ((IntKind.i64.wrap x0).tmod (90 : Int) + (IntKind.i64.wrap x1).tmod (90 : Int))) (IntKind.i64.wrap d))
                          (IntKind.i64.wrap ((0 : Int) - IntKind.i64.wrap d)) then
                      bif
                          shiftE
                                (shiftE ((IntKind.i64.wrap x0).tmod (90 : Int)) (IntKind.i64.wrap ((IntKind.i64.wrap x0).tmod (90 : Int) + (IntKind.i64.wrap x1).tmod (90 : Int))) (IntKind.i64.wrap d))
                                (shiftL ((IntKind.i64.wrap x0).tmod (90 : Int)) (IntKind.i64.wrap ((IntKind.i64.wrap x0).tmod (90 : Int) + (IntKind.i64.wrap x1).tmod (90 : Int))) (IntKind.i64.wrap d))
                                (IntKind.i64.wrap ((0 : Int) - IntKind.i64.wrap d)) ==
                              (IntKind.i64.wrap x0).tmod (90 : Int) &&
                            shiftL
                                (shiftE ((IntKind.i64.wrap x0).tmod (90 : Int)) (IntKind.i64.wrap ((IntKind.i64.wrap x0).tmod (90 : Int) + (IntKind.i64.wrap x1).tmod (90 : Int))) (IntKind.i64.wrap d))
                                (shiftL ((IntKind.i64.wrap x0).tmod (90 : Int)) (IntKind.i64.wrap ((IntKind.i64.wrap x0).tmod (90 : Int) + (IntKind.i64.wrap x1).tmod (90 : Int))) (IntKind.i64.wrap d))
                                (IntKind.i64.wrap ((0 : Int) - IntKind.i64.wrap d)) ==
                              IntKind.i64.wrap ((IntKind.i64.wrap x0).tmod (90 : Int) + (IntKind.i64.wrap x1).tmod (90 : Int)) then
                        bif
                            waitB
                                (shiftE ((IntKind.i64.wrap x0).tmod (90 : Int)) (IntKind.i64.wrap ((IntKind.i64.wrap x0).tmod (90 : Int) + (IntKind.i64.wrap x1).tmod (90 : Int))) (IntKind.i64.wrap d))
                                (shiftL ((IntKind.i64.wrap x0).tmod (90 : Int)) (IntKind.i64.wrap ((IntKind.i64.wrap x0).tmod (90 : Int) + (IntKind.i64.wrap x1).tmod (90 : Int))) (IntKind.i64.wrap d))
                                (IntKind.i64.wrap (IntKind.i64.wrap (if t1 < t0 then t1 else t0) + IntKind.i64.wrap d)) ==
                              waitB ((IntKind.i64.wrap x0).tmod (90 : Int)) (IntKind.i64.wrap ((IntKind.i64.wrap x0).tmod (90 : Int) + (IntKind.i64.wrap x1).tmod (90 : Int)))
                                (IntKind.i64.wrap (if t1 < t0 then t1 else t0)) then
                          bif
                              !waitB ((IntKind.i64.wrap x0).tmod (90 : Int)) (IntKind.i64.wrap ((IntKind.i64.wrap x0).tmod (90 : Int) + (IntKind.i64.wrap x1).tmod (90 : Int)))
                                  (IntKind.i64.wrap (if t1 < t0 then t1 else t0)) then
                            R (SV.v (Value.bool true))
                          else
                            R
                              (SV.v
                                (Value.bool
                                  (waitN
                                      (shiftE ((IntKind.i64.wrap x0).tmod (90 : Int)) (IntKind.i64.wrap ((IntKind.i64.wrap x0).tmod (90 : Int) + (IntKind.i64.wrap x1).tmod (90 : Int)))
                                        (IntKind.i64.wrap d))
                                      (shiftL ((IntKind.i64.wrap x0).tmod (90 : Int)) (IntKind.i64.wrap ((IntKind.i64.wrap x0).tmod (90 : Int) + (IntKind.i64.wrap x1).tmod (90 : Int)))
                                        (IntKind.i64.wrap d))
                                      (IntKind.i64.wrap (IntKind.i64.wrap (if t1 < t0 then t1 else t0) + IntKind.i64.wrap d)) ==
                                    IntKind.i64.wrap
                                      (waitN ((IntKind.i64.wrap x0).tmod (90 : Int)) (IntKind.i64.wrap ((IntKind.i64.wrap x0).tmod (90 : Int) + (IntKind.i64.wrap x1).tmod (90 : Int)))
                                          (IntKind.i64.wrap (if t1 < t0 then t1 else t0)) +
                                        IntKind.i64.wrap d))))
                        else R (SV.v (Value.bool false))
                      else R (SV.v (Value.bool false))
                    else R (SV.v (Value.bool false))
            else
              bif
                  !shiftB ((IntKind.i64.wrap x0).tmod (90 : Int)) (IntKind.i64.wrap ((IntKind.i64.wrap x0).tmod (90 : Int) + (IntKind.i64.wrap x1).tmod (90 : Int))) (IntKind.i64.wrap d) ==
                      decide (IntKind.i64.wrap ((IntKind.i64.wrap x0).tmod (90 : Int) + IntKind.i64.wrap d) ≥ (0 : Int)) then
                R (SV.v (Value.bool false))
              else
                bif !shiftB ((IntKind.i64.wrap x0).tmod (90 : Int)) (IntKind.i64.wrap ((IntKind.i64.wrap x0).tmod (90 : Int) + (IntKind.i64.wrap x1).tmod (90 : Int))) (IntKind.i64.wrap d) then
                  R (SV.v (Value.bool true))
                else
                  bif
                      shiftB (shiftE ((IntKind.i64.wrap x0).tmod (90 : Int)) (IntKind.i64.wrap ((IntKind.i64.wrap x0).tmod (90 : Int) + (IntKind.i64.wrap x1).tmod (90 : Int))) (IntKind.i64.wrap d))
                        (shiftL ((IntKind.i64.wrap x0).tmod (90 : Int)) (IntKind.i64.wrap ((IntKind.i64.wrap x0).tmod (90 : Int) + (IntKind.i64.wrap x1).tmod (90 : Int))) (IntKind.i64.wrap d))
                        (IntKind.i64.wrap ((0 : Int) - IntKind.i64.wrap d)) then
                    bif
                        shiftE (shiftE ((IntKind.i64.wrap x0).tmod (90 : Int)) (IntKind.i64.wrap ((IntKind.i64.wrap x0).tmod (90 : Int) + (IntKind.i64.wrap x1).tmod (90 : Int))) (IntKind.i64.wrap d))
                              (shiftL ((IntKind.i64.wrap x0).tmod (90 : Int)) (IntKind.i64.wrap ((IntKind.i64.wrap x0).tmod (90 : Int) + (IntKind.i64.wrap x1).tmod (90 : Int))) (IntKind.i64.wrap d))
                              (IntKind.i64.wrap ((0 : Int) - IntKind.i64.wrap d)) ==
                            (IntKind.i64.wrap x0).tmod (90 : Int) &&
                          shiftL
                              (shiftE ((IntKind.i64.wrap x0).tmod (90 : Int)) (IntKind.i64.wrap ((IntKind.i64.wrap x0).tmod (90 : Int) + (IntKind.i64.wrap x1).tmod (90 : Int))) (IntKind.i64.wrap d))
                              (shiftL ((IntKind.i64.wrap x0).tmod (90 : Int)) (IntKind.i64.wrap ((IntKind.i64.wrap x0).tmod (90 : Int) + (IntKind.i64.wrap x1).tmod (90 : Int))) (IntKind.i64.wrap d))
                              (IntKind.i64.wrap ((0 : Int) - IntKind.i64.wrap d)) ==
                            IntKind.i64.wrap ((IntKind.i64.wrap x0).tmod (90 : Int) + (IntKind.i64.wrap x1).tmod (90 : Int)) then
                      bif
                          waitB (shiftE ((IntKind.i64.wrap x0).tmod (90 : Int)) (IntKind.i64.wrap ((IntKind.i64.wrap x0).tmod (90 : Int) + (IntKind.i64.wrap x1).tmod (90 : Int))) (IntKind.i64.wrap d))
                              (shiftL ((IntKind.i64.wrap x0).tmod (90 : Int)) (IntKind.i64.wrap ((IntKind.i64.wrap x0).tmod (90 : Int) + (IntKind.i64.wrap x1).tmod (90 : Int))) (IntKind.i64.wrap d))
                              (IntKind.i64.wrap (IntKind.i64.wrap (if t1 < t0 then t1 else t0) + IntKind.i64.wrap d)) ==
                            waitB ((IntKind.i64.wrap x0).tmod (90 : Int)) (IntKind.i64.wrap ((IntKind.i64.wrap x0).tmod (90 : Int) + (IntKind.i64.wrap x1).tmod (90 : Int)))
                              (IntKind.i64.wrap (if t1 < t0 then t1 else t0)) then
                        bif
                            !waitB ((IntKind.i64.wrap x0).tmod (90 : Int)) (IntKind.i64.wrap ((IntKind.i64.wrap x0).tmod (90 : Int) + (IntKind.i64.wrap x1).tmod (90 : Int)))
                                (IntKind.i64.wrap (if t1 < t0 then t1 else t0)) then
                          R (SV.v (Value.bool true))
                        else
                          R
                            (SV.v
                              (Value.bool
                                (waitN
                                    (shiftE ((IntKind.i64.wrap x0).tmod (90 : Int)) (IntKind.i64.wrap ((IntKind.i64.wrap x0).tmod (90 : Int) + (IntKind.i64.wrap x1).tmod (90 : Int)))
                                      (IntKind.i64.wrap d))
                                    (shiftL ((IntKind.i64.wrap x0).tmod (90 : Int)) (IntKind.i64.wrap ((IntKind.i64.wrap x0).tmod (90 : Int) + (IntKind.i64.wrap x1).tmod (90 : Int)))
                                      (IntKind.i64.wrap d))
                                    (IntKind.i64.wrap (IntKind.i64.wrap (if t1 < t0 then t1 else t0) + IntKind.i64.wrap d)) ==
                                  IntKind.i64.wrap
                                    (waitN ((IntKind.i64.wrap x0).tmod (90 : Int)) (IntKind.i64.wrap ((IntKind.i64.wrap x0).tmod (90 : Int) + (IntKind.i64.wrap x1).tmod (90 : Int)))
                                        (IntKind.i64.wrap (if t1 < t0 then t1 else t0)) +
                                      IntKind.i64.wrap d))))
                      else R (SV.v (Value.bool false))
                    else R (SV.v (Value.bool false))
                  else R (SV.v (Value.bool false))
  else
    bif
        !waitB ((IntKind.i64.wrap x0).tmod (90 : Int)) (IntKind.i64.wrap ((IntKind.i64.wrap x0).tmod (90 : Int) + (IntKind.i64.wrap x1).tmod (90 : Int)))
              (IntKind.i64.wrap (if t1 < t0 then t1 else t0)) ==
            decide (IntKind.i64.wrap (if t1 < t0 then t1 else t0) ≤ IntKind.i64.wrap ((IntKind.i64.wrap x0).tmod (90 : Int) + (IntKind.i64.wrap x1).tmod (90 : Int))) then
      R (SV.v (Value.bool false))
    else
      bif
          waitB ((IntKind.i64.wrap x0).tmod (90 : Int)) (IntKind.i64.wrap ((IntKind.i64.wrap x0).tmod (90 : Int) + (IntKind.i64.wrap x1).tmod (90 : Int)))
            (IntKind.i64.wrap (if t1 > t0 then t1 else t0)) then
        bif
            decide
              (waitN ((IntKind.i64.wrap x0).tmod (90 : Int)) (IntKind.i64.wrap ((IntKind.i64.wrap x0).tmod (90 : Int) + (IntKind.i64.wrap x1).tmod (90 : Int)))
                  (IntKind.i64.wrap (if t1 > t0 then t1 else t0)) <
                waitN ((IntKind.i64.wrap x0).tmod (90 : Int)) (IntKind.i64.wrap ((IntKind.i64.wrap x0).tmod (90 : Int) + (IntKind.i64.wrap x1).tmod (90 : Int)))
                  (IntKind.i64.wrap (if t1 < t0 then t1 else t0))) then
          R (SV.v (Value.bool false))
        else
          bif
              !shiftB ((IntKind.i64.wrap x0).tmod (90 : Int)) (IntKind.i64.wrap ((IntKind.i64.wrap x0).tmod (90 : Int) + (IntKind.i64.wrap x1).tmod (90 : Int))) (IntKind.i64.wrap d) ==
                  decide (IntKind.i64.wrap ((IntKind.i64.wrap x0).tmod (90 : Int) + IntKind.i64.wrap d) ≥ (0 : Int)) then
            R (SV.v (Value.bool false))
          else
            bif !shiftB ((IntKind.i64.wrap x0).tmod (90 : Int)) (IntKind.i64.wrap ((IntKind.i64.wrap x0).tmod (90 : Int) + (IntKind.i64.wrap x1).tmod (90 : Int))) (IntKind.i64.wrap d) then
              R (SV.v (Value.bool true))
            else
              bif
                  shiftB (shiftE ((IntKind.i64.wrap x0).tmod (90 : Int)) (IntKind.i64.wrap ((IntKind.i64.wrap x0).tmod (90 : Int) + (IntKind.i64.wrap x1).tmod (90 : Int))) (IntKind.i64.wrap d))
                    (shiftL ((IntKind.i64.wrap x0).tmod (90 : Int)) (IntKind.i64.wrap ((IntKind.i64.wrap x0).tmod (90 : Int) + (IntKind.i64.wrap x1).tmod (90 : Int))) (IntKind.i64.wrap d))
                    (IntKind.i64.wrap ((0 : Int) - IntKind.i64.wrap d)) then
                bif
                    shiftE (shiftE ((IntKind.i64.wrap x0).tmod (90 : Int)) (IntKind.i64.wrap ((IntKind.i64.wrap x0).tmod (90 : Int) + (IntKind.i64.wrap x1).tmod (90 : Int))) (IntKind.i64.wrap d))
                          (shiftL ((IntKind.i64.wrap x0).tmod (90 : Int)) (IntKind.i64.wrap ((IntKind.i64.wrap x0).tmod (90 : Int) + (IntKind.i64.wrap x1).tmod (90 : Int))) (IntKind.i64.wrap d))
                          (IntKind.i64.wrap ((0 : Int) - IntKind.i64.wrap d)) ==
                        (IntKind.i64.wrap x0).tmod (90 : Int) &&
                      shiftL (shiftE ((IntKind.i64.wrap x0).tmod (90 : Int)) (IntKind.i64.wrap ((IntKind.i64.wrap x0).tmod (90 : Int) + (IntKind.i64.wrap x1).tmod (90 : Int))) (IntKind.i64.wrap d))
                          (shiftL ((IntKind.i64.wrap x0).tmod (90 : Int)) (IntKind.i64.wrap ((IntKind.i64.wrap x0).tmod (90 : Int) + (IntKind.i64.wrap x1).tmod (90 : Int))) (IntKind.i64.wrap d))
                          (IntKind.i64.wrap ((0 : Int) - IntKind.i64.wrap d)) ==
                        IntKind.i64.wrap ((IntKind.i64.wrap x0).tmod (90 : Int) + (IntKind.i64.wrap x1).tmod (90 : Int)) then
                  bif
                      waitB (shiftE ((IntKind.i64.wrap x0).tmod (90 : Int)) (IntKind.i64.wrap ((IntKind.i64.wrap x0).tmod (90 : Int) + (IntKind.i64.wrap x1).tmod (90 : Int))) (IntKind.i64.wrap d))
                          (shiftL ((IntKind.i64.wrap x0).tmod (90 : Int)) (IntKind.i64.wrap ((IntKind.i64.wrap x0).tmod (90 : Int) + (IntKind.i64.wrap x1).tmod (90 : Int))) (IntKind.i64.wrap d))
                          (IntKind.i64.wrap (IntKind.i64.wrap (if t1 < t0 then t1 else t0) + IntKind.i64.wrap d)) ==
                        waitB ((IntKind.i64.wrap x0).tmod (90 : Int)) (IntKind.i64.wrap ((IntKind.i64.wrap x0).tmod (90 : Int) + (IntKind.i64.wrap x1).tmod (90 : Int)))
                          (IntKind.i64.wrap (if t1 < t0 then t1 else t0)) then
                    bif
                        !waitB ((IntKind.i64.wrap x0).tmod (90 : Int)) (IntKind.i64.wrap ((IntKind.i64.wrap x0).tmod (90 : Int) + (IntKind.i64.wrap x1).tmod (90 : Int)))
                            (IntKind.i64.wrap (if t1 < t0 then t1 else t0)) then
                      R (SV.v (Value.bool true))
                    else
                      R
                        (SV.v
                          (Value.bool
                            (waitN
                                (shiftE ((IntKind.i64.wrap x0).tmod (90 : Int)) (IntKind.i64.wrap ((IntKind.i64.wrap x0).tmod (90 : Int) + (IntKind.i64.wrap x1).tmod (90 : Int))) (IntKind.i64.wrap d))
                                (shiftL ((IntKind.i64.wrap x0).tmod (90 : Int)) (IntKind.i64.wrap ((IntKind.i64.wrap x0).tmod (90 : Int) + (IntKind.i64.wrap x1).tmod (90 : Int))) (IntKind.i64.wrap d))
                                (IntKind.i64.wrap (IntKind.i64.wrap (if t1 < t0 then t1 else t0) + IntKind.i64.wrap d)) ==
                              IntKind.i64.wrap
                                (waitN ((IntKind.i64.wrap x0).tmod (90 : Int)) (IntKind.i64.wrap ((IntKind.i64.wrap x0).tmod (90 : Int) + (IntKind.i64.wrap x1).tmod (90 : Int)))
                                    (IntKind.i64.wrap (if t1 < t0 then t1 else t0)) +
                                  IntKind.i64.wrap d))))
                  else R (SV.v (Value.bool false))
                else R (SV.v (Value.bool false))
              else R (SV.v (Value.bool false))
      else
        bif
            !shiftB ((IntKind.i64.wrap x0).tmod (90 : Int)) (IntKind.i64.wrap ((IntKind.i64.wrap x0).tmod (90 : Int) + (IntKind.i64.wrap x1).tmod (90 : Int))) (IntKind.i64.wrap d) ==
                decide (IntKind.i64.wrap ((IntKind.i64.wrap x0).tmod (90 : Int) + IntKind.i64.wrap d) ≥ (0 : Int)) then
          R (SV.v (Value.bool false))
        else
          bif !shiftB ((IntKind.i64.wrap x0).tmod (90 : Int)) (IntKind.i64.wrap ((IntKind.i64.wrap x0).tmod (90 : Int) + (IntKind.i64.wrap x1).tmod (90 : Int))) (IntKind.i64.wrap d) then
            R (SV.v (Value.bool true))
          else
            bif
                shiftB (shiftE ((IntKind.i64.wrap x0).tmod (90 : Int)) (IntKind.i64.wrap ((IntKind.i64.wrap x0).tmod (90 : Int) + (IntKind.i64.wrap x1).tmod (90 : Int))) (IntKind.i64.wrap d))
                  (shiftL ((IntKind.i64.wrap x0).tmod (90 : Int)) (IntKind.i64.wrap ((IntKind.i64.wrap x0).tmod (90 : Int) + (IntKind.i64.wrap x1).tmod (90 : Int))) (IntKind.i64.wrap d))
                  (IntKind.i64.wrap ((0 : Int) - IntKind.i64.wrap d)) then
              bif
                  shiftE (shiftE ((IntKind.i64.wrap x0).tmod (90 : Int)) (IntKind.i64.wrap ((IntKind.i64.wrap x0).tmod (90 : Int) + (IntKind.i64.wrap x1).tmod (90 : Int))) (IntKind.i64.wrap d))
                        (shiftL ((IntKind.i64.wrap x0).tmod (90 : Int)) (IntKind.i64.wrap ((IntKind.i64.wrap x0).tmod (90 : Int) + (IntKind.i64.wrap x1).tmod (90 : Int))) (IntKind.i64.wrap d))
                        (IntKind.i64.wrap ((0 : Int) - IntKind.i64.wrap d)) ==
                      (IntKind.i64.wrap x0).tmod (90 : Int) &&
                    shiftL (shiftE ((IntKind.i64.wrap x0).tmod (90 : Int)) (IntKind.i64.wrap ((IntKind.i64.wrap x0).tmod (90 : Int) + (IntKind.i64.wrap x1).tmod (90 : Int))) (IntKind.i64.wrap d))
                        (shiftL ((IntKind.i64.wrap x0).tmod (90 : Int)) (IntKind.i64.wrap ((IntKind.i64.wrap x0).tmod (90 : Int) + (IntKind.i64.wrap x1).tmod (90 : Int))) (IntKind.i64.wrap d))
                        (IntKind.i64.wrap ((0 : Int) - IntKind.i64.wrap d)) ==
                      IntKind.i64.wrap ((IntKind.i64.wrap x0).tmod (90 : Int) + (IntKind.i64.wrap x1).tmod (90 : Int)) then
                bif
                    waitB (shiftE ((IntKind.i64.wrap x0).tmod (90 : Int)) (IntKind.i64.wrap ((IntKind.i64.wrap x0).tmod (90 : Int) + (IntKind.i64.wrap x1).tmod (90 : Int))) (IntKind.i64.wrap d))
                        (shiftL ((IntKind.i64.wrap x0).tmod (90 : Int)) (IntKind.i64.wrap ((IntKind.i64.wrap x0).tmod (90 : Int) + (IntKind.i64.wrap x1).tmod (90 : Int))) (IntKind.i64.wrap d))
                        (IntKind.i64.wrap (IntKind.i64.wrap (if t1 < t0 then t1 else t0) + IntKind.i64.wrap d)) ==
                      waitB ((IntKind.i64.wrap x0).tmod (90 : Int)) (IntKind.i64.wrap ((IntKind.i64.wrap x0).tmod (90 : Int) + (IntKind.i64.wrap x1).tmod (90 : Int)))
                        (IntKind.i64.wrap (if t1 < t0 then t1 else t0)) then
                  bif
                      !waitB ((IntKind.i64.wrap x0).tmod (90 : Int)) (IntKind.i64.wrap ((IntKind.i64.wrap x0).tmod (90 : Int) + (IntKind.i64.wrap x1).tmod (90 : Int)))
                          (IntKind.i64.wrap (if t1 < t0 then t1 else t0)) then
                    R (SV.v (Value.bool true))
                  else
                    R
                      (SV.v
                        (Value.bool
                          (waitN
                              (shiftE ((IntKind.i64.wrap x0).tmod (90 : Int)) (IntKind.i64.wrap ((IntKind.i64.wrap x0).tmod (90 : Int) + (IntKind.i64.wrap x1).tmod (90 : Int))) (IntKind.i64.wrap d))
                              (shiftL ((IntKind.i64.wrap x0).tmod (90 : Int)) (IntKind.i64.wrap ((IntKind.i64.wrap x0).tmod (90 : Int) + (IntKind.i64.wrap x1).tmod (90 : Int))) (IntKind.i64.wrap d))
                              (IntKind.i64.wrap (IntKind.i64.wrap (if t1 < t0 then t1 else t0) + IntKind.i64.wrap d)) ==
                            IntKind.i64.wrap
                              (waitN ((IntKind.i64.wrap x0).tmod (90 : Int)) (IntKind.i64.wrap ((IntKind.i64.wrap x0).tmod (90 : Int) + (IntKind.i64.wrap x1).tmod (90 : Int)))
                                  (IntKind.i64.wrap (if t1 < t0 then t1 else t0)) +
                                IntKind.i64.wrap d))))
                else R (SV.v (Value.bool false))
              else R (SV.v (Value.bool false))
            else R (SV.v (Value.bool false))) := by kernel_rfl
end Go.Proofs.Ytpafjmedjlcgcaa
