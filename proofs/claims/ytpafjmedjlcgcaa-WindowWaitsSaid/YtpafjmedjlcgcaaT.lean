/- The engine's normal forms for chapter 3. No condition. -/
import Derived.Test.YtpafjmedjlcgcaaCtr
namespace Go.Proofs.Ytpafjmedjlcgcaa
open Go.Eng
theorem t25 (a b : Int) (R : SV → Prop) : (fnS Try.prog noPC noLoops 100 25 [win a b] [] fun v _ => R v) =
(bif decide (a ≥ (0 : Int)) then bif decide (a ≤ b) then R (SV.v (Value.bool (decide (b ≤ (1048576 : Int))))) else R (SV.v (Value.bool false)) else R (SV.v (Value.bool false))) := by kernel_rfl
theorem t14 (a b : Int) (R : SV → Prop) : (fnS Try.prog G1 noLoops 100 14 [win a b] [] fun v _ => R v) =
(R (SV.v (Value.bool (mayB a b)))) := by kernel_rfl
theorem t9 (a b c d : Int) (R : SV → Prop) : (fnS Try.prog G1 noLoops 100 9 [win a b, win c d] [] fun v _ => R v) =
(bif !mayB a b then R (SV.tup [SV.agg [SV.v (Value.int IntKind.i64 (0 : Int)), SV.v (Value.int IntKind.i64 (0 : Int))], SV.v (Value.bool false)])
else
  bif !mayB c d then R (SV.tup [SV.agg [SV.v (Value.int IntKind.i64 (0 : Int)), SV.v (Value.int IntKind.i64 (0 : Int))], SV.v (Value.bool false)])
  else
    bif !decide ((if c > a then c else a) ≤ if d < b then d else b) then R (SV.tup [SV.agg [SV.v (Value.int IntKind.i64 (0 : Int)), SV.v (Value.int IntKind.i64 (0 : Int))], SV.v (Value.bool false)])
    else R (SV.tup [SV.agg [SV.v (Value.int IntKind.i64 (if c > a then c else a)), SV.v (Value.int IntKind.i64 (if d < b then d else b))], SV.v (Value.bool true)])) := by kernel_rfl
theorem t10 (a b t : Int) (R : SV → Prop) : (fnS Try.prog G1 noLoops 100 10 [win a b, i6 t] [] fun v _ => R v) =
(bif !mayB a b then R (SV.v (Value.bool false)) else bif decide (t ≥ a) then bif !decide (t ≤ b) then R (SV.v (Value.bool false)) else R (SV.v (Value.bool true)) else R (SV.v (Value.bool false))) := by kernel_rfl
theorem t11 (a b t : Int) (R : SV → Prop) : (fnS Try.prog G1 noLoops 100 11 [win a b, i6 t] [] fun v _ => R v) =
(bif !mayB a b then R (SV.tup [SV.v (Value.int IntKind.i64 (0 : Int)), SV.v (Value.bool false)])
else
  bif !decide ((if a > t then a else t) ≤ b) then R (SV.tup [SV.v (Value.int IntKind.i64 (0 : Int)), SV.v (Value.bool false)])
  else R (SV.tup [SV.v (Value.int IntKind.i64 (if a > t then a else t)), SV.v (Value.bool true)])) := by kernel_rfl
theorem t12 (a b t : Int) (R : SV → Prop) : (fnS Try.prog G1 noLoops 100 12 [win a b, i6 t] [] fun v _ => R v) =
(bif !mayB a b then R (SV.tup [SV.agg [SV.v (Value.int IntKind.i64 (0 : Int)), SV.v (Value.int IntKind.i64 (0 : Int))], SV.v (Value.bool false)])
else
  bif decide (t < IntKind.i64.wrap ((0 : Int) - a)) then R (SV.tup [SV.agg [SV.v (Value.int IntKind.i64 (0 : Int)), SV.v (Value.int IntKind.i64 (0 : Int))], SV.v (Value.bool false)])
  else
    bif decide (t > IntKind.i64.wrap ((1048576 : Int) - b)) then R (SV.tup [SV.agg [SV.v (Value.int IntKind.i64 (0 : Int)), SV.v (Value.int IntKind.i64 (0 : Int))], SV.v (Value.bool false)])
    else R (SV.tup [SV.agg [SV.v (Value.int IntKind.i64 (IntKind.i64.wrap (a + t))), SV.v (Value.int IntKind.i64 (IntKind.i64.wrap (b + t)))], SV.v (Value.bool true)])) := by kernel_rfl
theorem t15 (a b : Int) (R : SV → Prop) : (fnS Try.prog noPC noLoops 100 15 [win a b] [] fun v _ => R v) =
(bif decide (a ≥ (0 : Int)) then bif decide (a ≤ b) then R (SV.v (Value.bool (decide (b ≤ (1048576 : Int))))) else R (SV.v (Value.bool false)) else R (SV.v (Value.bool false))) := by kernel_rfl
theorem t13 (a b c d : Int) (R : SV → Prop) : (fnS Try.prog noPC noLoops 100 13 [win a b, win c d] [] fun v _ => R v) =
(bif decide (a ≥ (0 : Int)) then
  bif decide (a ≤ b) then
    bif !decide (b ≤ (1048576 : Int)) then R (SV.tup [SV.agg [SV.v (Value.int IntKind.i64 (0 : Int)), SV.v (Value.int IntKind.i64 (0 : Int))], SV.v (Value.bool false)])
    else
      bif decide (c ≥ (0 : Int)) then
        bif decide (c ≤ d) then
          bif !decide (d ≤ (1048576 : Int)) then R (SV.tup [SV.agg [SV.v (Value.int IntKind.i64 (0 : Int)), SV.v (Value.int IntKind.i64 (0 : Int))], SV.v (Value.bool false)])
          else
            bif decide ((if c > a then c else a) > if d < b then d else b) then
              R (SV.tup [SV.agg [SV.v (Value.int IntKind.i64 (0 : Int)), SV.v (Value.int IntKind.i64 (0 : Int))], SV.v (Value.bool false)])
            else R (SV.tup [SV.agg [SV.v (Value.int IntKind.i64 (if c > a then c else a)), SV.v (Value.int IntKind.i64 (if d < b then d else b))], SV.v (Value.bool true)])
        else R (SV.tup [SV.agg [SV.v (Value.int IntKind.i64 (0 : Int)), SV.v (Value.int IntKind.i64 (0 : Int))], SV.v (Value.bool false)])
      else R (SV.tup [SV.agg [SV.v (Value.int IntKind.i64 (0 : Int)), SV.v (Value.int IntKind.i64 (0 : Int))], SV.v (Value.bool false)])
  else R (SV.tup [SV.agg [SV.v (Value.int IntKind.i64 (0 : Int)), SV.v (Value.int IntKind.i64 (0 : Int))], SV.v (Value.bool false)])
else R (SV.tup [SV.agg [SV.v (Value.int IntKind.i64 (0 : Int)), SV.v (Value.int IntKind.i64 (0 : Int))], SV.v (Value.bool false)])) := by kernel_rfl
theorem t18 (a b t : Int) (R : SV → Prop) : (fnS Try.prog noPC noLoops 100 18 [win a b, i6 t] [] fun v _ => R v) =
(bif decide (a ≥ (0 : Int)) then
  bif decide (a ≤ b) then bif decide (b ≤ (1048576 : Int)) then bif decide (a ≤ t) then R (SV.v (Value.bool (decide (t ≤ b)))) else R (SV.v (Value.bool false)) else R (SV.v (Value.bool false))
  else R (SV.v (Value.bool false))
else R (SV.v (Value.bool false))) := by kernel_rfl
theorem t16 (a b t : Int) (R : SV → Prop) : (fnS Try.prog noPC noLoops 100 16 [win a b, i6 t] [] fun v _ => R v) =
(bif decide (a ≥ (0 : Int)) then
  bif decide (a ≤ b) then
    bif decide (b ≤ (1048576 : Int)) then
      bif decide (a ≤ if a > t then a else t) then
        bif !decide ((if a > t then a else t) ≤ b) then R (SV.tup [SV.v (Value.int IntKind.i64 (0 : Int)), SV.v (Value.bool false)])
        else R (SV.tup [SV.v (Value.int IntKind.i64 (if a > t then a else t)), SV.v (Value.bool true)])
      else R (SV.tup [SV.v (Value.int IntKind.i64 (0 : Int)), SV.v (Value.bool false)])
    else R (SV.tup [SV.v (Value.int IntKind.i64 (0 : Int)), SV.v (Value.bool false)])
  else R (SV.tup [SV.v (Value.int IntKind.i64 (0 : Int)), SV.v (Value.bool false)])
else R (SV.tup [SV.v (Value.int IntKind.i64 (0 : Int)), SV.v (Value.bool false)])) := by kernel_rfl
theorem t17 (a b t : Int) (R : SV → Prop) : (fnS Try.prog noPC noLoops 100 17 [win a b, i6 t] [] fun v _ => R v) =
(bif decide (a ≥ (0 : Int)) then
  bif decide (a ≤ b) then
    bif !decide (b ≤ (1048576 : Int)) then R (SV.tup [SV.agg [SV.v (Value.int IntKind.i64 (0 : Int)), SV.v (Value.int IntKind.i64 (0 : Int))], SV.v (Value.bool false)])
    else
      bif decide (t > (1048576 : Int)) then R (SV.tup [SV.agg [SV.v (Value.int IntKind.i64 (0 : Int)), SV.v (Value.int IntKind.i64 (0 : Int))], SV.v (Value.bool false)])
      else
        bif decide (t < (-1048576 : Int)) then R (SV.tup [SV.agg [SV.v (Value.int IntKind.i64 (0 : Int)), SV.v (Value.int IntKind.i64 (0 : Int))], SV.v (Value.bool false)])
        else
          bif decide (IntKind.i64.wrap (a + t) ≥ (0 : Int)) then
            bif decide (IntKind.i64.wrap (a + t) ≤ IntKind.i64.wrap (b + t)) then
              bif !decide (IntKind.i64.wrap (b + t) ≤ (1048576 : Int)) then
                R (SV.tup [SV.agg [SV.v (Value.int IntKind.i64 (0 : Int)), SV.v (Value.int IntKind.i64 (0 : Int))], SV.v (Value.bool false)])
              else R (SV.tup [SV.agg [SV.v (Value.int IntKind.i64 (IntKind.i64.wrap (a + t))), SV.v (Value.int IntKind.i64 (IntKind.i64.wrap (b + t)))], SV.v (Value.bool true)])
            else R (SV.tup [SV.agg [SV.v (Value.int IntKind.i64 (0 : Int)), SV.v (Value.int IntKind.i64 (0 : Int))], SV.v (Value.bool false)])
          else R (SV.tup [SV.agg [SV.v (Value.int IntKind.i64 (0 : Int)), SV.v (Value.int IntKind.i64 (0 : Int))], SV.v (Value.bool false)])
  else R (SV.tup [SV.agg [SV.v (Value.int IntKind.i64 (0 : Int)), SV.v (Value.int IntKind.i64 (0 : Int))], SV.v (Value.bool false)])
else R (SV.tup [SV.agg [SV.v (Value.int IntKind.i64 (0 : Int)), SV.v (Value.int IntKind.i64 (0 : Int))], SV.v (Value.bool false)])) := by kernel_rfl
theorem t8 (a b : Int) (R : SV → Prop) : (fnS Try.prog noPC noLoops 100 8 [i6 a, i6 b] [] fun v _ => R v) =
(R (SV.agg [SV.v (Value.int IntKind.i64 a), SV.v (Value.int IntKind.i64 b)])) := by kernel_rfl
theorem t7 (R : SV → Prop) : (fnS Try.prog G2 noLoops 100 7 [] [] fun v _ => R v) =
(R (SV.v (Value.bool true))) := by kernel_rfl
theorem t6 (R : SV → Prop) : (fnS Try.prog G2 noLoops 200 6 [] [] fun v _ => R v) =
(R (SV.v (Value.bool true))) := by kernel_rfl
end Go.Proofs.Ytpafjmedjlcgcaa
