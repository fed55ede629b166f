/- The law LedgerKnown, run by the engine, answers true: for all arguments. No condition. -/
import Derived.Test.YteklfbeeiahcpaaL9Ctr
import Derived.Test.YteklfbeeiahcpaaV3M
namespace Go.Proofs.Yteklfbeeiahcpaa
open Go.Eng
set_option linter.unusedSimpArgs false

set_option maxRecDepth 1000000 in
theorem tKnL  : (fnS Try.prog GL noLoops 200 6 [] [] fun u _ => isYes u) =
(True ∧ true = true) := by kernel_rfl
namespace ledgerKnown
set_option maxHeartbeats 4000000 in
theorem fallI   : ∃ ss, leSVs [] ss ∧ ∃ Λ n, fnS Try.prog GL Λ n 6 ss [] fun u _ => isYes u := by
  exact ⟨[], trivial, noLoops, 200, Eq.mpr tKnL (by first | trivial | exact ⟨trivial, rfl⟩ | rfl | simp)⟩
def shapes : List (Bool × List Kd2) := []
theorem fall (ss : List SV) (bs : List Blk) (h : ParsOk 0 shapes ss bs) : ∃ ss1, leSVs ss ss1 ∧ ∃ Λ n, fnS Try.prog GL Λ n 6 ss1 bs fun u _ => isYes u := by
  obtain ⟨rfl, rfl⟩ := ps_nil h
  exact fallI 
end ledgerKnown
end Go.Proofs.Yteklfbeeiahcpaa
