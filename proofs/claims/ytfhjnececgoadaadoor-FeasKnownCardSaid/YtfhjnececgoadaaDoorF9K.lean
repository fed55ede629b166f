/- The law FeasKnown, run by the engine, answers true: for all arguments. No condition. -/
import Derived.Test.YtfhjnececgoadaaDoorF9KT
namespace Go.Proofs.YtfhjnececgoadaaDoor
open Go.Eng
set_option linter.unusedSimpArgs false
namespace feasKnown
set_option maxRecDepth 100000 in
set_option maxHeartbeats 4000000 in
theorem fallI   : ∃ ss, leSVs [] ss ∧ ∃ Λ n, fnS Tryd.prog GX Λ n 7 ss [] fun u _ => isYes u := by
  exact ⟨[], trivial, noLoops, 400, Eq.mpr tKn (by first | trivial | exact ⟨trivial, rfl⟩ | rfl | simp)⟩
def shapes : List (Bool × List Kd2) := []
theorem fall (ss : List SV) (bs : List Blk) (h : ParsOk 0 shapes ss bs) : ∃ ss1, leSVs ss ss1 ∧ ∃ Λ n, fnS Tryd.prog GX Λ n 7 ss1 bs fun u _ => isYes u := by
  obtain ⟨rfl, rfl⟩ := ps_nil h
  exact fallI 
end feasKnown
end Go.Proofs.YtfhjnececgoadaaDoor
