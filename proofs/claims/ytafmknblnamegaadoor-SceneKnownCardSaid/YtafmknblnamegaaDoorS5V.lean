/- The scenes of SceneKnown: what scene.Check tells of them. No condition. -/
import Derived.Test.YtafmknblnamegaaDoorS5EP
import Derived.KernelRfl
namespace Go.Proofs.YtafmknblnamegaaDoor
open Go.Eng
set_option maxRecDepth 100000
def oneV : List Value := [.int .i64 0, .int .i64 0, .int .i64 1, .int .i64 0, .int .i64 0, .int .i64 50, .int .i64 0, .int .i64 50, .int .i64 1, .int .i64 0]
def zeroV : List Value := [.int .i64 0, .int .i64 0, .int .i64 0, .int .i64 0, .int .i64 0, .int .i64 0, .int .i64 0, .int .i64 0, .int .i64 0, .int .i64 0]
def rqK (i : Int) : Rw := List.replicate i.toNat oneV ++ List.replicate (64 - i).toNat zeroV
def osK (i : Int) : Rw := (List.range i.toNat).map fun (j : Nat) => [.int .i64 (63 - (j : Int))]
def lsK (i : Int) : Rw := (List.range i.toNat).map fun (j : Nat) => [.int .i64 (j : Int), .int .i64 16777216]
theorem rqK_len (i : Int) (h0 : 0 ≤ i) (h : i ≤ 64) : ((rqK i).length : Int) = 64 := by
  unfold rqK; rw [List.length_append, List.length_replicate, List.length_replicate]; omega
theorem osK_len (i : Int) : (osK i).length = i.toNat := by simp [osK]
theorem lsK_len (i : Int) : (lsK i).length = i.toNat := by simp [lsK]
theorem osK_succ (i : Int) (h : 0 ≤ i) : osK i ++ [[Value.int .i64 (63 - i)]] = osK (i + 1) := by
  unfold osK
  rw [show (i + 1).toNat = i.toNat + 1 by omega, List.range_succ, List.map_append]
  simp only [List.map_cons, List.map_nil]
  rw [show ((i.toNat : Nat) : Int) = i by omega]
theorem lsK_succ (i : Int) (h : 0 ≤ i) : lsK i ++ [[Value.int .i64 i, Value.int .i64 16777216]] = lsK (i + 1) := by
  unfold lsK
  rw [show (i + 1).toNat = i.toNat + 1 by omega, List.range_succ, List.map_append]
  simp only [List.map_cons, List.map_nil]
  rw [show ((i.toNat : Nat) : Int) = i by omega]
theorem rqK_set (i : Int) (h0 : 0 ≤ i) (h : i < 64) : (rqK i).set i.toNat oneV = rqK (i + 1) := by
  unfold rqK
  have e1 : (64 - i).toNat = (64 - (i + 1)).toNat + 1 := by omega
  rw [e1, show (i + 1).toNat = i.toNat + 1 by omega, List.set_append_right _ _ (by simp), List.length_replicate, Nat.sub_self, List.replicate_succ, List.set_cons_zero, List.replicate_succ', List.append_assoc]; rfl
theorem skF0 : (ckF (rqK 64) (csK (vR 0 0 5 0 99) (osK 64)) (lsK 16) 64 64 1 dsK).c = 0 := by kernel_rfl
theorem skF1 : ckF ([] ++ rqK 64 ++ [oneV]) (csK (vR 0 0 5 0 99) (osK 64)) (lsK 16) 64 64 1 dsK = ⟨11, 0, 0⟩ := by kernel_rfl
theorem skF2 : ckF (rqK 64) (csK (vR 0 0 5 0 99) (osK 64)) ([] ++ lsK 16 ++ [[Value.int .i64 20, Value.int .i64 0]]) 64 64 1 dsK = ⟨11, 0, 0⟩ := by kernel_rfl
theorem skF3 : ckF (rqK 64) (csK (vR 0 0 5 0 99) (osK 64)) (lsK 16) 64 65 1 dsK = ⟨2, 0, 0⟩ := by kernel_rfl
theorem skF4 : ckF (rqK 64) (csK (vR 0 0 5 0 99) (osK 64)) (lK 5 16777217 5 0) 64 64 1 dsK = ⟨3, 3, 0⟩ := by kernel_rfl
end Go.Proofs.YtafmknblnamegaaDoor
