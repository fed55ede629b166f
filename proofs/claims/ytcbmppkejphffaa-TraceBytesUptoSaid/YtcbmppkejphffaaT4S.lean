/- How many bytes a row has, where its strings are not too long. No condition. -/
import Derived.Test.YtcbmppkejphffaaT4P
import Derived.Test.YtcbmppkejphffaaV6Q
namespace Go.Proofs.Ytcbmppkejphffaa
open Go.Eng
theorem sawB_length (x : List Value) : (sawB x).length = 40 + (gets x 2).size := by
  simp only [sawB, e8, List.length_append, List.length_cons, List.length_nil, strEl_length]
  omega
theorem gets_small {B : Nat} {x : List Value} (h : Szc B x) (j : Nat) : (gets x j).size ≤ B := by
  unfold gets
  split
  · rename_i s hs
    exact h s (List.mem_of_getElem? hs)
  · exact Nat.zero_le _
theorem byts_small {B : Nat} : ∀ {l : List (List Value)}, Szr B l → (byts l).length ≤ l.length * (40 + B)
  | [], _ => by simp [byts]
  | x :: l, h => by
    have h1 := gets_small (h x (by simp)) 2
    have h2 := byts_small (B := B) (l := l) fun y hy => h y (by simp [hy])
    rw [byts, List.length_append, sawB_length, List.length_cons, Nat.add_mul]
    omega
theorem szr_take {B : Nat} {l : List (List Value)} (h : Szr B l) (n : Nat) : Szr B (l.take n) := fun x hx => h x (List.mem_of_mem_take hx)
theorem byts_20 {l : List (List Value)} (h : Szr 1048576 l) : (byts (l.take 20)).length ≤ 25000000 := by
  have h1 := byts_small (szr_take h 20)
  have h2 : (l.take 20).length ≤ 20 := by simp; omega
  have h3 := Nat.mul_le_mul_right (40 + 1048576) h2
  omega
end Go.Proofs.Ytcbmppkejphffaa
