/- Further contracts of the functions that the chapter's statements reach. No condition. -/
import Derived.Test.YtcbmppkejphffaaT2P
namespace Go.Proofs.Ytcbmppkejphffaa
open Go.Eng
set_option linter.unusedSimpArgs false
def I (n : Int) : SV := .i .i64 n (-9223372036854775808) 9223372036854775807
def K (n : Int) : SV := .i .i64 n 0 9223372036854775807
def U64 (n : Int) : SV := .i .u64 n 0 18446744073709551615
def S (s : ByteArray) : SV := .s s 9223372036854775807
def pI : Par Int := .int .i64 (-9223372036854775808) 9223372036854775807
def pU64 : Par Int := .int .u64 0 18446744073709551615
def pS : Par ByteArray := .str 9223372036854775807
def SN : SV := .row 1000000
def SW : List Kd := [.int .i64, .int .i64, .str, .int .i64, .int .u64]
noncomputable def dB (p : Prop) : Bool := @decide p (Classical.propDecidable p)
def pSaw : Par (Int × Int × ByteArray × Int × Int × Unit) := .agg (.cons pI (.cons pI (.cons pS (.cons pI (.cons pU64 .nil)))))
def saw (k t : Int) (b : ByteArray) (r n : Int) : SV := .agg [I k, I t, S b, I r, U64 n]
def sawV (k t : Int) (b : ByteArray) (r n : Int) : List Value := [.int .i64 k, .int .i64 t, .string b, .int .i64 r, .int .u64 n]
def mayB (k : Int) (b : ByteArray) (r n : Int) : Bool := cond (decide (k = 0) || decide (k = 1)) (decide (r = 0) && decide (n = 0)) ((decide (k = 2) || decide (k = 3)) && (decide (b.size = 0) && decide (0 ≤ r)))
def lastT (l : List (List Value)) : Int := geti (l.getD (l.length - 1) []) 1
def tickB (l : List (List Value)) (t : Int) : Bool := decide (0 ≤ t) && (decide (l.length = 0) || decide (lastT l ≤ t))
noncomputable def sameAt (a b : List (List Value)) (i : Nat) : Bool := decide (i < a.length) && (decide (i < b.length) && dB (a.getD i [] = b.getD i []))
def fgood (g : Nat → Bool) : Nat → Nat
  | 0 => 0
  | n + 1 => cond (decide (fgood g n < n)) (fgood g n) (cond (g n) (n + 1) n)
noncomputable def difM (a b : List (List Value)) : Nat := fgood (sameAt a b) (max a.length b.length)
noncomputable def difB (a b : List (List Value)) : Bool := dB (¬ a = b)
noncomputable def difN (a b : List (List Value)) : Int := cond (difB a b) (difM a b : Nat) 0
def dfSpec (a b : List (List Value)) : LoopSpec where
  S := Int
  regs := fun k => [(6, K k)]
  keep := [0, 1]
  heap := fun _ => []
  inv := fun k => 0 ≤ k ∧ k ≤ max a.length b.length ∧ ∀ i, i < k.toNat → sameAt a b i = true
  mu := fun k => ((max a.length b.length : Nat) - k).toNat
def dfL (a b : List (List Value)) : LoopSpecs := fun g i => cond (Nat.beq g 17 && Nat.beq i 2) (some fun _ => dfSpec a b) none
def sm1Spec (a b : List (List Value)) : LoopSpec where
  S := Int
  regs := fun k => [(10, K k)]
  keep := [0, 1, 2]
  heap := fun _ => []
  inv := fun k => 0 ≤ k ∧ k ≤ max a.length b.length ∧ ∀ i, i < k.toNat → sameAt a b i = true
  mu := fun k => ((max a.length b.length : Nat) - k).toNat
def sm1L (a b : List (List Value)) : LoopSpecs := fun g i => cond (Nat.beq g 26 && Nat.beq i 1) (some fun _ => sm1Spec a b) none
def pTmy := ParL.cons pSaw .nil
noncomputable def kTmy := kOf pTmy fun ((k, t, b, r, n, _), _) => { need := [], val := .b (mayB k b r n) }
noncomputable def G2 : PC := addPC G1 20 kTmy
def pTrm := ParL.cons (.row SW) (.cons pSaw .nil)
noncomputable def kTrm := kOf pTrm fun (l, (k, t, b, r, n, _), _) => { need := [], val := .b (tickB l t && mayB k b r n) }
noncomputable def G3 : PC := addPC G2 21 kTrm
def pTrd := ParL.cons (.row SW) (.cons (.row SW) .nil)
noncomputable def kTrd := kOf pTrd fun (a, b, _) => { need := [], val := .tup [K (difN a b), .b (difB a b)] }
noncomputable def G4 : PC := addPC G3 17 kTrd
def pTsa := ParL.cons (.row SW) (.cons (.row SW) .nil)
noncomputable def kTsa := kOf pTsa fun (a, b, _) => { need := [], val := .b (dB (a = b)) }
noncomputable def G5 : PC := addPC G4 13 kTsa
def pTdi := ParL.cons (.row SW) (.cons (.row SW) .nil)
noncomputable def kTdi := kOf pTdi fun (a, b, _) => { need := [], val := .tup [K (difN a b), .b (difB a b)] }
noncomputable def G6 : PC := addPC G5 16 kTdi
def pTcl := ParL.cons (.row SW) .nil
noncomputable def kTcl := kOf pTcl fun (a, _) => { need := [decide (a.length ≤ 1000000)], val := SN, news := [.row 33 SW a] }
noncomputable def G7 : PC := addPC G6 22 kTcl
end Go.Proofs.Ytcbmppkejphffaa
