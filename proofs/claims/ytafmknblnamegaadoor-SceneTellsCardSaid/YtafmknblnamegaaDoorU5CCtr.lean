/- Further contracts of the functions that the chapter's statements reach. No condition. -/
import Derived.Test.YtafmknblnamegaaDoorU5P
namespace Go.Proofs.YtafmknblnamegaaDoor
open Go.Eng
set_option linter.unusedSimpArgs false
abbrev Rw := List (List Value)
abbrev Fm := List (List (List (List Value)))
def I64 : List Kd := [.int .i64]
def RK : List Kd := [.int .i64, .int .i64, .int .i64, .int .i64, .int .i64, .int .i64, .int .i64, .int .i64, .int .i64, .int .i64]
def VK : List Kd := [.int .i64, .int .i64, .int .i64, .int .i64, .int .i64]
def LK : List Kd := [.int .i64, .int .i64]
def FK : List Kd := [.int .i64, .int .i64, .int .i64]
def CF : List Kf := [.sl 57 VK, .sl 3 I64]
def DF : List Kf := [.sl 74 [.int .u64]]
def fle (x : List Rw) : Rw := x.getD 0 []
def own (x : List Rw) : Rw := x.getD 1 []
def rqE (x : List Value) : Int := chk (geti x 0) (geti x 1) (geti x 2) (geti x 3) (geti x 4) (geti x 5) (geti x 6) (geti x 7) (geti x 8) (geti x 9)
def veE (x : List Value) : Int := veh (geti x 0) (geti x 1) (geti x 2) (geti x 3) (geti x 4)
def pSc : Par (Rw × Fm × Rw × Int × Int × Int × Nat × Unit) := .agg (.cons (.row RK) (.cons (.rof CF) (.cons (.row LK) (.cons pI (.cons pI (.cons pI (.cons .opq .nil)))))))
def scA (a b c : Int) : SV := .agg [.row 0, .row 2, .row 3, I a, I b, I c, .row 4]
structure Fl where
  c : Int
  p : Int
  i : Int
deriving Inhabited
def flR (f : Fl) : Rw := cond (decide (f.c = 0)) [] [[.int .i64 f.c, .int .i64 f.p, .int .i64 f.i]]
def orF (x y : Fl) : Fl := if x.c = 0 then y else x
def scanF (p : Int) (f : Nat → Int) : Nat → Fl
  | 0 => ⟨0, 0, 0⟩
  | n + 1 => orF (scanF p f n) ⟨f n, p, n⟩
def scanE (f : Nat → Int) : Nat → Int
  | 0 => 0
  | n + 1 => if scanE f n = 0 then f n else scanE f n
def cntE (cs : Fm) (c : Nat) : Int := bif decide (¬(1 ≤ ((fle (cs.getD c [])).length : Int) ∧ ((fle (cs.getD c [])).length : Int) ≤ 4)) then 11 else 0
def rqsE (ts : Rw) (i : Nat) : Int := rqE (ts.getD i [])
def ownAll (cs : Fm) : List Int := cs.flatMap fun x => (own x).map fun y => geti y 0
def ownTo (cs : Fm) (c i : Nat) : List Int := ownAll (cs.take c) ++ ((own (cs.getD c [])).take i).map fun y => geti y 0
def owE (ts : Rw) (cs : Fm) (c i : Nat) : Int := if 0 ≤ geti ((own (cs.getD c [])).getD i []) 0 ∧ geti ((own (cs.getD c [])).getD i []) 0 < (ts.length : Int) then (if geti ((own (cs.getD c [])).getD i []) 0 ∈ ownTo cs c i then 13 else 0) else 12
def vesE (cs : Fm) (c i : Nat) : Int := veE ((fle (cs.getD c [])).getD i [])
def carE (ts : Rw) (cs : Fm) (c : Nat) : Int := if scanE (vesE cs c) (fle (cs.getD c [])).length = 0 then scanE (owE ts cs c) (own (cs.getD c [])).length else scanE (vesE cs c) (fle (cs.getD c [])).length
def unE (cs : Fm) (r : Nat) : Int := bif !decide ((r : Int) ∈ ownAll cs) then 11 else 0
def ltTo (ls : Rw) (i : Nat) : List Int := (ls.take i).map fun y => geti y 0
def ltE (ts ls : Rw) (i : Nat) : Int := if 0 ≤ geti (ls.getD i []) 0 ∧ geti (ls.getD i []) 0 < (ts.length : Int) then (if geti (ls.getD i []) 0 ∈ ltTo ls i then 13 else if 0 ≤ geti (ls.getD i []) 1 ∧ geti (ls.getD i []) 1 ≤ 16777216 then 0 else 3) else 12
def cnF (ts : Rw) (cs : Fm) (ls : Rw) (ds : Nat) : Int := bif decide (¬((((ts.length : Int) ≤ 64 ∧ 1 ≤ (cs.length : Int) ∧ (cs.length : Int) ≤ 8) ∧ (ls.length : Int) ≤ 16) ∧ (ds : Int) = cs.length)) then 11 else 0
def agF (a b d : Int) : Int := bif decide (¬(((1 ≤ a ∧ a ≤ 64) ∧ 1 ≤ b ∧ b ≤ 64) ∧ 0 ≤ d ∧ d ≤ 1)) then 2 else 0
def ckF (ts : Rw) (cs : Fm) (ls : Rw) (a b d : Int) (ds : Nat) : Fl :=
  orF ⟨cnF ts cs ls ds, 0, 0⟩ <| orF (scanF 0 (cntE cs) cs.length) <| orF ⟨agF a b d, 0, 0⟩ <| orF (scanF 1 (rqsE ts) ts.length) <| orF (scanF 2 (carE ts cs) cs.length) <| orF (scanF 2 (unE cs) ts.length) (scanF 3 (ltE ts ls) ls.length)
abbrev Mp := List (Int × List Value)
def ow (m : Mp) : Blk := .map .i64 I64 false m
structure CtI (cs : Fm) (k : Int) : Prop where
  a : 0 ≤ k
  b : k ≤ cs.length
  ok : ∀ j, j < k.toNat → cntE cs j = 0
def ctMu (cs : Fm) (k : Int) : Nat := ((cs.length : Int) - k).toNat
def ctS (cs : Fm) : LoopSpec where
  S := Int
  regs := fun k => [(59, K k)]
  keep := [0, 1]
  heap := fun _ => []
  inv := CtI cs
  mu := ctMu cs
structure RqI (ts : Rw) (k : Int) : Prop where
  a : 0 ≤ k
  b : k ≤ ts.length
  ok : ∀ j, j < k.toNat → rqsE ts j = 0
def rwMu (ts : Rw) (k : Int) : Nat := ((ts.length : Int) - k).toNat
def rqS (ts : Rw) : LoopSpec where
  S := Int
  regs := fun k => [(11, K k)]
  keep := [0, 1]
  heap := fun _ => []
  inv := RqI ts
  mu := rwMu ts
structure CaS where
  k : Int
  m : Mp
structure CaI (ts : Rw) (cs : Fm) (s : CaS) : Prop where
  a : 0 ≤ s.k
  b : s.k ≤ cs.length
  ok : ∀ j, j < s.k.toNat → carE ts cs j = 0
  has : ∀ r, mhas s.m r = decide (r ∈ ownAll (cs.take s.k.toNat))
def caMu (cs : Fm) (s : CaS) : Nat := ((cs.length : Int) - s.k).toNat
def caS (ts : Rw) (cs : Fm) : LoopSpec where
  S := CaS
  regs := fun s => [(18, K s.k)]
  keep := [0, 1]
  heap := fun s => [(2000000007, ow s.m)]
  inv := CaI ts cs
  mu := caMu cs
structure VeI (cs : Fm) (c : Int) (k : Int) : Prop where
  a : 0 ≤ k
  b : k ≤ (fle (cs.getD c.toNat [])).length
  ok : ∀ j, j < k.toNat → vesE cs c.toNat j = 0
def veMu (cs : Fm) (c : Int) (k : Int) : Nat := (((fle (cs.getD c.toNat [])).length : Int) - k).toNat
def veS (cs : Fm) (c : Int) : LoopSpec where
  S := Int
  regs := fun k => [(26, K k)]
  keep := [0, 1, 4, 24]
  heap := fun _ => []
  inv := VeI cs c
  mu := veMu cs c
structure OnI (ts : Rw) (cs : Fm) (c : Int) (s : CaS) : Prop where
  a : 0 ≤ s.k
  b : s.k ≤ (own (cs.getD c.toNat [])).length
  ok : ∀ j, j < s.k.toNat → owE ts cs c.toNat j = 0
  has : ∀ r, mhas s.m r = decide (r ∈ ownTo cs c.toNat s.k.toNat)
def onMu (cs : Fm) (c : Int) (s : CaS) : Nat := (((own (cs.getD c.toNat [])).length : Int) - s.k).toNat
def onS (ts : Rw) (cs : Fm) (c : Int) : LoopSpec where
  S := CaS
  regs := fun s => [(41, K s.k)]
  keep := [0, 1, 39]
  heap := fun s => [(2000000007, ow s.m)]
  inv := OnI ts cs c
  mu := onMu cs c
structure UnI (ts : Rw) (cs : Fm) (k : Int) : Prop where
  a : 0 ≤ k
  b : k ≤ ts.length
  ok : ∀ j, j < k.toNat → unE cs j = 0
def unS (ts : Rw) (cs : Fm) : LoopSpec where
  S := Int
  regs := fun k => [(62, K k)]
  keep := [0, 1]
  heap := fun _ => []
  inv := UnI ts cs
  mu := rwMu ts
structure PlI (ts ls : Rw) (s : CaS) : Prop where
  a : 0 ≤ s.k
  b : s.k ≤ ls.length
  ok : ∀ j, j < s.k.toNat → ltE ts ls j = 0
  has : ∀ r, mget s.m r [.int .i64 0] = [.int .i64 (if r ∈ ltTo ls s.k.toNat then 1 else 0)]
def plMu (ls : Rw) (s : CaS) : Nat := ((ls.length : Int) - s.k).toNat
def poS (ts ls : Rw) : LoopSpec where
  S := CaS
  regs := fun s => [(11, K s.k)]
  keep := [0, 1]
  heap := fun s => [(2000000008, ow s.m)]
  inv := PlI ts ls
  mu := plMu ls
def ckL (ts : Rw) (cs : Fm) (ls : Rw) : LoopSpecs := fun g i =>
  cond (Nat.beq g 34 && Nat.beq i 3) (some fun _ => ctS cs) <| cond (Nat.beq g 37 && Nat.beq i 1) (some fun _ => rqS ts) <|
  cond (Nat.beq g 39) (cond (Nat.beq i 1) (some fun _ => caS ts cs) <| cond (Nat.beq i 4) (some fun st => veS cs (intAt st 3)) <|
    cond (Nat.beq i 9) (some fun st => onS ts cs (intAt st 3)) <| cond (Nat.beq i 15) (some fun _ => unS ts cs) none) <|
  cond (Nat.beq g 42 && Nat.beq i 1) (some fun _ => poS ts ls) none
def pCk := ParL.cons pSc .nil
noncomputable def kCk := kOf pCk fun ((ts, cs, ls, a, b, d, ds, _), _) => { need := [], val := .er (decide ((ckF ts cs ls a b d ds).c = 0)) 87 true 1000000, news := [.row 43 FK (flR (ckF ts cs ls a b d ds))] }
noncomputable def G19 : PC := addPC G18 11 kCk
end Go.Proofs.YtafmknblnamegaaDoor
