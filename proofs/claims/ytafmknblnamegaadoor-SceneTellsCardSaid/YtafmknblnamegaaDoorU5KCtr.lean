/- Further contracts of the functions that the chapter's statements reach. No condition. -/
import Derived.Test.YtafmknblnamegaaDoorU5RP
namespace Go.Proofs.YtafmknblnamegaaDoor
open Go.Eng
set_option linter.unusedSimpArgs false
def flP (x : Int) (f : Fl) : Int := if f.c = 0 then 0 else x
def FI (n : Int) : SV := .i .i64 n (-9223372036854775808) 9223372036854775807
def kqS (ts : Rw) : LoopSpec where
  S := Int
  regs := fun k => [(4, K k)]
  keep := [1, 2, 3]
  heap := fun _ => []
  inv := RqI ts
  mu := rwMu ts
structure LqI (ts ls : Rw) (k : Int) : Prop where
  a : 0 ≤ k
  b : k ≤ ls.length
  ok : ∀ j, j < k.toNat → ltE ts ls j = 0
def klS (ts ls : Rw) : LoopSpec where
  S := Int
  regs := fun k => [(6, K k)]
  keep := [1, 2]
  heap := fun _ => []
  inv := LqI ts ls
  mu := rwMu ls
structure LiI (ls : Rw) (k j : Int) : Prop where
  a : 0 ≤ j
  b : j ≤ k
  no : ∀ q, q < j.toNat → geti (ls.getD q []) 0 ≠ geti (ls.getD k.toNat []) 0
def liMu (k j : Int) : Nat := (k - j).toNat
def kiS (ls : Rw) (k : Int) : LoopSpec where
  S := Int
  regs := fun j => [(8, K j)]
  keep := [1, 2, 7]
  heap := fun _ => []
  inv := LiI ls k
  mu := liMu k
def kcS (cs : Fm) : LoopSpec where
  S := Int
  regs := fun k => [(3, K k)]
  keep := [1, 2]
  heap := fun _ => []
  inv := CtI cs
  mu := ctMu cs
structure KaI (ts : Rw) (cs : Fm) (k : Int) : Prop where
  a : 0 ≤ k
  b : k ≤ cs.length
  ok : ∀ j, j < k.toNat → carE ts cs j = 0
def kaS (ts : Rw) (cs : Fm) : LoopSpec where
  S := Int
  regs := fun k => [(3, K k)]
  keep := [1, 2]
  heap := fun _ => []
  inv := KaI ts cs
  mu := ctMu cs
def kvS (cs : Fm) (c : Int) : LoopSpec where
  S := Int
  regs := fun k => [(5, K k)]
  keep := [1, 2, 4]
  heap := fun _ => []
  inv := VeI cs c
  mu := veMu cs c
structure KoI (ts : Rw) (cs : Fm) (c k : Int) : Prop where
  a : 0 ≤ k
  b : k ≤ (own (cs.getD c.toNat [])).length
  ok : ∀ j, j < k.toNat → owE ts cs c.toNat j = 0
def koS (ts : Rw) (cs : Fm) (c : Int) : LoopSpec where
  S := Int
  regs := fun k => [(7, K k)]
  keep := [1, 2, 4]
  heap := fun _ => []
  inv := KoI ts cs c
  mu := oqMu cs c
structure AgS where
  j : Int
  b : Bool
def owX (cs : Fm) (c i : Int) : Int := geti ((own (cs.getD c.toNat [])).getD i.toNat []) 0
structure AgI (cs : Fm) (c i : Int) (s : AgS) : Prop where
  a : 0 ≤ s.j
  b : s.j ≤ i
  e : s.b = (decide (0 ≤ fow (owX cs c i) 0 (cs.take c.toNat)) || decide (owX cs c i ∈ ((own (cs.getD c.toNat [])).take s.j.toNat).map fun y => geti y 0))
def agMu (i : Int) (s : AgS) : Nat := (i - s.j).toNat
def kgS (cs : Fm) (c i : Int) : LoopSpec where
  S := AgS
  regs := fun s => [(9, K s.j), (8, .b s.b)]
  keep := [1, 2, 4]
  heap := fun _ => []
  inv := AgI cs c i
  mu := agMu i
def kuS (ts : Rw) (cs : Fm) : LoopSpec where
  S := Int
  regs := fun k => [(10, K k)]
  keep := [1, 2]
  heap := fun _ => []
  inv := UnI ts cs
  mu := rwMu ts
def rkL (ts : Rw) (cs : Fm) (ls : Rw) : LoopSpecs := fun g i =>
  cond (Nat.beq g 12) (cond (Nat.beq i 5) (some fun _ => kqS ts) <| cond (Nat.beq i 14) (some fun _ => klS ts ls) <| cond (Nat.beq i 20) (some fun st => kiS ls (intAt st 6)) none) <|
  cond (Nat.beq g 28 && Nat.beq i 4) (some fun _ => kcS cs) <|
  cond (Nat.beq g 31) (cond (Nat.beq i 2) (some fun _ => kaS ts cs) <| cond (Nat.beq i 6) (some fun st => kvS cs (intAt st 3)) <| cond (Nat.beq i 12) (some fun st => koS ts cs (intAt st 3)) <| cond (Nat.beq i 18) (some fun st => kgS cs (intAt st 3) (intAt st 7)) <| cond (Nat.beq i 24) (some fun _ => kuS ts cs) none) none
def cnt0 (ts : Rw) (cs : Fm) (ls : Rw) (a b d : Int) (ds : Nat) : Fl := orF ⟨cnF ts cs ls ds, 0, 0⟩ (orF (scanF 0 (cntE cs) cs.length) ⟨agF a b d, 0, 0⟩)
def car0 (ts : Rw) (cs : Fm) : Fl := orF (scanF 2 (carE ts cs) cs.length) (scanF 2 (unE cs) ts.length)
def pRcn := ParL.cons pSc .nil
noncomputable def kRcn := kOf pRcn fun ((ts, cs, ls, a, b, d, ds, _), _) => { need := [], val := .agg [FI (cnt0 ts cs ls a b d ds).c, FI (flP (cnt0 ts cs ls a b d ds).p (cnt0 ts cs ls a b d ds)), FI (flP (cnt0 ts cs ls a b d ds).i (cnt0 ts cs ls a b d ds))] }
noncomputable def G23 : PC := addPC G22 28 kRcn
def pRca := ParL.cons pSc .nil
noncomputable def kRca := kOf pRca fun ((ts, cs, ls, a, b, d, ds, _), _) => { need := [], val := .agg [FI (car0 ts cs).c, FI (flP (car0 ts cs).p (car0 ts cs)), FI (flP (car0 ts cs).i (car0 ts cs))] }
noncomputable def G24 : PC := addPC G23 31 kRca
def pRk5 := ParL.cons pSc .nil
noncomputable def kRk5 := kOf pRk5 fun ((ts, cs, ls, a, b, d, ds, _), _) => { need := [], val := .agg [FI (ckF ts cs ls a b d ds).c, FI (flP (ckF ts cs ls a b d ds).p (ckF ts cs ls a b d ds)), FI (flP (ckF ts cs ls a b d ds).i (ckF ts cs ls a b d ds))] }
noncomputable def G25 : PC := addPC G24 12 kRk5
end Go.Proofs.YtafmknblnamegaaDoor
