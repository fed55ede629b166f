/- The engine: straight regions, code, loops, calls. No condition. -/
import Derived.Test.YtafmknblnamegaaDoorV8Y
namespace Go.Eng

/-- A call handed on: function, arguments, slots, what must hold behind it. -/
abbrev CallS := FuncId → List SV → List Blk → (SV → List Blk → Prop) → Prop
/-- A value handed to the round of a loop: the loop's slot, the values, slots, what must hold behind it. -/
abbrev YieldS := Nat → List SV → List Blk → (SV → List Blk → Prop) → Prop
def yieldOf (o : Oper) (e : Operand → SV) : Option (Nat × List SV) := match o.op with
  | .call c => match c.callee with
    | .value f => match e f with
      | .yl l => some (l, c.args.toList.map e)
      | _ => none
    | _ => none
  | _ => none

/-- One operation of a straight run. -/
def stepOp0 (P : Program) (Γ : PC) (cs : CallS) (ys : YieldS) (ops : Array Oper) (o : Oper) (st : St) (K : St → Prop) : Prop :=
  let no := goSt o (none, []) st K
  let go (r0 : Res) := bareEff r0.eff fun eff => conjB r0.need (nameR (isComp o (evR st.regs)) r0.val fun v => goSt o (some ⟨[], v, eff⟩, []) st K)
  let enter := match callOf o (evR st.regs) with
    | some (g, args) => cond (enterOk P g) (cs g args st.heap fun v h' => goR st.regs o.dst v fun r => K ⟨r, h', st.df⟩) (Stuck "enter" o.pos)
    | none => match yieldOf o (evR st.regs) with
      | some (l, args) => ys l args st.heap fun v h' => goR st.regs o.dst v fun r => K ⟨r, h', st.df⟩
      | none => walkS P o (evR st.regs) st.heap fun v h' => goR st.regs o.dst v fun r => K ⟨r, h', st.df⟩
  match gv ops o st.regs with
  | .bad => Stuck "guard" o.pos
  | .no => no
  | .go => match opO P Γ o (evR st.regs) st.heap st.heap.length with
    | some r0 => go r0
    | none => enter
  | .spec g => match opO P Γ o (evR st.regs) st.heap st.heap.length with
    | some r0 => match r0.eff with
      | [] => conjB (under g r0.need) (nameR (isComp o (evR st.regs)) r0.val fun v => goSt o (some ⟨[], .opt g v, []⟩, []) st K)
      | _ :: _ => cond g (go r0) no
    | none => cond g enter no

/-- Cells that are told apart by an index that is not known outright: the frame's slot of the index, its number, how many there are. -/
def splitOf (P : Program) (ops : Array Oper) (o : Oper) (r : List SV) : Option (Nat × IntKind × Int × Nat) := match o.op with
  | .indexAddr t a (.tmp x) => match r.getD x .any with
    | .i k z _ _ => match gv ops o r with
      | .go => match P.underlying t, evR r a with
        | some (.array n _), .ptr _ _ => some (x, k, z, n)
        | some (.slice _), .sl _ _ n _ => some (x, k, z, n)
        | _, _ => none
      | _ => none
    | _ => none
  | .index t a (.tmp x) => match r.getD x .any with
    | .i k z _ _ => match gv ops o r with
      | .go => match P.underlying t, evR r a with
        | some (.array n _), .agg _ => some (x, k, z, n)
        | _, _ => none
      | _ => none
    | _ => none
  | _ => none
def splitP (F : Nat → Prop) : Nat → Prop
  | 0 => True
  | n + 1 => splitP F n ∧ F n
theorem splitP_get {F : Nat → Prop} : ∀ {n j : Nat}, splitP F n → j < n → F j
  | n + 1, j, h, hj => by
    rcases Nat.lt_succ_iff_lt_or_eq.1 hj with h1 | h1
    · exact splitP_get h.1 h1
    · subst h1; exact h.2
/-- A guard that is not settled: its slot, its bool. -/
def guardOf (ops : Array Oper) (o : Oper) (r : List SV) : Option (Nat × Bool) := match o.guard with
  | some (j, _) => match (ops[j]?).bind (·.dst) with
    | some t => match r[t]? with
      | some (.b p) => some (t, p)
      | _ => none
    | none => none
  | none => none
/-- Does it do more than reckon? -/
def effy (P : Program) (Γ : PC) (o : Oper) (st : St) : Bool := match opO P Γ o (evR st.regs) st.heap st.heap.length with
  | some r0 => match r0.eff with
    | [] => false
    | _ :: _ => true
  | none => true
def stepOp (P : Program) (Γ : PC) (cs : CallS) (ys : YieldS) (ops : Array Oper) (o : Oper) (st : St) (K : St → Prop) : Prop :=
  match splitOf P ops o st.regs with
  | some (x, k, z, n) => cond (Nat.ble n 64) (conjB [inB z n] (splitP (fun j => cond (decide (z = (j : Int))) (bareSt ⟨st.regs.set x (.v (.int k (j : Int))), st.heap, st.df⟩ fun st => stepOp0 P Γ cs ys ops o st K) True) n)) (Stuck "split" o.pos)
  | none => match guardOf ops o st.regs with
    | some (t, p) => cond (effy P Γ o st) (cond p (bareSt ⟨st.regs.set t (.v (.bool true)), st.heap, st.df⟩ fun st => stepOp0 P Γ cs ys ops o st K) (bareSt ⟨st.regs.set t (.v (.bool false)), st.heap, st.df⟩ fun st => stepOp0 P Γ cs ys ops o st K)) (stepOp0 P Γ cs ys ops o st K)
    | none => stepOp0 P Γ cs ys ops o st K
def runOps (P : Program) (Γ : PC) (cs : CallS) (ys : YieldS) (ops : Array Oper) : List Nat → St → (St → Prop) → Prop
  | [], st, K => K st
  | i :: r, st, K => match ops[i]? with
    | none => Stuck "index" ""
    | some o => stepOp P Γ cs ys ops o st fun st' => runOps P Γ cs ys ops r st' K

inductive Ex where
  | normal
  | exit (id : Nat)
  | ret

def Ex.den : Ex → Exit
  | .normal => .normal
  | .exit id => .exit id
  | .ret => .ret

/-- The slots of the frame that a piece of code writes. -/
def asgd : Code → List Tmp
  | .region _ ops _ => ops.toList.filterMap (·.dst)
  | .seq a b => asgd a ++ asgd b
  | .cond _ a b => asgd a ++ asgd b
  | .block _ c => asgd c
  | .loop c => asgd c
  | .scope c => asgd c
  | .rangeFunc _ ps a b => ps.toList ++ asgd a ++ asgd b
  | _ => []

/-! ### Matching a state with a pattern -/
def leVal : Value → Value → Prop
  | .int k a, .int k' b => cond (decide (k = k')) (a = b) False
  | .bool a, .bool b => a = b
  | .string a, .string b => a = b
  | a, b => a = b

mutual
/-- What is known by the first is known by the second. -/
def leSV (s : SV) : SV → Prop
  | .any => True
  | .v x => match s with
    | .v z => leVal z x
    | .i k z _ _ => match x with
      | .int k' n => cond (decide (k = k')) (z = n) False
      | _ => False
    | .b q => match x with
      | .bool p => q = p
      | _ => False
    | .s z _ => match x with
      | .string y => z = y
      | _ => False
    | .t z => z = x
    | _ => False
  | .i k x lo hi => match s with
    | .i k' z lo' hi' => cond (decide (k' = k)) (z = x ∧ cond (decide (lo ≤ lo') && decide (hi' ≤ hi)) True (lo ≤ x ∧ x ≤ hi)) False
    | .v (.int k' z) => cond (decide (k' = k)) (z = x ∧ lo ≤ x ∧ x ≤ hi) False
    | _ => False
  | .b p => match s with
    | .b q => q = p
    | .v (.bool q) => q = p
    | _ => False
  | .s x hi => match s with
    | .s z hi' => z = x ∧ cond (decide (hi' ≤ hi)) True ((x.size : Int) ≤ hi)
    | .v (.string z) => z = x ∧ (x.size : Int) ≤ hi
    | _ => False
  | .t x => match s with
    | .t z => z = x
    | .v z => z = x
    | _ => False
  | .opt p q => s = .opt p q
  | .ptr i o => match s with
    | .ptr j p => cond (decide (j = i) && decide (p = o)) True False
    | _ => False
  | .row i => match s with
    | .row j => cond (decide (j = i)) True False
    | _ => False
  | .agg m => match s with
    | .agg l => leSVs l m
    | _ => False
  | .tup m => match s with
    | .tup l => leSVs l m
    | _ => False
  | .fn f p q => s = .fn f p q
  | .ifc t x => s = .ifc t x
  | .rowp i k o => match s with
    | .rowp j m p => cond (decide (j = i) && decide (p = o)) (m = k) False
    | _ => False
  | .sl i o n c => match s with
    | .sl j p m d => cond (decide (j = i) && (decide (p = o) && (decide (m = n) && decide (d = c)))) True False
    | _ => False
  | .part i lo n f => match s with
    | .part j l m g => cond (decide (j = i) && decide (g = f)) (l = lo ∧ m = n) False
    | _ => False
  | .emp => match s with
    | .emp => True
    | .v x => x = .slice none 0 0
    | _ => False
  | .yl i => match s with
    | .yl j => cond (decide (j = i)) True False
    | _ => False
  | .q a b => s = .q a b
  | .mp i => match s with
    | .mp j => cond (decide (j = i)) True False
    | _ => False
  | .er p t ag i => match s with
    | .er q u a j => cond (decide (j = i) && (decide (u = t) && decide (a = ag))) (q = p) False
    | _ => False
def leSVs (l : List SV) : List SV → Prop
  | [] => match l with
    | [] => True
    | _ => False
  | b :: m => match l with
    | a :: r => leSV a b ∧ leSVs r m
    | _ => False
end

/-- The same cells are others, and they are as is told. -/
def exLe : List (Nat × Nat × SV) → List (Nat × Nat × SV) → Prop
  | [], [] => True
  | (k, o, s) :: l, (k', o', s') :: l' => cond (Nat.beq o o') (k = k' ∧ leSV s s' ∧ exLe l l') False
  | _, _ => False
def leBlk : Blk → Blk → Prop
  | _, .dead => True
  | .cells e cs, .cells e' cs' => cond (decide (e = e')) (leSVs cs cs') False
  | .row e kd xs, .row e' kd' xs' => cond (decide (e = e') && kdEq kd kd') (xs = xs') False
  | .rcells cs, .rcells cs' => leSVs cs cs'
  | .ror kd xs f, .ror kd' xs' f' => cond (kdEq kd kd' && decide (f = f')) (xs = xs') False
  | .dfr, .dfr => True
  | .map k kd a m, .map k' kd' a' m' => cond (decide (k = k') && (kdEq kd kd' && decide (a = a'))) (m = m') False
  | .iter mi n l, .iter mi' n' l' => cond (decide (mi = mi')) (n = n' ∧ l = l') False
  | .rr e g, .rr e' g' => cond (decide (e = e') && decide (g = g')) True False
  | .fam kf css none, .fam kf' css' none => cond (kfEq kf kf') (css = css') False
  | .ali g k o kd, .ali g' k' o' kd' => cond (decide (g = g') && (decide (o = o') && kdEq kd kd')) (k = k') False
  | .der n g kf exc, .der n' g' kf' exc' => cond (decide (g = g') && kfEq kf kf') (n = n' ∧ exLe exc exc') False
  | .rfm kf css, .rfm kf' css' => cond (kfEq kf kf') (css = css') False
  | .rof g, .rof g' => cond (decide (g = g')) True False
  | .opq n, .opq n' => n = n'
  | _, _ => False

/-- A loop's record that waits for a round. -/
def idleB : LoopState → Option Code → Bool
  | .ready, none => true
  | _, _ => false
/-- A slot that stays. -/
def leKeep (c b : Blk) : Prop := match b with
  | .loop _ _ _ _ _ s p _ => match c with
    | .loop _ _ _ _ _ s' p' _ => cond (idleB s p && idleB s' p') True False
    | _ => False
  | b => leBlk c b
def matchRegs (r : List SV) : List (Nat × SV) → Prop → Prop
  | [], k => k
  | (t, s) :: l, k => leSV (r.getD t .any) s ∧ matchRegs r l k
def matchHeap (h : List Blk) : List (Nat × Blk) → Prop → Prop
  | [], k => k
  | (i, b) :: l, k => leBlk (h.getD i .dead) b ∧ matchHeap h l k

def matchKeep (h : List Blk) : List (Nat × Blk) → Prop → Prop
  | [], k => k
  | (i, b) :: l, k => leKeep (h.getD i .dead) b ∧ matchKeep h l k
/-- What a loop holds: its letters, the frame's slots and memory's slots that go round, what is true of them at each round's head, what each round lowers.
Memory's slots are named by frame slots that point to them; new ones by 1000000 and more: what lies in these is told by 'news'. 'keep': frame slots; what is reached from them stays. -/
structure LoopSpec : Type 1 where
  S : Type
  regs : S → List (Nat × SV)
  keep : List Nat
  heap : S → List (Nat × Blk)
  inv : S → Prop
  mu : S → Nat
  news : S → List Blk := fun _ => []

/-- A spec names memory's slots by the frame's slots that point to them. -/
def loopRegs (h : List Blk) (i : Nat) : List SV := match h.getD i .dead with
  | .loop _ regs _ _ _ _ _ _ => regs
  | _ => []
/-- A frame's slot (from 2000000000 on: memory's slots by number); behind it, by thousands, slots of the frames of the loops that it leads to. -/
def slotOf (st : St) (t : Tmp) : Nat := cond (Nat.ble 2000000000 t) (t - 2000000000) <| cond (Nat.ble 1000 t) (cond (Nat.ble 1000000 t)
    ((refs ((loopRegs st.heap ((refs ((loopRegs st.heap ((refs (st.regs.getD (t % 1000) .any)).headD st.heap.length)).getD (t / 1000 % 1000) .any)).headD st.heap.length)).getD (t / 1000000) .any)).headD st.heap.length)
    ((refs ((loopRegs st.heap ((refs (st.regs.getD (t % 1000) .any)).headD st.heap.length)).getD (t / 1000) .any)).headD st.heap.length))
  ((refs (st.regs.getD t .any)).headD st.heap.length)
/-- The calls that are put off, of all frames. -/
def dfrs : Nat → List Blk → List Nat
  | _, [] => []
  | n, b :: l => match b with
    | .dfr => n :: dfrs (n + 1) l
    | _ => dfrs (n + 1) l
/-- All that lies in memory, from number n on. -/
def liveAt : Nat → List Blk → List Nat
  | _, [] => []
  | n, b :: l => match b with
    | .hole => liveAt (n + 1) l
    | .dead => liveAt (n + 1) l
    | _ => n :: liveAt (n + 1) l
/-- What stays (3000000000: all that there is). -/
def keptOf (st : St) (l hs : List Nat) : List Nat := cond (l.any (Nat.ble 3000000000)) ((liveAt 0 st.heap).filter fun i => !hs.contains i)
  ((reach st.heap 4 (l.flatMap fun t => cond (Nat.ble 2000000000 t) [t - 2000000000] (refs (st.regs.getD t .any))) ++ dfrs 0 st.heap).eraseDups.filter fun i => !hs.contains i)

/-! ### Slots by other names -/
mutual
def ren (g : Nat → Nat) : SV → SV
  | .ptr i o => .ptr (g i) o
  | .agg l => .agg (rens g l)
  | .tup l => .tup (rens g l)
  | .fn f a b => .fn f (rens g a) (rens g b)
  | .ifc t x => .ifc t (ren g x)
  | .row i => .row (g i)
  | .rowp i k o => .rowp (g i) k o
  | .sl i o n c => .sl (g i) o n c
  | .part i lo n f => .part (g i) lo n f
  | .yl i => .yl (g i)
  | .mp i => .mp (g i)
  | .er p t ag i => .er p t ag (g i)
  | .q a b => .q a b
  | .opt p s => .opt p (ren g s)
  | .any => .any
  | .v x => .v x
  | .i k x lo hi => .i k x lo hi
  | .b p => .b p
  | .s x hi => .s x hi
  | .t x => .t x
  | .emp => .emp
def rens (g : Nat → Nat) : List SV → List SV
  | [] => []
  | s :: l => ren g s :: rens g l
end
def renB (g : Nat → Nat) : Blk → Blk
  | .cells e cs => .cells e (rens g cs)
  | .rcells cs => .rcells (rens g cs)
  | .loop f regs ps a b s p d => .loop f (rens g regs) ps a b s p (g d)
  | .iter mi n l => .iter (g mi) n l
  | .rr e f => .rr e (g f)
  | .ali f k o kd => .ali (g f) k o kd
  | .der n f kf exc => .der n (g f) kf (exc.map fun e => (e.1, e.2.1, ren g e.2.2))
  | .rof f => .rof (g f)
  | b => b

/-- New slots stand behind the old ones. -/
def cod (n0 : Nat) (i : Nat) : Nat := cond (Nat.ble 1000000 i) (n0 + (i - 1000000)) i
/-- The slots that new ones stand for. -/
def sig (σ : List Nat) (i : Nat) : Nat := cond (Nat.ble 1000000 i) (σ.getD (i - 1000000) 999999) i

/-! ### Finding which slot stands for which; nil as a slice that may grow -/

abbrev Bnd := List (Nat × Nat)
def bnd (c j : Nat) (σ : Bnd) : Bnd := cond (Nat.ble 1000000 c) ((c - 1000000, j) :: σ) σ
def look (σ : Bnd) (i : Nat) : Nat := match σ.find? fun x => Nat.beq x.1 i with
  | some x => x.2
  | none => 999999

def unifL (f : SV → SV → List Blk → Bnd → SV × (List Blk × Bnd)) : List SV → List SV → List Blk → Bnd → List SV × (List Blk × Bnd)
  | p :: ps, s :: ss, h, σ => match f p s h σ with
    | (s', h', σ') => match unifL f ps ss h' σ' with
      | (r, h'', σ'') => (s' :: r, h'', σ'')
  | _, ss, h, σ => (ss, h, σ)

/-- A new slot for a slice without elements. -/
def growN (news : List Blk) (c : Nat) (s : SV) (h : List Blk) (σ : Bnd) : SV × (List Blk × Bnd) :=
  match news[c - 1000000]? with
  | some (.row el kd _) => cond (Nat.ble 1000000 c && Nat.ble 1 kd.length) (.row h.length, h ++ [.row el kd []], bnd c h.length σ) (s, h, σ)
  | some (.rr el g) => match news[g - 1000000]? with
    | some (.fam kf _ _) => cond (Nat.ble 1000000 c && Nat.ble 1 kf.length) (.row (h.length + 1), h ++ [.fam kf [] none] ++ [.rr el h.length], bnd g h.length (bnd c (h.length + 1) σ)) (s, h, σ)
    | some (.rfm kf _) => cond (Nat.ble 1000000 c && Nat.ble 1 kf.length) (.row (h.length + 1), h ++ [.rfm kf []] ++ [.rr el h.length], bnd g h.length (bnd c (h.length + 1) σ)) (s, h, σ)
    | _ => (s, h, σ)
  | some (.opq _) => cond (Nat.ble 1000000 c) (.row h.length, h ++ [.opq 0], bnd c h.length σ) (s, h, σ)
  | _ => (s, h, σ)
/-- Where a slice's family goes. -/
def bndF (news : List Blk) (c j : Nat) (h : List Blk) (σ : Bnd) : Bnd := cond (Nat.ble 1000000 c) (match news[c - 1000000]?, h[j]? with
  | some (.rr _ g), some (.rr _ g') => bnd g g' (bnd c j σ)
  | _, _ => bnd c j σ) σ

/-- No error, as a slice without elements. -/
def growE (news : List Blk) (c : Nat) (t : TypeId) (ag : Bool) (s : SV) (h : List Blk) (σ : Bnd) : SV × (List Blk × Bnd) :=
  match news[c - 1000000]? with
  | some (.row el kd _) => cond (Nat.ble 1000000 c && Nat.ble 1 kd.length) (.er true t ag h.length, h ++ [.row el kd []], bnd c h.length σ) (s, h, σ)
  | _ => (s, h, σ)
/-- An error's cells, as a slice of one element. -/
def cellE (news : List Blk) (c : Nat) (t : TypeId) (ag : Bool) (j : Nat) (s : SV) (h : List Blk) (σ : Bnd) : SV × (List Blk × Bnd) :=
  match news[c - 1000000]?, h[j]? with
  | some (.row el kd _), some (.cells e cs) => match elemK kd cs with
    | some v => cond (Nat.ble 1000000 c && (Nat.ble 1 kd.length && decide (e = el))) (.er false t ag h.length, h.set j .dead ++ [.row el kd [v]], bnd c h.length σ) (s, h, σ)
    | none => (s, h, σ)
  | _, _ => (s, h, σ)
/-- A block's cells, if it has any still. -/
def setC (h : List Blk) (j : Nat) (e : TypeId) (cs : List SV) : List Blk := match h[j]? with
  | some (.cells _ _) => h.set j (.cells e cs)
  | _ => h
def unifV (news : List Blk) : Nat → SV → SV → List Blk → Bnd → SV × (List Blk × Bnd)
  | 0, _, s, h, σ => (s, h, σ)
  | n + 1, p, s, h, σ => match p, s with
    | .row c, .row j => cond (Nat.ble 1000000 c) (match news[c - 1000000]? with
      | some (.opq _) => match h[j]? with
        | some (.opq _) => (s, h, bnd c j σ)
        | _ => match lenGet h (.row j) with
          | some m => (.row h.length, h ++ [.opq m], bnd c h.length σ)
          | none => (s, h, σ)
      | some (.rr _ g) => match cond (Nat.ble 1000000 g) news[g - 1000000]? none, h[j]? with
        | some (.der _ _ _ ps), some (.rr _ g') => match h[g']? with
          | some (.der m g0 kf exc) => match unifL (unifV news n) (ps.map fun e => e.2.2) (exc.map fun e => e.2.2) h (bnd g g' (bnd c j σ)) with
            | (vs, h', σ') => (s, h'.set g' (.der m g0 kf (List.zipWith (fun e v => (e.1, e.2.1, v)) exc vs)), σ')
          | _ => (s, h, bndF news c j h σ)
        | _, _ => (s, h, bndF news c j h σ)
      | _ => (s, h, bndF news c j h σ)) (s, h, bndF news c j h σ)
    | .row c, .v (.slice none 0 0) => growN news c s h σ
    | .row c, .emp => growN news c s h σ
    | .rowp c _ _, .rowp j _ _ => (s, h, bnd c j σ)
    | .part c _ _ _, .part j _ _ _ => (s, h, bnd c j σ)
    | .part c _ _ _, .row j => match h[j]? with
      | some (.row _ _ xs) => (.part j 0 xs.length false, h, bnd c j σ)
      | _ => (s, h, σ)
    | .sl c _ _ _, .sl j _ _ _ => cond (Nat.ble 1000000 c) (match news[c - 1000000]?, h[j]? with
      | some (.cells _ ps), some (.cells e cs) => match unifL (unifV news n) ps cs h (bnd c j σ) with
        | (cs', h', σ') => (s, setC h' j e cs', σ')
      | _, _ => (s, h, bnd c j σ)) (s, h, bnd c j σ)
    | .mp c, .mp j => (s, h, bnd c j σ)
    | .er _ _ _ c, .er _ _ _ j => (s, h, bnd c j σ)
    | .er _ t ag c, .v .nilIface => growE news c t ag s h σ
    | .er _ t false c, .ifc u (.ptr j 0) => cond (decide (u = t)) (cellE news c t false j s h σ) (s, h, σ)
    | .er _ t true c, .ifc u (.agg [.ptr j 0]) => cond (decide (u = t)) (cellE news c t true j s h σ) (s, h, σ)
    | .ptr c _, .ptr j _ => cond (Nat.ble 1000000 c) (match news[c - 1000000]?, h[j]? with
      | some (.cells _ ps), some (.cells e cs) => match unifL (unifV news n) ps cs h (bnd c j σ) with
        | (cs', h', σ') => (s, setC h' j e cs', σ')
      | _, _ => (s, h, bnd c j σ)) (s, h, σ)
    | .agg ps, .agg ss => match unifL (unifV news n) ps ss h σ with
      | (ss', h', σ') => (.agg ss', h', σ')
    | .tup ps, .tup ss => match unifL (unifV news n) ps ss h σ with
      | (ss', h', σ') => (.tup ss', h', σ')
    | _, _ => (s, h, σ)

/-- The frame's slots, one by one. -/
def unifR (news : List Blk) : List (Nat × SV) → St → Bnd → St × Bnd
  | [], st, σ => (st, σ)
  | (t, p) :: l, st, σ => match unifV news 8 p (st.regs.getD t .any) st.heap σ with
    | (s', h', σ') => unifR news l ⟨st.regs.set t s', h', st.df⟩ σ'
/-- Memory's slots, one by one. -/
def unifH (news : List Blk) : List (Nat × Blk) → St → Bnd → St × Bnd
  | [], st, σ => (st, σ)
  | (i, b) :: l, st, σ => match b, st.heap[i]? with
    | .cells _ ps, some (.cells e cs) => match unifL (unifV news 8) ps cs st.heap σ with
      | (cs', h', σ') => unifH news l ⟨st.regs, setC h' i e cs', st.df⟩ σ'
    | _, _ => unifH news l st σ
def unifS (news : List Blk) (regs : List (Nat × SV)) (heap : List (Nat × Blk)) (st : St) : St × Bnd := match unifR news regs st [] with
  | (st', σ) => unifH news heap st' σ

def havoc (asg : List Tmp) : Nat → List SV → List SV
  | _, [] => []
  | i, s :: r => (if asg.contains i then .any else s) :: havoc asg (i + 1) r

def lay (r : List SV) : List (Nat × SV) → List SV
  | [] => r
  | (t, s) :: l => (lay r l).set t s

def layH (h : List Blk) : List (Nat × Blk) → List Blk
  | [] => h
  | (i, b) :: l => (layH h l).set i b

/-- A pattern of a state: the frame's slots, memory's, what stays, and what is new. -/
structure Pat where
  regs : List (Nat × SV)
  heap : List (Nat × Blk)
  keep : List Nat
  news : List Blk

def Pat.of (L : LoopSpec) (st : St) (s : L.S) : Pat :=
  let hp := (L.heap s).map fun x => (slotOf st x.1, x.2)
  ⟨L.regs s, hp, keptOf st L.keep (hp.map (·.1)), L.news s⟩

/-- The state at a loop's head. -/
def headOf (asg : List Tmp) (p : Pat) (st : St) : St :=
  ⟨lay (havoc asg 0 st.regs) (p.regs.map fun x => (x.1, ren (cod st.heap.length) x.2)), layH (restr p.keep 0 st.heap) (p.heap.map fun x => (x.1, renB (cod st.heap.length) x.2)) ++ p.news.map (renB (cod st.heap.length)), st.df⟩

def refOk (n0 m : Nat) (l : List Nat) : Bool := l.all fun i => cond (Nat.ble 1000000 i) (Nat.ble (i - 1000000 + 1) m) (Nat.ble (i + 1) n0)
def blkLive : Blk → Bool
  | .hole => false
  | .dead => false
  | .loop .. => false
  | _ => true
def keepLive : Blk → Bool
  | .loop .. => true
  | b => blkLive b
def nodupB : List Nat → Bool
  | [] => true
  | i :: l => !l.contains i && nodupB l
/-- The pattern's form is right. -/
def specOk (asg : List Tmp) (p : Pat) (st : St) : Bool :=
  p.regs.all (fun x => refOk st.heap.length p.news.length (refs x.2) && asg.contains x.1 && decide (x.1 < st.regs.length)) &&
    p.heap.all (fun x => refOk st.heap.length p.news.length (blkRefs x.2) && decide (x.1 < st.heap.length) && blkLive x.2) &&
    p.keep.all (fun i => refOk st.heap.length 0 (blkRefs (st.heap.getD i .dead)) && decide (i < st.heap.length) && keepLive (st.heap.getD i .dead)) &&
    p.news.all (fun b => refOk st.heap.length p.news.length (blkRefs b) && blkLive b) && Nat.ble st.heap.length 999999 && st.df.all (fun i => p.keep.contains i) && nodupB (p.heap.map (·.1)) && p.keep.all (fun i => !(p.heap.map (·.1)).contains i)

/-- The slots that the new ones stand for. -/
def sigOf (p : Pat) (σ : Bnd) : List Nat := (List.range p.news.length).map (look σ)
/-- They are not each other's, nor others'. -/
def sigOk (p : Pat) (σ : List Nat) (n : Nat) : Bool := nodupB σ && σ.all fun i => decide (i < n) && !(p.heap.map (·.1)).contains i && !p.keep.contains i

def keepL (st : St) (keep : List Nat) : List (Nat × Blk) := keep.map fun i => (i, st.heap.getD i .dead)
def matchN (h : List Blk) (σ : List Nat) : List Blk → List Nat → Prop → Prop
  | b :: l, i :: r, k => leBlk (h.getD i .dead) (renB (sig σ) b) ∧ matchN h σ l r k
  | _, _, k => k

/-- A state, as it was prepared, fits the pattern; st0: the state ahead of the loop. -/
def fits (p : Pat) (st0 : St) (x : St × Bnd) : Prop :=
  conjB [sigOk p (sigOf p x.2) x.1.heap.length, decide (x.1.df = st0.df)] (matchRegs x.1.regs (p.regs.map fun y => (y.1, ren (sig (sigOf p x.2)) y.2)) (matchHeap x.1.heap (p.heap.map fun y => (y.1, renB (sig (sigOf p x.2)) y.2))
    (matchKeep x.1.heap (keepL st0 p.keep) (matchN x.1.heap (sigOf p x.2) p.news (sigOf p x.2) True))))

/-- Worked out ahead of what follows. -/
def bareX (x : St × Bnd) (k : St × Bnd → Prop) : Prop := match x with
  | (st, σ) => bareStF st fun st => bareL σ fun σ => k (st, σ)
theorem bareX_eq (x : St × Bnd) (k : St × Bnd → Prop) : bareX x k = k x := by
  obtain ⟨st, σ⟩ := x
  simp only [bareX, bareStF_eq, bareL_eq]

/-- The key of a loop: the number of its first region. -/
def keyOf : Code → Nat
  | .region id _ _ => id
  | .seq a _ => keyOf a
  | .block _ c => keyOf c
  | .loop c => keyOf c
  | .scope c => keyOf c
  | .cond _ a _ => keyOf a
  | _ => 0

def resOne (P : Program) (st : St) : ResultVar → Option SV
  | .tmp t => some (st.regs.getD t .any)
  | .cell a t => match st.regs.getD a .any with
    | .ptr i off => match st.heap[i]? with
      | some (.cells _ cs) => loadFrom P t cs off
      | _ => none
    | _ => none
def resAll (P : Program) (st : St) : List ResultVar → Option (List SV)
  | [] => some []
  | r :: l => match resOne P st r, resAll P st l with
    | some s, some m => some (s :: m)
    | _, _ => none

/-- A loop, round by round. -/
def loopS (body : St → (Ex → St → Prop) → Prop) : Nat → St → (Ex → St → Prop) → Prop
  | 0, _, _ => Stuck "rounds" ""
  | m + 1, st, K => body st fun e st' => match e with
    | .normal => loopS body m st' K
    | e => K e st'

/-- A loop, by what it holds. -/
def loopI (L : LoopSpec) (asg : List Tmp) (st : St) (body : St → (Ex → St → Prop) → Prop) (K : Ex → St → Prop) : Prop :=
  ∃ s0, L.inv s0 ∧ bareX (unifS (Pat.of L st s0).news (Pat.of L st s0).regs (Pat.of L st s0).heap st) fun x => conjB [specOk asg (Pat.of L st s0) x.1] (fits (Pat.of L st s0) x.1 x ∧
    ∀ s, L.inv s → conjB [specOk asg (Pat.of L st s) x.1] (bareStF (headOf asg (Pat.of L st s) x.1) fun st1 => body st1 fun e st' => match e with
      | .normal => ∃ s', L.inv s' ∧ L.mu s' < L.mu s ∧ bareX (unifS (Pat.of L st s').news (Pat.of L st s').regs (Pat.of L st s').heap st') fun y => conjB [specOk asg (Pat.of L st s') x.1] (fits (Pat.of L st s') x.1 y)
      | e => K e st'))

/-- What a state says, for a loop's spec. -/
def intAt (st : St) (t : Nat) : Int := match intOf (st.regs.getD t .any) with
  | some (_, n, _, _) => n
  | none => 0
def boolAt (st : St) (t : Nat) : Bool := match st.regs.getD t .any with
  | .b p => p
  | .v (.bool p) => p
  | _ => false
/-- The elements of a slice. -/
def rowOf (h : List Blk) (s : SV) : List (List Value) := match s with
  | .row i => match slotXs h i with
    | some (_, xs) => xs
    | none => []
  | .part i lo n _ => match slotXs h i with
    | some (_, xs) => (xs.drop lo).take n
    | none => []
  | _ => []
/-- The elements of a slice whose elements hold slices. -/
def famIn (h : List Blk) (s : SV) : List (List (List (List Value))) := match s with
  | .row i => match famAt h i with
    | some (_, _, _, css, _) => css
    | none => []
  | _ => []
/-- A cell of what a pointer leads to. -/
def cellAt (st : St) (t o : Nat) : SV := match st.heap.getD (slotOf st t) .dead with
  | .cells _ cs => cs.getD o .any
  | .rcells cs => cs.getD o .any
  | _ => .any
def mapAt (st : St) (t : Nat) : List (Int × List Value) := match st.heap.getD (slotOf st t) .dead with
  | .map _ _ _ m => m
  | _ => []
def rowAt (st : St) (t : Nat) : List (List Value) := rowOf st.heap (st.regs.getD t .any)
def famAt' (st : St) (t : Nat) : List (List (List (List Value))) := famIn st.heap (st.regs.getD t .any)
def famC (st : St) (t o : Nat) : List (List (List (List Value))) := famIn st.heap (cellAt st t o)
def rowIn (st : St) (t o : Nat) : List (List Value) := rowOf st.heap (cellAt st t o)
def intIn' (st : St) (t o : Nat) : Int := match intOf (cellAt st t o) with
  | some (_, n, _, _) => n
  | none => 0
/-- What loops hold, by the number of their first region. -/
abbrev LoopSpecs := FuncId → Nat → Option (St → LoopSpec)

/-- Ahead of a region: cell o of what slot t of the frame points to, or slot t of the frame itself, told apart below n. -/
def splitH (l : List Nat) (st : St) (K : St → Prop) : Prop := match l with
  | [t, n] => match st.regs[t]? with
    | some (.i k z _ _) => cond (Nat.ble n 64) (conjB [inB z n] (splitP (fun j => cond (decide (z = (j : Int))) (bareSt ⟨st.regs.set t (.v (.int k (j : Int))), st.heap, st.df⟩ K) True) n)) (Stuck "hint" "")
    | some (.v _) => K st
    | _ => Stuck "hint" ""
  | [t, n, _, _] => match st.regs[t]? with
    | some (.i k z _ _) => cond (inB z n) (splitP (fun j => cond (decide (z = (j : Int))) (bareSt ⟨st.regs.set t (.v (.int k (j : Int))), st.heap, st.df⟩ K) True) n) (K st)
    | _ => K st
  | [t, o, n] => match st.heap[slotOf st t]? with
    | some (.cells e cs) => match cs[o]? with
      | some (.i k z _ _) => cond (Nat.ble n 64) (conjB [inB z n] (splitP (fun j => cond (decide (z = (j : Int))) (bareStF ⟨st.regs, st.heap.set (slotOf st t) (.cells e (cs.set o (.v (.int k (j : Int))))), st.df⟩ K) True) n)) (Stuck "hint" "")
      | _ => Stuck "hint" ""
    | _ => Stuck "hint" ""
  | _ => Stuck "hint" ""
def hintS (x : Option (St → LoopSpec)) (st : St) (K : St → Prop) : Prop := match x with
  | none => K st
  | some L0 => splitH (L0 st).keep st K

def lookT (T : List (Nat × SV)) (k : Nat) : SV := match T.find? (fun e => Nat.beq e.1 k) with
  | some e => e.2
  | none => .any
def dstIs (ops : Array Oper) (t : Nat) (k : Nat) : Bool := match (ops[k]?).bind (·.dst) with
  | some u => Nat.beq u t
  | none => false
/-- The frame, with what the region's operations l gave, as far as the table has it. -/
def layT (ops : Array Oper) (l : List Nat) (T : List (Nat × SV)) (r : List SV) : List SV := r.zipIdx.map fun x => match l.find? (dstIs ops x.2) with
  | some k => lookT T k
  | none => x.1
def ordB (an : List Nat) (i : Nat) : Bool := (List.range i).all fun j => (an.getD i 0).testBit j
def blockB (an os : List Nat) (j : Nat) : Bool := os.any fun c => (an.getD j 0).testBit c
/-- The same, slot by slot. -/
def layF (ops : Array Oper) (l : List Nat) (T : List (Nat × SV)) (r : List SV) : List SV := l.foldl (fun r k => setR r ((ops[k]?).bind (·.dst)) (lookT T k)) r
/-- A call. -/
def callN (_ : PC) (ops : Array Oper) (j : Nat) : Bool := match ops[j]? with
  | some o => match o.op with
    | .call c => match c.callee with
      | .value (.func _) => true
      | _ => false
    | _ => false
  | none => false
/-- What is carried out in its turn: calls, and what all that is ahead of it comes ahead of, if all calls behind come behind it. -/
def effB (Γ : PC) (ops : Array Oper) (an : List Nat) (j : Nat) : Bool := callN Γ ops j || (ordB an j && (List.range ops.size).all fun c => Nat.ble c j || (!callN Γ ops c || (an.getD c 0).testBit j))
def chainB (an os : List Nat) : Bool := os.all fun c => os.all fun i => Nat.ble i c || (an.getD i 0).testBit c
def obB (oz : List Nat) (j : Nat) : Bool := oz.any (Nat.beq j)
/-- What is left behind c. -/
def restB (an : List Nat) (c : Nat) (rm : List Nat) : List Nat := rm.filter fun k => !(Nat.beq k c || (an.getD c 0).testBit k)
/-- What the operations that are free give in this state. -/
def freeT (P : Program) (Γ : PC) (ops : Array Oper) (an : List Nat) (oz os : List Nat) (hp : List Blk) (T0 : List (Nat × SV)) : List Nat → List SV → List (Nat × SV) → (List (Nat × SV) → Prop) → Prop
  | [], _, T, K => K T
  | j :: l, r, T, K => cond (obB oz j || blockB an os j) (freeT P Γ ops an oz os hp T0 l r T K) (match ops[j]? with
    | none => Stuck "index" ""
    | some o => match o.guard with
      | some _ => Stuck "free guard" o.pos
      | none => match opO P Γ o (evR r) hp hp.length with
        | some ⟨need, v, []⟩ => conjB need (match T0.find? (fun e => Nat.beq e.1 j) with
          | some e => v = e.2 ∧ goR r o.dst e.2 fun r => freeT P Γ ops an oz os hp T0 l r ((j, e.2) :: T) K
          | none => goR r o.dst v fun r => freeT P Γ ops an oz os hp T0 l r ((j, v) :: T) K)
        | _ => Stuck "free" o.pos)
def runF (P : Program) (Γ : PC) (cs : CallS) (ys : YieldS) (ops : Array Oper) (an oz : List Nat) : List Nat → List Nat → St → List (Nat × SV) → (St → Prop) → Prop
  | [], rm, st, T, K => K ⟨layF ops rm T st.regs, st.heap, st.df⟩
  | c :: os, rm, st, T, K => match ops[c]? with
    | none => Stuck "index" ""
    | some o => bareSt ⟨layF ops rm (T.filter fun e => (an.getD c 0).testBit e.1) st.regs, st.heap, st.df⟩ fun st1 => stepOp P Γ cs ys ops o st1 fun st' => bareSt st' fun st' =>
        bareNs (restB an c rm) fun rm' => bareL (layF ops rm' [] st'.regs) fun r => freeT P Γ ops an oz os st'.heap T rm' r [] fun T' => runF P Γ cs ys ops an oz os rm' st' T' K
/-- Each operation comes behind those whose answers it reads; no two write the same slot. -/
def depB (ops : Array Oper) : Bool := (List.range ops.size).all fun i => match ops[i]? with
  | none => true
  | some o => (List.range ops.size).all fun k => match (ops[k]?).bind (·.dst) with
    | none => true
    | some t => (!(o.op.operands.toList.any fun x => match x with
        | .tmp u => Nat.beq u t
        | _ => false) || o.after.toList.any fun e => Region.binds .any e && Nat.beq e.on k) && (Nat.beq i k || !(match o.dst with
        | some u => Nat.beq u t
        | none => false))
def runFS (P : Program) (Γ : PC) (cs : CallS) (ys : YieldS) (ops : Array Oper) (an : List Nat) (os : List Nat) (st : St) (K : St → Prop) : Prop :=
  bareSt st fun st => cond (backB ops && (depB ops && chainB an os)) (bareNs (List.range' 0 ops.size) fun rm => bareL (layF ops rm [] st.regs) fun r => freeT P Γ ops an os os st.heap [] rm r [] fun T => runF P Γ cs ys ops an os os rm st T K) (Stuck "order" "")

def callsB (P : Program) (Γ : PC) (ops : Array Oper) : Bool := ops.toList.any fun o => match o.op with
  | .call c => match c.callee with
    | .value (.func g) => (Γ g).isNone
    | _ => false
  | _ => false

/-- A range over a function in it. -/
def hasRF : Code → Bool
  | .rangeFunc _ _ _ _ => true
  | .seq a b => hasRF a || hasRF b
  | .cond _ a b => hasRF a || hasRF b
  | .block _ c => hasRF c
  | .loop c => hasRF c
  | .scope c => hasRF c
  | _ => false
/-- The calls put off, carried out: they stand for nothing. -/
def endDf : List Nat → List Blk → (List Blk → Prop) → Prop
  | [], h, K => K h
  | i :: l, h, K => match h[i]? with
    | some .dfr => endDf l (h.set i .dead) K
    | _ => Stuck "deferred" ""
/-- A function is left. -/
def leaveS (P : Program) (fn : Func) (st' : St) (K' : SV → List Blk → Prop) : Prop := endDf st'.df st'.heap fun h => match resAll P ⟨st'.regs, h, []⟩ fn.results.toList with
  | some [v] => K' v h
  | some l => K' (.tup l) h
  | none => Stuck "results" fn.name
/-- The loop's variables take what is handed. -/
def setPs (r : List SV) (ps : List Tmp) (args : List SV) : List SV := (ps.zip args).foldl (fun r x => r.set x.1 x.2) r
def codeEx : Code → Option Ex
  | .ret => some .ret
  | .exit id => some (.exit id)
  | _ => none
def exCode : Ex → Option Code
  | .normal => none
  | .ret => some .ret
  | .exit id => some (.exit id)
/-- A range over a function has ended: how it goes on. -/
def endRF (s : LoopState) (q : Option Code) (K : Ex → Prop) : Prop := match s with
  | .busy => Stuck "busy" ""
  | _ => match q with
    | none => K .normal
    | some c => match codeEx c with
      | some e => K e
      | none => Stuck "jump" ""
def wpS (P : Program) (Γ : PC) (Λ : LoopSpecs) : Nat → FuncId → Code → St → (Ex → St → Prop) → Prop
  | 0, _, _, _, _ => Stuck "fuel" ""
  | n + 1, f, c, st, K =>
    let cs : CallS := fun g args h K' => match P.funcs[g]? with
      | some fn => match fn.body with
        | some body => bareSt ⟨args ++ List.replicate (fn.ntmps - args.length) (.v undef), h, []⟩ fun st0 => wpS P Γ Λ n g body st0 fun e st' => match e with
          | .exit _ => Stuck "exit" fn.name
          | _ => leaveS P fn st' K'
        | none => Stuck "body" fn.name
      | none => Stuck "function" ""
    let ys : YieldS := fun l args h K' => match h[l]? with
      | some (.loop f1 regs ps assign body s q _) => cond (idleB s q && (Nat.beq args.length ps.size && !(hasRF assign || hasRF body)))
          (bareSt ⟨setPs regs ps.toList args, h, []⟩ fun st0 => wpS P Γ Λ n f1 assign st0 fun e1 st1 => match e1 with
            | .normal => match st1.heap[l]? with
              | some (.loop f2 r2 p2 a2 b2 .ready q2 d2) => bareSt ⟨st1.regs, st1.heap.set l (.loop f2 r2 p2 a2 b2 .busy q2 d2), st1.df⟩ fun st2 => wpS P Γ Λ n f1 body st2 fun e3 st3 => match st3.heap[l]? with
                | some (.loop f4 r4 p4 a4 b4 _ _ d4) => match e3 with
                  | .normal => K' (.v (.bool true)) (st3.heap.set l (.loop f4 r4 p4 a4 b4 .ready none d4))
                  | e => K' (.v (.bool false)) (st3.heap.set l (.loop f4 r4 p4 a4 b4 .done (exCode e) d4))
                | _ => Stuck "record" ""
              | _ => Stuck "record" ""
            | _ => Stuck "assign" "") (Stuck "yield" "")
      | _ => Stuck "yield" ""
    match c with
    | .skip => K .normal st
    | .label _ => K .normal st
    | .region r ops false => hintS (Λ f (1000 + r)) st fun st => runOps P Γ cs ys ops (List.range ops.size) st (K .normal)
    | .region r ops true => hintS (Λ f (1000 + r)) st fun st => cond (callsB P Γ ops)
        (bareNs (ancMs ops.toList []) fun an => bareNs ((List.range ops.size).filter (effB Γ ops an)) fun os => runFS P Γ cs ys ops an os st (K .normal))
        (cond (Nat.beq (tailAt ops.toList 0) ops.size || !tailB ops (tailAt ops.toList 0))
          (bareNs (placesL P (st.heap.length + roomOf P ops.toList) ops.toList st.heap.length) fun pls => runD P Γ ops (fun i => pls.getD i 0) ⟨st.regs, st.heap ++ List.replicate (roomOf P ops.toList) .hole, st.df⟩ (K .normal))
          (bareNs (placesL P (st.heap.length + roomOf P ops.toList) ops.toList st.heap.length) fun pls => runDT P Γ ops (fun i => pls.getD i 0) (tailAt ops.toList 0) ⟨st.regs, st.heap ++ List.replicate (roomOf P ops.toList) .hole, st.df⟩ fun st => runOps P Γ cs ys ops (List.range' (tailAt ops.toList 0) (ops.size - tailAt ops.toList 0)) st (K .normal)))
    | .seq a b => wpS P Γ Λ n f a st fun e st' => match e with
        | .normal => wpS P Γ Λ n f b st' K
        | e => K e st'
    | .cond x a b => match x with
      | .tmp t => match st.regs.getD t .any with
        | .v (.bool v) => cond v (wpS P Γ Λ n f a st K) (wpS P Γ Λ n f b st K)
        | .q pt pf => cond pt (bareSt ⟨st.regs.set t (.v (.bool true)), st.heap, st.df⟩ fun st => wpS P Γ Λ n f a st K) True ∧ cond pf (bareSt ⟨st.regs.set t (.v (.bool false)), st.heap, st.df⟩ fun st => wpS P Γ Λ n f b st K) True
        | .b v => cond v (bareSt ⟨st.regs.set t (.v (.bool true)), st.heap, st.df⟩ fun st => wpS P Γ Λ n f a st K) (bareSt ⟨st.regs.set t (.v (.bool false)), st.heap, st.df⟩ fun st => wpS P Γ Λ n f b st K)
        | _ => Stuck "if" ""
      | .const (.bool true) => wpS P Γ Λ n f a st K
      | .const (.bool false) => wpS P Γ Λ n f b st K
      | _ => Stuck "if" ""
    | .block id b => wpS P Γ Λ n f b st fun e st' => match e with
      | .exit id' => if id' = id then K .normal st' else K (.exit id') st'
      | e => K e st'
    | .loop b => match Λ f (keyOf b) with
      | some L0 => loopI (L0 st) (asgd b) st (fun st K => wpS P Γ Λ n f b st K) K
      | none => loopS (fun st K => wpS P Γ Λ n f b st K) n st K
    | .scope b => wpS P Γ Λ n f b st K
    | .exit id => K (.exit id) st
    | .ret => K .ret st
    | .rangeFunc g ps assign body => match evR st.regs g with
      | .fn (.func gf) first cap => cond (enterOk P gf) (cs gf (first ++ [.yl (st.heap.length + 1)] ++ cap) (st.heap ++ [.dfr, .loop f st.regs ps assign body .ready none st.heap.length]) fun _ h' =>
          match h'[st.heap.length + 1]? with
          | some (.loop _ _ _ _ _ s q _) => endRF s q fun e => K e ⟨st.regs, h'.set (st.heap.length + 1) .dead, st.heap.length :: st.df⟩
          | _ => Stuck "record" "") (Stuck "range" "")
      | _ => Stuck "range" ""
    | _ => Stuck "code" ""

section
variable {P : Program} {Γ : PC} {E : Env} {w : World} {a : Act} {ops : Array Oper} {asg : List Tmp}

/-- A call goes as the engine says. -/
def CSok (P : Program) (E : Env) (cs : CallS) : Prop := ∀ g args h K, cs g args h K → ∀ ρ w vs, DH E ρ h w → DL ρ args vs →
  Calls P g vs.toArray w fun e w' => ∃ y v h' ρ', e = .returned y ∧ Ext ρ ρ' ∧ DV ρ' v y ∧ DH E ρ' h' w' ∧ K v h'

theorem Den.know {ρ : Rho} {st : St} (D : Den E ρ st a w) {t : Tmp} {b : Bool} (h : st.regs[t]? = some (.b b)) : Den E ρ ⟨st.regs.set t (.v (.bool b)), st.heap, st.df⟩ a w := by
  refine ⟨?_, D.heap, D.defers⟩
  obtain ⟨y, hy, hd⟩ := D.regs.get h
  simp only [DV] at hd
  subst hd
  have := D.regs.set t (s := .v (.bool b)) (y := .bool b) (by simp [DV])
  obtain ⟨hlt, he⟩ := List.getElem?_eq_some_iff.1 hy
  have e2 : a.tmps.toList.set t (.bool b) = a.tmps.toList := by rw [← he, List.set_getElem_self hlt]
  rwa [e2] at this

theorem Den.knowQ {ρ : Rho} {st : St} (D : Den E ρ st a w) {t : Tmp} {p q : Bool} (h : st.regs[t]? = some (.q p q)) : ∃ b, a.eval (.tmp t) = .bool b ∧ (b = true → p = true) ∧ (b = false → q = true) ∧ Den E ρ ⟨st.regs.set t (.v (.bool b)), st.heap, st.df⟩ a w := by
  obtain ⟨y, hy, hd⟩ := D.regs.get h
  simp only [DV] at hd
  obtain ⟨b, rfl, h1, h2⟩ := hd
  have := D.regs.set t (s := .v (.bool b)) (y := .bool b) (by simp [DV])
  obtain ⟨hlt, he⟩ := List.getElem?_eq_some_iff.1 hy
  have e2 : a.tmps.toList.set t (.bool b) = a.tmps.toList := by rw [← he, List.set_getElem_self hlt]
  refine ⟨b, ?_, h1, h2, ⟨by rwa [e2] at this, D.heap, D.defers⟩⟩
  simp only [Act.eval]
  have hy' : a.tmps[t]? = some (.bool b) := by simpa using hy
  rw [Array.getD_eq_getD_getElem?, hy']; rfl

/-- A round goes as the engine says. -/
def YSok (P : Program) (E : Env) (ys : YieldS) : Prop := ∀ l args h K, ys l args h K → ∀ ρ w vs p ro m, DH E ρ h w → DL ρ args vs → ρ l = some p →
  ∃ fn tmps assign body, (Instr.yield p.block vs.toArray).run P w = .ok (.round p.block fn tmps assign body) w ∧ RoundIn (FW ro) m P p.block fn tmps assign body w fun e w' => ∃ y v h' ρ', e = .returned y ∧ Ext ρ ρ' ∧ DV ρ' v y ∧ DH E ρ' h' w' ∧ K v h'
theorem yield_run {o : Oper} {e : Operand → SV} {ev : Operand → Value} {ρ : Rho} {l : Nat} {args : List SV} (h : yieldOf o e = some (l, args)) (EV : ∀ x, DV ρ (e x) (ev x)) :
    ∃ (vs : List Value) (p : Loc), ρ l = some p ∧ DL ρ args vs ∧ ∀ (w : World), (execOp ev o).run P w = (Instr.yield p.block vs.toArray).run P w := by
  unfold yieldOf at h
  split at h
  · rename_i c ho
    split at h
    · rename_i f hf
      split at h
      · rename_i l' he
        cases h
        have hv := EV f
        rw [he] at hv
        simp only [DV] at hv
        obtain ⟨p, hp, hv⟩ := hv
        refine ⟨c.args.toList.map ev, p, hp, DL_map _ _ _ EV, fun w => ?_⟩
        simp only [execOp, ho, resolve, hf, hv, Deferred.ofValue, Sem.run_bind, Sem.run_pure, Result.andThen_ok, invoke]
        congr 2
        apply Array.ext'
        simp
      · cases h
    · cases h
  · cases h

theorem stepOp0_ok (hΓ : PCok P Γ) {ro : Option Nat} {m : Nat} {cs : CallS} {ys : YieldS} (hys : YSok P E ys) (hcs : CSok P E cs) {i : Nat} {o : Oper} (ho : ops[i]? = some o) (hd : ∀ t, o.dst = some t → t ∈ asg) {ρ : Rho} {st : St} {K : St → Prop} {K' : Act → World → Prop} {Q : Exit → Act → World → Prop}
    (h : stepOp0 P Γ cs ys ops o st K) (D : Den E ρ st a w) (hK : ∀ st' ρ' a' w', K st' → Ext ρ ρ' → Den E ρ' st' a' w' → Fr asg a a' → K' a' w') : wpOpIn (FW ro) m P ops Q i K' a w := by
  unfold stepOp0 at h
  unfold wpOpIn
  simp only [ho]
  simp only [goSt_eq, bareEff_eq] at h
  have mkNo : K (apply o (none, []) st) → K' (a.put o.dst undef) w := fun hk => by
    exact hK _ ρ _ _ hk (Ext.refl _) ⟨D.regs.setR _ (by simp [Rec.val, DV]), D.heap, by rw [put_defers]; exact D.defers⟩ (Fr.put a undef hd)
  have mkGo : ∀ r0, opO P Γ o (evR st.regs) st.heap st.heap.length = some r0 → conjB r0.need (nameR (isComp o (evR st.regs)) r0.val fun v => K (apply o (some ⟨[], v, r0.eff⟩, []) st)) → o.wpIn (FW ro) m P a w K' Q := fun r0 hr0 h => by
    obtain ⟨hn, h⟩ := conjB_iff h
    have h := nameR_elim h
    exact opO_wp hΓ hr0 hn D (.inl rfl) fun y w' ρ' hx hy hD => hK _ ρ' _ _ h hx ⟨(DL.mono hx _ _ D.regs).setR _ hy, hD, by rw [put_defers]; exact D.defers.mono hx⟩ (Fr.put a y hd)
  have mkEnter : (match callOf o (evR st.regs) with
      | some (g, args) => cond (enterOk P g) (cs g args st.heap fun v h' => goR st.regs o.dst v fun r => K ⟨r, h', st.df⟩) (Stuck "enter" o.pos)
      | none => match yieldOf o (evR st.regs) with
        | some (l, args) => ys l args st.heap fun v h' => goR st.regs o.dst v fun r => K ⟨r, h', st.df⟩
        | none => walkS P o (evR st.regs) st.heap fun v h' => goR st.regs o.dst v fun r => K ⟨r, h', st.df⟩) → o.wpIn (FW ro) m P a w K' Q := fun h => by
    split at h
    · rename_i g args hc
      have hen : enterOk P g = true := by cases hq : enterOk P g with
        | true => rfl
        | false => rw [hq] at h; exact h.elim
      rw [hen] at h
      obtain ⟨vs, hargs, hrun⟩ := call_enter hc hen D.ev w
      refine wpIn_of_run (callOf_nodefer hc) ?_
      rw [hrun]
      refine ⟨by simp, callsIn_fw ((hcs _ _ _ _ h ρ w vs D.heap hargs).mono ?_)⟩
      rintro e w' ⟨y, v, h', ρ', rfl, hx, hy, hD, hk⟩
      rw [goR_eq] at hk
      exact hK _ ρ' _ _ hk hx ⟨(DL.mono hx _ _ D.regs).setR _ hy, hD, by rw [put_defers]; exact D.defers.mono hx⟩ (Fr.put a y hd)
    · split at h
      · rename_i l args hc
        obtain ⟨vs, p, hp, hargs, hrun⟩ := yield_run hc D.ev
        obtain ⟨fn, tmps, assign, body, hy, hR⟩ := hys _ _ _ _ h ρ w vs p ro (m - 1) D.heap hargs hp
        refine wpIn_of_run (fun c hc' => by simp [yieldOf, hc'] at hc) ?_
        rw [hrun, hy]
        refine ⟨by simp, hR.mono ?_⟩
        rintro e w' ⟨y, v, h', ρ', rfl, hx, hy, hD, hk⟩
        rw [goR_eq] at hk
        exact hK _ ρ' _ _ hk hx ⟨(DL.mono hx _ _ D.regs).setR _ hy, hD, by rw [put_defers]; exact D.defers.mono hx⟩ (Fr.put a y hd)
      · obtain ⟨hnd, y, v, h', ρ', w', hrun, hx, hy, hD, hk⟩ := walkS_ok h D.ev D.heap
        refine wpIn_of_run hnd ?_
        rw [hrun]
        rw [goR_eq] at hk
        exact hK _ ρ' _ _ hk hx ⟨(DL.mono hx _ _ D.regs).setR _ hy, hD, by rw [put_defers]; exact D.defers.mono hx⟩ (Fr.put a y hd)
  split at h
  · exact h.elim
  · rename_i hno; rw [if_neg (by rw [gv_no D.regs hno]; simp)]; exact ⟨fun _ _ => trivial, mkNo h⟩
  · rename_i hgo
    rw [if_pos (gv_go D.regs hgo)]
    split at h
    · rename_i r0 hr0; exact mkGo r0 hr0 h
    · exact mkEnter h
  · rename_i g hg
    have hw := gv_spec D.regs hg
    split at h
    · rename_i r0 hr0
      split at h
      · rename_i heff
        obtain ⟨hn, h⟩ := conjB_iff h
        have h := nameR_elim h
        cases g with
        | false =>
          rw [if_neg (by rw [hw]; simp)]
          exact ⟨fun _ _ => trivial, hK _ ρ _ _ h (Ext.refl _) ⟨D.regs.setR _ (by simp [Rec.val, DV]), D.heap, by rw [put_defers]; exact D.defers⟩ (Fr.put a undef hd)⟩
        | true =>
          rw [if_pos hw]
          refine opO_wp hΓ hr0 (under_iff hn rfl) D (.inl rfl) fun y w' ρ' hx hy hD => hK _ ρ' _ _ h hx ⟨(DL.mono hx _ _ D.regs).setR _ (by simp only [Rec.val, DV]; exact ⟨fun _ => hy, by simp⟩), ?_, by rw [put_defers]; exact D.defers.mono hx⟩ (Fr.put a y hd)
          rw [heff] at hD
          exact hD
      · cases g with
        | false => rw [if_neg (by rw [hw]; simp)]; exact ⟨fun _ _ => trivial, mkNo h⟩
        | true => rw [if_pos hw]; exact mkGo r0 hr0 h
    · cases g with
      | false => rw [if_neg (by rw [hw]; simp)]; exact ⟨fun _ _ => trivial, mkNo h⟩
      | true => rw [if_pos hw]; exact mkEnter h

theorem Den.knowI {ρ : Rho} {st : St} (D : Den E ρ st a w) {t : Tmp} {k : IntKind} {z lo hi : Int} (h : st.regs[t]? = some (.i k z lo hi)) : Den E ρ ⟨st.regs.set t (.v (.int k z)), st.heap, st.df⟩ a w := by
  refine ⟨?_, D.heap, D.defers⟩
  refine DL.mk' (by simpa using D.regs.length) fun i s y hs hy => ?_
  by_cases e : i = t
  · subst e
    obtain ⟨y', hy', hd⟩ := D.regs.get h
    rw [hy] at hy'; cases hy'
    have hlt := (List.getElem?_eq_some_iff.1 h).1
    rw [List.getElem?_set_self hlt] at hs
    cases hs
    simp only [DV] at hd ⊢
    exact hd.1
  · rw [List.getElem?_set_ne (Ne.symm e)] at hs
    obtain ⟨y', hy', hd⟩ := D.regs.get hs
    rw [hy] at hy'; cases hy'
    exact hd
theorem DL.setI {ρ : Rho} {cs : List SV} {ys : List Value} (h : DL ρ cs ys) {o : Nat} {k : IntKind} {z lo hi : Int} (ho : cs[o]? = some (.i k z lo hi)) : DL ρ (cs.set o (.v (.int k z))) ys := by
  refine DL.mk' (by simpa using h.length) fun i s y hs hy => ?_
  by_cases e : i = o
  · subst e
    obtain ⟨y', hy', hd⟩ := h.get ho
    rw [hy] at hy'; cases hy'
    rw [List.getElem?_set_self (List.getElem?_eq_some_iff.1 ho).1] at hs
    cases hs
    simp only [DV] at hd ⊢
    exact hd.1
  · rw [List.getElem?_set_ne (Ne.symm e)] at hs
    obtain ⟨y', hy', hd⟩ := h.get hs
    rw [hy] at hy'; cases hy'
    exact hd
theorem DH.setI {ρ : Rho} {h : List Blk} (D : DH E ρ h w) {i o : Nat} {e : TypeId} {cs : List SV} {k : IntKind} {z lo up : Int} (hi : h[i]? = some (.cells e cs)) (ho : cs[o]? = some (.i k z lo up)) : DH E ρ (h.set i (.cells e (cs.set o (.v (.int k z))))) w := by
  have hlt := (List.getElem?_eq_some_iff.1 hi).1
  have key : ∀ j b, (h.set i (.cells e (cs.set o (.v (.int k z)))))[j]? = some b → (j = i ∧ b = .cells e (cs.set o (.v (.int k z)))) ∨ h[j]? = some b := fun j b hj => by
    by_cases e : j = i
    · subst e
      rw [List.getElem?_set_self hlt] at hj
      exact .inl ⟨rfl, (Option.some.inj hj).symm⟩
    · rw [List.getElem?_set_ne (Ne.symm e)] at hj; exact .inr hj
  refine ⟨D.same, D.base, D.glob, D.old, fun j hj => D.fresh j (by simpa using hj), fun j b hj => ?_, fun j b n hj ht => ?_, fun j m b c n hne hj hm ht ht' => ?_⟩
  · rcases key j b hj with ⟨rfl, rfl⟩ | hj
    · obtain ⟨p, vs, hp, hw, hl⟩ := D.ok _ _ hi
      exact ⟨p, vs, hp, hw, hl.setI ho⟩
    · exact D.ok j b hj
  · rcases key j b hj with ⟨rfl, rfl⟩ | hj
    · exact D.own _ _ n hi ht
    · exact D.own j b n hj ht
  · rcases key j b hj with ⟨rfl, rfl⟩ | hj2
    · rcases key m c hm with ⟨rfl, rfl⟩ | hm2
      · exact absurd rfl hne
      · exact D.apart _ m _ c n hne hi hm2 ht ht'
    · rcases key m c hm with ⟨rfl, rfl⟩ | hm2
      · exact D.apart j _ b _ n hne hj2 hi ht ht'
      · exact D.apart j m b c n hne hj2 hm2 ht ht'
theorem hintS_ok {ρ : Rho} {st : St} {x : Option (St → LoopSpec)} {K : St → Prop} (h : hintS x st K) (D : Den E ρ st a w) : ∃ st', K st' ∧ Den E ρ st' a w := by
  unfold hintS at h
  split at h
  · exact ⟨st, h, D⟩
  · rename_i L0
    generalize (L0 st).keep = l at h
    match l, h with
    | [], h => exact h.elim
    | [_], h => exact h.elim
    | [t, m], h =>
      simp only [splitH] at h
      split at h
      · rename_i k z lo up hr
        cases hb : Nat.ble m 64 with
        | false => rw [hb] at h; exact h.elim
        | true =>
          rw [hb, cond_true] at h
          obtain ⟨hn, h⟩ := conjB_iff h
          obtain ⟨h0, h1⟩ := inB_iff hn.1
          have hj := splitP_get h (j := z.toNat) (by omega)
          have hz : ((z.toNat : Nat) : Int) = z := by omega
          simp only [hz, decide_true, cond_true, bareSt_eq, bareStF_eq] at hj
          exact ⟨_, hj, D.knowI hr⟩
      · exact ⟨st, h, D⟩
      · exact h.elim
    | _ :: _ :: _ :: _ :: _ :: _, h => exact h.elim
    | [t, m, _, _], h =>
      simp only [splitH] at h
      split at h
      · rename_i k z lo up hr
        cases hb : inB z m with
        | false => rw [hb, cond_false] at h; exact ⟨st, h, D⟩
        | true =>
          rw [hb, cond_true] at h
          obtain ⟨h0, h1⟩ := inB_iff hb
          have hj := splitP_get h (j := z.toNat) (by omega)
          have hz : ((z.toNat : Nat) : Int) = z := by omega
          simp only [hz, decide_true, cond_true, bareSt_eq, bareStF_eq] at hj
          exact ⟨_, hj, D.knowI hr⟩
      · exact ⟨st, h, D⟩
    | [t, o, m], h =>
      simp only [splitH] at h
      split at h
      · rename_i e cs hs
        split at h
        · rename_i k z lo up ho
          cases hb : Nat.ble m 64 with
          | false => rw [hb] at h; exact h.elim
          | true =>
            rw [hb, cond_true] at h
            obtain ⟨hn, h⟩ := conjB_iff h
            obtain ⟨h0, h1⟩ := inB_iff hn.1
            have hj := splitP_get h (j := z.toNat) (by omega)
            have hz : ((z.toNat : Nat) : Int) = z := by omega
            simp only [hz, decide_true, cond_true, bareSt_eq, bareStF_eq] at hj
            exact ⟨_, hj, ⟨D.regs, D.heap.setI hs ho, D.defers⟩⟩
        · exact h.elim
      · exact h.elim
theorem splitOf_reg {o : Oper} {r : List SV} {x : Nat} {k : IntKind} {z : Int} {n : Nat} (h : splitOf P ops o r = some (x, k, z, n)) : ∃ lo hi, r[x]? = some (.i k z lo hi) := by
  have key : ∀ (t : Nat) (k' : IntKind) (z' lo hi : Int), r.getD t .any = .i k' z' lo hi → r[t]? = some (.i k' z' lo hi) := fun t k' z' lo hi hg => by
    rw [List.getD_eq_getElem?_getD] at hg
    cases hq : r[t]? with
    | none => rw [hq] at hg; cases hg
    | some s => rw [hq] at hg; simp at hg; rw [hg]
  unfold splitOf at h
  split at h
  · split at h
    · rename_i hg
      split at h
      · split at h
        · cases h; exact ⟨_, _, key _ _ _ _ _ hg⟩
        · cases h; exact ⟨_, _, key _ _ _ _ _ hg⟩
        · cases h
      · cases h
    · cases h
  · split at h
    · rename_i hg
      split at h
      · split at h
        · cases h; exact ⟨_, _, key _ _ _ _ _ hg⟩
        · cases h
      · cases h
    · cases h
  · cases h
theorem guardOf_reg {ops : Array Oper} {o : Oper} {r : List SV} {t : Nat} {p : Bool} (h : guardOf ops o r = some (t, p)) : r[t]? = some (.b p) := by
  unfold guardOf at h
  split at h
  · split at h
    · split at h
      · rename_i hr; cases h; exact hr
      · cases h
    · cases h
  · cases h
theorem stepOp_ok (hΓ : PCok P Γ) {ro : Option Nat} {m : Nat} {cs : CallS} {ys : YieldS} (hys : YSok P E ys) (hcs : CSok P E cs) {i : Nat} {o : Oper} (ho : ops[i]? = some o) (hd : ∀ t, o.dst = some t → t ∈ asg) {ρ : Rho} {st : St} {K : St → Prop} {K' : Act → World → Prop} {Q : Exit → Act → World → Prop}
    (h : stepOp P Γ cs ys ops o st K) (D : Den E ρ st a w) (hK : ∀ st' ρ' a' w', K st' → Ext ρ ρ' → Den E ρ' st' a' w' → Fr asg a a' → K' a' w') : wpOpIn (FW ro) m P ops Q i K' a w := by
  unfold stepOp at h
  split at h
  · rename_i x k z n hsp
    obtain ⟨lo, hi, hr⟩ := splitOf_reg hsp
    cases hb : Nat.ble n 64 with
    | false => rw [hb] at h; exact h.elim
    | true =>
      rw [hb, cond_true] at h
      obtain ⟨hn, h⟩ := conjB_iff h
      obtain ⟨h0, h1⟩ := inB_iff hn.1
      have hj := splitP_get h (j := z.toNat) (by omega)
      have hz : ((z.toNat : Nat) : Int) = z := by omega
      simp only [hz, decide_true, cond_true, bareSt_eq, bareStF_eq] at hj
      exact stepOp0_ok hΓ hys hcs ho hd hj (D.knowI hr) hK
  · split at h
    · rename_i t p hg
      have hr := guardOf_reg hg
      cases hb : effy P Γ o st with
      | false => rw [hb] at h; exact stepOp0_ok hΓ hys hcs ho hd h D hK
      | true =>
        rw [hb, cond_true] at h
        cases p with
        | true => rw [cond_true, bareSt_eq] at h; exact stepOp0_ok hΓ hys hcs ho hd h (D.know hr) hK
        | false => rw [cond_false, bareSt_eq] at h; exact stepOp0_ok hΓ hys hcs ho hd h (D.know hr) hK
    · exact stepOp0_ok hΓ hys hcs ho hd h D hK

theorem runOps_ok (hΓ : PCok P Γ) {ro : Option Nat} {m : Nat} {cs : CallS} {ys : YieldS} (hys : YSok P E ys) (hcs : CSok P E cs) (hdst : ∀ (i : Nat) (o : Oper) (t : Tmp), ops[i]? = some o → o.dst = some t → t ∈ asg) {K : St → Prop} {Q : Exit → Act → World → Prop} :
    ∀ (l : List Nat) (st : St) (ρ : Rho) (a : Act) (w : World), runOps P Γ cs ys ops l st K → Den E ρ st a w → (∀ st' ρ' a' w', K st' → Ext ρ ρ' → Den E ρ' st' a' w' → Fr asg a a' → Q .normal a' w') → wpOpsIn (FW ro) m P ops Q l a w
  | [], st, ρ, a, w, h, D, hQ => hQ st ρ a w h (Ext.refl _) D (Fr.refl _ _)
  | i :: l, st, ρ, a, w, h, D, hQ => by
    rw [wpOpsIn_cons]
    simp only [runOps] at h
    split at h
    · exact h.elim
    · rename_i o ho
      exact stepOp_ok hΓ hys hcs ho (fun t ht => hdst i o t ho ht) h D fun st' ρ' a' w' hk hx hD hf => runOps_ok hΓ hys hcs hdst l st' ρ' a' w' hk hD fun st'' ρ'' a'' w'' hk' hx' hD' hf' => hQ st'' ρ'' a'' w'' hk' (hx.trans hx') hD' (hf.trans hf')

/-- A tail that goes in order. -/
theorem tail_ok (hΓ : PCok P Γ) {ro : Option Nat} {m t0 : Nat} {cs : CallS} {ys : YieldS} (hys : YSok P E ys) (hcs : CSok P E cs) (hdst : ∀ (i : Nat) (o : Oper) (t : Tmp), ops[i]? = some o → o.dst = some t → t ∈ asg) {K : St → Prop} {Q : Exit → Act → World → Prop}
    (hback : ∀ (i : Nat) (o : Oper) (e : Edge), ops[i]? = some o → e ∈ o.after → Region.binds .any e = true → e.on < i) (htail : ∀ i, t0 ≤ i → i < ops.size → ∀ j, j < i → AncP ops i j) :
    ∀ (n i : Nat) (st : St) (ρ : Rho) (a : Act) (w : World) (ls : Array Bool), i + n = ops.size → t0 ≤ i → ls.size = ops.size → (∀ k, k < ops.size → ls.getD k true = decide (k < i)) →
    (∀ (p : Nat) (o : Oper) (e : Edge), ls.getD p false = true → ops[p]? = some o → e ∈ o.after → Region.binds .any e = true → ls.getD e.on false = true) →
    runOps P Γ cs ys ops (List.range' i n) st K → Den E ρ st a w → (∀ st' ρ' a' w', K st' → Ext ρ ρ' → Den E ρ' st' a' w' → Fr asg a a' → Q .normal a' w') → wpAnyIn (FW ro) m P .any ops Q n ls a w
  | 0, i, st, ρ, a, w, ls, hi, h0, hls, hl, hc, h, D, hQ => by
    refine ⟨?_, hQ st ρ a w h (Ext.refl _) D (Fr.refl _ _)⟩
    unfold Region.ready
    rw [List.filter_eq_nil_iff]
    intro k hk hx
    simp only [List.mem_range] at hk
    simp only [Bool.and_eq_true, Bool.not_eq_true'] at hx
    have := hl k hk
    rw [hx.1] at this
    have := of_decide_eq_false this.symm
    omega
  | n + 1, i, st, ρ, a, w, ls, hi, h0, hls, hl, hc, h, D, hQ => by
    rw [List.range'_succ] at h
    simp only [runOps] at h
    split at h
    · exact h.elim
    rename_i o ho
    have hil : i < ls.size := by omega
    have hd : ∀ k, k < ops.size → ls.getD k false = decide (k < i) := fun k hk => by
      have := hl k hk
      have hk2 : k < ls.size := by omega
      simp only [Array.getD, hk2, dite_true] at this ⊢
      exact this
    refine ⟨?_, ?_⟩
    · intro hr
      exfalso
      have : i ∈ Region.ready .any ops ls := by
        unfold Region.ready
        simp only [List.mem_filter, List.mem_range, Bool.and_eq_true, Bool.not_eq_true']
        refine ⟨by omega, by rw [hl i (by omega)]; simp, ?_⟩
        simp only [ho, Option.map_some, Option.getD_some, Array.all_eq_true', Bool.or_eq_true, Bool.not_eq_true']
        intro e he
        by_cases hb : Region.binds .any e = true
        · right
          have hlt' := hback i o e ho he hb
          rw [hd e.on (by omega)]; exact decide_eq_true hlt'
        · left; simpa using hb
      rw [hr] at this
      simp at this
    · intro k hk
      unfold Region.ready at hk
      simp only [List.mem_filter, List.mem_range, Bool.and_eq_true, Bool.not_eq_true'] at hk
      obtain ⟨hklt, hun, hrdy⟩ := hk
      have hki : k = i := by
        rw [hl k hklt] at hun
        have h1 := of_decide_eq_false hun
        rcases Nat.lt_or_ge i k with g | g
        · exfalso
          cases hok : ops[k]? with
          | none => simp at hok; omega
          | some ok =>
            simp only [hok, Option.map_some, Option.getD_some, Array.all_eq_true', Bool.or_eq_true, Bool.not_eq_true'] at hrdy
            have := anc_listed hc (htail k (by omega) hklt i g) ok hok fun e he hb => by
              rcases hrdy e he with h | h
              · rw [hb] at h; cases h
              · exact h
            rw [hd i (by omega)] at this
            have := of_decide_eq_true this
            omega
        · omega
      subst hki
      simp only [ho, Option.map_some, Option.getD_some, Array.all_eq_true', Bool.or_eq_true, Bool.not_eq_true'] at hrdy
      have hrdy' : ∀ e ∈ o.after, Region.binds .any e = true → ls.getD e.on false = true := fun e he hb => by
        rcases hrdy e he with h | h
        · rw [hb] at h; cases h
        · exact h
      refine stepOp_ok hΓ hys hcs ho (fun t ht => hdst k o t ho ht) h D fun st' ρ' a' w' hk hx hD hf => tail_ok hΓ hys hcs hdst hback htail n (k + 1) st' ρ' a' w' _ (by omega) (by omega) (by simp [hls]) (fun j hj => ?_) ?_ hk hD fun st'' ρ'' a'' w'' hk' hx' hD' hf' => hQ st'' ρ'' a'' w'' hk' (hx.trans hx') hD' (hf.trans hf')
      · by_cases e : j = k
        · subst e
          have h1 : (ls.setIfInBounds j true).getD j true = true := by simp [Array.getD, hil]
          rw [h1, decide_eq_true (by omega)]
        · have hne : (ls.setIfInBounds k true).getD j true = ls.getD j true := by
            simp only [Array.getD_eq_getD_getElem?, Array.getElem?_setIfInBounds_ne (fun h => e h.symm)]
          rw [hne, hl j hj]
          exact decide_eq_decide.2 (by omega)
      · intro p op e hpl hop he hb
        have hmono : ∀ j, ls.getD j false = true → (ls.setIfInBounds k true).getD j false = true := fun j hj => by
          by_cases e : j = k
          · subst e; simp [Array.getD, hil]
          · simpa only [Array.getD_eq_getD_getElem?, Array.getElem?_setIfInBounds_ne (fun h => e h.symm)] using hj
        by_cases hpi : p = k
        · subst hpi
          rw [ho] at hop; cases hop
          exact hmono _ (hrdy' e he hb)
        · refine hmono _ (hc p op e ?_ hop he hb)
          simpa only [Array.getD_eq_getD_getElem?, Array.getElem?_setIfInBounds_ne (fun h => hpi h.symm)] using hpl

theorem lookT_find {T : List (Nat × SV)} {k : Nat} {e : Nat × SV} (h : T.find? (fun e => Nat.beq e.1 k) = some e) : lookT T k = e.2 ∧ e.1 = k := by
  unfold lookT; rw [h]
  exact ⟨rfl, Nat.eq_of_beq_eq_true (List.find?_some (p := fun (e : Nat × SV) => Nat.beq e.1 k) h)⟩

theorem layT_length (l : List Nat) (T : List (Nat × SV)) (r : List SV) : (layT ops l T r).length = r.length := by simp [layT]
theorem layT_get (l : List Nat) (T : List (Nat × SV)) (r : List SV) (t : Nat) : (layT ops l T r)[t]? = (r[t]?).map fun s => match l.find? (dstIs ops t) with
    | some k => lookT T k
    | none => s := by
  simp only [layT, List.getElem?_map, List.getElem?_zipIdx, Option.map_map, Nat.zero_add]
  rfl

theorem depB_op (h : depB ops = true) {i k : Nat} {o : Oper} {t : Nat} (ho : ops[i]? = some o) (hx : Operand.tmp t ∈ o.op.operands.toList) (hk : dstIs ops t k = true) : ∃ e ∈ o.after, Region.binds .any e = true ∧ e.on = k := by
  have hi : i < ops.size := (Array.getElem?_eq_some_iff.1 ho).1
  have h1 := List.all_eq_true.1 h i (List.mem_range.2 hi)
  simp only [ho] at h1
  unfold dstIs at hk
  cases hd : (ops[k]?).bind (·.dst) with
  | none => rw [hd] at hk; cases hk
  | some u =>
    rw [hd] at hk
    have hk' : k < ops.size := by
      cases hq : ops[k]? with
      | none => rw [hq] at hd; cases hd
      | some _ => exact (Array.getElem?_eq_some_iff.1 hq).1
    have h2 := List.all_eq_true.1 h1 k (List.mem_range.2 hk')
    simp only [hd, Bool.and_eq_true, Bool.or_eq_true, Bool.not_eq_true'] at h2
    rcases h2.1 with h3 | h3
    · have := List.any_eq_false.1 h3 _ hx
      simp only [Nat.eq_of_beq_eq_true hk] at this
      simp at this
    · obtain ⟨e, he, hb⟩ := List.any_eq_true.1 h3
      simp only [Bool.and_eq_true] at hb
      exact ⟨e, Array.mem_toList_iff.1 he, hb.1, Nat.eq_of_beq_eq_true hb.2⟩
theorem depB_dst (h : depB ops = true) {i k : Nat} {t : Nat} (hi : dstIs ops t i = true) (hk : dstIs ops t k = true) : i = k := by
  have key : ∀ j, dstIs ops t j = true → j < ops.size ∧ ∃ o, ops[j]? = some o ∧ o.dst = some t := fun j hj => by
    unfold dstIs at hj
    cases hq : ops[j]? with
    | none => rw [hq] at hj; simp at hj
    | some o =>
      rw [hq] at hj
      simp only [Option.bind_some] at hj
      cases hd : o.dst with
      | none => rw [hd] at hj; cases hj
      | some u => rw [hd] at hj; exact ⟨(Array.getElem?_eq_some_iff.1 hq).1, o, rfl, by rw [hd, Nat.eq_of_beq_eq_true hj]⟩
  obtain ⟨i1, oi, i2, i3⟩ := key i hi
  obtain ⟨k1, ok, k2, k3⟩ := key k hk
  have h1 := List.all_eq_true.1 h i (List.mem_range.2 i1)
  simp only [i2] at h1
  have h2 := List.all_eq_true.1 h1 k (List.mem_range.2 k1)
  simp only [k2, Option.bind_some, k3, Bool.and_eq_true, Bool.or_eq_true, i3] at h2
  rcases h2.2 with g | g
  · exact Nat.eq_of_beq_eq_true g
  · simp at g

/-- What the table holds, where it was reckoned. -/
def FreeOk (P : Program) (Γ : PC) (ops : Array Oper) (an oz l0 os : List Nat) (st : St) (T0 : List (Nat × SV)) (K : List (Nat × SV) → Prop) (l : List Nat) (T : List (Nat × SV)) : Prop :=
  ∃ T1, K T1 ∧ (∀ k, (∀ j ∈ l, k < j) → lookT T1 k = lookT T k ∧ T1.find? (fun e => Nat.beq e.1 k) = T.find? (fun e => Nat.beq e.1 k)) ∧
      (∀ j ∈ l, (obB oz j || blockB an os j) = false → ∃ o need Tj v, ops[j]? = some o ∧ o.guard = none ∧ T1.find? (fun e => Nat.beq e.1 j) = some (j, v) ∧ allNeed need ∧ opO P Γ o (evR (layT ops l0 Tj st.regs)) st.heap st.heap.length = some ⟨need, v, []⟩ ∧ (∀ k, k < j → lookT Tj k = lookT T1 k)) ∧
      (∀ j ∈ l, ∀ e, T0.find? (fun e => Nat.beq e.1 j) = some e → (∃ e', T1.find? (fun e => Nat.beq e.1 j) = some e') → lookT T1 j = e.2)

theorem lookT_cons_ne {T : List (Nat × SV)} {j k : Nat} {v : SV} (h : j ≠ k) : lookT ((j, v) :: T) k = lookT T k := by
  unfold lookT
  rw [List.find?_cons_of_neg]
  intro hh
  exact h (Nat.eq_of_beq_eq_true hh)
theorem lookT_cons_eq {T : List (Nat × SV)} {j : Nat} {v : SV} : lookT ((j, v) :: T) j = v := by
  unfold lookT
  rw [List.find?_cons_of_pos (by exact Nat.beq_refl j)]
theorem dstIs_iff {k t : Nat} : dstIs ops t k = true ↔ (ops[k]?).bind (·.dst) = some t := by
  unfold dstIs
  cases (ops[k]?).bind (·.dst) with
  | none => simp
  | some u => constructor
              · intro h; rw [Nat.eq_of_beq_eq_true h]
              · intro h; cases h; exact Nat.beq_refl t
theorem layF_eq (hdep : depB ops = true) (T : List (Nat × SV)) : ∀ (l : List Nat) (r : List SV), layF ops l T r = layT ops l T r
  | [], r => by
    apply List.ext_getElem?
    intro t
    rw [layT_get]; simp [layF]
  | k :: l, r => by
    show layF ops l T (setR r ((ops[k]?).bind (·.dst)) (lookT T k)) = _
    rw [layF_eq hdep T l]
    apply List.ext_getElem?
    intro t
    rw [layT_get, layT_get]
    by_cases hk : dstIs ops t k = true
    · rw [List.find?_cons_of_pos hk]
      have hd := dstIs_iff.1 hk
      rw [hd]
      have hs : (setR r (some t) (lookT T k))[t]? = (r[t]?).map fun _ => lookT T k := by
        simp only [setR, List.getElem?_set]
        by_cases hl : t < r.length
        · simp [hl]
        · simp [hl, List.getElem?_eq_none (Nat.le_of_not_lt hl)]
      rw [hs, Option.map_map]
      congr 1
      funext s
      simp only [Function.comp]
      cases hf : l.find? (dstIs ops t) with
      | none => rfl
      | some k' => rw [depB_dst hdep (List.find?_some hf) hk]
    · rw [List.find?_cons_of_neg hk, setR_getElem? fun u hu e => hk (dstIs_iff.2 (by rw [hu, e]))]
theorem layT_put (hdep : depB ops = true) {j : Nat} {o : Oper} (ho : ops[j]? = some o) {l : List Nat} (hj : j ∈ l) (v : SV) (T : List (Nat × SV)) (r : List SV) : setR (layT ops l T r) o.dst v = layT ops l ((j, v) :: T) r := by
  apply List.ext_getElem?
  intro t
  rw [layT_get]
  have hjd : (ops[j]?).bind (·.dst) = o.dst := by rw [ho]; rfl
  by_cases hd : o.dst = some t
  · have h1 : dstIs ops t j = true := dstIs_iff.2 (by rw [hjd, hd])
    rw [hd]
    have hs : (setR (layT ops l T r) (some t) v)[t]? = ((layT ops l T r)[t]?).map fun _ => v := by
      simp only [setR, List.getElem?_set]
      by_cases hl : t < (layT ops l T r).length
      · simp [hl]
      · simp [hl, List.getElem?_eq_none (Nat.le_of_not_lt hl)]
    rw [hs, layT_get, Option.map_map]
    congr 1
    funext s
    simp only [Function.comp]
    cases hf : l.find? (dstIs ops t) with
    | none => exact absurd h1 (by simpa using List.find?_eq_none.1 hf j hj)
    | some k =>
      have : k = j := depB_dst hdep (List.find?_some hf) h1
      subst this
      exact lookT_cons_eq.symm
  · rw [setR_getElem? fun u hu e => hd (by rw [hu, e]), layT_get]
    congr 1
    funext s
    cases hf : l.find? (dstIs ops t) with
    | none => rfl
    | some k =>
      have : j ≠ k := fun e => by
        subst e
        have := dstIs_iff.1 (List.find?_some hf)
        rw [hjd] at this
        exact hd this
      simp only [lookT_cons_ne this]
theorem freeT_ok (hdep : depB ops = true) {an oz l0 os : List Nat} {st : St} {T0 : List (Nat × SV)} {K : List (Nat × SV) → Prop} : ∀ (l : List Nat) (T : List (Nat × SV)), l.Pairwise (· < ·) → (∀ j ∈ l, j ∈ l0) → (∀ e ∈ T, ∀ j ∈ l, e.1 < j) → freeT P Γ ops an oz os st.heap T0 l (layT ops l0 T st.regs) T K →
    FreeOk P Γ ops an oz l0 os st T0 K l T
  | [], T, _, _, _, h => ⟨T, h, fun _ _ => ⟨rfl, rfl⟩, by simp, by simp⟩
  | j :: r, T, hp, hl0, hT, h => by
    simp only [freeT, goR_eq] at h
    have hp' := List.pairwise_cons.1 hp
    have nof : ∀ k, (∀ e ∈ T, e.1 < k) → T.find? (fun e => Nat.beq e.1 k) = none := fun k hk => by
      rw [List.find?_eq_none]
      intro e he hb
      have := Nat.eq_of_beq_eq_true hb
      have := hk e he
      omega
    cases hb : (obB oz j || blockB an os j) with
    | true =>
      rw [hb, cond_true] at h
      obtain ⟨T1, h1, h2, h3, h4⟩ := freeT_ok hdep r T hp'.2 (fun k hk => hl0 k (.tail _ hk)) (fun e he k hk => hT e he k (.tail _ hk)) h
      refine ⟨T1, h1, fun k hk => h2 k fun j' hj' => hk j' (.tail _ hj'), fun k hk hkb => ?_, fun k hk e he he' => ?_⟩
      · rcases List.mem_cons.1 hk with rfl | hk
        · rw [hb] at hkb; cases hkb
        · exact h3 k hk hkb
      · rcases List.mem_cons.1 hk with rfl | hk
        · obtain ⟨e', he'⟩ := he'
          rw [(h2 k fun j' hj' => hp'.1 j' hj').2, nof k fun e he => hT e he k (.head _)] at he'
          cases he'
        · exact h4 k hk e he he'
    | false =>
      rw [hb, cond_false] at h
      split at h
      · exact h.elim
      rename_i o ho
      split at h
      · exact h.elim
      rename_i hg
      split at h
      · rename_i need v hop
        obtain ⟨hn, h⟩ := conjB_iff h
        have fin : ∀ v', v' = v → freeT P Γ ops an oz os st.heap T0 r (setR (layT ops l0 T st.regs) o.dst v') ((j, v') :: T) K → (∀ e, T0.find? (fun e => Nat.beq e.1 j) = some e → v' = e.2) → FreeOk P Γ ops an oz l0 os st T0 K (j :: r) T := fun v' hv hfr hold => by
          subst hv
          rw [layT_put hdep ho (hl0 j (.head _))] at hfr
          obtain ⟨T1, h1, h2, h3, h4⟩ := freeT_ok hdep r ((j, v') :: T) hp'.2 (fun k hk => hl0 k (.tail _ hk)) (fun e he k hk => by
            rcases List.mem_cons.1 he with rfl | he
            · exact hp'.1 k hk
            · exact hT e he k (.tail _ hk)) hfr
          have hj1 : T1.find? (fun e => Nat.beq e.1 j) = some (j, v') := by
            rw [(h2 j fun k hk => hp'.1 k hk).2]
            simp
          have hlow : ∀ k, k < j → lookT T1 k = lookT T k ∧ T1.find? (fun e => Nat.beq e.1 k) = T.find? (fun e => Nat.beq e.1 k) := fun k hk => by
            have h5 := h2 k fun j' hj' => Nat.lt_trans hk (hp'.1 j' hj')
            have h6 : ((j, v') :: T).find? (fun e => Nat.beq e.1 k) = T.find? (fun e => Nat.beq e.1 k) := by
              rw [List.find?_cons_of_neg]
              intro hh
              have := Nat.eq_of_beq_eq_true hh
              simp only at this
              omega
            have h7 : lookT ((j, v') :: T) k = lookT T k := by unfold lookT; rw [h6]
            exact ⟨h5.1.trans h7, h5.2.trans h6⟩
          refine ⟨T1, h1, fun k hk => hlow k (hk j (.head _)), fun k hk hkb => ?_, fun k hk e he he' => ?_⟩
          · rcases List.mem_cons.1 hk with rfl | hk
            · exact ⟨o, need, T, v', ho, hg, hj1, hn, hop, fun k' hk' => (hlow k' hk').1.symm⟩
            · exact h3 k hk hkb
          · rcases List.mem_cons.1 hk with rfl | hk
            · rw [(lookT_find hj1).1]; exact hold e he
            · exact h4 k hk e he he'
        split at h
        · rename_i e he
          obtain ⟨hv, h⟩ := h
          exact fin e.2 hv.symm h fun e' he' => by rw [he] at he'; cases he'; rfl
        · rename_i he
          exact fin v rfl h fun e' he' => by rw [he] at he'; cases he'
      · exact h.elim

theorem lookT_nil (k : Nat) : lookT [] k = .any := rfl
theorem lookT_none {T : List (Nat × SV)} {k : Nat} (h : T.find? (fun e => Nat.beq e.1 k) = none) : lookT T k = .any := by unfold lookT; rw [h]
theorem find_filter {T : List (Nat × SV)} {q : Nat → Bool} {k : Nat} (h : q k = true) : (T.filter fun e => q e.1).find? (fun e => Nat.beq e.1 k) = T.find? (fun e => Nat.beq e.1 k) := by
  rw [List.find?_filter]
  congr 1
  funext e
  by_cases he : Nat.beq e.1 k = true
  · rw [Nat.eq_of_beq_eq_true he, h]; simp
  · simp only [Bool.not_eq_true] at he; rw [he]; simp
theorem lookT_filter {T : List (Nat × SV)} {q : Nat → Bool} {k : Nat} (h : q k = true) : lookT (T.filter fun e => q e.1) k = lookT T k := by unfold lookT; rw [find_filter h]
theorem lookT_filter_no {T : List (Nat × SV)} {q : Nat → Bool} {k : Nat} (h : q k = false) : lookT (T.filter fun e => q e.1) k = .any := by
  refine lookT_none ?_
  rw [List.find?_eq_none]
  intro e he hb
  have := (List.mem_filter.1 he).2
  rw [Nat.eq_of_beq_eq_true hb, h] at this
  cases this
theorem find_dst {l : List Nat} {t k : Nat} (h : l.find? (dstIs ops t) = some k) : k ∈ l ∧ dstIs ops t k = true := ⟨List.mem_of_find?_eq_some h, List.find?_some h⟩
theorem layT_den {ρ : Rho} {st : St} {l : List Nat} {T : List (Nat × SV)} (D : Den E ρ ⟨layT ops l [] st.regs, st.heap, st.df⟩ a w) (hF : ∀ k ∈ l, ∀ t, dstIs ops t k = true → ∀ y, a.tmps[t]? = some y → DV ρ (lookT T k) y) :
    Den E ρ ⟨layT ops l T st.regs, st.heap, st.df⟩ a w := by
  refine ⟨DL.mk' ?_ fun i s y hs hy => ?_, D.heap, D.defers⟩
  · have := D.regs.length; simpa [layT_length] using this
  · rw [layT_get] at hs
    simp only [Option.map_eq_some_iff] at hs
    obtain ⟨s0, h0, rfl⟩ := hs
    cases hf : l.find? (dstIs ops i) with
    | some k =>
      obtain ⟨h1, h2⟩ := find_dst hf
      exact hF k h1 i h2 y (by simpa using hy)
    | none =>
      have : (layT ops l [] st.regs)[i]? = some s0 := by rw [layT_get, h0]; simp [hf]
      obtain ⟨y', hy', hd⟩ := D.regs.get this
      rw [hy] at hy'; cases hy'
      exact hd
theorem layT_any {ρ : Rho} {st : St} {l : List Nat} (D : Den E ρ st a w) : Den E ρ ⟨layT ops l [] st.regs, st.heap, st.df⟩ a w := by
  refine ⟨DL.mk' ?_ fun i s y hs hy => ?_, D.heap, D.defers⟩
  · have := D.regs.length; simpa [layT_length] using this
  · rw [layT_get] at hs
    simp only [Option.map_eq_some_iff] at hs
    obtain ⟨s0, h0, rfl⟩ := hs
    cases hf : l.find? (dstIs ops i) with
    | some k => simp only [lookT_nil]; trivial
    | none =>
      obtain ⟨y', hy', hd⟩ := D.regs.get h0
      rw [hy] at hy'; cases hy'
      exact hd
theorem dstIs_of {k t : Nat} {o : Oper} (ho : ops[k]? = some o) (hd : o.dst = some t) : dstIs ops t k = true := by
  unfold dstIs; rw [ho]; simp only [Option.bind_some, hd]; exact Nat.beq_refl t

/-- How far a region that draws its order has gone: the operations und are left; those ahead of p are done. -/
structure RF (P : Program) (Γ : PC) (ops : Array Oper) (an oz os : List Nat) (rm : List Nat) (st : St) (T : List (Nat × SV)) (und : List Nat) (ls : Array Bool) (E : Env) (ρ : Rho) (a : Act) (w : World) : Prop where
  sort : und.Pairwise (· < ·)
  lst : ∀ i, i < ops.size → (ls.getD i true = false ↔ i ∈ und)
  rng : ∀ i ∈ und, i ∈ rm ∧ i < ops.size
  rms : rm.Pairwise (· < ·)
  rlt : ∀ i ∈ rm, i < ops.size
  size : ls.size = ops.size
  clo : ∀ (q : Nat) (o : Oper) (e : Edge), ls.getD q false = true → ops[q]? = some o → e ∈ o.after → Region.binds .any e = true → ls.getD e.on false = true
  osort : os.Pairwise (· < ·)
  oin : ∀ c, c ∈ os ↔ c ∈ rm ∧ obB oz c = true
  oun : ∀ c ∈ os, c ∈ und
  tab : ∀ j ∈ rm, (obB oz j || blockB an os j) = false → ∃ o need Tj v, ops[j]? = some o ∧ o.guard = none ∧ T.find? (fun e => Nat.beq e.1 j) = some (j, v) ∧ allNeed need ∧ opO P Γ o (evR (layT ops (rm) Tj st.regs)) st.heap st.heap.length = some ⟨need, v, []⟩ ∧ ∀ k, k < j → lookT Tj k = lookT T k
  den : Den E ρ ⟨layT ops (rm) [] st.regs, st.heap, st.df⟩ a w
  done : ∀ k ∈ rm, k ∉ und → (obB oz k || blockB an os k) = false ∧ ∀ t, dstIs ops t k = true → ∀ y, a.tmps[t]? = some y → DV ρ (lookT T k) y

theorem getD_two {ls : Array Bool} {i : Nat} (h : i < ls.size) : ls.getD i false = ls.getD i true := by simp only [Array.getD, h, dite_true]
theorem set_same {ls : Array Bool} {i : Nat} {d : Bool} (h : i < ls.size) : (ls.setIfInBounds i true).getD i d = true := by simp [Array.getD, h]
theorem set_other {ls : Array Bool} {i k : Nat} {d : Bool} (h : i ≠ k) : (ls.setIfInBounds i true).getD k d = ls.getD k d := by
  simp only [Array.getD_eq_getD_getElem?, Array.getElem?_setIfInBounds_ne h]
theorem clo_set {ls : Array Bool} {i : Nat} {o : Oper} (hi : i < ls.size) (ho : ops[i]? = some o) (hr : ∀ e ∈ o.after, Region.binds .any e = true → ls.getD e.on false = true)
    (hc : ∀ (q : Nat) (o : Oper) (e : Edge), ls.getD q false = true → ops[q]? = some o → e ∈ o.after → Region.binds .any e = true → ls.getD e.on false = true) :
    ∀ (q : Nat) (o : Oper) (e : Edge), (ls.setIfInBounds i true).getD q false = true → ops[q]? = some o → e ∈ o.after → Region.binds .any e = true → (ls.setIfInBounds i true).getD e.on false = true := by
  intro q oq e hq hoq he hb
  have mono : ∀ j, ls.getD j false = true → (ls.setIfInBounds i true).getD j false = true := fun j hj => by
    by_cases e : i = j
    · subst e; exact set_same hi
    · rw [set_other e]; exact hj
  by_cases hqi : i = q
  · subst hqi
    rw [ho] at hoq; cases hoq
    exact mono _ (hr e he hb)
  · rw [set_other hqi] at hq
    exact mono _ (hc q oq e hq hoq he hb)

theorem runF_ok (hΓ : PCok P Γ) {ro : Option Nat} {m : Nat} {cs : CallS} {ys : YieldS} (hys : YSok P E ys) (hcs : CSok P E cs) (hdst : ∀ (i : Nat) (o : Oper) (t : Tmp), ops[i]? = some o → o.dst = some t → t ∈ asg) {K : St → Prop} {Q : Exit → Act → World → Prop}
    (hback : ∀ (i : Nat) (o : Oper) (e : Edge), ops[i]? = some o → e ∈ o.after → Region.binds .any e = true → e.on < i) (hdep : depB ops = true) {an : List Nat} (han : ∀ i j, (an.getD i 0).testBit j = true → AncP ops i j) {oz : List Nat} (hch : ∀ c ∈ oz, ∀ i ∈ oz, c < i → (an.getD i 0).testBit c = true) :
    ∀ (n : Nat) (os : List Nat) (rm : List Nat) (st : St) (T : List (Nat × SV)) (und : List Nat) (ls : Array Bool) (ρ : Rho) (a : Act) (w : World), und.length = n → RF P Γ ops an oz os rm st T und ls E ρ a w →
    runF P Γ cs ys ops an oz os rm st T K → (∀ st' ρ' a' w', K st' → Ext ρ ρ' → Den E ρ' st' a' w' → Fr asg a a' → Q .normal a' w') → wpAnyIn (FW ro) m P .any ops Q n ls a w
  | 0, os, rm, st, T, und, ls, ρ, a, w, hn, R, h, hQ => by
    have : und = [] := List.eq_nil_of_length_eq_zero hn
    subst this
    have : os = [] := by
      cases os with
      | nil => rfl
      | cons c os => have := R.oun c (.head _); simp at this
    subst this
    simp only [runF, layF_eq hdep] at h
    refine ⟨?_, hQ _ ρ a w h (Ext.refl _) (layT_den R.den fun k hk t ht y hy => ?_) (Fr.refl _ _)⟩
    · unfold Region.ready
      rw [List.filter_eq_nil_iff]
      intro k hk hx
      simp only [List.mem_range] at hk
      simp only [Bool.and_eq_true, Bool.not_eq_true'] at hx
      have := (R.lst k hk).1 hx.1
      simp at this
    · exact (R.done k hk (by simp)).2 t ht y hy
  | n + 1, os, rm, st, T, und, ls, ρ, a, w, hn, R, h, hQ => by
    have hun : ∀ k, k < ops.size → k ∉ und → ls.getD k false = true := fun k hk hm => by
      rw [getD_two (by rw [R.size]; exact hk)]
      cases hg : ls.getD k true with
      | true => rfl
      | false => exact absurd ((R.lst k hk).1 hg) hm
    have hnu : ∀ k, k < ops.size → ls.getD k false = true → k ∉ und := fun k hk hg hm => by
      rw [getD_two (by rw [R.size]; exact hk), (R.lst k hk).2 hm] at hg; cases hg
    refine ⟨?_, ?_⟩
    · intro hr
      exfalso
      cases und with
      | nil => simp at hn
      | cons x und =>
        have hx := (R.rng x (.head _)).2
        have : x ∈ Region.ready .any ops ls := by
          unfold Region.ready
          simp only [List.mem_filter, List.mem_range, Bool.and_eq_true, Bool.not_eq_true']
          refine ⟨hx, (R.lst x hx).2 (.head _), ?_⟩
          cases ho : ops[x]? with
          | none => simp at ho; omega
          | some o =>
            simp only [Option.map_some, Option.getD_some, Array.all_eq_true', Bool.or_eq_true, Bool.not_eq_true']
            intro e he
            by_cases hb : Region.binds .any e = true
            · right
              have hlt := hback x o e ho he hb
              refine hun e.on (by omega) fun hm => ?_
              rcases List.mem_cons.1 hm with h | h
              · omega
              · have := (List.pairwise_cons.1 R.sort).1 _ h
                omega
            · left; simpa using hb
        rw [hr] at this
        simp at this
    · intro i hi
      unfold Region.ready at hi
      simp only [List.mem_filter, List.mem_range, Bool.and_eq_true, Bool.not_eq_true'] at hi
      obtain ⟨hilt, hund, hrdy⟩ := hi
      have him := (R.lst i hilt).1 hund
      have hil : i < ls.size := by rw [R.size]; exact hilt
      have hip := (R.rng i him).1
      cases ho : ops[i]? with
      | none => simp at ho; omega
      | some o =>
        simp only [ho, Option.map_some, Option.getD_some, Array.all_eq_true', Bool.or_eq_true, Bool.not_eq_true'] at hrdy
        have hrdy' : ∀ e ∈ o.after, Region.binds .any e = true → ls.getD e.on false = true := fun e he hb => by
          rcases hrdy e he with h | h
          · rw [hb] at h; cases h
          · exact h
        have hanc : ∀ j, AncP ops i j → ls.getD j false = true := fun j hj => anc_listed R.clo hj o ho hrdy'
        have hnd : und.Nodup := R.sort.imp fun h => Nat.ne_of_lt h
        have hl' : ∀ k, k < ops.size → ((ls.setIfInBounds i true).getD k true = false ↔ k ∈ und.erase i) := fun k hk => by
          rw [hnd.mem_erase_iff]
          by_cases e : i = k
          · subst e; rw [set_same hil]; simp
          · rw [set_other e, R.lst k hk]
            exact ⟨fun h => ⟨fun e' => e e'.symm, h⟩, fun h => h.2⟩
        have hlen : (und.erase i).length = n := by rw [List.length_erase_of_mem him]; omega
        have hsort : (und.erase i).Pairwise (· < ·) := List.Pairwise.sublist (List.erase_sublist) R.sort
        have obm : ∀ k, obB oz k = true ↔ k ∈ oz := fun k => by
          unfold obB
          rw [List.any_eq_true]
          exact ⟨fun ⟨x, hx, hb⟩ => (Nat.eq_of_beq_eq_true hb) ▸ hx, fun hk => ⟨k, hk, Nat.beq_refl k⟩⟩
        cases hob : obB oz i with
        | true =>
          have hall : ∀ j, (an.getD i 0).testBit j = true → j < ops.size → j ∉ und := fun j hj hjs => hnu j hjs (hanc j (han i j hj))
          cases os with
          | nil =>
            have := (R.oin i).2 ⟨hip, hob⟩
            simp at this
          | cons c os =>
            have hci : c = i := by
              rcases List.mem_cons.1 ((R.oin i).2 ⟨hip, hob⟩) with h | h
              · exact h.symm
              · exfalso
                have h1 := (List.pairwise_cons.1 R.osort).1 i h
                have h2 := (R.oin c).1 (.head _)
                exact hall c (hch c ((obm c).1 h2.2) i ((obm i).1 hob) h1) (R.rlt c h2.1) (R.oun c (.head _))
            subst hci
            simp only [runF, ho, bareSt_eq, bareL_eq, bareNs_eq, layF_eq hdep] at h
            have D1 : Den E ρ ⟨layT ops rm (T.filter fun e => (an.getD c 0).testBit e.1) st.regs, st.heap, st.df⟩ a w := layT_den R.den fun k hk t ht y hy => by
              cases hkc : (an.getD c 0).testBit k with
              | true =>
                rw [lookT_filter (q := fun x => (an.getD c 0).testBit x) hkc]
                exact (R.done k hk (hall k hkc (R.rlt k hk))).2 t ht y hy
              | false =>
                rw [lookT_filter_no (q := fun x => (an.getD c 0).testBit x) hkc]
                trivial
            refine stepOp_ok (asg := o.dst.toList) hΓ hys hcs ho (fun t ht => by rw [ht]; simp) h D1 fun st' ρ' a' w' hk hx hD hf => ?_
            have rin : ∀ k, k ∈ restB an c rm ↔ k ∈ rm ∧ k ≠ c ∧ (an.getD c 0).testBit k = false := fun k => by
              unfold restB
              rw [List.mem_filter]
              simp only [Bool.not_eq_true', Bool.or_eq_false_iff]
              constructor
              · rintro ⟨h1, h2, h3⟩
                exact ⟨h1, (fun e => by subst e; rw [Nat.beq_refl] at h2; cases h2), h3⟩
              · rintro ⟨h1, h2, h3⟩
                refine ⟨h1, ?_, h3⟩
                cases hb : Nat.beq k c with
                | false => rfl
                | true => exact absurd (Nat.eq_of_beq_eq_true hb) h2
            have rms' : (restB an c rm).Pairwise (· < ·) := List.Pairwise.sublist List.filter_sublist R.rms
            obtain ⟨T1, hk, _, f2, f3⟩ := freeT_ok hdep (restB an c rm) [] rms' (fun _ h => h) (by simp) hk
            have hos := List.pairwise_cons.1 R.osort
            have hblk : ∀ k, (obB oz k || blockB an (c :: os) k) = false → (obB oz k || blockB an os k) = false := fun k hk => by
              simp only [Bool.or_eq_false_iff, blockB, List.any_cons] at hk ⊢
              exact ⟨hk.1, hk.2.2⟩
            have hke : ∀ k, k ≠ c → k ∉ und.erase c → k ∉ und := fun k hk hm h => hm ((hnd.mem_erase_iff).2 ⟨hk, h⟩)
            refine runF_ok hΓ hys hcs hdst hback hdep han hch n os (restB an c rm) st' T1 (und.erase c) _ ρ' a' w' hlen ⟨hsort, hl', fun k hk => ?_, rms', fun k hk => R.rlt k ((rin k).1 hk).1, by simp [R.size], clo_set hil ho hrdy' R.clo, hos.2, fun k => ?_, fun k hk => ?_, fun j hj hjb => f2 j hj hjb, layT_any hD, fun k hk1 hkm => ?_⟩ hk fun st'' ρ'' a'' w'' hk' hx' hD' hf' => hQ st'' ρ'' a'' w'' hk' (hx.trans hx') hD' ((hf.mono fun t ht => hdst c o t ho (by simpa using ht)).trans hf')
            · have h1 := (hnd.mem_erase_iff).1 hk
              have h2 := R.rng k h1.2
              refine ⟨(rin k).2 ⟨h2.1, h1.1, ?_⟩, h2.2⟩
              cases hb : (an.getD c 0).testBit k with
              | false => rfl
              | true => exact absurd h1.2 (hall k hb h2.2)
            · constructor
              · intro hk
                have h1 := hos.1 k hk
                have h2 := (R.oin k).1 (.tail _ hk)
                refine ⟨(rin k).2 ⟨h2.1, by omega, ?_⟩, h2.2⟩
                cases hb : (an.getD c 0).testBit k with
                | false => rfl
                | true => exact absurd (R.oun k (.tail _ hk)) (hall k hb (R.rlt k h2.1))
              · rintro ⟨h1, h3⟩
                have h2 := (rin k).1 h1
                rcases List.mem_cons.1 ((R.oin k).2 ⟨h2.1, h3⟩) with h | h
                · exact absurd h h2.2.1
                · exact h
            · have := hos.1 k hk
              exact (hnd.mem_erase_iff).2 ⟨by omega, R.oun k (.tail _ hk)⟩
            · have hr := (rin k).1 hk1
              obtain ⟨b1, b2⟩ := R.done k hr.1 (hke k hr.2.1 hkm)
              refine ⟨hblk k b1, fun t ht y hy => ?_⟩
              obtain ⟨_, _, _, v0, _, _, t0, _⟩ := R.tab k hr.1 b1
              obtain ⟨_, _, _, v1, _, _, t1, _⟩ := f2 k hk1 (hblk k b1)
              have he := f3 k hk1 _ t0 ⟨_, t1⟩
              have ht' : t ∉ o.dst.toList := fun hm => hr.2.1 (depB_dst hdep (dstIs_of ho (by simpa using hm)) ht).symm
              rw [hf.2 t ht'] at hy
              have := b2 t ht y hy
              rw [(lookT_find t0).1] at this
              rw [he]
              exact DV.mono hx _ _ this
        | false =>
          have hbl : blockB an os i = false := by
            unfold blockB
            rw [List.any_eq_false]
            intro c hc hb
            exact hnu c (R.rng c (R.oun c hc)).2 (hanc c (han i c hb)) (R.oun c hc)
          obtain ⟨o', need, Tj, v, ho', hg, ht, hneed, hop, hlow⟩ := R.tab i hip (by rw [hob, hbl]; rfl)
          rw [ho] at ho'; cases ho'
          have hq : ∀ k, (fun x => !und.contains x) k = true ↔ k ∉ und := fun k => by simp
          have Ds : Den E ρ ⟨layT ops (rm) (T.filter fun e => !und.contains e.1) st.regs, st.heap, st.df⟩ a w := layT_den R.den fun k hk t ht y hy => by
            by_cases hm : k ∈ und
            · rw [lookT_filter_no (q := fun x => !und.contains x) (by simpa using hm)]; trivial
            · rw [lookT_filter (q := fun x => !und.contains x) (by simpa using hm)]
              exact (R.done k hk hm).2 t ht y hy
          have hev : ∀ x ∈ o.op.operands.toList, evR (layT ops (rm) Tj st.regs) x = evR (layT ops (rm) (T.filter fun e => !und.contains e.1) st.regs) x := fun x hx => by
            cases x with
            | tmp t =>
              simp only [evR, List.getD_eq_getElem?_getD, layT_get]
              cases hf : (rm).find? (dstIs ops t) with
              | none => rfl
              | some k =>
                obtain ⟨h1, h2⟩ := find_dst hf
                obtain ⟨e, he, hb, hon⟩ := depB_op hdep ho hx h2
                have hki := hback i o e ho he hb
                rw [hon] at hki
                have hk := hnu k (by omega) (by rw [← hon]; exact hrdy' e he hb)
                have : lookT Tj k = lookT (T.filter fun e => !und.contains e.1) k := by
                  rw [hlow k hki, lookT_filter (q := fun x => !und.contains x) (by simpa using hk)]
                simp only [this]
            | _ => rfl
          have hop' := hop
          rw [opO_local (h := st.heap) (h' := st.heap) rfl hev fun _ _ => rfl] at hop'
          unfold wpOpIn
          simp only [ho]
          rw [if_pos (gv_go Ds.regs (by unfold gv; rw [hg]))]
          refine opO_wp hΓ (st := ⟨layT ops (rm) (T.filter fun e => !und.contains e.1) st.regs, st.heap, st.df⟩) hop' hneed Ds (.inl rfl) fun y w' ρ' hx hy hD => ?_
          have hput : ∀ t, t ∉ o.dst.toList → (a.put o.dst y).tmps[t]? = a.tmps[t]? := fun t ht => (Fr.put (asg := o.dst.toList) a y fun u hu => by rw [hu]; simp).2 t ht
          have hke : ∀ k, k ∉ und.erase i → k = i ∨ k ∉ und := fun k hm => by
            by_cases e : k = i
            · exact .inl e
            · exact .inr fun h => hm ((hnd.mem_erase_iff).2 ⟨e, h⟩)
          refine runF_ok hΓ hys hcs hdst hback hdep han hch n os rm st T (und.erase i) _ ρ' (a.put o.dst y) w' hlen ⟨hsort, hl', fun k hk => R.rng k (List.mem_of_mem_erase hk), R.rms, R.rlt, by simp [R.size], clo_set hil ho hrdy' R.clo, R.osort, R.oin, fun c hc => (hnd.mem_erase_iff).2 ⟨fun e => ?_, R.oun c hc⟩, R.tab, ⟨?_, hD, by rw [put_defers]; exact R.den.defers.mono hx⟩, fun k hk1 hkm => ?_⟩ h fun st'' ρ'' a'' w'' hk' hx' hD' hf' => hQ st'' ρ'' a'' w'' hk' (hx.trans hx') hD' ((Fr.put a y fun t ht => hdst i o t ho ht).trans hf')
          · subst e
            have := ((R.oin c).1 hc).2
            rw [hob] at this; cases this
          · refine DL.mk' ?_ fun t s z hs hz => ?_
            · have h1 := R.den.regs.length
              have h2 := (Fr.put (asg := o.dst.toList) a (d := o.dst) y fun u hu => by rw [hu]; simp).1
              simp only [layT_length, Array.length_toList] at h1 ⊢
              omega
            · by_cases hd : t ∈ o.dst.toList
              · have hdi := dstIs_of ho (show o.dst = some t by simpa using hd)
                rw [layT_get] at hs
                simp only [Option.map_eq_some_iff] at hs
                obtain ⟨s0, _, rfl⟩ := hs
                cases hf : (rm).find? (dstIs ops t) with
                | some k => simp only [lookT_nil]; trivial
                | none =>
                  have := List.find?_eq_none.1 hf i hip
                  exact absurd hdi this
              · obtain ⟨y', hy', hd'⟩ := R.den.regs.get hs
                have h1 := hput t hd
                rw [Array.getElem?_toList] at hz hy'
                rw [h1, hy'] at hz
                cases hz
                exact DV.mono hx _ _ hd'
          · rcases hke k hkm with rfl | hm
            · refine ⟨by rw [hob, hbl]; rfl, fun t ht' z hz => ?_⟩
              have hdt : o.dst = some t := by
                unfold dstIs at ht'
                rw [ho] at ht'
                simp only [Option.bind_some] at ht'
                cases hd : o.dst with
                | none => rw [hd] at ht'; cases ht'
                | some u => rw [hd] at ht'; rw [Nat.eq_of_beq_eq_true ht']
              rw [hdt] at hz
              simp only [Act.put, Array.getElem?_setIfInBounds] at hz
              split at hz
              · split at hz
                · cases hz; rw [(lookT_find ht).1]; exact hy
                · cases hz
              · rename_i hne; exact absurd trivial hne
            · obtain ⟨b1, b2⟩ := R.done k hk1 hm
              refine ⟨b1, fun t ht' z hz => ?_⟩
              have : t ∉ o.dst.toList := fun hd => by
                have := depB_dst hdep (dstIs_of ho (show o.dst = some t by simpa using hd)) ht'
                subst this
                exact hm him
              rw [hput t this] at hz
              exact DV.mono hx _ _ (b2 t ht' z hz)

theorem runFS_ok (hΓ : PCok P Γ) {ro : Option Nat} {m : Nat} {cs : CallS} {ys : YieldS} (hys : YSok P E ys) (hcs : CSok P E cs) (hdst : ∀ (i : Nat) (o : Oper) (t : Tmp), ops[i]? = some o → o.dst = some t → t ∈ asg) {K : St → Prop} {Q : Exit → Act → World → Prop} {st : St} {ρ : Rho}
    {os : List Nat} (hos : os = (List.range ops.size).filter (effB Γ ops (ancMs ops.toList []))) (h : runFS P Γ cs ys ops (ancMs ops.toList []) os st K) (D : Den E ρ st a w) (hQ : ∀ st' ρ' a' w', K st' → Ext ρ ρ' → Den E ρ' st' a' w' → Fr asg a a' → Q .normal a' w') :
    wpAnyIn (FW ro) m P .any ops Q ops.size (Array.replicate ops.size false) a w := by
  have han : ∀ i j, ((ancMs ops.toList []).getD i 0).testBit j = true → AncP ops i j := ancMs_ok ops.toList [] (fun k o hk => by simpa using hk) (fun i j hij => by simp at hij)
  simp only [runFS, bareSt_eq, bareL_eq, bareNs_eq] at h
  cases hck : (backB ops && (depB ops && chainB (ancMs ops.toList []) os)) with
  | false => rw [hck] at h; exact h.elim
  | true =>
    rw [hck, cond_true] at h
    simp only [Bool.and_eq_true] at hck
    obtain ⟨hb0, hd0, hc0⟩ := hck
    rw [layF_eq hd0] at h
    have hrs : (List.range' 0 ops.size).Pairwise (· < ·) := by
      have := List.pairwise_lt_range' (s := 0) (n := ops.size) (step := 1)
      simpa using this
    have hmem : ∀ k, k ∈ List.range' 0 ops.size ↔ k < ops.size := fun k => by rw [List.mem_range'_1]; omega
    have hsub : os.Sublist (List.range ops.size) := by rw [hos]; exact List.filter_sublist
    obtain ⟨T, h, _, f2, _⟩ := freeT_ok hd0 (List.range' 0 ops.size) [] hrs (fun _ h => h) (by simp) h
    have hrep : ∀ k (d : Bool), k < ops.size → (Array.replicate ops.size false).getD k d = false := fun k d hk => by simp [Array.getD, hk]
    have obm : ∀ k, obB os k = true ↔ k ∈ os := fun k => by
      unfold obB
      rw [List.any_eq_true]
      exact ⟨fun ⟨x, hx, hb⟩ => (Nat.eq_of_beq_eq_true hb) ▸ hx, fun hk => ⟨k, hk, Nat.beq_refl k⟩⟩
    have hch : ∀ c ∈ os, ∀ i ∈ os, c < i → ((ancMs ops.toList []).getD i 0).testBit c = true := fun c hc i hi hlt => by
      have h1 := List.all_eq_true.1 (List.all_eq_true.1 hc0 c hc) i hi
      rw [Bool.or_eq_true] at h1
      rcases h1 with h1 | h1
      · exact absurd (Nat.le_of_ble_eq_true h1) (by omega)
      · exact h1
    refine runF_ok (asg := asg) hΓ hys hcs hdst (back_ok hb0) hd0 han hch ops.size os (List.range' 0 ops.size) st T (List.range ops.size) _ ρ a w (by simp) ⟨List.pairwise_lt_range, fun i hi => ?_, fun i hi => ⟨(hmem i).2 (List.mem_range.1 hi), List.mem_range.1 hi⟩, hrs, fun i hi => (hmem i).1 hi, by simp, fun q o e hq ho he hb => ?_, List.Pairwise.sublist hsub List.pairwise_lt_range, fun c => ?_, fun c hc => hsub.mem hc, fun j hj hjb => f2 j hj hjb, layT_any D, fun k hk hm => absurd (List.mem_range.2 ((hmem k).1 hk)) hm⟩ h hQ
    · rw [hrep i true hi]; simp [hi]
    · have hqs : q < ops.size := (Array.getElem?_eq_some_iff.1 ho).1
      rw [hrep q false hqs] at hq; cases hq
    · rw [obm, hmem]
      exact ⟨fun hc => ⟨List.mem_range.1 (hsub.mem hc), hc⟩, fun hc => hc.2⟩

end
end Go.Eng
