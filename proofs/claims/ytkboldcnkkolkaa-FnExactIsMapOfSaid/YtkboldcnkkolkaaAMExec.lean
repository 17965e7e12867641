/- A part of a proof about the given program: an abstract machine, what the given functions come to, and plain laws. -/
import Derived.Test.YtkboldcnkkolkaaAMDef
namespace Go.AM
section exec
variable {α : Type} (P : Program)

/-- What a call comes to: its result and the heap behind it, handed on. -/
abbrev Sum (α : Type) : Type := Nat → List AV → Heap → (AV → Heap → Option α) → Option α

/-- One operation: its value, and the heap behind it, handed on. -/
def opK (gv : Bool) (ro : Nat) (call : FuncId → Sum α) (op : Op) (t : List AV) (h : Heap) (K : AV → Heap → Option α) : Option α :=
  let ρ := evalO t
  match op with
  | .move x | .assign x => K (ρ x) h
  | .pick c a b => match ρ c with
    | .bool c => br c (K (ρ a) h) (K (ρ b) h)
    | _ => none
  | .alloc e => match zeroOf P e with
    | some ss => br (!ss.isEmpty && !isPool ss) (K (.ptr (newPlace h ss)) (h ++ [ss])) none
    | none => none
  | .box _ x => match ρ x with
    | .agg ss => br (Nat.blt 0 (lenOf ss) && (onesB ss && !isPool ss)) (K (.ptr (newPlace h ss)) (h ++ [ss])) none
    | v => br (isOne v) (K (.ptr (newPlace h [.vals [v]])) (h ++ [[.vals [v]]])) none
  | .build t' ps => goBuild P t' (ps.toList.map fun (i, x) => (i, ρ x)) fun v => K v h
  | .buildSlice t' n ps => goBuildSlice P t' n (ps.toList.map fun (i, x) => (i, ρ x)) h K
  | .load t' x => match ρ x with
    | .ptr p => loadAt P t' p h fun v => K v h
    | .rptr p c => loadRec P t' p c h fun v => K v h
    | _ => none
  | .store t' x y => match ρ x with
    | .ptr p => br (Nat.beq (P.cellsOf t') (cellsIn (ρ y)) && Nat.blt 0 (P.cellsOf t')) (giveTo gv ro p (ρ y) h fun v h => storeAt ro p v h fun h' => K .undef h') none
    | .rptr p c => br (Nat.beq (P.cellsOf t') 1) (storeRec ro p c (ρ y) h fun h' => K .undef h') none
    | _ => none
  | .nilCheck x => match ρ x with
    | .ptr p => K (.ptr p) h
    | .func f caps => K (.func f caps) h
    | _ => none
  | .binOp op xt x y _ => match ρ x with
    | .bool a => match ρ y with
      | .bool b => match P.underlying xt with
        | some .bool => match op with
          | .eql => K (.bool (a == b)) h
          | .neq => K (.bool (a != b)) h
          | _ => none
        | _ => none
      | _ => none
    | .agg ss => match ρ y with
      | .agg ss' => match op with
        | .eql => goEqAgg P xt ss ss' fun b => K (.bool b) h
        | .neq => goEqAgg P xt ss ss' fun b => K (.bool (!b)) h
        | _ => none
      | _ => none
    | v => goBin op v (ρ y) fun v => K v h
  | .unOp op _ x => goUn op (ρ x) fun v => K v h
  | .convert s d x => goConvert P s d (ρ x) fun v => K v h
  | .makeFunc fn first caps => match fn with
    | .func f => br (first.toList.isEmpty) (K (.func f (caps.toList.map ρ)) h) none
    | _ => none
  | .makeSlice t' l c => goMakeSlice P t' (ρ l) (ρ c) h K
  | .slice t' x lo hi mx => br (!mx.isSome || hi.isSome) (goSlice P t' (ρ x) (lo.map ρ) (hi.map ρ) (mx.map ρ) h fun v => K v h) none
  | .fieldAddr t' x f => goFieldAddr P t' (ρ x) f h fun v => K v h
  | .indexAddr t' x i => goIndexAddr P t' (ρ x) (ρ i) h fun v => K v h
  | .index t' x i => goIndex P t' (ρ x) (ρ i) fun v => K v h
  | .field t' x f => goField P t' (ρ x) f fun v => K v h
  | .extract x i => match ρ x with
    | .tuple vs => match vs[i]? with
      | some v => K v h
      | none => none
    | _ => none
  | .call c => match c.callee with
    | .value f => match ρ f with
      | .func f caps => call f ro (c.args.toList.map ρ ++ caps) h K
      | _ => none
    | .builtin b => match b, c.args.toList.map ρ, c.argTypes.toList with
      | .len, [x], [t'] => goLen P t' x fun v => K v h
      | .append, [s, x], [t', t''] => br (Nat.beq t' t'') (goAppend P ro t' s x h K) none
      | .min, [.int k x, .int k' y], _ => br (keq k k') (K (.int k (cond (decide (y < x)) y x)) h) none
      | .max, [.int k x, .int k' y], _ => br (keq k k') (K (.int k (cond (decide (x < y)) y x)) h) none
      | _, _, _ => none
    | _ => none
  | _ => none

/-- A list with its spine laid out (so that the kernel holds no half-done work). -/
def forceL {β γ : Type} : List β → (List β → γ) → γ
  | [], k => k []
  | x :: xs, k => forceL xs fun ys => k (x :: ys)
mutual
/-- A value with all its parts laid out. -/
def forceV {γ : Type} : AV → (AV → γ) → γ
  | .vals vs, k => forceVs vs fun vs => k (.vals vs)
  | .agg vs, k => forceVs vs fun vs => k (.agg vs)
  | .tuple vs, k => forceVs vs fun vs => k (.tuple vs)
  | .func f vs, k => forceVs vs fun vs => k (.func f vs)
  | .undef, k => k .undef
  | .bool b, k => k (.bool b)
  | .int i n, k => k (.int i n)
  | .str s, k => k (.str s)
  | .ptr p, k => k (.ptr p)
  | .slice p l c es ex, k => k (.slice p l c es ex)
  | .nils, k => k .nils
  | .ints i n f, k => k (.ints i n f)
  | .vec i xs, k => k (.vec i xs)
  | .bools n f, k => k (.bools n f)
  | .recs ks xs, k => k (.recs ks xs)
  | .rptr p c, k => k (.rptr p c)
  | .pool i rows, k => k (.pool i rows)
  | .hdr b ids, k => k (.hdr b ids)
  | .strs xs, k => k (.strs xs)
def forceVs {γ : Type} : List AV → (List AV → γ) → γ
  | [], k => k []
  | v :: vs, k => forceV v fun v => forceVs vs fun vs => k (v :: vs)
end
def forceH {γ : Type} : Heap → (Heap → γ) → γ
  | [], k => k []
  | b :: bs, k => forceVs b fun c => forceH bs fun cs => k (c :: cs)

def putO (t : List AV) : Option Nat → AV → List AV
  | some d, v => t.set d v
  | none, _ => t

def elemB (n : Nat) : List Nat → Bool
  | [] => false
  | m :: ms => cond (Nat.beq n m) true (elemB n ms)
/-- An operation that may write into memory that is there. -/
def isW : Op → Bool
  | .store .. => true
  | .call c => match c.callee with
    | .builtin .append => true
    | _ => false
  | _ => false
/-- An operation on slots alone. -/
def isP : Op → Bool
  | .move _ | .assign _ | .pick .. | .binOp .. | .unOp .. | .convert .. | .extract .. | .index .. | .field .. => true
  | _ => false
/-- A store. -/
def isS : Op → Bool
  | .store .. => true
  | _ => false
/-- A pointer that is told without a look at cells. -/
def isQ : Op → Bool
  | .fieldAddr .. | .indexAddr .. | .nilCheck _ => true
  | _ => false
def isL : Op → Bool
  | .load .. => true
  | _ => false
/-- A new variable that is made without a look at cells. -/
def isA : Op → Bool
  | .alloc _ => true
  | .buildSlice _ _ ps => match ps.toList with
    | [] => true
    | _ => false
  | _ => false
def tmpOf : Operand → List Nat
  | .tmp t => [t]
  | _ => []
/-- The slots that an operation reads. -/
def readsOf (all : List Oper) (o : Oper) : List Nat :=
  o.op.operands.toList.flatMap tmpOf ++ (match o.guard with
    | some (j, _) => ((all[j]?).bind (·.dst)).toList
    | none => [])
def ancFrom (acc : List (List Nat)) : List Oper → List (List Nat)
  | [] => acc
  | o :: rest => ancFrom (acc ++ [o.after.toList.flatMap fun e => cond (Region.binds .any e) (e.on :: acc.getD e.on []) []]) rest
def meetB (xs ys : List Nat) : Bool := xs.any fun x => elemB x ys
/-- An operation that may come behind a store, or in front of one, when the order is drawn: 'i' stands first in the text. -/
def memB (oi oj : Op) : Bool :=
  (isW oj && !(isP oi || (isS oj && (isQ oi || isL oi || isA oi)))) || (isW oi && !(isP oj || (isS oi && isQ oj)))
/-- Have the two operations to stand in order? -/
def pairB (all : List Oper) (oi oj : Oper) : Bool :=
  meetB oi.dst.toList (readsOf all oj) || meetB oj.dst.toList (readsOf all oi) || meetB oi.dst.toList oj.dst.toList || memB oi.op oj.op
def pairsB (all : List Oper) (anc : List (List Nat)) : Nat → List Oper → Bool
  | _, [] => true
  | j, oj :: rest => allB (fun i => !(pairB all (all.getD i default) oj) || elemB i (anc.getD j [])) (List.range j) && pairsB all anc (j + 1) rest
/-- The edges that bind lead back. -/
def backB : Nat → List Oper → Bool
  | _, [] => true
  | j, o :: rest => allB (fun e => !(Region.binds .any e) || Nat.blt e.on j) o.after.toList && backB (j + 1) rest
/-- A region that draws its order may be gone through in the order of its text. -/
def drawOk (ops : List Oper) : Bool := backB 0 ops && pairsB ops (ancFrom [] ops) 0 ops
def blkOf : AV → Option Key
  | .ptr p => some p.b
  | .rptr p _ => some p.b
  | .slice p _ _ _ _ => some p.b
  | _ => none
/-- Does no operation write the slot? -/
def keepsB (s : Nat) (rest : List Oper) : Bool := allB (fun o => match o.dst with
  | some d => !(Nat.beq d s)
  | none => true) rest
/-- A load and a later store are of two blocks. -/
def apartO (all : List Oper) (t : List AV) (i k : Nat) : Operand → Operand → Bool
  | .tmp s, .tmp s' => keepsB s (all.drop i) && (keepsB s' (all.drop k) && (match blkOf (t.getD s .undef), blkOf (t.getD s' .undef) with
    | some b, some b' => !(Nat.beq b.b b'.b)
    | _, _ => false))
  | _, _ => false
/-- The loads that may come behind a later store read other blocks. -/
def lateB (all : List Oper) (t : List AV) (anc : List (List Nat)) : Nat → List Oper → Bool
  | _, [] => true
  | k, o :: rest => (match o.op with
    | .store _ y _ => allB (fun i => match (all.getD i default).op with
      | .load _ x => elemB i (anc.getD k []) || apartO all t i k x y
      | _ => true) (List.range k)
    | _ => true) && lateB all t anc (k + 1) rest
/-- The operations of a region, in the order in which they stand. 'all': the whole region, for the guards. -/
def opsK (draw : Bool) (ro : Nat) (call : FuncId → Sum α) (all : List Oper) : List Oper → St → (St → Option α) → Option α
  | [], st, K => K st
  | o :: rest, st, K =>
    let run := fun (t : List AV) => opK P (!draw) (cond (draw && !isW o.op) st.h.length ro) call o.op t st.h fun v h => forceV v fun v => forceL (putO t o.dst v) fun t => forceH h fun h => opsK draw ro call all rest ⟨t, h⟩ K
    let skip := fun (t : List AV) => forceL (putO t o.dst (.tuple [])) fun t => opsK draw ro call all rest ⟨t, st.h⟩ K
    match o.guard with
    | none => run st.t
    | some (j, want) => match (all[j]?).bind (·.dst) with
      | some d => match st.t.getD d .undef with
        | .bool b => br b ((cond want run skip) (st.t.set d (.bool true))) ((cond want skip run) (st.t.set d (.bool false)))
        | .tuple vs => match vs with
          | [] => skip st.t
          | _ => none
        | _ => none
      | none => none

/-- What is kept of a state at a loop's head or behind a loop: some slots; of the heap, so many blocks. -/
structure Keep where
  slots : List Nat
  grow : List Nat := []

def refsBelow (n : Nat) : AV → Bool
  | .ptr p => Nat.blt p.b.b n
  | .rptr p _ => Nat.blt p.b.b n
  | .slice p _ _ _ _ => Nat.blt p.b.b n
  | .hdr b _ => Nat.blt b n
  | .bool _ | .int _ _ | .str _ | .nils | .undef | .ints .. | .vec .. | .bools .. | .recs .. | .pool .. | .strs .. => true
  | .func _ caps => caps.all fun
    | .ptr p => Nat.blt p.b.b n
    | .int _ _ | .bool _ => true
    | _ => false
  | .vals vs => vs.all fun
    | .ptr p => Nat.blt p.b.b n
    | .slice p _ _ _ _ => Nat.blt p.b.b n
    | .bool _ | .int _ _ | .str _ | .nils => true
    | _ => false
  | .agg ss => ss.all fun
    | .ints .. | .bools .. => true
    | .vals vs => vs.all fun
      | .bool _ | .int _ _ | .str _ | .nils => true
      | _ => false
    | _ => false
  | .tuple vs => vs.all fun
    | .bool _ | .int _ _ | .str _ | .nils => true
    | .agg ss => ss.all fun
      | .ints .. | .bools .. => true
      | .vals vs => vs.all fun
        | .bool _ | .int _ _ | .str _ | .nils => true
        | _ => false
      | _ => false
    | .slice p _ _ _ _ => Nat.blt p.b.b n
    | _ => false


def unex : AV → AV
  | .slice p l c es true => cond (Nat.ble (p.o + mulS c es) p.n) (.slice p l c es false) .undef
  | v => v

def keepT (ks gs : List Nat) : Nat → List AV → List AV
  | _, [] => []
  | i, v :: rest => cond (elemB i ks) (cond (elemB i gs) (unex v) v) .undef :: keepT ks gs (i + 1) rest

/-- Slots that are not kept are forgotten; blocks from 'n' on, too, if nothing that is kept leads to them. -/
def trimSt (ks : List Nat) (gs : List Nat) (n : Nat) (st : St) : Option St :=
  let t := keepT ks gs 0 st.t
  let h := st.h.take n
  cond (Nat.beq h.length st.h.length || (allB (refsBelow n) t && allB (fun b => allB (refsBelow n) b) h)) (some (forceL t fun t => forceH h fun h => ⟨t, h⟩)) none

structure LoopAnn where
  head : List Nat := []
  grow : List Nat := []
  out : List Nat := []
  ret : List Nat := []

/-- A loop from its head on: so many rounds at most. -/
def loopN (norm : St → Option St) (body : St → (AExit → St → Option α) → Option α) : Nat → St → (AExit → St → Option α) → Option α
  | 0, _, _ => none
  | n + 1, st, K => body st fun e st' => match e with
    | .normal => match norm st' with
      | some s => loopN norm body n s K
      | none => none
    | e => K e st'

/-- The first region's number in a piece of code. -/
def firstRegion : Code → Nat
  | .region i _ _ => i
  | .seq a _ => firstRegion a
  | .block _ a => firstRegion a
  | .loop a => firstRegion a
  | _ => 0

def leaveLoop (ann : LoopAnn) (n : Nat) (K : AExit → St → Option α) (e : AExit) (st : St) : Option α :=
  match e with
  | .ret => match trimSt ann.ret [] n st with
    | some s => K .ret s
    | none => none
  | e => match trimSt ann.out [] n st with
    | some s => K e s
    | none => none

/-- What a test has told. -/
def knowO (t : List AV) (c : Operand) (b : Bool) : List AV :=
  match c with
  | .tmp i => t.set i (.bool b)
  | _ => t

/-- What a loop comes to, from the state in front of it. -/
abbrev LSum (α : Type) : Type := Nat → St → (AExit → St → Option α) → Option α

def codeK (ro : Nat) (call : FuncId → Sum α) (ls : Nat → Option (LSum α)) (ann : Nat → LoopAnn) (lf : Nat) : Code → St → (AExit → St → Option α) → Option α
  | .skip, st, K => K .normal st
  | .label _, st, K => K .normal st
  | .region _ ops draw, st, K => br (!draw || drawOk ops.toList) (opsK P draw ro call ops.toList ops.toList st fun st' => br (!draw || lateB ops.toList st'.t (ancFrom [] ops.toList) 0 ops.toList) (K .normal st') none) none
  | .seq a b, st, K => codeK ro call ls ann lf a st fun e st' => match e with
    | .normal => codeK ro call ls ann lf b st' K
    | e => K e st'
  | .cond c a b, st, K => match evalO st.t c with
    | .bool t => br t (forceL (knowO st.t c true) fun t => codeK ro call ls ann lf a ⟨t, st.h⟩ K) (forceL (knowO st.t c false) fun t => codeK ro call ls ann lf b ⟨t, st.h⟩ K)
    | _ => none
  | .block id c, st, K => codeK ro call ls ann lf c st fun e st' => match e with
    | .exit i => br (Nat.beq i id) (K .normal st') (K (.exit i) st')
    | e => K e st'
  | .exit id, st, K => K (.exit id) st
  | .ret, st, K => K .ret st
  | .loop c, st, K => match ls (firstRegion c) with
    | some s => s ro st K
    | none =>
      let a := ann (firstRegion c)
      let n := st.h.length
      match trimSt a.head a.grow n st with
      | some s => loopN (trimSt a.head a.grow n) (codeK ro call ls ann lf c) lf s (leaveLoop a n K)
      | none => none
  | _, _, _ => none

/-- The results of a function, out of its slots. -/
def resultsK (rs : List ResultVar) (t : List AV) (h : Heap) (K : List AV → Option α) : Option α :=
  match rs with
  | [] => K []
  | .tmp i :: rest => resultsK rest t h fun vs => K (t.getD i .undef :: vs)
  | .cell i ty :: rest => match t.getD i .undef with
    | .ptr p => loadAt P ty p h fun v => resultsK rest t h fun vs => K (v :: vs)
    | _ => none

def oneOf : List AV → AV
  | [v] => v
  | vs => .tuple vs

/-- Behind a call: the blocks of the call are forgotten, if nothing leads to them; of a slice that leads to one of them this one alone is kept. -/
def leaveCall (n : Nat) (v : AV) (h : Heap) (K : AV → Heap → Option α) : Option α :=
  br (Nat.beq h.length n) (K v h)
    (br (refsBelow n v && allB (fun b => allB (refsBelow n) b) (h.take n)) (K v (h.take n)) (K v h))

end exec
end Go.AM
namespace Go.AM
/-- The body of the loop whose first region has this number. -/
def findLoop (i : Nat) : Code → Option Code
  | .seq a b => match findLoop i a with
    | some c => some c
    | none => findLoop i b
  | .cond _ a b => match findLoop i a with
    | some c => some c
    | none => findLoop i b
  | .block _ a => findLoop i a
  | .scope a => findLoop i a
  | .loop c => cond (Nat.beq (firstRegion c) i) (some c) (findLoop i c)
  | _ => none
def loopOf (fn : Func) (i : Nat) : Code := match fn.body with
  | some c => (findLoop i c).getD .skip
  | none => .skip
/-- The bodies of all loops. -/
def loopsIn : Code → List Code
  | .seq a b => loopsIn a ++ loopsIn b
  | .cond _ a b => loopsIn a ++ loopsIn b
  | .block _ a => loopsIn a
  | .scope a => loopsIn a
  | .loop c => c :: loopsIn c
  | _ => []
def loopsOf (fn : Func) : List Code := match fn.body with
  | some c => loopsIn c
  | none => []
end Go.AM
