/- A part of a proof about the given program: an abstract machine, what the given functions come to, and plain laws. -/
import Derived.Test.YtkboldcnkkolkaaAMExec
namespace Go.AM
section ren
def renK (ρ : Nat → Nat) (κ : Key) : Key := ⟨ρ κ.b, κ.r⟩
mutual
/-- A value whose places lie in other blocks. -/
def ren (ρ : Nat → Nat) : AV → AV
  | .ptr p => .ptr { p with b := renK ρ p.b }
  | .slice p l c es ex => .slice { p with b := renK ρ p.b } l c es ex
  | .func f caps => .func f (renL ρ caps)
  | .vals vs => .vals (renL ρ vs)
  | .agg ss => .agg (renL ρ ss)
  | .tuple vs => .tuple (renL ρ vs)
  | .undef => .undef
  | .bool b => .bool b
  | .int k n => .int k n
  | .str s => .str s
  | .nils => .nils
  | .ints k n f => .ints k n f
  | .vec k xs => .vec k xs
  | .bools n f => .bools n f
  | .recs ks xs => .recs ks xs
  | .rptr p c => .rptr { p with b := renK ρ p.b } c
  | .pool k rows => .pool k rows
  | .hdr b ids => .hdr (ρ b) ids
  | .strs xs => .strs xs
def renL (ρ : Nat → Nat) : List AV → List AV
  | [] => []
  | v :: vs => ren ρ v :: renL ρ vs
end
mutual
/-- The blocks that a value leads to. -/
def refs : AV → List Nat
  | .ptr p => [p.b.b]
  | .rptr p _ => [p.b.b]
  | .slice p _ _ _ _ => [p.b.b]
  | .hdr b _ => [b]
  | .func _ caps => refsL caps
  | .vals vs => refsL vs
  | .agg ss => refsL ss
  | .tuple vs => refsL vs
  | .undef | .bool _ | .int _ _ | .str _ | .nils | .ints .. | .vec .. | .bools .. | .recs .. | .pool .. | .strs .. => []
def refsL : List AV → List Nat
  | [] => []
  | v :: vs => refs v ++ refsL vs
end
def allIn (bs : List Nat) : List Nat → Bool
  | [] => true
  | b :: l => cond (elemB b bs) (allIn bs l) false
def addNew : List Nat → List Nat → List Nat
  | s, [] => s
  | s, b :: l => cond (elemB b s) (addNew s l) (addNew (s ++ [b]) l)
/-- The blocks that blocks lead to. -/
def closeRefs (h : Heap) : Nat → Nat → List Nat → List Nat
  | 0, _, s => s
  | f + 1, k, s => match s[k]? with
    | none => s
    | some b => closeRefs h f (k + 1) (addNew s (refsL (h.getD b [])))
def belows (n : Nat) : List Nat → List Nat
  | [] => []
  | b :: l => cond (Nat.blt b n) (b :: belows n l) (belows n l)
def aboves (n : Nat) : List Nat → List Nat
  | [] => []
  | b :: l => cond (Nat.blt b n) (aboves n l) (b :: aboves n l)
def idxOf (b : Nat) : List Nat → Nat
  | [] => 0
  | c :: l => cond (Nat.beq b c) 0 (idxOf b l + 1)
def distinctB : List Nat → Bool
  | [] => true
  | b :: l => cond (elemB b l) false (distinctB l)
def rhoOf (bs : List Nat) (n i : Nat) : Nat := match bs[i]? with
  | some b => b
  | none => n + (i - bs.length)
def setAll : List Nat → List Blk → Heap → Heap
  | b :: bs, x :: xs, h => setAll bs xs (h.set b x)
  | _, _, h => h
def renH (ρ : Nat → Nat) : Heap → Heap
  | [] => []
  | b :: h => renL ρ b :: renH ρ h
/-- The caller's heap behind a call that was gone through in a heap of its own. -/
def liftHeap (bs : List Nat) (h hs : Heap) : Heap :=
  setAll bs (renH (rhoOf bs h.length) (hs.take bs.length)) h ++ renH (rhoOf bs h.length) (hs.drop bs.length)
def getAll (h : Heap) : List Nat → Heap
  | [] => []
  | b :: bs => h.getD b [] :: getAll h bs
/-- A call gone through in a heap of its own: the blocks that its arguments lead to, those that are not written first. -/
def canonCall {α : Type} (quiet : Bool) (S : Sum α) : Sum α := fun ro args h K =>
  let bs0 := closeRefs h (h.length + 1) 0 (addNew [] (refsL args))
  let low := belows ro bs0
  let bs := low ++ aboves ro bs0
  let hs := getAll h bs
  br (distinctB bs && (allB (fun b => Nat.blt b h.length) bs && (allIn bs (refsL args) && allB (fun b => allIn bs (refsL b)) hs)))
    (forceVs (renL (fun b => idxOf b bs) args) fun args' => forceH (renH (fun b => idxOf b bs) hs) fun hs' =>
      S (cond quiet bs.length low.length) args' hs' fun v h' => K (ren (rhoOf bs h.length) v) (liftHeap bs h h')) none
/-- Are the first numbers of a list 0, 1, ..? -/
def prefixB (n : Nat) (l : List Nat) : Bool := Nat.ble n l.length && allB (fun i => Nat.beq (l.getD i 0) i) (List.range n)
/-- Behind a call: of the blocks of the call those alone are kept to which its result leads. -/
def packK {α : Type} (ro n : Nat) (v : AV) (h : Heap) (K : AV → Heap → Option α) : Option α :=
  let keep := closeRefs h (h.length + 1) 0 (addNew (List.range n) (refs v))
  br (Nat.beq keep.length h.length) (K v h)
    (br (prefixB n keep && (distinctB keep && (allB (fun b => Nat.blt b h.length) keep && (allIn keep (refs v) && (allB (fun b => allIn keep (refsL b)) (getAll h keep) && allB (fun b => allB (fun c => Nat.blt c n) (refsL b)) (h.take ro))))))
      (K (ren (fun b => idxOf b keep) v) (renH (fun b => idxOf b keep) (getAll h keep))) (K v h))
end ren
end Go.AM
