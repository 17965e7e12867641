/- A part of a proof about the given program: an abstract machine, what the given functions come to, and plain laws. -/
import Derived.Test.YtkboldcnkkolkaaAMExec
import Derived.Tactics2
import Derived.WalkKit
import Derived.Below
namespace Go.AM

/-- Where an abstract block lies: nowhere yet; it is a nil slice; in a block, from some cell on. -/
inductive Loc where
  | absent
  | none
  | at (blk base room : Nat)
abbrev LMap := Key → Loc

abbrev segVals : AV → List AV := segValsOf
def flat (ss : List AV) : List AV := ss.flatMap segVals

theorem segVals_length (v : AV) : (segVals v).length = segLen v := by
  cases v <;> simp [segVals, segValsOf, segLen, recVals]
theorem flat_length (ss : List AV) : (flat ss).length = lenOf ss := by
  induction ss with
  | nil => rfl
  | cons s ss ih => simp [flat, lenOf, segVals_length] at *; try omega
theorem flat_append (a b : List AV) : flat (a ++ b) = flat a ++ flat b := by simp [flat]
theorem flat_cons (a : AV) (b : List AV) : flat (a :: b) = segVals a ++ flat b := by simp [flat]

def segLenAt (h : Heap) (b : Key) (s : Nat) : Option Nat := ((blk? h b).bind (·[s]?)).map segLen
def segOff (h : Heap) (b : Key) (s : Nat) : Nat := lenOf ((blkD h b).take s)
/-- Is there such a block? -/
abbrev has (h : Heap) (b : Key) : Prop := ∃ ss, blk? h b = some ss

/-- Abstract and concrete values. -/
inductive VR (h : Heap) (μ : LMap) : AV → Value → Prop where
  | undef (c : Value) : VR h μ .undef c
  | bool (b : Bool) : VR h μ (.bool b) (.bool b)
  | int (k : IntKind) (n : Int) : fits k n = true → VR h μ (.int k n) (.int k n)
  | str (s : List UInt8) : VR h μ (.str s) (.string ⟨s.toArray⟩)
  | ptr (p : Place) (a : Addr) (L : Nat) : segLenAt h p.b p.s = some L → p.n ≤ L →
      (p.n = L → ∃ k base room, μ p.b = .at k base room ∧ a = ⟨k, base + segOff h p.b p.s + p.o, none⟩) → VR h μ (.ptr p) (.pointer (some a))
  | slice (p : Place) (len cap es : Nat) (ex : Bool) (a : Option Addr) (cap' : Nat) (L : Nat) : segLenAt h p.b p.s = some L → p.n ≤ L → len ≤ cap →
      (p.n = L → cap ≤ cap' ∧ (ex = true → cap' = cap) ∧ ((∃ k base room, μ p.b = .at k base room ∧ a = some ⟨k, base + segOff h p.b p.s + p.o, none⟩ ∧ (ex = false → segOff h p.b p.s + p.o + cap' * es ≤ room)) ∨ (μ p.b = .none ∧ a = none ∧ cap' = 0))) →
      VR h μ (.slice p len cap es ex) (.slice a len cap')
  | rptr (p : Place) (c : Nat) (a : Addr) (L : Nat) : segLenAt h p.b p.s = some L → p.n ≤ L →
      (p.n = L → ∃ k base room, μ p.b = .at k base room ∧ a = ⟨k, base + segOff h p.b p.s + p.o + c, none⟩) → VR h μ (.rptr p c) (.pointer (some a))
  | nils : VR h μ .nils (.slice none 0 0)
  | func (f : FuncId) (caps : List AV) (cs : Array Value) : caps.length = cs.size → (∀ i, VR h μ (caps.getD i .undef) (cs.getD i Go.undef)) →
      VR h μ (.func f caps) (.func (.func f) #[] cs)
  | agg (ss : List AV) (cs : Array Value) : (flat ss).length = cs.size → (∀ i, VR h μ ((flat ss).getD i .undef) (cs.getD i Go.undef)) → VR h μ (.agg ss) (.agg cs)
  | tuple (vs : List AV) (cs : Array Value) : vs.length = cs.size → (∀ i, VR h μ (vs.getD i .undef) (cs.getD i Go.undef)) → VR h μ (.tuple vs) (.tuple cs)

/-- What is known of one heap and one map is known of others in which no segment is shorter, and those of the same length lie where they lay. -/
structure Le (h : Heap) (μ : LMap) (h' : Heap) (μ' : LMap) : Prop where
  lens : ∀ b s L, segLenAt h b s = some L → ∃ L', segLenAt h' b s = some L' ∧ L ≤ L' ∧ (L = L' → segOff h' b s = segOff h b s ∧ (μ b ≠ .absent → μ' b = μ b))

theorem Le.refl (h : Heap) (μ : LMap) : Le h μ h μ := ⟨fun _ _ L hl => ⟨L, hl, Nat.le_refl _, fun _ => ⟨rfl, fun _ => rfl⟩⟩⟩
theorem Le.trans {h μ h1 μ1 h2 μ2} (a : Le h μ h1 μ1) (b : Le h1 μ1 h2 μ2) : Le h μ h2 μ2 := ⟨fun x s L hl => by
  obtain ⟨L1, h1l, le1, e1⟩ := a.lens x s L hl
  obtain ⟨L2, h2l, le2, e2⟩ := b.lens x s L1 h1l
  refine ⟨L2, h2l, Nat.le_trans le1 le2, fun e => ?_⟩
  have q1 : L = L1 := by omega
  have q2 : L1 = L2 := by omega
  refine ⟨(e2 q2).1.trans (e1 q1).1, fun hn => ?_⟩
  have r1 := (e1 q1).2 hn
  have r2 := (e2 q2).2 (by rw [r1]; exact hn)
  exact r2.trans r1⟩

theorem VR.mono {h h' : Heap} {μ μ' : LMap} (le : Le h μ h' μ') {v : AV} {c : Value} (hv : VR h μ v c) : VR h' μ' v c := by
  induction hv with
  | undef c => exact .undef c
  | bool b => exact .bool b
  | int k n h => exact .int k n h
  | str s => exact .str s
  | ptr p a L hl hn hf =>
    obtain ⟨L', hl', hle, he⟩ := le.lens _ _ _ hl
    refine .ptr p a L' hl' (Nat.le_trans hn hle) fun e => ?_
    have e1 : p.n = L := by omega
    have e2 : L = L' := by omega
    obtain ⟨k, base, room, hm, ha⟩ := hf e1
    refine ⟨k, base, room, ?_, ?_⟩
    · rw [(he e2).2 (by rw [hm]; simp), hm]
    · rw [(he e2).1, ha]
  | rptr p c a L hl hn hf =>
    obtain ⟨L', hl', hle, he⟩ := le.lens _ _ _ hl
    refine .rptr p c a L' hl' (Nat.le_trans hn hle) fun e => ?_
    have e1 : p.n = L := by omega
    have e2 : L = L' := by omega
    obtain ⟨k, base, room, hm, ha⟩ := hf e1
    refine ⟨k, base, room, ?_, ?_⟩
    · rw [(he e2).2 (by rw [hm]; simp), hm]
    · rw [(he e2).1, ha]
  | slice p len cap es ex a cap' L hl hn hlc hf =>
    obtain ⟨L', hl', hle, he⟩ := le.lens _ _ _ hl
    refine .slice p len cap es ex a cap' L' hl' (Nat.le_trans hn hle) hlc fun e => ?_
    have e1 : p.n = L := by omega
    have e2 : L = L' := by omega
    obtain ⟨c1, c2, c3⟩ := hf e1
    refine ⟨c1, c2, ?_⟩
    rcases c3 with ⟨k, base, room, hm, ha, hrm⟩ | ⟨hm, ha, hc⟩
    · exact .inl ⟨k, base, room, by rw [(he e2).2 (by rw [hm]; simp), hm], by rw [(he e2).1, ha], by rw [(he e2).1]; exact hrm⟩
    · exact .inr ⟨by rw [(he e2).2 (by rw [hm]; simp), hm], ha, hc⟩
  | nils => exact .nils
  | func f caps cs h1 _ ih => exact .func f caps cs h1 ih
  | agg ss cs h1 _ ih => exact .agg ss cs h1 ih
  | tuple vs cs h1 _ ih => exact .tuple vs cs h1 ih

/-- The places in a value lie in the abstract heap. -/
inductive Scoped (h : Heap) : AV → Prop where
  | undef : Scoped h .undef
  | bool (b : Bool) : Scoped h (.bool b)
  | int (k : IntKind) (n : Int) : Scoped h (.int k n)
  | str (s : List UInt8) : Scoped h (.str s)
  | nils : Scoped h .nils
  | ptr (p : Place) (L : Nat) : segLenAt h p.b p.s = some L → p.n ≤ L → Scoped h (.ptr p)
  | rptr (p : Place) (c : Nat) (L : Nat) : segLenAt h p.b p.s = some L → p.n ≤ L → Scoped h (.rptr p c)
  | slice (p : Place) (len cap es : Nat) (ex : Bool) (L : Nat) : segLenAt h p.b p.s = some L → p.n ≤ L → Scoped h (.slice p len cap es ex)
  | func (f : FuncId) (caps : List AV) : (∀ i, Scoped h (caps.getD i .undef)) → Scoped h (.func f caps)
  | agg (ss : List AV) : (∀ i, Scoped h ((flat ss).getD i .undef)) → Scoped h (.agg ss)
  | tuple (vs : List AV) : (∀ i, Scoped h (vs.getD i .undef)) → Scoped h (.tuple vs)

theorem VR.inScope {h : Heap} {μ : LMap} {v : AV} {c : Value} (hv : VR h μ v c) : Scoped h v := by
  induction hv with
  | undef => exact .undef
  | bool => exact .bool _
  | int => exact .int _ _
  | str => exact .str _
  | ptr p a L h1 h2 _ => exact .ptr p L h1 h2
  | rptr p c a L h1 h2 _ => exact .rptr p c L h1 h2
  | slice p len cap es ex a cap' L h1 h2 _ _ => exact .slice p len cap es ex L h1 h2
  | nils => exact .nils
  | func f caps cs _ _ ih => exact .func f caps ih
  | agg ss cs _ _ ih => exact .agg ss ih
  | tuple vs cs _ _ ih => exact .tuple vs ih

theorem Scoped.mono {h h' : Heap} (hl : ∀ b s L, segLenAt h b s = some L → ∃ L', segLenAt h' b s = some L' ∧ L ≤ L') {v : AV} (hv : Scoped h v) : Scoped h' v := by
  induction hv with
  | undef => exact .undef
  | bool => exact .bool _
  | int => exact .int _ _
  | str => exact .str _
  | nils => exact .nils
  | ptr p L h1 h2 =>
    obtain ⟨L', h3, h4⟩ := hl _ _ _ h1
    exact .ptr p L' h3 (Nat.le_trans h2 h4)
  | rptr p c L h1 h2 =>
    obtain ⟨L', h3, h4⟩ := hl _ _ _ h1
    exact .rptr p c L' h3 (Nat.le_trans h2 h4)
  | slice p len cap es ex L h1 h2 =>
    obtain ⟨L', h3, h4⟩ := hl _ _ _ h1
    exact .slice p len cap es ex L' h3 (Nat.le_trans h2 h4)
  | func f caps _ ih => exact .func f caps ih
  | agg ss _ ih => exact .agg ss ih
  | tuple vs _ ih => exact .tuple vs ih

theorem Le.inScope {h h' : Heap} {μ μ' : LMap} (le : Le h μ h' μ') {v : AV} (hv : Scoped h v) : Scoped h' v :=
  hv.mono fun b s L hl => let ⟨L', h1, h2, _⟩ := le.lens b s L hl; ⟨L', h1, h2⟩

/-- All cells are in scope. -/
def ScopedH (h : Heap) : Prop := ∀ (b : Key) (ss : Blk), blk? h b = some ss → ∀ (i : Nat) (v : AV), (flat ss)[i]? = some v → Scoped h v

/-- The abstract heap and the world. Blocks before 'ro' are not written. -/
structure HR (ro : Nat) (h : Heap) (μ : LMap) (w : World) : Prop where
  nil_ : ∀ (b : Key) ss, blk? h b = some ss → μ b = .none → flat ss = []
  at_ : ∀ (b : Key) ss k base room, blk? h b = some ss → μ b = .at k base room → k < w.heap.size ∧ (flat ss).length ≤ room ∧
    (∀ i, i < room → (∃ c, w.cell? ⟨k, base + i, none⟩ = some c) ∧ w.frozen? ⟨k, base + i, none⟩ = false) ∧
    ∀ i v, (flat ss)[i]? = some v → ∃ c, w.cell? ⟨k, base + i, none⟩ = some c ∧ c.oneCell' = true ∧ VR h μ v c
  inj : ∀ (b b' : Key) k base room base' room', ro ≤ b.b → has h b → has h b' → b ≠ b' → μ b = .at k base room → μ b' ≠ .at k base' room'
  scope : ScopedH h
  rol : ro ≤ h.length

/-- What a step does to the world, told by the abstract heaps. -/
structure Ext (ro : Nat) (h : Heap) (μ : LMap) (w : World) (h' : Heap) (μ' : LMap) (w' : World) : Prop where
  le : Le h μ h' μ'
  os : w'.os = w.os
  tape : w'.tape = w.tape
  output : w'.output = w.output
  size : w.heap.size ≤ w'.heap.size
  len : h.length ≤ h'.length
  frame : ∀ k, k < w.heap.size → (∀ (b : Key) base room, ro ≤ b.b → has h b → μ b ≠ .at k base room) → w'.heap[k]? = w.heap[k]?
  rob : ∀ b, b < ro → b < h.length → h'[b]? = h[b]? ∧ ∀ r, μ' ⟨b, r⟩ = μ ⟨b, r⟩
  moved : ∀ (b : Key) k base room, has h' b → μ' b = .at k base room → (∃ b2 base2 room2, has h b2 ∧ μ b2 = .at k base2 room2 ∧ (ro ≤ b2.b ∨ b2 = b)) ∨ w.heap.size ≤ k
  froz : ∀ a, w'.frozen? a = w.frozen? a

theorem Ext.refl (ro : Nat) (h : Heap) (μ : LMap) (w : World) : Ext ro h μ w h μ w :=
  ⟨.refl _ _, rfl, rfl, rfl, Nat.le_refl _, Nat.le_refl _, fun _ _ _ => rfl, fun _ _ _ => ⟨rfl, fun _ => rfl⟩, fun b _ base room hb hm => .inl ⟨b, base, room, hb, hm, .inr rfl⟩, fun _ => rfl⟩

theorem Ext.trans {ro h μ w h1 μ1 w1 h2 μ2 w2} (a : Ext ro h μ w h1 μ1 w1) (b : Ext ro h1 μ1 w1 h2 μ2 w2) : Ext ro h μ w h2 μ2 w2 where
  le := a.le.trans b.le
  os := b.os.trans a.os
  tape := b.tape.trans a.tape
  output := b.output.trans a.output
  size := Nat.le_trans a.size b.size
  len := Nat.le_trans a.len b.len
  frame k hk hn := by
    rw [b.frame k (Nat.lt_of_lt_of_le hk a.size) fun x base room hx hx1 hm => ?_, a.frame k hk hn]
    rcases a.moved x k base room hx1 hm with ⟨b2, base2, room2, h1, h2, h3⟩ | h1
    · exact hn b2 base2 room2 (h3.elim id fun e => by rw [e]; exact hx) h1 h2
    · omega
  rob x hx hl := by
    obtain ⟨h1, h2⟩ := a.rob x hx hl
    obtain ⟨h3, h4⟩ := b.rob x hx (Nat.lt_of_lt_of_le hl a.len)
    exact ⟨h3.trans h1, fun r => (h4 r).trans (h2 r)⟩
  moved x k base room hx hm := by
    rcases b.moved x k base room hx hm with ⟨b1, base1, room1, h1, h2, h3⟩ | h1
    · rcases a.moved b1 k base1 room1 h1 h2 with ⟨b2, base2, room2, g1, g2, g3⟩ | g1
      · refine .inl ⟨b2, base2, room2, g1, g2, ?_⟩
        rcases g3 with g3 | rfl
        · exact .inl g3
        · exact h3
      · exact .inr g1
    · exact .inr (Nat.le_trans a.size h1)
  froz x := (b.froz x).trans (a.froz x)

/-- Slots. -/
def TR (h : Heap) (μ : LMap) (t : List AV) (tmps : Array Value) : Prop := t.length = tmps.size ∧ ∀ i, VR h μ (t.getD i .undef) (tmps.getD i Go.undef)

theorem TR.mono {h h' : Heap} {μ μ' : LMap} (le : Le h μ h' μ') {t : List AV} {ts : Array Value} (ht : TR h μ t ts) : TR h' μ' t ts := ⟨ht.1, fun i => (ht.2 i).mono le⟩

theorem getD_set_list {β : Type} (l : List β) (i j : Nat) (v d : β) : (l.set i v).getD j d = if i = j ∧ i < l.length then v else l.getD j d := by
  simp only [List.getD_eq_getElem?_getD, List.getElem?_set]
  by_cases h : i = j
  · subst h
    by_cases h2 : i < l.length
    · simp [h2]
    · simp [h2]
  · simp [h]

theorem getD_set_array {β : Type} (l : Array β) (i j : Nat) (v d : β) : (l.setIfInBounds i v).getD j d = if i = j ∧ i < l.size then v else l.getD j d := by
  rw [Array.getD_eq_getD_getElem?, Array.getD_eq_getD_getElem?, Array.getElem?_setIfInBounds]
  by_cases h : i = j
  · subst h
    by_cases h2 : i < l.size
    · simp [h2]
    · simp [h2]
  · simp [h]

theorem TR.put {h : Heap} {μ : LMap} {t : List AV} {a : Act} (ht : TR h μ t a.tmps) (dst : Option Nat) {v : AV} {c : Value} (hv : VR h μ v c) :
    TR h μ (putO t dst v) (a.put dst c).tmps := by
  cases dst with
  | none => exact ht
  | some d =>
    refine ⟨by simp [putO, Act.put, ht.1], fun i => ?_⟩
    simp only [putO, Act.put, getD_set_list, getD_set_array, ← ht.1]
    split
    · exact hv
    · exact ht.2 i
end Go.AM
