/- A part of a proof about the given program: an abstract machine, what the given functions come to, and plain laws. -/
import Derived.Test.YtkboldcnkkolkaaAMNum
namespace Go.AM
theorem blk_append {h : Heap} {ss : Blk} {b : Key} (hb : b.b < h.length) : blk? (h ++ [ss]) b = blk? h b := blk_congr rfl (List.getElem?_append_left hb)
theorem blk_appendD {h : Heap} {ss : Blk} {b : Key} (hb : b.b < h.length) : blkD (h ++ [ss]) b = blkD h b := blkD_congr rfl (List.getElem?_append_left hb)
theorem blk_new {h : Heap} {ss : Blk} (hp : isPool ss = false) : blk? (h ++ [ss]) (topK h.length) = some ss := blk_top hp (by simp)
theorem segLenAt_append {h : Heap} {ss : Blk} {b : Key} (hb : b.b < h.length) (s : Nat) : segLenAt (h ++ [ss]) b s = segLenAt h b s := by
  unfold segLenAt
  rw [blk_append hb]
theorem segOff_append {h : Heap} {ss : Blk} {b : Key} (hb : b.b < h.length) (s : Nat) : segOff (h ++ [ss]) b s = segOff h b s := by
  unfold segOff
  rw [blk_appendD hb]
theorem segLenAt_has {h : Heap} {b : Key} {s L : Nat} (hl : segLenAt h b s = some L) : has h b := by
  obtain ⟨ss, hb, _⟩ := segAt_get hl
  exact ⟨ss, hb⟩
theorem segLenAt_lt {h : Heap} {b : Key} {s L : Nat} (hl : segLenAt h b s = some L) : b.b < h.length := has_lt (segLenAt_has hl)
/-- The keys of a heap with one more block. -/
theorem has_append {h : Heap} {ss : Blk} (hp : isPool ss = false) {b : Key} {sb : Blk} (hb : blk? (h ++ [ss]) b = some sb) : (b.b < h.length ∧ blk? h b = some sb) ∨ (b = topK h.length ∧ sb = ss) := by
  rcases Nat.lt_or_ge b.b h.length with hlt | hge
  · rw [blk_append hlt] at hb; exact .inl ⟨hlt, hb⟩
  · have hl := has_lt ⟨_, hb⟩
    simp only [List.length_append, List.length_singleton] at hl
    have he : b.b = h.length := by omega
    have hr : (h ++ [ss])[b.b]? = some ss := by rw [he]; simp
    rcases blk_cases hb with ⟨h0, h1, _⟩ | ⟨r, k, rows, xs, h0, h1, _, _⟩
    · rw [hr] at h1
      cases h1
      refine .inr ⟨?_, rfl⟩
      cases b
      simp only at he h0
      rw [he, h0]
    · rw [hr] at h1
      cases h1
      cases hp

def addMap (μ : LMap) (n : Nat) (l : Loc) : LMap := fun b => if b = topK n then l else μ b

theorem addMap_lt {μ : LMap} {n : Nat} {l : Loc} {b : Key} (hb : b.b < n) : addMap μ n l b = μ b := if_neg (by rintro rfl; exact Nat.lt_irrefl _ hb)
theorem Le.append {h : Heap} {μ : LMap} {ss : Blk} {l : Loc} : Le h μ (h ++ [ss]) (addMap μ h.length l) :=
  ⟨fun b s L hl => ⟨L, by rw [segLenAt_append (segLenAt_lt hl)]; exact hl, Nat.le_refl _, fun _ => ⟨segOff_append (segLenAt_lt hl) s, fun _ => addMap_lt (segLenAt_lt hl)⟩⟩⟩

theorem frozen_push {w w' : World} {cs : Array Value} {T : TypeId} (hheap : w'.heap = w.heap.push (.cells cs T)) (a : Addr) : w'.frozen? a = w.frozen? a := by
  unfold World.frozen?
  by_cases e : a.block = w.heap.size
  · rw [hheap, Array.getElem?_push, if_pos e, show w.heap[a.block]? = none by rw [e]; simp]
    simp
  · rw [hheap, Array.getElem?_push, if_neg e]

/-- A new block. -/
theorem HR.alloc {ro : Nat} {h : Heap} {μ : LMap} {w w' : World} (H : HR ro h μ w) {ss : Blk} (hp : isPool ss = false) {cs : Array Value} {T : TypeId}
    (hheap : w'.heap = w.heap.push (.cells cs T)) (hos : w'.os = w.os) (htape : w'.tape = w.tape) (hout : w'.output = w.output)
    (hlen : (flat ss).length ≤ cs.size) (hv : ∀ (i : Nat) (u : AV), (flat ss)[i]? = some u → ∃ c, cs[i]? = some c ∧ c.oneCell' = true ∧ VR h μ u c) :
    HR ro (h ++ [ss]) (addMap μ h.length (.at w.heap.size 0 cs.size)) w' ∧ Ext ro h μ w (h ++ [ss]) (addMap μ h.length (.at w.heap.size 0 cs.size)) w' := by
  have hle : Le h μ (h ++ [ss]) (addMap μ h.length (.at w.heap.size 0 cs.size)) := Le.append
  have hold : ∀ k, k < w.heap.size → w'.heap[k]? = w.heap[k]? := fun k hk => by
    rw [hheap, Array.getElem?_push, if_neg (by omega)]
  have hnew : w'.heap[w.heap.size]? = some (.cells cs T) := by rw [hheap]; simp
  have hmap : ∀ b : Key, b.b < h.length → addMap μ h.length (.at w.heap.size 0 cs.size) b = μ b := fun b hb => addMap_lt hb
  have hmap2 : addMap μ h.length (.at w.heap.size 0 cs.size) (topK h.length) = .at w.heap.size 0 cs.size := by unfold addMap; rw [if_pos rfl]
  have hat : ∀ b k base room, has h b → μ b = .at k base room → k < w.heap.size := fun b k base room ⟨sb, hb⟩ hm => (H.at_ b sb k base room hb hm).1
  constructor
  · refine ⟨fun b sb hb hm => ?_, fun b sb k base room hb hm => ?_, fun b b' k base room base' room' h1 ⟨sb, h2⟩ ⟨sb', h3⟩ h4 h5 => ?_, fun b sb hb i v hvi => ?_, by have := H.rol; simp; omega⟩
    · rcases has_append hp hb with ⟨hlt, hb⟩ | ⟨rfl, rfl⟩
      · rw [hmap b hlt] at hm; exact H.nil_ b sb hb hm
      · rw [hmap2] at hm; cases hm
    · rcases has_append hp hb with ⟨hlt, hb⟩ | ⟨rfl, rfl⟩
      · rw [hmap b hlt] at hm
        obtain ⟨q1, q2, q3, q4⟩ := H.at_ b sb k base room hb hm
        have hh := hold k q1
        refine ⟨by rw [hheap]; simp; omega, q2, fun i hi => ?_, fun i v hv => ?_⟩
        · rw [cell_heap (a := ⟨k, base + i, none⟩) hh, frozen_heap (a := ⟨k, base + i, none⟩) hh]; exact q3 i hi
        · obtain ⟨c, e1, e2, e3⟩ := q4 i v hv
          exact ⟨c, by rw [cell_heap (a := ⟨k, base + i, none⟩) hh]; exact e1, e2, e3.mono hle⟩
      · rw [hmap2] at hm
        cases hm
        refine ⟨by rw [hheap]; simp, hlen, fun i hi => ⟨⟨cs[i], ?_⟩, ?_⟩, fun i v hvi => ?_⟩
        · simp [World.cell?, hnew, hi]
        · simp [World.frozen?, hnew]
        · obtain ⟨c, e1, e2, e3⟩ := hv i v hvi
          exact ⟨c, by simpa [World.cell?, hnew] using e1, e2, e3.mono hle⟩
    · rcases has_append hp h2 with ⟨hlt, g2⟩ | ⟨rfl, rfl⟩
      · rw [hmap b hlt] at h5
        rcases has_append hp h3 with ⟨hlt', g3⟩ | ⟨rfl, rfl⟩
        · rw [hmap b' hlt']
          exact H.inj b b' k base room base' room' h1 ⟨_, g2⟩ ⟨_, g3⟩ h4 h5
        · rw [hmap2]
          intro e
          cases e
          have := hat b _ _ _ ⟨_, g2⟩ h5
          omega
      · rw [hmap2] at h5
        cases h5
        rcases has_append hp h3 with ⟨hlt', h3⟩ | ⟨rfl, rfl⟩
        · rw [hmap b' hlt']
          intro e
          have := hat b' _ _ _ ⟨_, h3⟩ e
          omega
        · exact absurd rfl h4
    · rcases has_append hp hb with ⟨hlt, hb⟩ | ⟨rfl, rfl⟩
      · exact hle.inScope (H.scope b sb hb i v hvi)
      · obtain ⟨c, _, _, h3⟩ := hv i v hvi
        exact hle.inScope h3.inScope
  · refine ⟨hle, hos, htape, hout, by rw [hheap]; simp, by simp, fun k hk _ => hold k hk, fun b h1 h2 => ⟨by rw [List.getElem?_append_left h2], fun r => hmap ⟨b, r⟩ h2⟩, fun b k base room ⟨sb, h1⟩ h2 => ?_, frozen_push hheap⟩
    rcases has_append hp h1 with ⟨hlt, hb⟩ | ⟨rfl, rfl⟩
    · rw [hmap b hlt] at h2
      exact .inl ⟨b, base, room, ⟨_, hb⟩, h2, .inr rfl⟩
    · rw [hmap2] at h2
      cases h2
      exact .inr (Nat.le_refl _)

/-- A pool whose rows are empty is laid beside: nothing happens to the world. -/
def poolMap (μ : LMap) (n : Nat) : LMap := fun b => if b.b = n then .none else μ b
theorem poolMap_lt {μ : LMap} {n : Nat} {b : Key} (hb : b.b < n) : poolMap μ n b = μ b := if_neg (by omega)
theorem pool_append {h : Heap} {k : IntKind} {c : Nat} {b : Key} {sb : Blk} (hb : blk? (h ++ [[.pool k (List.replicate c [])]]) b = some sb) : (b.b < h.length ∧ blk? h b = some sb) ∨ (b.b = h.length ∧ ∃ r, r < c ∧ b = rowK h.length r ∧ sb = [.vec k []]) := by
  rcases Nat.lt_or_ge b.b h.length with hlt | hge
  · rw [blk_append hlt] at hb; exact .inl ⟨hlt, hb⟩
  · have hl := has_lt ⟨_, hb⟩
    simp only [List.length_append, List.length_singleton] at hl
    have he : b.b = h.length := by omega
    have hr : (h ++ [[AV.pool k (List.replicate c [])]])[b.b]? = some [.pool k (List.replicate c [])] := by rw [he]; simp
    rcases blk_cases hb with ⟨h0, h1, h2⟩ | ⟨r, k', rows, xs, h0, h1, h2, rfl⟩
    · rw [hr] at h1
      cases h1
      cases h2
    · rw [hr] at h1
      simp only [Option.some.injEq, List.cons.injEq, AV.pool.injEq, and_true] at h1
      obtain ⟨rfl, rfl⟩ := h1
      rw [List.getElem?_replicate] at h2
      split at h2
      · rename_i hlt
        cases h2
        refine .inr ⟨he, r, hlt, ?_, rfl⟩
        cases b
        simp only at he h0
        rw [he, h0]
      · cases h2
theorem Le.pool {h : Heap} {μ : LMap} {ss : Blk} : Le h μ (h ++ [ss]) (poolMap μ h.length) :=
  ⟨fun b s L hl => ⟨L, by rw [segLenAt_append (segLenAt_lt hl)]; exact hl, Nat.le_refl _, fun _ => ⟨segOff_append (segLenAt_lt hl) s, fun _ => poolMap_lt (segLenAt_lt hl)⟩⟩⟩
theorem HR.newPool {ro : Nat} {h : Heap} {μ : LMap} {w : World} (H : HR ro h μ w) (k : IntKind) (c : Nat) :
    HR ro (h ++ [[.pool k (List.replicate c [])]]) (poolMap μ h.length) w ∧ Ext ro h μ w (h ++ [[.pool k (List.replicate c [])]]) (poolMap μ h.length) w := by
  have hle : Le h μ (h ++ [[AV.pool k (List.replicate c [])]]) (poolMap μ h.length) := Le.pool
  have hmap : ∀ b : Key, b.b < h.length → poolMap μ h.length b = μ b := fun b hb => poolMap_lt hb
  have hmap2 : ∀ b : Key, b.b = h.length → poolMap μ h.length b = .none := fun b hb => if_pos hb
  refine ⟨⟨fun b sb hb hm => ?_, fun b sb k' base room hb hm => ?_, fun b b' k' base room base' room' h1 ⟨sb, h2⟩ ⟨sb', h3⟩ h4 h5 h6 => ?_, fun b sb hb i v hvi => ?_, by have := H.rol; simp; omega⟩,
    hle, rfl, rfl, rfl, Nat.le_refl _, by simp, fun _ _ _ => rfl, fun b h1 h2 => ⟨by rw [List.getElem?_append_left h2], fun r => hmap ⟨b, r⟩ h2⟩, fun b k' base room ⟨sb, h1⟩ h2 => ?_, fun _ => rfl⟩
  · rcases pool_append hb with ⟨hlt, hb⟩ | ⟨he, r, _, _, rfl⟩
    · rw [hmap b hlt] at hm; exact H.nil_ b sb hb hm
    · rfl
  · rcases pool_append hb with ⟨hlt, hb⟩ | ⟨he, r, _, _, rfl⟩
    · rw [hmap b hlt] at hm
      obtain ⟨q1, q2, q3, q4⟩ := H.at_ b sb k' base room hb hm
      exact ⟨q1, q2, q3, fun i v hv => (q4 i v hv).imp fun c ⟨e1, e2, e3⟩ => ⟨e1, e2, e3.mono hle⟩⟩
    · rw [hmap2 b he] at hm; cases hm
  · rcases pool_append h2 with ⟨hlt, h2⟩ | ⟨he, _⟩
    · rw [hmap b hlt] at h5
      rcases pool_append h3 with ⟨hlt', h3⟩ | ⟨he', _⟩
      · rw [hmap b' hlt'] at h6
        exact H.inj b b' k' base room base' room' h1 ⟨_, h2⟩ ⟨_, h3⟩ h4 h5 h6
      · rw [hmap2 b' he'] at h6; cases h6
    · rw [hmap2 b he] at h5; cases h5
  · rcases pool_append hb with ⟨hlt, hb⟩ | ⟨he, r, _, _, rfl⟩
    · exact hle.inScope (H.scope b sb hb i v hvi)
    · simp [flat, segValsOf] at hvi
  · rcases pool_append h1 with ⟨hlt, hb⟩ | ⟨he, _⟩
    · rw [hmap b hlt] at h2
      exact .inl ⟨b, base, room, ⟨_, hb⟩, h2, .inr rfl⟩
    · rw [hmap2 b he] at h2; cases h2

/-- The place of a new block. -/
theorem VR.newPtr {h : Heap} {μ : LMap} {ss : Blk} {k n : Nat} (hp : isPool ss = false) (hne : ss ≠ []) : VR (h ++ [ss]) (addMap μ h.length (.at k 0 n)) (.ptr (newPlace h ss)) (.pointer (some ⟨k, 0, none⟩)) := by
  cases ss with
  | nil => exact absurd rfl hne
  | cons s rest =>
    have hb := blk_new (h := h) hp
    refine .ptr _ _ (segLen s) (by simp only [segLenAt, newPlace, hb]; rfl) (by simp [newPlace]) fun _ => ⟨k, 0, n, by simp [addMap, newPlace], ?_⟩
    simp [newPlace, segOff, lenOf]

/-- What an operation does. -/
def OpSem (P : Program) (ro : Nat) (op : Op) (t : List AV) (h : Heap) (v : AV) (h' : Heap) : Prop :=
  ∀ (o : Oper) (a : Act) (w : World) (μ : LMap) (next : Act → World → Prop) (Q : Exit → Act → World → Prop), o.op = op → (∀ x, x ∈ op.operands → VR h μ (evalO t x) (a.eval x)) → HR ro h μ w →
    (∀ μ' w' c, VR h' μ' v c → HR ro h' μ' w' → Ext ro h μ w h' μ' w' → next (a.put o.dst c) w') → o.wp P a w next Q

section
variable {α : Type} {P : Program} {r : α} {ro : Nat} {op : Op} {t : List AV} {h : Heap}

theorem OpSem.of_value {v : AV} {h' : Heap} (hr : ∀ (o : Oper) (a : Act) (w : World) (μ : LMap), o.op = op → (∀ x, x ∈ op.operands → VR h μ (evalO t x) (a.eval x)) → HR ro h μ w →
    ∃ c w' μ', (execOp a.eval o).run P w = .ok (.value c) w' ∧ VR h' μ' v c ∧ HR ro h' μ' w' ∧ Ext ro h μ w h' μ' w') : OpSem P ro op t h v h' := by
  intro o a w μ next Q ho hx H hn
  obtain ⟨c, w', μ', e1, e2, e3, e4⟩ := hr o a w μ ho hx H
  unfold Oper.wp
  rw [e1]
  exact hn μ' w' c e2 e3 e4

theorem OpSem.of_pure {v : AV} (hr : ∀ (o : Oper) (a : Act) (w : World) (μ : LMap), o.op = op → (∀ x, x ∈ op.operands → VR h μ (evalO t x) (a.eval x)) → HR ro h μ w →
    ∃ c, (execOp a.eval o).run P w = .ok (.value c) w ∧ VR h μ v c) : OpSem P ro op t h v h :=
  .of_value fun o a w μ ho hx H => by
    obtain ⟨c, e1, e2⟩ := hr o a w μ ho hx H
    exact ⟨c, w, μ, e1, e2, H, Ext.refl _ _ _ _⟩

theorem run_newVar (T : TypeId) (c : Value) (w : World) : (newVar T c).run P w = .ok ⟨w.heap.size, 0, none⟩ { w with heap := w.heap.push (.cells c.cells T) } := by
  simp [newVar, newRow]

/-- A value laid into a new block. -/
theorem HR.box {μ : LMap} {w : World} (H : HR ro h μ w) {v : AV} {c : Value} (hv : VR h μ v c) (h1 : ∀ (i : Nat) (u : AV), (cellsOfAV v)[i]? = some u → isOne u = true) (hne : cellsOfAV v ≠ []) (T : TypeId)
    {ss : Blk} (hp : isPool ss = false) (hss : flat ss = cellsOfAV v) : ∃ w' μ', (newVar T c).run P w = .ok ⟨w.heap.size, 0, none⟩ w' ∧ HR ro (h ++ [ss]) μ' w' ∧ Ext ro h μ w (h ++ [ss]) μ' w' ∧
      VR (h ++ [ss]) μ' (.ptr (newPlace h ss)) (.pointer (some ⟨w.heap.size, 0, none⟩)) := by
  obtain ⟨hlen, hus⟩ := hv.cells h1
  obtain ⟨r1, r2⟩ := H.alloc hp (w' := { w with heap := w.heap.push (.cells c.cells T) }) (ss := ss) rfl rfl rfl rfl (by rw [hss, hlen]; simp) (fun i u hu => by
    rw [hss] at hu
    have hi : i < (cellsOfAV v).length := by
      rcases Nat.lt_or_ge i (cellsOfAV v).length with h | h
      · exact h
      · rw [List.getElem?_eq_none h] at hu; cases hu
    obtain ⟨u', d, e1, e2, e3, e4⟩ := hus i hi
    rw [hu] at e1
    cases e1
    exact ⟨d, by simpa using e2, e3, e4⟩)
  refine ⟨_, _, run_newVar _ _ _, r1, r2, VR.newPtr hp ?_⟩
  rintro rfl
  exact hne (by rw [← hss]; rfl)
end
end Go.AM
