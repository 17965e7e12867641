/- A part of a proof about the given program: an abstract machine, what the given functions come to, and plain laws. -/
import Derived.Test.YtijijnfmcmeioaaAMNum
namespace Go.AM
theorem segLenAt_append {h : Heap} {ss : Blk} {b : Nat} (hb : b < h.length) (s : Nat) : segLenAt (h ++ [ss]) b s = segLenAt h b s := by
  unfold segLenAt
  rw [List.getElem?_append_left hb]
theorem segOff_append {h : Heap} {ss : Blk} {b : Nat} (hb : b < h.length) (s : Nat) : segOff (h ++ [ss]) b s = segOff h b s := by
  unfold segOff
  simp only [List.getD_eq_getElem?_getD, List.getElem?_append_left hb]
theorem segLenAt_lt {h : Heap} {b s L : Nat} (hl : segLenAt h b s = some L) : b < h.length := by
  obtain ⟨ss, hb, _⟩ := segAt_get hl
  exact (List.getElem?_eq_some_iff.1 hb).1

def addMap (μ : LMap) (n : Nat) (l : Loc) : LMap := fun b => if b = n then l else μ b

theorem Le.append {h : Heap} {μ : LMap} {ss : Blk} {l : Loc} : Le h μ (h ++ [ss]) (addMap μ h.length l) :=
  ⟨fun b s L hl => ⟨L, by rw [segLenAt_append (segLenAt_lt hl)]; exact hl, Nat.le_refl _, fun _ => ⟨segOff_append (segLenAt_lt hl) s, fun _ => by
    unfold addMap
    rw [if_neg (by have := segLenAt_lt hl; omega)]⟩⟩⟩

theorem frozen_push {w w' : World} {cs : Array Value} {T : TypeId} (hheap : w'.heap = w.heap.push (.cells cs T)) (a : Addr) : w'.frozen? a = w.frozen? a := by
  unfold World.frozen?
  by_cases e : a.block = w.heap.size
  · rw [hheap, Array.getElem?_push, if_pos e, show w.heap[a.block]? = none by rw [e]; simp]
    simp
  · rw [hheap, Array.getElem?_push, if_neg e]

/-- A new block. -/
theorem HR.alloc {ro : Nat} {h : Heap} {μ : LMap} {w w' : World} (H : HR ro h μ w) {ss : Blk} {cs : Array Value} {T : TypeId}
    (hheap : w'.heap = w.heap.push (.cells cs T)) (hos : w'.os = w.os) (htape : w'.tape = w.tape) (hout : w'.output = w.output)
    (hlen : (flat ss).length ≤ cs.size) (hv : ∀ (i : Nat) (u : AV), (flat ss)[i]? = some u → ∃ c, cs[i]? = some c ∧ c.oneCell' = true ∧ VR h μ u c) :
    HR ro (h ++ [ss]) (addMap μ h.length (.at w.heap.size 0 cs.size)) w' ∧ Ext ro h μ w (h ++ [ss]) (addMap μ h.length (.at w.heap.size 0 cs.size)) w' := by
  have hle : Le h μ (h ++ [ss]) (addMap μ h.length (.at w.heap.size 0 cs.size)) := Le.append
  have hold : ∀ k, k < w.heap.size → w'.heap[k]? = w.heap[k]? := fun k hk => by
    rw [hheap, Array.getElem?_push, if_neg (by omega)]
  have hnew : w'.heap[w.heap.size]? = some (.cells cs T) := by rw [hheap]; simp
  have hmap : ∀ b, b ≠ h.length → addMap μ h.length (.at w.heap.size 0 cs.size) b = μ b := fun b hb => by unfold addMap; rw [if_neg hb]
  have hmap2 : addMap μ h.length (.at w.heap.size 0 cs.size) h.length = .at w.heap.size 0 cs.size := by unfold addMap; rw [if_pos rfl]
  have hget : ∀ b sb, (h ++ [ss])[b]? = some sb → (b < h.length ∧ h[b]? = some sb) ∨ (b = h.length ∧ sb = ss) := fun b sb hb => by
    rcases Nat.lt_or_ge b h.length with hlt | hge
    · rw [List.getElem?_append_left hlt] at hb; exact .inl ⟨hlt, hb⟩
    · rw [List.getElem?_append_right hge] at hb
      cases hq : b - h.length with
      | zero => rw [hq] at hb; simp at hb; exact .inr ⟨by omega, hb.symm⟩
      | succ n => rw [hq] at hb; simp at hb
  constructor
  · refine ⟨fun b sb hb hm => ?_, fun b sb k base room hb hm => ?_, fun b b' k base room base' room' h1 h2 h3 h4 h5 => ?_, fun b sb hb i v hvi => ?_, by have := H.rol; simp; omega⟩
    · rcases hget b sb hb with ⟨hlt, hb⟩ | ⟨rfl, rfl⟩
      · rw [hmap b (by omega)] at hm; exact H.nil_ b sb hb hm
      · rw [hmap2] at hm; cases hm
    · rcases hget b sb hb with ⟨hlt, hb⟩ | ⟨rfl, rfl⟩
      · rw [hmap b (by omega)] at hm
        obtain ⟨q1, q2, q3, q4⟩ := H.at_ b sb k base room hb hm
        have hh := hold k q1
        refine ⟨by rw [hheap]; simp; omega, q2, fun i hi => ?_, fun i v hv => ?_⟩
        · rw [cell_heap (a := ⟨k, base + i, none⟩) hh, frozen_heap (a := ⟨k, base + i, none⟩) hh]; exact q3 i hi
        · obtain ⟨c, e1, e2, e3⟩ := q4 i v hv
          exact ⟨c, by rw [cell_heap (a := ⟨k, base + i, none⟩) hh]; exact e1, e2, e3.mono hle⟩
      · rw [hmap2] at hm
        cases hm
        refine ⟨by rw [hheap]; simp, hlen, fun i hi => ⟨⟨cs[i], ?_⟩, ?_⟩, fun i v hvi => ?_⟩
        · simp [World.cell?, hnew, hi]
        · simp [World.frozen?, hnew]
        · obtain ⟨c, e1, e2, e3⟩ := hv i v hvi
          exact ⟨c, by simpa [World.cell?, hnew] using e1, e2, e3.mono hle⟩
    · simp only [List.length_append, List.length_singleton] at h2 h3
      by_cases hb : b = h.length
      · subst hb
        rw [hmap2] at h5
        cases h5
        rw [hmap b' (by omega)]
        intro e
        have hlt : b' < h.length := by omega
        have := (H.at_ b' h[b'] _ _ _ (List.getElem?_eq_getElem hlt) e).1
        omega
      · rw [hmap b hb] at h5
        have hlt : b < h.length := by omega
        by_cases hb' : b' = h.length
        · subst hb'
          rw [hmap2]
          intro e
          cases e
          have := (H.at_ b h[b] _ _ _ (List.getElem?_eq_getElem hlt) h5).1
          omega
        · rw [hmap b' hb']
          exact H.inj b b' k base room base' room' h1 hlt (by omega) h4 h5
    · rcases hget b sb hb with ⟨hlt, hb⟩ | ⟨rfl, rfl⟩
      · exact hle.inScope (H.scope b sb hb i v hvi)
      · obtain ⟨c, _, _, h3⟩ := hv i v hvi
        exact hle.inScope h3.inScope
  · refine ⟨hle, hos, htape, hout, by rw [hheap]; simp, by simp, fun k hk _ => hold k hk, fun b h1 h2 => ⟨by rw [List.getElem?_append_left h2], hmap b (by omega)⟩, fun b k base room h1 h2 => ?_, frozen_push hheap⟩
    simp only [List.length_append, List.length_singleton] at h1
    by_cases hb : b = h.length
    · subst hb
      rw [hmap2] at h2
      cases h2
      exact .inr (Nat.le_refl _)
    · rw [hmap b hb] at h2
      exact .inl ⟨by omega, h2⟩

/-- The place of a new block. -/
theorem VR.newPtr {h : Heap} {μ : LMap} {ss : Blk} {k n : Nat} (hne : ss ≠ []) : VR (h ++ [ss]) (addMap μ h.length (.at k 0 n)) (.ptr (newPlace h ss)) (.pointer (some ⟨k, 0, none⟩)) := by
  cases ss with
  | nil => exact absurd rfl hne
  | cons s rest =>
    refine .ptr _ _ (segLen s) (by simp [segLenAt, newPlace]) (by simp [newPlace]) fun _ => ⟨k, 0, n, by simp [addMap, newPlace], ?_⟩
    simp [newPlace, segOff, lenOf]

/-- What an operation does. -/
def OpSem (P : Program) (ro : Nat) (op : Op) (t : List AV) (h : Heap) (v : AV) (h' : Heap) : Prop :=
  ∀ (o : Oper) (a : Act) (w : World) (μ : LMap) (next : Act → World → Prop) (Q : Exit → Act → World → Prop), o.op = op → (∀ x, x ∈ op.operands → VR h μ (evalO t x) (a.eval x)) → HR ro h μ w →
    (∀ μ' w' c, VR h' μ' v c → HR ro h' μ' w' → Ext ro h μ w h' μ' w' → next (a.put o.dst c) w') → o.wp P a w next Q

section
variable {α : Type} {P : Program} {r : α} {ro : Nat} {op : Op} {t : List AV} {h : Heap}

theorem OpSem.of_value {v : AV} {h' : Heap} (hr : ∀ (o : Oper) (a : Act) (w : World) (μ : LMap), o.op = op → (∀ x, x ∈ op.operands → VR h μ (evalO t x) (a.eval x)) → HR ro h μ w →
    ∃ c w' μ', (execOp a.eval o).run P w = .ok (.value c) w' ∧ VR h' μ' v c ∧ HR ro h' μ' w' ∧ Ext ro h μ w h' μ' w') : OpSem P ro op t h v h' := by
  intro o a w μ next Q ho hx H hn
  obtain ⟨c, w', μ', e1, e2, e3, e4⟩ := hr o a w μ ho hx H
  unfold Oper.wp
  rw [e1]
  exact hn μ' w' c e2 e3 e4

theorem OpSem.of_pure {v : AV} (hr : ∀ (o : Oper) (a : Act) (w : World) (μ : LMap), o.op = op → (∀ x, x ∈ op.operands → VR h μ (evalO t x) (a.eval x)) → HR ro h μ w →
    ∃ c, (execOp a.eval o).run P w = .ok (.value c) w ∧ VR h μ v c) : OpSem P ro op t h v h :=
  .of_value fun o a w μ ho hx H => by
    obtain ⟨c, e1, e2⟩ := hr o a w μ ho hx H
    exact ⟨c, w, μ, e1, e2, H, Ext.refl _ _ _ _⟩

theorem run_newVar (T : TypeId) (c : Value) (w : World) : (newVar T c).run P w = .ok ⟨w.heap.size, 0, none⟩ { w with heap := w.heap.push (.cells c.cells T) } := by
  simp [newVar, newRow]

/-- A value laid into a new block. -/
theorem HR.box {μ : LMap} {w : World} (H : HR ro h μ w) {v : AV} {c : Value} (hv : VR h μ v c) (h1 : ∀ (i : Nat) (u : AV), (cellsOfAV v)[i]? = some u → isOne u = true) (hne : cellsOfAV v ≠ []) (T : TypeId)
    {ss : Blk} (hss : flat ss = cellsOfAV v) : ∃ w' μ', (newVar T c).run P w = .ok ⟨w.heap.size, 0, none⟩ w' ∧ HR ro (h ++ [ss]) μ' w' ∧ Ext ro h μ w (h ++ [ss]) μ' w' ∧
      VR (h ++ [ss]) μ' (.ptr (newPlace h ss)) (.pointer (some ⟨w.heap.size, 0, none⟩)) := by
  obtain ⟨hlen, hus⟩ := hv.cells h1
  obtain ⟨r1, r2⟩ := H.alloc (w' := { w with heap := w.heap.push (.cells c.cells T) }) (ss := ss) rfl rfl rfl rfl (by rw [hss, hlen]; simp) (fun i u hu => by
    rw [hss] at hu
    have hi : i < (cellsOfAV v).length := by
      rcases Nat.lt_or_ge i (cellsOfAV v).length with h | h
      · exact h
      · rw [List.getElem?_eq_none h] at hu; cases hu
    obtain ⟨u', d, e1, e2, e3, e4⟩ := hus i hi
    rw [hu] at e1
    cases e1
    exact ⟨d, by simpa using e2, e3, e4⟩)
  refine ⟨_, _, run_newVar _ _ _, r1, r2, VR.newPtr ?_⟩
  rintro rfl
  exact hne (by rw [← hss]; rfl)
end
end Go.AM
