/- A part of a proof about the given program: an abstract machine, what the given functions come to, and plain laws. -/
import Derived.Test.YtkboldcnkkolkaaAMMem
namespace Go.AM
theorem beq_ne {i j : Nat} (h : ¬ i = j) : Nat.beq i j = false := by
  cases hq : Nat.beq i j with
  | true => exact absurd (Nat.eq_of_beq_eq_true hq) h
  | false => rfl
/-- A block, or a row, may be put in the place of another one. -/
def fitB (κ : Key) (old x : Blk) : Prop := (κ.r = 0 ∧ isPool x = false) ∨ ∃ r k xs ys, κ.r = r + 1 ∧ old = [.vec k xs] ∧ x = [.vec k ys]
theorem setB_len (h : Heap) (κ : Key) (x : Blk) : (setB h κ x).length = h.length := by
  unfold setB
  split
  · simp
  · split
    · simp
    · rfl
theorem setB_raw {h : Heap} {κ : Key} {x : Blk} {b : Nat} (hb : b ≠ κ.b) : (setB h κ x)[b]? = h[b]? := by
  unfold setB
  split
  · rw [List.getElem?_set, if_neg (Ne.symm hb)]
  · split
    · rw [List.getElem?_set, if_neg (Ne.symm hb)]
    · rfl
theorem setB_get {h : Heap} {κ : Key} {old x : Blk} (ho : blk? h κ = some old) (hf : fitB κ old x) (κ' : Key) : blk? (setB h κ x) κ' = if κ' = κ then some x else blk? h κ' := by
  have hlt := has_lt ⟨_, ho⟩
  by_cases hb : κ'.b = κ.b
  · rcases blk_cases ho with ⟨h0, h1, h2⟩ | ⟨r, k, rows, xs, h0, h1, h2, h3⟩
    · rcases hf with ⟨_, hx⟩ | ⟨r, _, _, _, e, _⟩
      · have hs : (setB h κ x)[κ.b]? = some x := by
          unfold setB
          rw [h0]
          simp only
          rw [List.getElem?_set, if_pos rfl, if_pos hlt]
        cases hr : κ'.r with
        | zero =>
          have : κ' = κ := by cases κ; cases κ'; simp only at hb hr h0; rw [hb, hr, h0]
          rw [if_pos this]
          unfold blk?
          rw [hr]
          simp only [hb, hs, hx, cond_false]
        | succ r =>
          rw [if_neg (by rintro rfl; omega)]
          have hno : ∀ y : Blk, isPool y = false → poolOf y = none := fun y hy => by
            cases hq : poolOf y with
            | none => rfl
            | some q => rw [poolOf_pool.2 ⟨q.1, q.2, hq⟩] at hy; cases hy
          unfold blk?
          rw [hr]
          simp only [hs, hno x hx, hb, h1, hno old h2]
      · omega
    · subst h3
      rcases hf with ⟨e, _⟩ | ⟨r', k', xs', ys, e, e1, e2⟩
      · omega
      · have : r' = r := by omega
        subst this
        simp only [List.cons.injEq, AV.vec.injEq, and_true] at e1
        obtain ⟨rfl, rfl⟩ := e1
        subst e2
        have hs : (setB h κ [.vec k ys])[κ.b]? = some [.pool k (rows.set r' ys)] := by
          unfold setB
          have hd : h.getD κ.b [] = [.pool k rows] := by simp [List.getD_eq_getElem?_getD, h1]
          rw [h0, hd]
          simp only [poolOf]
          rw [List.getElem?_set, if_pos rfl, if_pos hlt]
        cases hr : κ'.r with
        | zero =>
          rw [if_neg (by rintro rfl; omega)]
          unfold blk?
          rw [hr]
          simp only [hs, hb, h1, isPool, cond_true]
        | succ q =>
          have hrl := (List.getElem?_eq_some_iff.1 h2).1
          unfold blk?
          rw [hr]
          simp only [hs, hb, h1, poolOf, List.getElem?_set]
          by_cases hq : r' = q
          · subst hq
            have : κ' = κ := by cases κ; cases κ'; simp only at hb hr h0; rw [hb, hr, h0]
            rw [if_pos rfl, if_pos hrl, if_pos this]
          · rw [if_neg hq, if_neg (by rintro rfl; omega)]
  · rw [if_neg (fun e => hb (by rw [e]))]
    exact blk_congr rfl (setB_raw hb)
theorem setB_D {h : Heap} {κ : Key} {old x : Blk} (ho : blk? h κ = some old) (hf : fitB κ old x) (κ' : Key) (hx : κ' ≠ κ → has h κ') : blkD (setB h κ x) κ' = if κ' = κ then x else blkD h κ' := by
  have e1 := setB_get ho hf κ'
  by_cases e : κ' = κ
  · rw [if_pos e] at e1 ⊢
    exact blkD_of e1
  · rw [if_neg e] at e1 ⊢
    exact blkD_same (hx e) e1
theorem setB_has {h : Heap} {κ : Key} {old x : Blk} (ho : blk? h κ = some old) (hf : fitB κ old x) {κ' : Key} : has (setB h κ x) κ' ↔ has h κ' := by
  unfold has
  rw [setB_get ho hf]
  by_cases e : κ' = κ
  · rw [if_pos e, e]; exact ⟨fun _ => ⟨_, ho⟩, fun _ => ⟨_, rfl⟩⟩
  · rw [if_neg e]

theorem segLenAt_set {h : Heap} {b : Key} {ss ss' : Blk} (hb : blk? h b = some ss) (hf : fitB b ss ss') (hl : ss'.map segLen = ss.map segLen) (x : Key) (s : Nat) : segLenAt (setB h b ss') x s = segLenAt h x s := by
  unfold segLenAt
  rw [setB_get hb hf]
  by_cases e : x = b
  · subst e
    rw [if_pos rfl, hb]
    simp only [Option.bind_some]
    rw [← List.getElem?_map, ← List.getElem?_map, hl]
  · rw [if_neg e]

theorem lenOf_map {a b : List AV} (h : a.map segLen = b.map segLen) : lenOf a = lenOf b := by simp [lenOf, h]
theorem segOff_set {h : Heap} {b : Key} {ss ss' : Blk} (hb : blk? h b = some ss) (hf : fitB b ss ss') (hl : ss'.map segLen = ss.map segLen) (x : Key) (s : Nat) (hx : has h x) : segOff (setB h b ss') x s = segOff h x s := by
  unfold segOff
  rw [setB_D hb hf x fun _ => hx]
  by_cases e : x = b
  · subst e
    rw [if_pos rfl, blkD_of hb]
    refine lenOf_map ?_
    simp only [List.map_take, hl]
  · rw [if_neg e]

theorem Le.set {h : Heap} {μ : LMap} {b : Key} {ss ss' : Blk} (hb : blk? h b = some ss) (hf : fitB b ss ss') (hl : ss'.map segLen = ss.map segLen) : Le h μ (setB h b ss') μ :=
  ⟨fun x s L hL => ⟨L, by rw [segLenAt_set hb hf hl]; exact hL, Nat.le_refl _, fun _ => ⟨segOff_set hb hf hl x s (by obtain ⟨ss, h1, _⟩ := segAt_get hL; exact ⟨ss, h1⟩), fun _ => rfl⟩⟩⟩

theorem setCells_heap (b : Nat) : ∀ (vs : List Value) (o : Nat) (w : World) (k : Nat), k ≠ b → (w.setCells b o vs).heap[k]? = w.heap[k]?
  | [], _, _, _, _ => rfl
  | v :: r, o, w, k, h => by
    rw [World.setCells, setCells_heap b r _ _ k h]
    simp only [World.setCell, Array.getElem?_modify]
    rw [if_neg (Ne.symm h)]
theorem setCells_size (b : Nat) : ∀ (vs : List Value) (o : Nat) (w : World), (w.setCells b o vs).heap.size = w.heap.size
  | [], _, _ => rfl
  | v :: r, o, w => by rw [World.setCells, setCells_size b r]; simp
theorem setCells_rest (b : Nat) : ∀ (vs : List Value) (o : Nat) (w : World), (w.setCells b o vs).os = w.os ∧ (w.setCells b o vs).tape = w.tape ∧ (w.setCells b o vs).output = w.output
  | [], _, _ => ⟨rfl, rfl, rfl⟩
  | v :: r, o, w => by
    obtain ⟨h1, h2, h3⟩ := setCells_rest b r (o + 1) (w.setCell ⟨b, o, none⟩ v)
    exact ⟨h1, h2, h3⟩

theorem cell_heap {w w' : World} {a : Addr} (h : w'.heap[a.block]? = w.heap[a.block]?) : w'.cell? a = w.cell? a := by simp only [World.cell?, h]
theorem frozen_heap {w w' : World} {a : Addr} (h : w'.heap[a.block]? = w.heap[a.block]?) : w'.frozen? a = w.frozen? a := by simp only [World.frozen?, h]

/-- Cells of one block are written over. -/
theorem HR.write {ro : Nat} {h : Heap} {μ : LMap} {w : World} (H : HR ro h μ w) {b : Key} {k base room : Nat} {ss ss' : Blk} (hb : blk? h b = some ss) (hfit : fitB b ss ss') (hro : ro ≤ b.b) (hm : μ b = .at k base room)
    (hl : ss'.map segLen = ss.map segLen) {o : Nat} {us : List AV} {cs : List Value} (hlen : us.length = cs.length) (hin : o + us.length ≤ (flat ss).length)
    (hus : ∀ i, i < us.length → ∃ u c, us[i]? = some u ∧ cs[i]? = some c ∧ c.oneCell' = true ∧ VR h μ u c)
    (hf : ∀ i, (flat ss')[i]? = if o ≤ i ∧ i < o + us.length then us[i - o]? else (flat ss)[i]?) :
    HR ro (setB h b ss') μ (w.setCells k (base + o) cs) ∧ Ext ro h μ w (setB h b ss') μ (w.setCells k (base + o) cs) := by
  have hle := Le.set (μ := μ) hb hfit hl
  have hset := setB_get hb hfit
  have hflen : (flat ss').length = (flat ss).length := by rw [flat_length, flat_length, lenOf_map hl]
  obtain ⟨hk, hr, hx, hc⟩ := H.at_ b ss k base room hb hm
  obtain ⟨r1, r2, r3⟩ := setCells_rest k cs (base + o) w
  have hsome : ∀ j, j < cs.length → (w.cell? ⟨k, base + o + j, none⟩).isSome = true := by
    intro j hj
    obtain ⟨⟨c, e⟩, _⟩ := hx (o + j) (by omega)
    rw [Nat.add_assoc, e]
    rfl
  constructor
  · refine ⟨fun x sx hx1 hx2 => ?_, fun x sx kx bx rx hx1 hx2 => ?_, fun x x' kx bx rx bx' rx' h1 h2 h3 h4 h5 => ?_, fun x sx hx1 i v hv => ?_, by rw [setB_len]; exact H.rol⟩
    · rw [hset] at hx1
      by_cases e : x = b
      · subst e
        rw [hm] at hx2
        cases hx2
      · rw [if_neg e] at hx1
        exact H.nil_ x sx hx1 hx2
    · rw [hset] at hx1
      by_cases e : x = b
      · subst e
        rw [if_pos rfl] at hx1
        cases hx1
        rw [hm] at hx2
        cases hx2
        refine ⟨by rw [setCells_size]; exact hk, by rw [hflen]; exact hr, fun i hi => ?_, fun i v hv => ?_⟩
        · refine ⟨?_, by rw [World.frozen?_setCells]; exact (hx i hi).2⟩
          by_cases hio : o ≤ i ∧ i < o + cs.length
          · obtain ⟨j, rfl⟩ := Nat.exists_eq_add_of_le hio.1
            have := World.cell?_setCells_in k cs (base + o) w hsome j (by omega)
            exact ⟨_, by rw [← Nat.add_assoc]; exact this⟩
          · rw [World.cell?_setCells_out k cs (base + o) w _ (fun _ _ => by simp; omega)]
            exact (hx i hi).1
        · rw [hf] at hv
          by_cases hio : o ≤ i ∧ i < o + us.length
          · rw [if_pos hio] at hv
            obtain ⟨j, rfl⟩ := Nat.exists_eq_add_of_le hio.1
            rw [Nat.add_sub_cancel_left] at hv
            obtain ⟨u, c, h1, h2, h3, h4⟩ := hus j (by omega)
            rw [hv] at h1
            cases h1
            have h5 := World.cell?_setCells_in k cs (base + o) w hsome j (by omega)
            have h6 : cs[j]'(by omega) = c := by
              have := (List.getElem?_eq_some_iff.1 h2).2
              exact this
            refine ⟨c, by rw [← Nat.add_assoc, h5, h6], h3, h4.mono hle⟩
          · rw [if_neg hio] at hv
            obtain ⟨c, h1, h2, h3⟩ := hc i v hv
            refine ⟨c, ?_, h2, h3.mono hle⟩
            rw [World.cell?_setCells_out k cs (base + o) w _ (fun _ _ => by simp; omega)]
            exact h1
      · rw [if_neg e] at hx1
        obtain ⟨q1, q2, q3, q4⟩ := H.at_ x sx kx bx rx hx1 hx2
        have hne : kx ≠ k := fun e2 => by
          subst e2
          exact H.inj b x kx base room bx rx hro ⟨_, hb⟩ ⟨_, hx1⟩ (Ne.symm e) hm hx2
        have hh := setCells_heap k cs (base + o) w kx hne
        refine ⟨by rw [setCells_size]; exact q1, q2, fun i hi => ?_, fun i v hv => ?_⟩
        · rw [cell_heap (a := ⟨kx, bx + i, none⟩) hh, frozen_heap (a := ⟨kx, bx + i, none⟩) hh]
          exact q3 i hi
        · obtain ⟨c, h1, h2, h3⟩ := q4 i v hv
          exact ⟨c, by rw [cell_heap (a := ⟨kx, bx + i, none⟩) hh]; exact h1, h2, h3.mono hle⟩
    · rw [setB_has hb hfit] at h2 h3
      exact H.inj x x' kx bx rx bx' rx' h1 h2 h3 h4 h5
    · rw [hset] at hx1
      by_cases e : x = b
      · subst e
        rw [if_pos rfl] at hx1
        cases hx1
        rw [hf] at hv
        by_cases hio : o ≤ i ∧ i < o + us.length
        · rw [if_pos hio] at hv
          obtain ⟨u, c, h1, _, _, h4⟩ := hus (i - o) (by omega)
          rw [hv] at h1
          cases h1
          exact hle.inScope h4.inScope
        · rw [if_neg hio] at hv
          exact hle.inScope (H.scope _ ss hb i v hv)
      · rw [if_neg e] at hx1
        exact hle.inScope (H.scope x sx hx1 i v hv)
  · refine ⟨hle, r1, r2, r3, by rw [setCells_size]; exact Nat.le_refl _, by rw [setB_len]; exact Nat.le_refl _, fun x hx1 hx2 => ?_, fun x hx1 hx2 => ⟨?_, fun _ => rfl⟩, fun x kx bx rx hx1 hx2 => ?_, fun a => World.frozen?_setCells ..⟩
    · exact setCells_heap k cs (base + o) w x fun e => hx2 b base room hro ⟨_, hb⟩ (by rw [e]; exact hm)
    · exact setB_raw (by omega)
    · rw [setB_has hb hfit] at hx1
      exact .inl ⟨x, bx, rx, hx1, hx2, .inr rfl⟩

section
variable {α : Type} {P : Program} {r : α}

/-- What a store does. -/
def StoreSem (P : Program) (ro : Nat) (t : TypeId) (p : Place) (v : AV) (h h' : Heap) : Prop :=
  ∀ (μ : LMap) (w : World) (a : Addr) (c : Value), VR h μ (.ptr p) (.pointer (some a)) → VR h μ v c → HR ro h μ w →
    ∃ w', (storeVar t a c).run P w = .ok () w' ∧ HR ro h' μ w' ∧ Ext ro h μ w h' μ w'

theorem run_storeVar {t : TypeId} {w : World} {k o : Nat} {c : Value} {cs : List Value} (hcs : c.cells.toList = cs) (hn : cs.length = P.cellsOf t) (h0 : 0 < P.cellsOf t)
    (hc : ∀ j, j < cs.length → (w.cell? ⟨k, o + j, none⟩).isSome = true) (hf : ∀ j, j < cs.length → w.frozen? ⟨k, o + j, none⟩ = false) (h1 : ∀ v ∈ cs, v.oneCell' = true) :
    (storeVar t ⟨k, o, none⟩ c).run P w = .ok () (w.setCells k o cs) := by
  have hi : ∃ i, P.info? t = some i := by
    cases h : P.info? t with
    | none => simp [Program.cellsOf, h] at h0
    | some i => exact ⟨i, rfl⟩
  obtain ⟨i, hi⟩ := hi
  have hs : (sizeOf t).run P w = .ok (P.cellsOf t) w := by simp [sizeOf, typeInfo, hi, Program.cellsOf]
  have hsz : c.cells.size = P.cellsOf t := by rw [← hn, ← hcs]; simp
  have := run_storeCells_cells (P := P) k o cs 0 w (by simpa using hc) (by simpa using hf) h1
  simp only [Nat.add_zero] at this
  simp [storeVar, Sem.run_bind, hs, hsz, hcs, this]

theorem flat_set {ss : List AV} {s : Nat} {seg seg' : AV} (hs : ss[s]? = some seg) (hl : segLen seg' = segLen seg) (i : Nat) :
    (flat (ss.set s seg'))[i]? = if lenOf (ss.take s) ≤ i ∧ i < lenOf (ss.take s) + segLen seg then (segVals seg')[i - lenOf (ss.take s)]? else (flat ss)[i]? := by
  obtain ⟨hlt, he⟩ := List.getElem?_eq_some_iff.1 hs
  have e1 : flat ss = flat (ss.take s) ++ (segVals seg ++ flat (ss.drop (s + 1))) := by
    rw [← flat_cons, ← drop_of_get hs, ← flat_append, List.take_append_drop]
  have e2 : flat (ss.set s seg') = flat (ss.take s) ++ (segVals seg' ++ flat (ss.drop (s + 1))) := by
    rw [← flat_cons, ← flat_append, List.set_eq_take_append_cons_drop, if_pos hlt]
  rw [e1, e2]
  have h1 : (flat (ss.take s)).length = lenOf (ss.take s) := flat_length _
  have h2 : (segVals seg).length = segLen seg := segVals_length _
  have h3 : (segVals seg').length = segLen seg := by rw [segVals_length, hl]
  by_cases ha : lenOf (ss.take s) ≤ i
  · rw [List.getElem?_append_right (by omega), h1]
    by_cases hb : i < lenOf (ss.take s) + segLen seg
    · rw [if_pos ⟨ha, hb⟩, List.getElem?_append_left (by omega)]
    · rw [if_neg (by omega), List.getElem?_append_right (by omega), List.getElem?_append_right (by omega), List.getElem?_append_right (by omega), h1, h2, h3]
  · rw [if_neg (by omega), List.getElem?_append_left (by omega), List.getElem?_append_left (by omega)]

theorem map_set_len {ss : List AV} {s : Nat} {seg seg' : AV} (hs : ss[s]? = some seg) (hl : segLen seg' = segLen seg) : (ss.set s seg').map segLen = ss.map segLen := by
  obtain ⟨hlt, he⟩ := List.getElem?_eq_some_iff.1 hs
  rw [List.map_set, hl]
  have : (ss.map segLen)[s]? = some (segLen seg) := by rw [List.getElem?_map, hs]; rfl
  obtain ⟨h1, h2⟩ := List.getElem?_eq_some_iff.1 this
  rw [← h2]
  exact List.set_getElem_self h1

/-- A segment's length, and is it a row of records? -/
def shapeS (s : AV) : Nat × Nat := (segLen s, segK s)
theorem shape_lens {new old : Blk} (h : new.map shapeS = old.map shapeS) : new.map segLen = old.map segLen := by
  have := congrArg (List.map Prod.fst) h
  simpa [List.map_map, Function.comp_def, shapeS] using this
theorem map_set_shape {ss : List AV} {s : Nat} {seg seg' : AV} (hs : ss[s]? = some seg) (hl : segLen seg' = segLen seg) (hr : segK seg' = segK seg) : (ss.set s seg').map shapeS = ss.map shapeS := by
  rw [List.map_set, show shapeS seg' = shapeS seg from by unfold shapeS; rw [hl, hr]]
  have : (ss.map shapeS)[s]? = some (shapeS seg) := by rw [List.getElem?_map, hs]; rfl
  obtain ⟨h1, h2⟩ := List.getElem?_eq_some_iff.1 this
  rw [← h2]
  exact List.set_getElem_self h1
theorem sameRec_eq {a b : AV} (h : sameRec a b = true) : segK b = segK a := (Nat.eq_of_beq_eq_true h).symm
theorem segK_pool {s : AV} (h : segK s = 4) : ∃ k rows, s = .pool k rows := by cases s <;> first | exact ⟨_, _, rfl⟩ | simp [segK] at h
theorem shape_plain {new old : Blk} (h : new.map shapeS = old.map shapeS) (ho : isPool old = false) : isPool new = false := by
  cases hn : isPool new with
  | false => rfl
  | true =>
    unfold isPool at hn
    split at hn
    · rename_i k rows
      cases old with
      | nil => simp at h
      | cons s rest =>
        simp only [List.map_cons, List.map_nil, List.cons.injEq] at h
        obtain ⟨h1, h2⟩ := h
        have h2 : rest = [] := by simpa using h2.symm
        subst h2
        obtain ⟨k', rows', rfl⟩ := segK_pool (s := s) (congrArg Prod.snd h1).symm
        cases ho
    · cases hn

/-- Cells of one block have been written over: told by the abstract heap alone. -/
structure FlatPut (h h' : Heap) (p : Place) (us : List AV) (old new : Blk) : Prop where
  at_ : blk? h p.b = some old
  seg : p.s < old.length
  eq : h' = setB h p.b new
  row : p.b.r = 0 ∨ ∀ k xs, old = [.vec k xs] → ∃ ys, new = [.vec k ys]
  shape : new.map shapeS = old.map shapeS
  fit : lenOf (old.take p.s) + p.o + us.length ≤ (flat old).length
  get : ∀ i, (flat new)[i]? = if lenOf (old.take p.s) + p.o ≤ i ∧ i < lenOf (old.take p.s) + p.o + us.length then us[i - (lenOf (old.take p.s) + p.o)]? else (flat old)[i]?

theorem FlatPut.lens {h h' : Heap} {p : Place} {us : List AV} {old new : Blk} (q : FlatPut h h' p us old new) : new.map segLen = old.map segLen := shape_lens q.shape

theorem FlatPut.fits {h h' : Heap} {p : Place} {us : List AV} {old new : Blk} (q : FlatPut h h' p us old new) : fitB p.b old new := by
  rcases blk_cases q.at_ with ⟨h0, _, h2⟩ | ⟨r, k, rows, xs, h0, _, _, rfl⟩
  · exact .inl ⟨h0, shape_plain q.shape h2⟩
  · rcases q.row with e | hr
    · omega
    · obtain ⟨ys, e⟩ := hr k xs rfl
      exact .inr ⟨r, k, xs, ys, h0, rfl, e⟩

theorem seg_of_getSeg {h : Heap} {b : Key} {s : Nat} {v : AV} (hs : getSeg h b s = v) (hv : v ≠ .undef) (hx : has h b) : ∃ ss, blk? h b = some ss ∧ ss[s]? = some v ∧ blkD h b = ss := by
  unfold getSeg at hs
  cases hb : blk? h b with
  | none => obtain ⟨_, hx⟩ := hx; rw [hb] at hx; cases hx
  | some ss =>
    rw [blkD_of hb] at hs
    cases hq : ss[s]? with
    | none => exact absurd (by rw [← hs]; simp [List.getD_eq_getElem?_getD, hq]) hv
    | some x =>
      refine ⟨ss, rfl, ?_, blkD_of hb⟩
      rw [hq, ← hs]
      simp [List.getD_eq_getElem?_getD, hq]

theorem flatPut_seg {h : Heap} {p : Place} {seg seg' : AV} (hs : getSeg h p.b p.s = seg) (hne : seg ≠ .undef) (hx : has h p.b) (hl : segLen seg' = segLen seg) {us : List AV} (hin : p.o + us.length ≤ segLen seg)
    (hf : ∀ i, (segVals seg')[i]? = if p.o ≤ i ∧ i < p.o + us.length then us[i - p.o]? else (segVals seg)[i]?) (hr : segK seg' = segK seg := by rfl) (hv : ∀ k xs, seg = .vec k xs → ∃ ys, seg' = .vec k ys := by intro k xs e; cases e <;> exact ⟨_, rfl⟩) :
    ∃ old new, FlatPut h (setSeg h p.b p.s seg') p us old new := by
  obtain ⟨ss, hb, hq, hd⟩ := seg_of_getSeg hs hne hx
  have hsl := flat_set hq hl
  have e1 : lenOf (ss.take p.s) + segLen seg ≤ (flat ss).length := by
    have e1 : flat ss = flat (ss.take p.s) ++ (segVals seg ++ flat (ss.drop (p.s + 1))) := by
      rw [← flat_cons, ← drop_of_get hq, ← flat_append, List.take_append_drop]
    rw [e1]
    simp [flat_length, segVals_length]
  refine ⟨ss, ss.set p.s seg', hb, (List.getElem?_eq_some_iff.1 hq).1, by rw [setSeg, hd], .inr fun k xs e => ?_, map_set_shape hq hl hr, by omega, fun i => ?_⟩
  · subst e
    have h0 : p.s = 0 := by have := (List.getElem?_eq_some_iff.1 hq).1; simp at this; exact this
    rw [h0] at hq ⊢
    simp only [List.getElem?_cons_zero, Option.some.injEq] at hq
    obtain ⟨ys, e⟩ := hv k xs hq.symm
    exact ⟨ys, by rw [e]; rfl⟩
  rw [hsl]
  by_cases ha : lenOf (ss.take p.s) ≤ i ∧ i < lenOf (ss.take p.s) + segLen seg
  · rw [if_pos ha, hf]
    by_cases hb2 : lenOf (ss.take p.s) + p.o ≤ i ∧ i < lenOf (ss.take p.s) + p.o + us.length
    · rw [if_pos (by omega), if_pos hb2]
      congr 1
      omega
    · rw [if_neg (by omega), if_neg hb2]
      have := flat_drop_get ss p.s (i - lenOf (ss.take p.s))
      rw [show lenOf (ss.take p.s) + (i - lenOf (ss.take p.s)) = i by omega, drop_of_get hq, flat_cons, List.getElem?_append_left (by rw [segVals_length]; omega)] at this
      exact this.symm
  · rw [if_neg ha, if_neg (by omega)]

theorem VR.one {h : Heap} {μ : LMap} {v : AV} {c : Value} (hv : VR h μ v c) (h1 : isOne v = true) : c.oneCell' = true := by
  cases hv <;> first | rfl | simp [isOne] at h1

theorem cells_one {c : Value} (h : c.oneCell' = true) : c.cells.toList = [c] := by cases c <;> first | rfl | simp [Value.oneCell'] at h

theorem replaceSegs_spec : ∀ (ss l r : List AV), replaceSegs l ss = some r → r.map shapeS = l.map shapeS ∧ lenOf ss ≤ lenOf l ∧
    ∀ i, (flat r)[i]? = if i < lenOf ss then (flat ss)[i]? else (flat l)[i]?
  | [], l, r, h => by
    cases l <;> simp [replaceSegs] at h <;> subst h <;> exact ⟨rfl, by simp [lenOf], fun i => by simp [lenOf]⟩
  | s' :: ss, [], r, h => by simp [replaceSegs] at h
  | s' :: ss, s :: l, r, h => by
    simp only [replaceSegs] at h
    cases hc : (Nat.beq (segLen s) (segLen s') && (Nat.blt 0 (segLen s) && sameRec s s')) with
    | false => simp [hc] at h
    | true =>
      simp only [hc, cond_true] at h
      simp only [Bool.and_eq_true, Nat.blt_eq] at hc
      have he := Nat.eq_of_beq_eq_true hc.1
      cases hr : replaceSegs l ss with
      | none => simp [hr] at h
      | some r' =>
        simp only [hr, Option.some.injEq] at h
        subst h
        obtain ⟨h1, h2, h3⟩ := replaceSegs_spec ss l r' hr
        refine ⟨by simp [h1, shapeS, he, sameRec_eq hc.2.2], by simp [lenOf] at h2 ⊢; omega, fun i => ?_⟩
        rw [flat_cons, flat_cons, flat_cons]
        have g1 := segVals_length s'
        have g2 := segVals_length s
        have g3 : lenOf (s' :: ss) = segLen s' + lenOf ss := by simp [lenOf]
        by_cases hi : i < segLen s'
        · rw [List.getElem?_append_left (by omega), if_pos (by omega), List.getElem?_append_left (by omega)]
        · rw [List.getElem?_append_right (by omega), List.getElem?_append_right (by omega), List.getElem?_append_right (by omega), h3, g1, g2, he]
          by_cases hi2 : i - segLen s' < lenOf ss
          · rw [if_pos hi2, if_pos (by omega)]
          · rw [if_neg hi2, if_neg (by omega)]

/-- The cells of a struct or an array by value. -/
theorem VR.agg_cells {h : Heap} {μ : LMap} {ss : List AV} {c : Value} (hv : VR h μ (.agg ss) c) : ∃ cs : Array Value, c = .agg cs ∧ (flat ss).length = cs.size ∧ ∀ i, VR h μ ((flat ss).getD i .undef) (cs.getD i Go.undef) := by
  cases hv with
  | agg _ cs h1 h2 => exact ⟨cs, rfl, h1, h2⟩

theorem allB_spec {β : Type} {f : β → Bool} : ∀ {l : List β}, allB f l = true → ∀ x ∈ l, f x = true
  | [], _, x, hx => by cases hx
  | y :: l, h, x, hx => by
    simp only [allB] at h
    cases hy : f y with
    | false => simp [hy] at h
    | true =>
      simp only [hy, cond_true] at h
      cases hx with
      | head => exact hy
      | tail _ hx => exact allB_spec h x hx

theorem onesB_spec {ss : List AV} (h : onesB ss = true) {i : Nat} {v : AV} (hv : (flat ss)[i]? = some v) : isOne v = true := by
  have hm := List.mem_of_getElem? hv
  simp only [flat, List.mem_flatMap] at hm
  obtain ⟨s, hs, hvs⟩ := hm
  have := allB_spec h s hs
  cases s <;> simp only [segVals, segValsOf, List.mem_map, List.mem_range] at hvs
  case ints => obtain ⟨_, _, rfl⟩ := hvs; rfl
  case vec => obtain ⟨_, _, rfl⟩ := hvs; rfl
  case bools => obtain ⟨_, _, rfl⟩ := hvs; rfl
  case vals vs => exact allB_spec this v hvs
  case recs ks xs =>
    simp only [recVals, List.mem_map, List.mem_range] at hvs
    obtain ⟨i, _, rfl⟩ := hvs
    cases ks.getD (i % ks.length) none <;> rfl
  case hdr => obtain ⟨_, _, rfl⟩ := hvs; rfl
  case strs => obtain ⟨_, _, rfl⟩ := hvs; rfl
  all_goals cases hvs


def cellsOfAV : AV → List AV
  | .agg ss => flat ss
  | v => [v]

theorem flat_one (v : AV) : flat [v] = segVals v := by simp [flat]
theorem lenOf_one (v : AV) : lenOf [v] = segLen v := by simp [lenOf]

/-- What a store comes to, by the abstract heaps alone. -/
def Puts (ro : Nat) (p : Place) (v : AV) (h h' : Heap) : Prop :=
  ro ≤ p.b.b ∧ p.n = segLen (getSeg h p.b p.s) ∧ (∀ (i : Nat) (u : AV), (cellsOfAV v)[i]? = some u → isOne u = true) ∧ ∃ old new, FlatPut h h' p (cellsOfAV v) old new

theorem storeCell_puts {ro : Nat} {p : Place} {v : AV} {h : Heap} {K : Heap → Option α} (hv : ∀ ss, v ≠ .agg ss) (he : storeCell ro p v h K = some r) :
    ∃ h', K h' = some r ∧ Puts ro p v h h' := by
  have hcv : cellsOfAV v = [v] := by cases v <;> first | rfl | exact absurd rfl (hv _)
  have key : ∀ seg seg', ro ≤ p.b.b → getSeg h p.b p.s = seg → seg ≠ .undef → p.n = segLen seg → isOne v = true → segLen seg' = segLen seg → p.o < segLen seg →
      (∀ i, (segVals seg')[i]? = if i = p.o then some v else (segVals seg)[i]?) → segK seg' = segK seg → (∀ k xs, seg = .vec k xs → ∃ ys, seg' = .vec k ys) → Puts ro p v h (setSeg h p.b p.s seg') := by
    intro seg seg' hro hs hne hn h1 hl hin hf hr hv
    refine ⟨hro, by rw [hs]; exact hn, fun i u hu => ?_, flatPut_seg hs hne (has_of_pos (s := p.s) (by rw [hs]; omega)) hl (by rw [hcv]; simp; omega) (fun i => ?_) hr hv⟩
    · rw [hcv] at hu
      cases i with
      | zero => simp at hu; rw [← hu]; exact h1
      | succ i => simp at hu
    · rw [hcv, hf]
      by_cases e : i = p.o
      · subst e; simp
      · rw [if_neg e, if_neg (by simp; omega)]
  unfold storeCell at he
  obtain ⟨hro, he⟩ := br_fail he
  have hro := Nat.le_of_ble_eq_true hro
  split at he
  · rename_i k n f hs
    split at he
    · rename_i k' x
      obtain ⟨hb, hk⟩ := br_fail he
      simp only [Bool.and_eq_true, Nat.blt_eq] at hb
      have hn := Nat.eq_of_beq_eq_true hb.1.2
      have hkk := keq_eq hb.1.1
      subst hkk
      refine ⟨_, hk, key _ _ hro hs (by simp) hn rfl rfl hb.2 (fun i => ?_) rfl (by intro k xs e; cases e <;> exact ⟨_, rfl⟩)⟩
      by_cases hi : i < n
      · rw [seg_ints hi, seg_ints hi]
        by_cases e : i = p.o
        · rw [if_pos e]; simp [upd, e]
        · rw [if_neg e]
          simp only [upd]
          rw [beq_ne e]
          rfl
      · rw [if_neg (by omega), List.getElem?_eq_none (by simp [segVals, segValsOf]; omega), List.getElem?_eq_none (by simp [segVals, segValsOf]; omega)]
    · cases he
  · rename_i k xs hs
    split at he
    · rename_i k' x
      obtain ⟨hb, hk⟩ := br_fail he
      simp only [Bool.and_eq_true, Nat.blt_eq] at hb
      have hn := Nat.eq_of_beq_eq_true hb.1.2
      have hkk := keq_eq hb.1.1
      subst hkk
      refine ⟨_, hk, key _ _ hro hs (by simp) hn rfl (by simp [segLen]) hb.2 (fun i => ?_) rfl (by intro k xs e; cases e <;> exact ⟨_, rfl⟩)⟩
      simp only [segVals, segValsOf, List.getElem?_map, List.getElem?_set]
      by_cases e : p.o = i
      · subst e
        rw [if_pos rfl, if_pos hb.2, if_pos rfl]
        rfl
      · rw [if_neg e, if_neg (Ne.symm e)]
    · cases he
  · rename_i n f hs
    split at he
    · rename_i x
      obtain ⟨hb, hk⟩ := br_fail he
      simp only [Bool.and_eq_true, Nat.blt_eq] at hb
      have hn := Nat.eq_of_beq_eq_true hb.1
      refine ⟨_, hk, key _ _ hro hs (by simp) hn rfl rfl hb.2 (fun i => ?_) rfl (by intro k xs e; cases e <;> exact ⟨_, rfl⟩)⟩
      by_cases hi : i < n
      · rw [seg_bools hi, seg_bools hi]
        by_cases e : i = p.o
        · rw [if_pos e]; simp [upd, e]
        · rw [if_neg e]
          simp only [upd]
          rw [beq_ne e]
          rfl
      · rw [if_neg (by omega), List.getElem?_eq_none (by simp [segVals, segValsOf]; omega), List.getElem?_eq_none (by simp [segVals, segValsOf]; omega)]
    · cases he
  · rename_i vs hs
    obtain ⟨hb, hk⟩ := br_fail he
    simp only [Bool.and_eq_true, Nat.blt_eq] at hb
    have hn := Nat.eq_of_beq_eq_true hb.1.2
    refine ⟨_, hk, key _ _ hro hs (by simp) hn hb.1.1 (by simp [segLen]) hb.2 (fun i => ?_) rfl (by intro k xs e; cases e <;> exact ⟨_, rfl⟩)⟩
    simp only [segVals, segValsOf, List.getElem?_set]
    by_cases e : p.o = i
    · subst e
      rw [if_pos rfl, if_pos hb.2, if_pos rfl]
    · rw [if_neg e, if_neg (Ne.symm e)]
  · rename_i pb ids hs
    split at he
    · rename_i q len cap es ex _
      split at he
      · rename_i r1 hr
        obtain ⟨hb, hk⟩ := br_fail he
        simp only [Bool.and_eq_true, Nat.blt_eq, Bool.not_eq_true'] at hb
        obtain ⟨b0, ⟨b1, b2⟩, b3, b4, b5, b6, b7, b8⟩ := hb
        have hn := Nat.eq_of_beq_eq_true b1
        have e3 := Nat.eq_of_beq_eq_true b3
        have e4 := Nat.eq_of_beq_eq_true b4
        have e5 := Nat.eq_of_beq_eq_true b5
        have e6 := Nat.eq_of_beq_eq_true b6
        have e7 := Nat.eq_of_beq_eq_true b7
        have e8 := Nat.eq_of_beq_eq_true b8
        have hcell : idCell pb (r1, len) = .slice q len cap es ex := by
          obtain ⟨⟨qb, qr⟩, qs, qo, qn⟩ := q
          simp only at e3 e4 e5 e6 hr
          subst e3 e4 e5 e6 e7 e8 hr b0
          rfl
        refine ⟨_, hk, key _ _ hro hs (by simp) hn rfl (by simp [segLen]) b2 (fun i => ?_) rfl (by intro k xs e; cases e <;> exact ⟨_, rfl⟩)⟩
        simp only [segVals, segValsOf, List.getElem?_map, List.getElem?_set]
        by_cases e : p.o = i
        · subst e
          rw [if_pos rfl, if_pos b2, if_pos rfl, ← hcell]
          rfl
        · rw [if_neg e, if_neg (Ne.symm e)]
      · cases he
    · cases he
  · rename_i xs hs
    split at he
    · rename_i x
      obtain ⟨hb, hk⟩ := br_fail he
      simp only [Bool.and_eq_true, Nat.blt_eq] at hb
      have hn := Nat.eq_of_beq_eq_true hb.1
      refine ⟨_, hk, key _ _ hro hs (by simp) hn rfl (by simp [segLen]) hb.2 (fun i => ?_) rfl (by intro k xs e; cases e <;> exact ⟨_, rfl⟩)⟩
      simp only [segVals, segValsOf, List.getElem?_map, List.getElem?_set]
      by_cases e : p.o = i
      · subst e
        rw [if_pos rfl, if_pos hb.2, if_pos rfl]
        rfl
      · rw [if_neg e, if_neg (Ne.symm e)]
    · cases he
  · cases he

theorem chooseF_at {β : Type} {f g : Nat → β} {o m n i : Nat} (h : o + m ≤ n) (hi : i < n) : chooseF (Nat.beq m n) g (spliceF f o m g) i = spliceF f o m g i := by
  unfold chooseF
  cases hb : Nat.beq m n with
  | false => rfl
  | true =>
    have := Nat.eq_of_beq_eq_true hb
    have ho : o = 0 := by omega
    subst ho
    simp only [cond_true, spliceF, Nat.zero_add, Nat.sub_zero]
    rw [show (Nat.ble 0 i && Nat.blt i m) = true from by simp only [Bool.and_eq_true, Nat.ble_eq, Nat.blt_eq]; omega]
    rfl
theorem storeAgg_puts {ro : Nat} {p : Place} {ss : List AV} {h : Heap} {K : Heap → Option α} (h0 : 0 < lenOf ss) (he : storeAgg ro p ss h K = some r) :
    ∃ h', K h' = some r ∧ Puts ro p (.agg ss) h h' := by
  unfold storeAgg at he
  obtain ⟨hro, he⟩ := br_fail he
  simp only [Bool.and_eq_true, Nat.ble_eq] at hro
  obtain ⟨hro, h1⟩ := hro
  have hone : ∀ (i : Nat) (u : AV), (cellsOfAV (.agg ss))[i]? = some u → isOne u = true := fun i u hu => onesB_spec h1 hu
  have hl2 := flat_length ss
  split at he
  · rename_i k n f k' m g hs _
    obtain ⟨hb, hk⟩ := br_fail he
    simp only [Bool.and_eq_true, Nat.ble_eq] at hb
    have hn := Nat.eq_of_beq_eq_true hb.1.2
    have hkk := keq_eq hb.1.1
    subst hkk
    refine ⟨_, hk, hro, by rw [hs]; exact hn, hone, ?_⟩
    rw [show ∀ v, cellsOfAV (.agg [v]) = segVals v from fun v => flat_one v]
    refine flatPut_seg (seg' := .ints k n (chooseF (Nat.beq m n) g (spliceF f p.o m g))) (us := segVals (.ints k m g)) hs (by simp) (has_of_pos (s := p.s) (by rw [hs]; simp [lenOf, segLen] at h0 ⊢; omega)) rfl (by rw [segVals_length]; exact hb.2) fun i => ?_
    rw [segVals_length, show segLen (AV.ints k m g) = m from rfl]
    by_cases hi : i < n
    · rw [seg_ints hi, seg_ints hi, chooseF_at hb.2 hi]
      by_cases e : p.o ≤ i ∧ i < p.o + m
      · rw [if_pos e, seg_ints (by omega)]
        simp only [spliceF]
        rw [show (Nat.ble p.o i && Nat.blt i (p.o + m)) = true from by simp only [Bool.and_eq_true, Nat.ble_eq, Nat.blt_eq]; exact e]
        rfl
      · rw [if_neg e]
        simp only [spliceF]
        rw [show (Nat.ble p.o i && Nat.blt i (p.o + m)) = false from by
          rw [← Bool.not_eq_true]; simp only [Bool.and_eq_true, Nat.ble_eq, Nat.blt_eq]; exact e]
        rfl
    · rw [if_neg (by omega), List.getElem?_eq_none (by simp [segVals, segValsOf]; omega), List.getElem?_eq_none (by simp [segVals, segValsOf]; omega)]
  · rename_i ss _ _ hne _
    split at he
    · rename_i rs ho hrs
      obtain ⟨hb, hk⟩ := br_fail he
      simp only [Bool.and_eq_true] at hb
      have hr0 := Nat.eq_of_beq_eq_true hb.1
      have hn := Nat.eq_of_beq_eq_true hb.2
      obtain ⟨q1, q2, q3⟩ := replaceSegs_spec _ _ _ hrs
      have hex : ∃ old, blk? h p.b = some old ∧ blkD h p.b = old ∧ p.s < old.length := by
        cases hq : blk? h p.b with
        | none => rw [blkD_no hr0 hq] at q2; simp [lenOf] at q2; simp [lenOf] at h0; omega
        | some old =>
          have hd : blkD h p.b = old := blkD_of hq
          refine ⟨old, rfl, hd, ?_⟩
          rcases Nat.lt_or_ge p.s old.length with h | h
          · exact h
          · rw [hd, List.drop_eq_nil_of_le h] at q2
            simp [lenOf] at q2 h0
            omega
      obtain ⟨old, hb, hd, hlt⟩ := hex
      rw [hd] at q1 q2 q3 hk
      have e : flat old = flat (old.take p.s) ++ flat (old.drop p.s) := by rw [← flat_append, List.take_append_drop]
      have g3 := flat_length (old.take p.s)
      have g4 := flat_length (old.drop p.s)
      refine ⟨_, hk, hro, hn, hone, old, _, hb, hlt, rfl, .inl hr0, ?_, ?_, fun i => ?_⟩
      · rw [List.map_append, q1, ← List.map_append, List.take_append_drop]
      · rw [e, List.length_append, ho]
        simp only [cellsOfAV]
        omega
      · rw [show cellsOfAV (.agg ss) = flat ss from rfl, flat_append, e, ho]
        by_cases hi : i < lenOf (old.take p.s)
        · rw [List.getElem?_append_left (by omega), if_neg (by omega), List.getElem?_append_left (by omega)]
        · rw [List.getElem?_append_right (by omega), q3, g3, hl2]
          by_cases hi2 : i - lenOf (old.take p.s) < lenOf ss
          · rw [if_pos hi2, if_pos (by omega)]
            rfl
          · rw [if_neg hi2, if_neg (by omega), List.getElem?_append_right (by omega), g3]
    · split at he
      · rename_i k xs k' m g hs _ _
        obtain ⟨hb, hk⟩ := br_fail he
        simp only [Bool.and_eq_true, Nat.ble_eq] at hb
        have hn := Nat.eq_of_beq_eq_true hb.1.2
        have hkk := keq_eq hb.1.1
        subst hkk
        refine ⟨_, hk, hro, by rw [hs]; exact hn, hone, ?_⟩
        rw [show ∀ v, cellsOfAV (.agg [v]) = segVals v from fun v => flat_one v]
        refine flatPut_seg (us := segVals (.ints k m g)) hs (by simp) (has_of_pos (s := p.s) (by rw [hs]; simp [lenOf, segLen] at h0 ⊢; omega)) (by simp [segLen]; omega) (by rw [segVals_length]; exact hb.2) fun i => ?_
        rw [segVals_length, show segLen (AV.ints k m g) = m from rfl]
        simp only [segVals, segValsOf, List.map_append, List.map_take, List.map_drop, List.map_map]
        by_cases e1 : i < p.o
        · rw [if_neg (by omega), List.getElem?_append_left (by simp; omega), List.getElem?_take, if_pos e1]
        · rw [List.getElem?_append_right (by simp; omega)]
          by_cases e2 : i < p.o + m
          · rw [if_pos (by omega), List.getElem?_append_left (by simp; omega)]
            simp only [List.length_take, List.length_map, List.getElem?_map, Nat.min_eq_left (by omega : p.o ≤ xs.length)]
            rfl
          · rw [if_neg (by omega), List.getElem?_append_right (by simp; omega), List.getElem?_drop]
            simp only [List.length_take, List.length_map, List.length_range, Nat.min_eq_left (by omega : p.o ≤ xs.length)]
            congr 1
            omega
      · rename_i vs us hs _ _
        obtain ⟨hb, hk⟩ := br_fail he
        simp only [Bool.and_eq_true, Nat.ble_eq] at hb
        have hn := Nat.eq_of_beq_eq_true hb.1
        refine ⟨_, hk, hro, by rw [hs]; exact hn, hone, ?_⟩
        rw [show ∀ v, cellsOfAV (.agg [v]) = segVals v from fun v => flat_one v]
        refine flatPut_seg (us := segVals (.vals us)) hs (by simp) (has_of_pos (s := p.s) (by rw [hs]; simp [lenOf, segLen] at h0 ⊢; omega)) (by simp [segLen]; omega) (by rw [segVals_length]; exact hb.2) fun i => ?_
        rw [segVals_length, show segLen (AV.vals us) = us.length from rfl]
        simp only [segVals, segValsOf]
        by_cases e1 : i < p.o
        · rw [if_neg (by omega), List.getElem?_append_left (by simp; omega), List.getElem?_take, if_pos e1]
        · rw [List.getElem?_append_right (by simp; omega)]
          by_cases e2 : i < p.o + us.length
          · rw [if_pos (by omega), List.getElem?_append_left (by simp; omega)]
            simp only [List.length_take, Nat.min_eq_left (by omega : p.o ≤ vs.length)]
          · rw [if_neg (by omega), List.getElem?_append_right (by simp; omega), List.getElem?_drop]
            simp only [List.length_take, Nat.min_eq_left (by omega : p.o ≤ vs.length)]
            congr 1
            omega
      · cases he

theorem chooseL_eq {β : Type} {ys xs : List β} {o : Nat} (h : o + ys.length ≤ xs.length) : chooseL (Nat.beq ys.length xs.length) ys (xs.take o ++ (ys ++ xs.drop (o + ys.length))) = xs.take o ++ (ys ++ xs.drop (o + ys.length)) := by
  unfold chooseL
  cases hb : Nat.beq ys.length xs.length with
  | false => rfl
  | true =>
    have := Nat.eq_of_beq_eq_true hb
    have ho : o = 0 := by omega
    subst ho
    simp [this]
theorem unconv_spec {k : Option IntKind} {v : AV} {n : Int} (h : unconv k v = some n) : convC k n = v ∧ isOne v = true := by
  unfold unconv at h
  split at h
  · rename_i k k' m
    cases hk : keq k k' with
    | false => simp [hk] at h
    | true =>
      simp only [hk, cond_true, Option.some.injEq] at h
      subst h
      rw [keq_eq hk]
      exact ⟨rfl, rfl⟩
  · rename_i b
    simp only [Option.some.injEq] at h
    subst h
    cases b <;> exact ⟨rfl, rfl⟩
  · cases h
theorem toRec_spec : ∀ {ks : List (Option IntKind)} {vs : List AV} {ys : List Int}, toRec ks vs = some ys → ys.length = ks.length ∧ vs.length = ks.length ∧
    ∀ (i : Nat), i < ks.length → vs[i]? = some (convC (ks.getD i none) (ys.getD i 0)) ∧ ∀ u, vs[i]? = some u → isOne u = true
  | [], [], ys, h => by
    simp only [toRec, Option.some.injEq] at h
    subst h
    exact ⟨rfl, rfl, fun i hi => by simp at hi⟩
  | [], _ :: _, ys, h => by simp [toRec] at h
  | _ :: _, [], ys, h => by simp [toRec] at h
  | k :: ks, v :: vs, ys, h => by
    simp only [toRec] at h
    split at h
    · rename_i n r h1 h2
      simp only [Option.some.injEq] at h
      subst h
      obtain ⟨g1, g2, g3⟩ := toRec_spec h2
      obtain ⟨e1, e2⟩ := unconv_spec h1
      refine ⟨by simp [g1], by simp [g2], fun i hi => ?_⟩
      cases i with
      | zero => exact ⟨by simp [e1], fun u hu => by simp at hu; rw [← hu]; exact e2⟩
      | succ i => simpa using g3 i (by simpa using hi)
    · cases h
theorem recs_splice {ks : List (Option IntKind)} {xs ys : List Int} {us : List AV} {o : Nat} (ho : o % ks.length = 0) (hfit : o + ys.length ≤ xs.length) (hlen : us.length = ys.length)
    (hus : ∀ i, i < ys.length → us[i]? = some (convC (ks.getD (i % ks.length) none) (ys.getD i 0))) (i : Nat) :
    (recVals ks (xs.take o ++ (ys ++ xs.drop (o + ys.length))))[i]? = if o ≤ i ∧ i < o + us.length then us[i - o]? else (recVals ks xs)[i]? := by
  have hl : (xs.take o ++ (ys ++ xs.drop (o + ys.length))).length = xs.length := by simp; omega
  by_cases hi : i < xs.length
  · rw [recVals_get (by omega)]
    by_cases hr : o ≤ i ∧ i < o + us.length
    · rw [if_pos hr, hus (i - o) (by omega)]
      obtain ⟨j, rfl⟩ := Nat.exists_eq_add_of_le hr.1
      rw [Nat.add_sub_cancel_left]
      have e1 : (o + j) % ks.length = j % ks.length := by rw [Nat.add_mod, ho, Nat.zero_add, Nat.mod_mod]
      have e2 : (xs.take o ++ (ys ++ xs.drop (o + ys.length))).getD (o + j) 0 = ys.getD j 0 := by
        rw [List.getD_eq_getElem?_getD, List.getD_eq_getElem?_getD, List.getElem?_append_right (by simp; omega), List.getElem?_append_left (by simp; omega)]
        simp only [List.length_take, Nat.min_eq_left (show o ≤ xs.length by omega), Nat.add_sub_cancel_left]
      rw [e1, e2]
    · rw [if_neg hr, recVals_get hi]
      congr 2
      rw [List.getD_eq_getElem?_getD, List.getD_eq_getElem?_getD]
      by_cases e1 : i < o
      · rw [List.getElem?_append_left (by simp; omega), List.getElem?_take, if_pos e1]
      · rw [List.getElem?_append_right (by simp; omega), List.getElem?_append_right (by simp; omega), List.getElem?_drop]
        simp only [List.length_take, Nat.min_eq_left (show o ≤ xs.length by omega)]
        congr 2
        omega
  · rw [if_neg (by omega), List.getElem?_eq_none (by simp [recVals]; omega), List.getElem?_eq_none (by simp [recVals]; omega)]
theorem storeRow_puts {ro : Nat} {p : Place} {ss : List AV} {h : Heap} {K : Heap → Option α} (h0 : 0 < lenOf ss) (he : storeRow ro p ss h K = some r) :
    ∃ h', K h' = some r ∧ Puts ro p (.agg ss) h h' := by
  unfold storeRow at he
  split at he
  · rename_i ks xs hs
    obtain ⟨hro, he⟩ := br_fail he
    have hro := Nat.le_of_ble_eq_true hro
    split at he
    · rename_i ys hys
      obtain ⟨hb, hk⟩ := br_fail he
      simp only [Bool.and_eq_true, Nat.ble_eq] at hb
      obtain ⟨b1, b2, b3⟩ := hb
      obtain ⟨g1, g2, g3⟩ := toRec_spec hys
      have hfl : cellsOfAV (.agg ss) = ss.flatMap segValsOf := rfl
      rw [chooseL_eq b3] at hk
      refine ⟨_, hk, hro, by rw [hs]; exact Nat.eq_of_beq_eq_true b1, fun i u hu => ?_, ?_⟩
      · rw [hfl] at hu
        exact (g3 i (by rw [← g2]; exact (List.getElem?_eq_some_iff.1 hu).1)).2 u hu
      · rw [hfl]
        refine flatPut_seg (us := ss.flatMap segValsOf) hs (by simp) (has_of_pos (s := p.s) (by rw [hs]; have hfl2 : (ss.flatMap segValsOf).length = lenOf ss := flat_length ss; simp only [segLen]; omega)) (by simp [segLen]; omega) (by simp only [segLen]; omega) fun i => ?_
        exact recs_splice (Nat.eq_of_beq_eq_true b2) b3 (by omega) (fun i hi => by rw [Nat.mod_eq_of_lt (by omega)]; exact (g3 i (by omega)).1) i
    · cases he
  · exact storeAgg_puts h0 he
theorem storeAt_puts {ro : Nat} {p : Place} {v : AV} {h : Heap} {K : Heap → Option α} (h0 : 0 < cellsIn v) (he : storeAt ro p v h K = some r) :
    ∃ h', K h' = some r ∧ Puts ro p v h h' := by
  unfold storeAt at he
  split at he
  · exact storeRow_puts h0 he
  · rename_i hne
    exact storeCell_puts (fun ss e => hne ss e) he

/-- The cells of a value, abstract and concrete. -/
theorem VR.cells {h : Heap} {μ : LMap} {v : AV} {c : Value} (hv : VR h μ v c) (h1 : ∀ (i : Nat) (u : AV), (cellsOfAV v)[i]? = some u → isOne u = true) :
    (cellsOfAV v).length = c.cells.toList.length ∧ ∀ i, i < (cellsOfAV v).length → ∃ u d, (cellsOfAV v)[i]? = some u ∧ c.cells.toList[i]? = some d ∧ d.oneCell' = true ∧ VR h μ u d := by
  by_cases ha : ∃ ss, v = .agg ss
  · obtain ⟨ss, rfl⟩ := ha
    obtain ⟨cs, rfl, hlen, hvs⟩ := hv.agg_cells
    refine ⟨by simpa [cellsOfAV, Value.cells] using hlen, fun i hi => ?_⟩
    simp only [cellsOfAV, Value.cells] at hi h1 ⊢
    have e1 : (flat ss)[i]? = some (flat ss)[i] := List.getElem?_eq_getElem hi
    have hc : i < cs.size := by omega
    have e3 := hvs i
    rw [show (flat ss).getD i .undef = (flat ss)[i] by simp [List.getD_eq_getElem?_getD, hi], show cs.getD i Go.undef = cs[i] by simp [Array.getD, hc]] at e3
    exact ⟨_, cs[i], e1, by simp [hc], e3.one (h1 i _ e1), e3⟩
  · have hcv : cellsOfAV v = [v] := by cases v <;> first | rfl | exact absurd ⟨_, rfl⟩ ha
    rw [hcv] at h1 ⊢
    have hone := hv.one (h1 0 v rfl)
    rw [cells_one hone]
    refine ⟨rfl, fun i hi => ?_⟩
    have : i = 0 := by simpa using hi
    subst this
    exact ⟨v, c, rfl, rfl, hone, hv⟩

theorem puts_sound {ro : Nat} {t : TypeId} {p : Place} {v : AV} {h h' : Heap} (hsz : P.cellsOf t = cellsIn v) (h0 : 0 < P.cellsOf t) (hp : Puts ro p v h h') : StoreSem P ro t p v h h' := by
  obtain ⟨hro, hn, h1, old, new, hp⟩ := hp
  intro μ w a c hpa hv H
  obtain ⟨L, k, base, room, g1, g2, rfl⟩ := fresh_of hpa hn
  obtain ⟨hlen, hus⟩ := hv.cells h1
  have hcl : (cellsOfAV v).length = cellsIn v := by
    cases v <;> first | rfl | exact flat_length _
  obtain ⟨_, hr, hx, _⟩ := H.at_ p.b old k base room hp.at_ g2
  have hfit := hp.fit
  rw [segOff_eq (s := p.s) hp.at_, Nat.add_assoc]
  obtain ⟨r1, r2⟩ := H.write hp.at_ hp.fits hro g2 hp.lens hlen hp.fit hus hp.get
  refine ⟨_, run_storeVar rfl (by omega) h0 (fun j hj => ?_) (fun j hj => ?_) (fun x hx => ?_), hp.eq ▸ r1, hp.eq ▸ r2⟩
  · obtain ⟨⟨d, hd⟩, _⟩ := hx (lenOf (old.take p.s) + p.o + j) (by omega)
    rw [Nat.add_assoc, hd]
    rfl
  · obtain ⟨_, hd⟩ := hx (lenOf (old.take p.s) + p.o + j) (by omega)
    rw [Nat.add_assoc, hd]
  · obtain ⟨i, hi, rfl⟩ := List.mem_iff_getElem.1 hx
    obtain ⟨u, d, _, q2, q3, _⟩ := hus i (by omega)
    rw [List.getElem?_eq_getElem hi] at q2
    cases q2
    exact q3

theorem storeAt_sound {ro : Nat} {t : TypeId} {p : Place} {v : AV} {h : Heap} {K : Heap → Option α} (hsz : P.cellsOf t = cellsIn v) (h0 : 0 < P.cellsOf t) (he : storeAt ro p v h K = some r) :
    ∃ h', K h' = some r ∧ StoreSem P ro t p v h h' := by
  obtain ⟨h', hk, hp⟩ := storeAt_puts (by omega) he
  exact ⟨h', hk, puts_sound hsz h0 hp⟩

/-- A pointer to a column is a pointer. -/
theorem VR.rptr_ptr {h : Heap} {μ : LMap} {p : Place} {c : Nat} {v : Value} (hv : VR h μ (.rptr p c) v) : VR h μ (.ptr { p with o := p.o + c }) v := by
  cases hv with
  | rptr _ _ a L h1 h2 h3 =>
    refine .ptr _ a L h1 h2 fun e => ?_
    obtain ⟨k, base, room, h4, h5⟩ := h3 e
    exact ⟨k, base, room, h4, by rw [h5, Nat.add_assoc _ p.o c]⟩

theorem storeRec_puts {ro : Nat} {p : Place} {c : Nat} {v : AV} {h : Heap} {K : Heap → Option α} (he : storeRec ro p c v h K = some r) :
    ∃ h', K h' = some r ∧ cellsIn v = 1 ∧ Puts ro { p with o := p.o + c } v h h' := by
  unfold storeRec at he
  obtain ⟨hro, he⟩ := br_fail he
  have hro := Nat.le_of_ble_eq_true hro
  split at he
  · rename_i ks xs hs
    split at he
    · rename_i n hn
      obtain ⟨hb, hk⟩ := br_fail he
      simp only [Bool.and_eq_true, Nat.ble_eq, Nat.blt_eq] at hb
      obtain ⟨b1, b2, b3, b4⟩ := hb
      have b3 := Nat.eq_of_beq_eq_true b3
      obtain ⟨e1, e2⟩ := unconv_spec hn
      have hcv : cellsOfAV v = [v] := by cases v <;> first | rfl | simp [isOne] at e2
      have hci : cellsIn v = 1 := by cases v <;> first | rfl | simp [isOne] at e2
      refine ⟨_, hk, hci, ⟨hro, by rw [show ({ p with o := p.o + c } : Place).b = p.b from rfl, show ({ p with o := p.o + c } : Place).s = p.s from rfl, hs]; exact Nat.eq_of_beq_eq_true b1, fun i u hu => ?_, ?_⟩⟩
      · rw [hcv] at hu
        cases i with
        | zero => simp at hu; rw [← hu]; exact e2
        | succ i => simp at hu
      · rw [hcv]
        refine flatPut_seg (p := { p with o := p.o + c }) (us := [v]) hs (by simp) (has_of_pos (h := h) (b := p.b) (s := p.s) (by rw [hs]; simp only [segLen]; omega)) (by simp [segLen]) (by simp only [segLen, List.length_singleton]; omega) fun i => ?_
        simp only [segValsOf, List.length_singleton]
        by_cases hi : i < xs.length
        · rw [recVals_get (by simpa using hi)]
          by_cases hr : i = p.o + c
          · subst hr
            have e3 : (p.o + c) % ks.length = c := by rw [Nat.add_mod, b3, Nat.zero_add, Nat.mod_mod, Nat.mod_eq_of_lt b2]
            rw [if_pos (by omega), Nat.sub_self, e3, addO_eq]
            have e5 : (xs.set (p.o + c) n).getD (p.o + c) 0 = n := by rw [List.getD_eq_getElem?_getD, List.getElem?_set, if_pos rfl, if_pos hi]; rfl
            rw [e5, e1]
            rfl
          · have e5 : (xs.set (p.o + c) n).getD i 0 = xs.getD i 0 := by rw [List.getD_eq_getElem?_getD, List.getElem?_set, if_neg (by omega), List.getD_eq_getElem?_getD]
            rw [if_neg (by omega), recVals_get hi, addO_eq, e5]
        · rw [if_neg (by omega), List.getElem?_eq_none (by simp [recVals]; omega), List.getElem?_eq_none (by simp [recVals]; omega)]
    · cases he
  · cases he
theorem storeRec_sound {ro : Nat} {t : TypeId} {p : Place} {c : Nat} {v : AV} {h : Heap} {K : Heap → Option α} (hsz : P.cellsOf t = 1) (he : storeRec ro p c v h K = some r) :
    ∃ h', K h' = some r ∧ StoreSem P ro t { p with o := p.o + c } v h h' := by
  obtain ⟨h', hk, hci, hp⟩ := storeRec_puts he
  exact ⟨h', hk, puts_sound (by omega) (by omega) hp⟩
end
end Go.AM
