/- A part of a proof about the given program: an abstract machine, what the given functions come to, and plain laws. -/
import Derived.Test.YtkboldcnkkolkaaAMDraw2
namespace Go.AM
section
variable {α : Type} {r : α} {P : Program} {ro : Nat} {ops : Array Oper} {S : Nat → St} {anc : Nat → Nat → Prop} {a0 a : Act} {w0 w : World} {μ0 μ : LMap} {l : Array Bool} {m j : Nat} {o : Oper}

theorem eval_of_reads {h : Heap} {t : List AV} {a : Act} {all : List Oper} {o : Oper} (hr : ∀ s, s ∈ readsOf all o → VR h μ (t.getD s .undef) (a.tmps.getD s Go.undef)) :
    ∀ x, x ∈ o.op.operands → VR h μ (evalO t x) (a.eval x) := by
  intro x hx
  cases x with
  | tmp s => exact hr s (reads_op hx)
  | const c => exact evalO_const h μ t c
  | global g => exact .undef _
  | func f => exact .func f [] #[] rfl fun i => by simpa using VR.undef _

/-- Blocks keep their shapes. -/
def ShapeLe (h h' : Heap) : Prop := ∀ (b : Key) (ss : Blk), blk? h b = some ss → ∃ ss', blk? h' b = some ss' ∧ shapeB ss' = shapeB ss
theorem ShapeLe.refl (h : Heap) : ShapeLe h h := fun _ ss e => ⟨ss, e, rfl⟩
theorem ShapeLe.trans {h h1 h2 : Heap} (a : ShapeLe h h1) (b : ShapeLe h1 h2) : ShapeLe h h2 := fun x ss e => by
  obtain ⟨s1, e1, f1⟩ := a x ss e
  obtain ⟨s2, e2, f2⟩ := b x s1 e1
  exact ⟨s2, e2, f2.trans f1⟩
theorem ShapeLe.of_prefix {h h' : Heap} (hp : h <+: h') : ShapeLe h h' := fun b ss e => ⟨ss, by rw [prefix_blk hp (has_lt ⟨_, e⟩)]; exact e, rfl⟩
theorem ShapeLe.of_set {h : Heap} {b : Key} {old new : Blk} (hb : blk? h b = some old) (hf : fitB b old new) (hs : shapeB new = shapeB old) : ShapeLe h (setB h b new) := fun x ss e => by
  rw [setB_get hb hf]
  by_cases hx : x = b
  · subst hx
    rw [hb] at e
    cases e
    rw [if_pos rfl]
    exact ⟨new, rfl, hs⟩
  · rw [if_neg hx]
    exact ⟨ss, e, rfl⟩

/-- A store of a region, or an operation that its guard holds back. -/
theorem StepOk.isStore {all : List Oper} {o : Oper} {s s' : St} (h : StepOk P true ro all o s s') (hS : isS o.op = true) : s'.h = s.h ∨ ∃ ty x y b old new, o.op = .store ty x y ∧ s'.h = setB s.h b new ∧ blkOf (evalO s.t x) = some b ∧ blk? s.h b = some old ∧ fitB b old new ∧ shapeB new = shapeB old := by
  cases h with
  | skip _ e => exact .inl (by rw [e])
  | pure v _ hp _ _ => have := isP_notW hp; rw [isS_W hS] at this; cases this
  | look v _ hp _ _ => have := isQ_notW hp; rw [isS_W hS] at this; cases this
  | load v _ hp _ _ => have := isL_notW hp; rw [isS_W hS] at this; cases this
  | new v ss _ hp _ _ => have := isA_notW hp; rw [isS_W hS] at this; cases this
  | store ty x y b old new _ ho e h1 h2 h3 h4 _ => exact .inr ⟨ty, x, y, b, old, new, ho, by rw [e], h1, h2, h3, h4⟩
  | run v h' _ hf _ _ => rcases hf with hf | hf; · rw [(isF_not hf).2.2.2.2] at hS; cases hS
                         cases hf

/-- Between two places of the text where no other than stores write. -/
theorem Text.shape {i j : Nat} (T : Text P ro ops S) (hij : i ≤ j) (hj : j ≤ ops.size) (hw : ∀ k o, i ≤ k → k < j → ops[k]? = some o → isW o.op = true → isS o.op = true) : ShapeLe (S i).h (S j).h := by
  obtain ⟨d, rfl⟩ := Nat.exists_eq_add_of_le hij
  clear hij
  induction d with
  | zero => exact .refl _
  | succ d ih =>
    have ho : ops[i + d]? = some ops[i + d] := by simp [show i + d < ops.size by omega]
    have hs := T.steps _ _ ho
    refine (ih (by omega) fun k o h1 h2 => hw k o h1 (by omega)).trans ?_
    cases hq : isW ops[i + d].op with
    | false => exact .of_prefix (((T.reach (i + d) (by omega)).step hs).2.2 hq)
    | true =>
      rcases hs.isStore (hw _ _ (by omega) (by omega) ho hq) with e | ⟨ty, x, y, b, old, new, _, e, _, h2, hf, h3⟩
      · rw [show i + (d + 1) = i + d + 1 by omega, e]; exact .refl _
      · rw [show i + (d + 1) = i + d + 1 by omega, e]; exact .of_set h2 hf h3

/-- The loads that may come behind a later store read other blocks. -/
def Apart (ops : Array Oper) (S : Nat → St) (anc : Nat → Nat → Prop) : Prop :=
  ∀ i k oi ok, i < k → ops[i]? = some oi → ops[k]? = some ok → ∀ ti x tk y z, oi.op = .load ti x → ok.op = .store tk y z → anc k i ∨ ∃ b b', blkOf (evalO (S i).t x) = some b ∧ blkOf (evalO (S k).t y) = some b' ∧ b.b ≠ b'.b

theorem Text.sameBlk {i j : Nat} {b : Key} (T : Text P ro ops S) (hij : i ≤ j) (hj : j ≤ ops.size) (hb : b.b < (S i).h.length)
    (hw : ∀ k o, i ≤ k → k < j → ops[k]? = some o → isW o.op = true → isS o.op = true ∧ ∀ tk y z, o.op = .store tk y z → ∃ b', blkOf (evalO (S k).t y) = some b' ∧ b.b ≠ b'.b) : blk? (S j).h b = blk? (S i).h b := by
  obtain ⟨d, rfl⟩ := Nat.exists_eq_add_of_le hij
  clear hij
  induction d with
  | zero => rfl
  | succ d ih =>
    have ho : ops[i + d]? = some ops[i + d] := by simp [show i + d < ops.size by omega]
    have hs := T.steps _ _ ho
    rw [← ih (by omega) fun k o h1 h2 => hw k o h1 (by omega)]
    have hlen := T.len (show i ≤ i + d by omega) (by omega)
    cases hq : isW ops[i + d].op with
    | false => exact prefix_blk (((T.reach (i + d) (by omega)).step hs).2.2 hq) (by omega)
    | true =>
      obtain ⟨h1, h2⟩ := hw _ _ (by omega) (by omega) ho hq
      rcases hs.isStore h1 with e | ⟨ty, x, y, b0, old, new, eo, e, h3, h4, h5, h6⟩
      · rw [show i + (d + 1) = i + d + 1 by omega, e]
      · obtain ⟨b', g1, g2⟩ := h2 _ _ _ eo
        rw [h3] at g1
        cases g1
        rw [show i + (d + 1) = i + d + 1 by omega, e, setB_get h4 h5, if_neg (fun e => g2 (by rw [e]))]

/-- New variables that are made behind later stores. -/
theorem new_step {E : Heap} {bs : List Blk} {n : Nat} {μ μ' : LMap} {w w' : World} (H : HR ro E μ w) (hE : ∀ b, n ≤ b → b < n + bs.length → E[b]? = bs[b - n]?) (hlE : n + bs.length ≤ E.length) (hro : ro ≤ n) (habs : ∀ b : Key, n ≤ b.b → b.b < n + bs.length → μ b = .absent)
    (H' : HR n (List.replicate n [] ++ bs) μ' w') (X : Ext n (List.replicate n []) (fun _ => .absent) w (List.replicate n [] ++ bs) μ' w') :
    HR ro E (fun b => if n ≤ b.b ∧ b.b < n + bs.length then μ' b else μ b) w' ∧ Ext ro E μ w E (fun b => if n ≤ b.b ∧ b.b < n + bs.length then μ' b else μ b) w' ∧ Le (List.replicate n [] ++ bs) μ' E (fun b => if n ≤ b.b ∧ b.b < n + bs.length then μ' b else μ b) := by
  have hnew : ∀ b, n ≤ b → b < n + bs.length → (List.replicate n ([] : Blk) ++ bs)[b]? = E[b]? := fun b h1 h2 => by rw [List.getElem?_append_right (by simpa using h1), hE b h1 h2]; simp
  have hblk : ∀ b : Key, n ≤ b.b → b.b < n + bs.length → blk? (List.replicate n ([] : Blk) ++ bs) b = blk? E b := fun b h1 h2 => blk_congr rfl (hnew b.b h1 h2)
  have hl1 : Le (List.replicate n [] ++ bs) μ' E (fun b => if n ≤ b.b ∧ b.b < n + bs.length then μ' b else μ b) := ⟨fun b s L hl => by
    have hlt := segLenAt_lt hl
    simp only [List.length_append, List.length_replicate] at hlt
    by_cases hb : n ≤ b.b
    · have hin : n ≤ b.b ∧ b.b < n + bs.length := ⟨hb, hlt⟩
      refine ⟨L, by unfold segLenAt at hl ⊢; rw [← hblk b hb hlt]; exact hl, Nat.le_refl _, fun _ => ⟨?_, fun _ => if_pos hin⟩⟩
      unfold segOff
      rw [blkD_same (segLenAt_has hl) (hblk b hb hlt).symm]
    · exfalso
      obtain ⟨ss, hbb, hs, _⟩ := segAt_get hl
      rcases blk_cases hbb with ⟨_, h1, _⟩ | ⟨_, _, _, _, _, h1, _, _⟩
      · rw [List.getElem?_append_left (by simp; omega), List.getElem?_replicate, if_pos (by omega)] at h1
        cases h1
        cases hs
      · rw [List.getElem?_append_left (by simp; omega), List.getElem?_replicate, if_pos (by omega)] at h1
        cases h1⟩
  have hl2 : Le E μ E (fun b => if n ≤ b.b ∧ b.b < n + bs.length then μ' b else μ b) := ⟨fun b _ L hl => ⟨L, hl, Nat.le_refl _, fun _ => ⟨rfl, fun hne => by
    by_cases e : n ≤ b.b ∧ b.b < n + bs.length
    · exact absurd (habs b e.1 e.2) hne
    · exact if_neg e⟩⟩⟩
  have hfr : ∀ k, k < w.heap.size → w'.heap[k]? = w.heap[k]? := fun k hk => X.frame k hk fun b _ _ g1 g2 => by
    have := has_lt g2
    simp at this
    omega
  have hin : ∀ {b : Key}, n ≤ b.b ∧ b.b < n + bs.length → has E b → has (List.replicate n ([] : Blk) ++ bs) b := fun e ⟨ss, hb⟩ => ⟨ss, by rw [hblk _ e.1 e.2]; exact hb⟩
  have hmv : ∀ b k base room, n ≤ b.b ∧ b.b < n + bs.length → has E b → μ' b = .at k base room → w.heap.size ≤ k := fun b k base room e hb hm => by
    rcases X.moved b k base room (hin e hb) hm with ⟨b2, _, _, g3, g4, _⟩ | g3
    · cases g4
    · exact g3
  have hat : ∀ b k base room, has E b → μ b = .at k base room → k < w.heap.size := fun b k base room ⟨ss, hb⟩ hm => (H.at_ b ss k base room hb hm).1
  refine ⟨⟨fun b sb hb hm => ?_, fun b sb k base room hb hm => ?_, fun b b' k base room base' room' g1 g2 g3 g4 g5 g6 => ?_, H.scope, H.rol⟩, ⟨hl2, X.os, X.tape, X.output, X.size, Nat.le_refl _, fun k hk _ => hfr k hk, fun b g1 g2 => ⟨rfl, fun r => if_neg (by simp only; omega)⟩, fun b k base room g1 g2 => ?_, X.froz⟩, hl1⟩
  · by_cases e : n ≤ b.b ∧ b.b < n + bs.length
    · simp only [if_pos e] at hm
      exact H'.nil_ b sb (by rw [hblk b e.1 e.2]; exact hb) hm
    · simp only [if_neg e] at hm
      exact H.nil_ b sb hb hm
  · by_cases e : n ≤ b.b ∧ b.b < n + bs.length
    · simp only [if_pos e] at hm
      obtain ⟨q1, q2, q3, q4⟩ := H'.at_ b sb k base room (by rw [hblk b e.1 e.2]; exact hb) hm
      refine ⟨q1, q2, q3, fun i v hv => ?_⟩
      obtain ⟨c, e1, e2, e3⟩ := q4 i v hv
      exact ⟨c, e1, e2, e3.mono hl1⟩
    · simp only [if_neg e] at hm
      obtain ⟨q1, q2, q3, q4⟩ := H.at_ b sb k base room hb hm
      have hh := hfr k q1
      refine ⟨Nat.lt_of_lt_of_le q1 X.size, q2, fun i hi => ?_, fun i v hv => ?_⟩
      · rw [cell_heap (a := ⟨k, base + i, none⟩) hh, frozen_heap (a := ⟨k, base + i, none⟩) hh]; exact q3 i hi
      · obtain ⟨c, e1, e2, e3⟩ := q4 i v hv
        exact ⟨c, by rw [cell_heap (a := ⟨k, base + i, none⟩) hh]; exact e1, e2, e3.mono hl2⟩
  · by_cases e : n ≤ b.b ∧ b.b < n + bs.length
    · simp only [if_pos e] at g5
      have := hmv b k base room e g2 g5
      by_cases e' : n ≤ b'.b ∧ b'.b < n + bs.length
      · simp only [if_pos e'] at g6
        exact H'.inj b b' k base room base' room' e.1 (hin e g2) (hin e' g3) g4 g5 g6
      · simp only [if_neg e'] at g6
        have := hat b' k base' room' g3 g6
        omega
    · simp only [if_neg e] at g5
      have := hat b k base room g2 g5
      by_cases e' : n ≤ b'.b ∧ b'.b < n + bs.length
      · simp only [if_pos e'] at g6
        have := hmv b' k base' room' e' g3 g6
        omega
      · simp only [if_neg e'] at g6
        exact H.inj b b' k base room base' room' g1 g2 g3 g4 g5 g6
  · by_cases e : n ≤ b.b ∧ b.b < n + bs.length
    · simp only [if_pos e] at g2
      exact .inr (hmv b k base room e g1 g2)
    · simp only [if_neg e] at g2
      exact .inl ⟨b, base, room, g1, g2, .inr rfl⟩

theorem blk_ofValue (c : Value) : blkOf (ofValue c) = none := by
  unfold ofValue
  split
  · rfl
  · rename_i k n; cases fits k n <;> rfl
  · rfl
  · rfl
  · rfl
  · rfl
theorem blk_const {t : List AV} {x : Operand} {b : Key} (hb : blkOf (evalO t x) = some b) : ∃ s, x = .tmp s := by
  cases x with
  | tmp s => exact ⟨s, rfl⟩
  | const c =>
    exfalso
    simp only [evalO] at hb
    split at hb
    · simp [blkOf] at hb
    · simp [blkOf] at hb
    · simp [blkOf] at hb
    · rw [blk_ofValue] at hb; cases hb
  | global g => simp [evalO, blkOf] at hb
  | func f => simp [evalO, blkOf] at hb
theorem blk_scope {h : Heap} {v : AV} {b : Key} (hs : Scoped h v) (hb : blkOf v = some b) : has h b := by
  cases hs <;> simp only [blkOf, Option.some.injEq, reduceCtorEq] at hb
  case ptr h1 _ => subst hb; exact segLenAt_has h1
  case rptr h1 _ => subst hb; exact segLenAt_has h1
  case slice h1 _ => subst hb; exact segLenAt_has h1

theorem Inv.same (T : Text P ro ops S) (hO : Ordered ops anc) (I : Inv ops S ro a0 w0 μ0 l a w m μ) (hj : ops[j]? = some o) (hl : listedB l j = false) (hd : ∀ e, e ∈ o.after → Region.binds .any e = true → listedB l e.on = true)
    (hw : isW o.op = false) (hp : m ≤ j → isP o.op = true ∨ isQ o.op = true) {w' : World} {μ' : LMap} {v : AV} {c : Value} (hst : (S (j + 1)).t = putO (S j).t o.dst v) (hv : VR (S m).h μ' v c) (H : HR ro (S m).h μ' w')
    (X : Ext ro (S m).h μ w (S m).h μ' w') (habs : ∀ i, i < m → i ≠ j → listedB l i = false → ∀ b : Key, (S i).h.length ≤ b.b → b.b < (S (i + 1)).h.length → μ' b = .absent) :
    Inv ops S ro a0 w0 μ0 (l.setIfInBounds j true) (a.put o.dst c) w' m μ' := by
  have hjlt : j < ops.size := (Array.getElem?_eq_some_iff.1 hj).1
  have hset := listedB_set (l := l) (j := j) (by rw [I.size]; exact hjlt)
  refine ⟨by simp [I.size], I.closed' hj hd, I.mle, fun i o' hi ho hwi => ?_, fun o' ho => ?_, fun i o' hi ho hli => ?_, ?_, I.wrote T hO hj hl X.le hv hst, by rw [put_defers]; exact I.defers, H, I.ext.trans X, fun i hi hli b h1 h2 => ?_, fun i hi hli b h1 h2 => ?_⟩
  · rw [hset]
    split
    · rfl
    · exact I.done i o' hi ho hwi
  · obtain ⟨h1, h2⟩ := I.next o' ho
    refine ⟨h1, ?_⟩
    rw [hset, if_neg]
    · exact h2
    · rintro rfl
      rw [hj] at ho
      cases ho
      rw [hw] at h1
      cases h1
  · rw [hset] at hli
    by_cases hij : i = j
    · subst hij
      rw [hj] at ho
      cases ho
      exact hp hi
    · rw [if_neg hij] at hli
      exact I.late i o' hi ho hli
  · rw [I.len]
    cases o.dst <;> simp [Act.put]
  · rw [hset] at hli
    by_cases hij : i = j
    · rw [if_pos hij] at hli; cases hli
    · rw [if_neg hij] at hli
      exact habs i hi hij hli b h1 h2
  · rw [hset] at hli
    by_cases hij : i = j
    · rw [if_pos hij] at hli; cases hli
    · rw [if_neg hij] at hli
      exact I.keep i hi hli b h1 h2

theorem Inv.turn (T : Text P ro ops S) (hO : Ordered ops anc) (I : Inv ops S ro a0 w0 μ0 l a w j μ) (hj : ops[j]? = some o) (hl : listedB l j = false) (hd : ∀ e, e ∈ o.after → Region.binds .any e = true → listedB l e.on = true)
    (hw : isW o.op = true) {w' : World} {μ' : LMap} {v : AV} {c : Value} (hst : (S (j + 1)).t = putO (S j).t o.dst v) (hv : VR (S (j + 1)).h μ' v c) (H : HR ro (S (j + 1)).h μ' w')
    (X : Ext ro (S j).h μ w (S (j + 1)).h μ' w') (hab : ∀ i, i < j → listedB l i = false → (∀ b : Key, (S i).h.length ≤ b.b → b.b < (S (i + 1)).h.length → μ' b = .absent) ∧ ∀ b, (S i).h.length ≤ b → b < (S (i + 1)).h.length → (S (j + 1)).h[b]? = (S j).h[b]?) :
    ∃ m' μ'', Inv ops S ro a0 w0 μ0 (l.setIfInBounds j true) (a.put o.dst c) w' m' μ'' := by
  have hjlt : j < ops.size := (Array.getElem?_eq_some_iff.1 hj).1
  have hset := listedB_set (l := l) (j := j) (by rw [I.size]; exact hjlt)
  obtain ⟨m', g1, g2, g3, g4⟩ := next_W ops (j + 1) (by omega)
  have hpre := T.pre g1 g2 g3
  obtain ⟨H2, X2⟩ := H.extend hpre (T.reach m' g2).inScope.1
  have hX := X.trans X2
  refine ⟨m', _, ⟨by simp [I.size], I.closed' hj hd, g2, fun i o' hi ho hwi => ?_, fun o' ho => ⟨g4 o' ho, ?_⟩, fun i o' hi ho hli => ?_, ?_, I.wrote T hO hj hl hX.le (hv.mono X2.le) hst, by rw [put_defers]; exact I.defers, H2, I.ext.trans hX, fun i hi hli b h1 h2 => ?_, fun i hi hli b h1 h2 => ?_⟩⟩
  · rw [hset]
    split
    · rfl
    · by_cases hij : i < j
      · exact I.done i o' hij ho hwi
      · have := g3 i o' (by omega) hi ho
        rw [hwi] at this
        cases this
  · rw [hset, if_neg (by omega)]
    cases hq : listedB l m' with
    | false => rfl
    | true =>
      have h2 := g4 o' ho
      rcases I.late m' o' (by omega) ho hq with h1 | h1
      · rw [isP_notW h1] at h2
        cases h2
      · rw [isQ_notW h1] at h2
        cases h2
  · rw [hset, if_neg (by omega)] at hli
    exact I.late i o' (by omega) ho hli
  · rw [I.len]
    cases o.dst <;> simp [Act.put]
  · rw [hset] at hli
    by_cases hij : i = j
    · rw [if_pos hij] at hli; cases hli
    · rw [if_neg hij] at hli
      by_cases hlt : i < j
      · rw [cutMap_lt]
        · exact (hab i hlt hli).1 b h1 h2
        · exact Nat.lt_of_lt_of_le h2 (T.len (by omega) (by omega))
      · rw [cutMap_ge]
        exact Nat.le_trans (T.len (show j + 1 ≤ i by omega) (by omega)) h1
  · rw [hset] at hli
    by_cases hij : i = j
    · rw [if_pos hij] at hli; cases hli
    · rw [if_neg hij] at hli
      by_cases hlt : i < j
      · rw [prefix_get hpre (Nat.lt_of_lt_of_le h2 (T.len (by omega) (by omega))), (hab i hlt hli).2 b h1 h2]
        exact I.keep i hlt hli b h1 h2
      · exact prefix_get (T.pre (show i + 1 ≤ m' by omega) g2 fun k o' q1 q2 q3 => g3 k o' (by omega) q2 q3) h2

theorem memB_of_F {oi oj : Op} (h : isW oj = true) (hi : isP oi = false) (hn : (isS oj && (isQ oi || isL oi || isA oi)) = false) : memB oi oj = true := by
  simp only [memB, h, hi, hn, Bool.or_self, Bool.not_false, Bool.and_self, Bool.true_or]
theorem memB_of_W {oi oj : Op} (h : isW oi = true) (hj : isP oj = false) (hn : (isS oi && isQ oj) = false) : memB oi oj = true := by
  simp only [memB, h, hj, hn, Bool.or_self, Bool.not_false, Bool.and_self, Bool.or_true]
theorem pairB_mem {all : List Oper} {oi oj : Oper} (h : memB oi.op oj.op = true) : pairB all oi oj = true := by
  simp only [pairB, h, Bool.or_true]

theorem Inv.step (T : Text P ro ops S) (hA : Apart ops S anc) (hO : Ordered ops anc) (I : Inv ops S ro a0 w0 μ0 l a w m μ) (hj : ops[j]? = some o) (hl : listedB l j = false) (hd : ∀ e, e ∈ o.after → Region.binds .any e = true → listedB l e.on = true)
    {Q : Exit → Act → World → Prop} {K : Act → World → Prop} (hK : ∀ a' w' m' μ', Inv ops S ro a0 w0 μ0 (l.setIfInBounds j true) a' w' m' μ' → K a' w') : wpOp P ops Q j K a w := by
  have hjlt : j < ops.size := (Array.getElem?_eq_some_iff.1 hj).1
  have hread := fun s hs => I.read T hO hj hl hd (s := s) hs
  have hops := eval_of_reads hread
  have hanc := closed_anc hO I.closed j o hj hd
  have hwant : ∀ b, GuardVal ops.toList (S j).t o b → Region.wanted o (yielded ops a.tmps) = b := fun b hg => hg.wanted (h := (S m).h) (μ := μ) fun _ _ d h1 h2 => hread d (reads_guard h1 h2)
  have hsc := (T.reach j (by omega)).inScope
  -- a store is the next one
  have hWm : isW o.op = true → m = j := by
    intro hw
    rcases Nat.lt_trichotomy m j with h | h | h
    · exfalso
      have ho : ops[m]? = some ops[m] := by simp [show m < ops.size by omega]
      obtain ⟨h1, h2⟩ := I.next _ ho
      have hp : isP o.op = false := by
        cases hp : isP o.op with
        | false => rfl
        | true => rw [isP_notW hp] at hw; cases hw
      have hq : isQ o.op = false := by
        cases hq : isQ o.op with
        | false => rfl
        | true => rw [isQ_notW hq] at hw; cases hw
      have : anc j m := hO.pair m j _ _ h ho hj (pairB_mem (memB_of_W h1 hp (by rw [hq, Bool.and_false])))
      have := hanc m this
      rw [h2] at this
      cases this
    · exact h
    · exfalso
      have := I.done j o h hj hw
      rw [hl] at this
      cases this
  -- an operation on memory stands before the next store
  have hMm : isP o.op = false → isQ o.op = false → isW o.op = false → j < m := by
    intro hp hq hw
    rcases Nat.lt_or_ge j m with h | h
    · exact h
    · exfalso
      have ho : ops[m]? = some ops[m] := by simp [show m < ops.size by omega]
      obtain ⟨h1, h2⟩ := I.next _ ho
      have hne : m ≠ j := by
        rintro rfl
        rw [hj] at ho
        cases ho
        rw [hw] at h1
        cases h1
      have : anc j m := hO.pair m j _ _ (by omega) ho hj (pairB_mem (memB_of_W h1 hp (by rw [hq, Bool.and_false])))
      have := hanc m this
      rw [h2] at this
      cases this
  -- what is written between it and the next store
  have hbetw : ∀ i o', j < i → i < m → ops[i]? = some o' → isW o'.op = true → ¬ anc i j := by
    intro i o' h1 h2 ho hwi ha
    have hli := I.done i o' h2 ho hwi
    have := closed_anc hO I.closed i _ ho (I.closed i _ ho hli) j ha
    rw [hl] at this
    cases this
  have hpreM : isF o.op = true → isW o.op = false → ∀ k, j ≤ k → k ≤ m → (S k).h <+: (S m).h := by
    intro hf hw k hk hkm
    refine T.pre hkm I.mle fun i o' h1 h2 ho => ?_
    cases hwi : isW o'.op with
    | false => rfl
    | true =>
      exfalso
      have hij : j < i := by
        rcases Nat.lt_or_eq_of_le (Nat.le_trans hk h1) with h | rfl
        · exact h
        · rw [hj] at ho; cases ho; rw [hw] at hwi; cases hwi
      obtain ⟨f1, f2, f3, f4, f5⟩ := isF_not hf
      exact hbetw i o' hij h2 ho hwi (hO.pair j i _ _ hij hj ho (pairB_mem (memB_of_F hwi f1 (by rw [f2, f3, f4, Bool.or_self, Bool.or_self, Bool.and_false]))))
  -- in front of it, or behind it, only stores are written
  have hstores : isP o.op = false → isW o.op = false → ∀ i o', j ≤ i → i < m → ops[i]? = some o' → isW o'.op = true → isS o'.op = true := by
    intro hp hw i o' h1 h2 ho hwi
    have hij : j < i := by
      rcases Nat.lt_or_eq_of_le h1 with h | rfl
      · exact h
      · rw [hj] at ho; cases ho; rw [hw] at hwi; cases hwi
    cases hs : isS o'.op with
    | true => rfl
    | false => exact absurd (hO.pair j i _ _ hij hj ho (pairB_mem (memB_of_F hwi hp (by rw [hs, Bool.false_and])))) (hbetw i o' hij h2 ho hwi)
  unfold wpOp
  simp only [hj]
  have hskip : ∀ {v : AV} {c : Value} {h' : Heap}, S (j + 1) = ⟨putO (S j).t o.dst v, h'⟩ → h' = (S j).h → (∀ h μ, VR h μ v c) → K (a.put o.dst c) w := by
    intro v c h' e eh hv
    subst eh
    cases hw : isW o.op with
    | true =>
      have := hWm hw
      subst this
      have eh : (S (m + 1)).h = (S m).h := by rw [e]
      obtain ⟨m', μ', I'⟩ := I.turn T hO hj hl hd hw (w' := w) (μ' := μ) (v := v) (c := c) (by rw [e]) (hv _ _) (by rw [eh]; exact I.heap) (by rw [eh]; exact .refl _ _ _ _) (fun i hi hli => ⟨I.abs i hi hli, fun b h1 h2 => by rw [eh]⟩)
      exact hK _ _ _ _ I'
    | false =>
      refine hK _ _ _ _ (I.same T hO hj hl hd hw (fun hmj => ?_) (v := v) (c := c) (by rw [e]) (hv _ _) I.heap (.refl _ _ _ _) fun i hi _ hli => I.abs i hi hli)
      cases hp : isP o.op with
      | true => exact .inl rfl
      | false =>
        cases hq : isQ o.op with
        | true => exact .inr rfl
        | false => have := hMm hp hq hw; omega
  -- a step that leaves the heap as it is
  have hquiet : ∀ {v : AV}, GuardVal ops.toList (S j).t o true → S (j + 1) = ⟨putO (S j).t o.dst v, (S j).h⟩ → isW o.op = false → (m ≤ j → isP o.op = true ∨ isQ o.op = true) → OpSem P (S m).h.length o.op (S j).t (S m).h v (S m).h → wpOp P ops Q j K a w := by
    intro v hg e hw hmp hop
    unfold wpOp
    simp only [hj]
    rw [hwant _ hg, if_pos rfl]
    refine .inl (hop o a w μ _ Q rfl hops I.heap.quiet fun μ' w' c v1 v2 v3 => ?_)
    exact hK _ _ _ _ (I.same T hO hj hl hd hw hmp (by rw [e]) v1 (I.heap.unquiet v2 v3) (v3.unquiet I.heap.rol) fun i hi _ hli b h1 h2 => by
      have hb : b.b < (S m).h.length := Nat.lt_of_lt_of_le h2 (T.len (by omega) I.mle)
      rw [show μ' b = μ b from (v3.rob b.b hb hb).2 b.r]
      exact I.abs i hi hli b h1 h2)
  unfold wpOp at hquiet
  simp only [hj] at hquiet
  have hs := T.steps j o hj
  cases hs with
  | skip hg e =>
    rw [hwant _ hg, if_neg (by simp)]
    exact hskip e rfl fun h μ => VR.void h μ
  | pure v hg hp e hop => exact hquiet hg e (isP_notW hp) (fun _ => .inl hp) (hop _ _)
  | look v hg hq e hop =>
    have hw := isQ_notW hq
    refine hquiet hg e hw (fun _ => .inr hq) (hop _ _ fun x _ b hb ss hss => ?_)
    obtain ⟨s, rfl⟩ := blk_const hb
    have hbl := blk_scope (hsc.2.1 s) hb
    obtain ⟨sj, hb0⟩ := hbl
    rcases Nat.lt_or_ge j m with hjm | hjm
    · obtain ⟨ss', e1, e2⟩ := T.shape (Nat.le_of_lt hjm) I.mle (hstores (isQ_notP hq) hw) b _ hb0
      rw [hss] at e1
      cases e1
      exact ⟨_, hb0, e2.symm⟩
    · obtain ⟨ss', e1, e2⟩ := T.shape hjm (by omega) (fun k o' h1 h2 ho hwk => by
        cases hsk : isS o'.op with
        | true => rfl
        | false =>
          exfalso
          have : anc j k := hO.pair k j _ _ h2 ho hj (pairB_mem (memB_of_W hwk (isQ_notP hq) (by rw [hsk, Bool.false_and])))
          have hlk := hanc k this
          rcases I.late k o' h1 ho hlk with h3 | h3
          · rw [isP_notW h3] at hwk; cases hwk
          · rw [isQ_notW h3] at hwk; cases hwk) b ss hss
      exact ⟨_, e1, e2⟩
  | load v hg hq e hop =>
    have hw := isL_notW hq
    have hn := isL_not hq
    have hjm := hMm hn.1 hn.2 hw
    refine hquiet hg e hw (fun hmj => by omega) (hop _ _ fun x hx b hb ss hss => ?_)
    obtain ⟨s, rfl⟩ := blk_const hb
    have hbl := has_lt (blk_scope (hsc.2.1 s) hb)
    rw [← hss]
    refine (T.sameBlk (Nat.le_of_lt hjm) I.mle hbl fun k o' h1 h2 ho hwk => ⟨hstores hn.1 hw k o' h1 h2 ho hwk, fun tk y z hok => ?_⟩).symm
    have hjk : j < k := by
      rcases Nat.lt_or_eq_of_le h1 with h | rfl
      · exact h
      · rw [hj] at ho; cases ho; rw [hw] at hwk; cases hwk
    have hol : ∃ ti, o.op = .load ti (.tmp s) := by
      revert hq hx
      cases o.op <;> simp [isL, Op.operands]
      rintro rfl
      rfl
    obtain ⟨ti, hol⟩ := hol
    rcases hA j k o o' hjk hj ho ti (.tmp s) tk y z hol hok with ha | ⟨b1, b2, q1, q2, q3⟩
    · exact absurd ha (hbetw k o' hjk h2 ho hwk)
    · rw [hb] at q1
      cases q1
      exact ⟨b2, q2, q3⟩
  | new v bs hg hq e hop =>
    have hw := isA_notW hq
    have hn := isA_not hq
    have hjm := hMm hn.1 hn.2 hw
    have eh : (S (j + 1)).h = (S j).h ++ bs := by rw [e]
    have hlen : (S (j + 1)).h.length = (S j).h.length + bs.length := by rw [eh]; simp
    have hE : ∀ b, (S j).h.length ≤ b → b < (S j).h.length + bs.length → (S m).h[b]? = bs[b - (S j).h.length]? := fun b h1 h2 => by
      rw [I.keep j hjm hl b h1 (by omega), eh, List.getElem?_append_right h1]
    have hlE : (S j).h.length + bs.length ≤ (S m).h.length := by rw [← hlen]; exact T.len (by omega) I.mle
    have hab : ∀ b : Key, (S j).h.length ≤ b.b → b.b < (S j).h.length + bs.length → μ b = .absent := fun b h1 h2 => I.abs j hjm hl b h1 (by omega)
    have hempty : HR (S j).h.length (List.replicate (S j).h.length []) (fun _ => .absent) w := by
      refine ⟨fun _ _ _ hm => by simp at hm, fun _ _ _ _ _ _ hm => by simp at hm, fun b b' k base room base' room' _ h2 h3 h4 hm => by simp at hm, fun b sb hb i v hv => ?_, by simp⟩
      rcases blk_cases hb with ⟨_, h1, _⟩ | ⟨_, _, _, _, _, h1, _, _⟩
      · rw [List.getElem?_replicate] at h1
        split at h1
        · cases h1; simp [flat] at hv
        · cases h1
      · rw [List.getElem?_replicate] at h1
        split at h1
        · cases h1
        · cases h1
    have hnop : ∀ x, x ∈ o.op.operands → VR (List.replicate (S j).h.length []) (fun _ => .absent) (evalO (S j).t x) (a.eval x) := by
      intro x hx
      exfalso
      revert hq hx
      cases o.op <;> simp [isA, Op.operands]
      rename_i ty n ps
      cases hps : ps.toList with
      | nil =>
        have : ps = #[] := by simpa using hps
        subst this
        simp
      | cons => simp
    rw [hwant _ hg, if_pos rfl]
    refine .inl (hop (S j).h.length _ (by simp) o a w _ _ Q rfl hnop hempty fun μ' w' c v1 v2 v3 => ?_)
    obtain ⟨q1, q2, q3⟩ := new_step I.heap hE hlE hsc.2.2 hab v2 v3
    refine hK _ _ _ _ (I.same T hO hj hl hd hw (fun hmj => by omega) (by rw [e]) (v1.mono q3) q1 q2 fun i hi hij hli b h1 h2 => ?_)
    have hne : ¬ ((S j).h.length ≤ b.b ∧ b.b < (S j).h.length + bs.length) := by
      intro hb
      rcases Nat.lt_or_ge i j with h | h
      · have := T.len (show i + 1 ≤ j by omega) (by omega)
        omega
      · have := T.len (show j + 1 ≤ i by omega) (by have := I.mle; omega)
        omega
    rw [if_neg hne]
    exact I.abs i hi hli b h1 h2
  | store ty x y b old new hg ho e hbk hold hfits hshape hop =>
    have hw : isW o.op = true := by rw [ho]; rfl
    have := hWm hw
    subst this
    have eh : (S (m + 1)).h = setB (S m).h b new := by rw [e]
    rw [hwant _ hg, if_pos rfl]
    obtain ⟨hnb, hwp⟩ := hop o a w μ (fun a' w' => K a' w') Q rfl hops I.heap
    refine .inl (hwp fun w' c v1 v2 v3 => ?_)
    obtain ⟨m', μ'', I'⟩ := I.turn T hO hj hl hd hw (w' := w') (μ' := μ) (v := .undef) (c := c) (by rw [e]) (.undef _) (by rw [eh]; exact v2) (by rw [eh]; exact v3) fun i hi hli => by
      refine ⟨I.abs i hi hli, fun b' h1 h2 => ?_⟩
      rw [eh]
      refine setB_raw ?_
      rintro rfl
      exact hnb (I.abs i hi hli b h1 h2)
    exact hK _ _ _ _ I'
  | run v h' hg hf e hop =>
    rw [hwant _ hg, if_pos rfl]
    have eh : (S (j + 1)).h = h' := by rw [e]
    have hf : isF o.op = true := hf.elim id fun e => by cases e
    obtain ⟨f1, f2, f3, f4, f5⟩ := isF_not hf
    cases hw : isW o.op with
    | true =>
      have := hWm hw
      subst this
      simp only [hw, Bool.not_true, Bool.and_false, cond_false] at hop
      refine .inl (hop o a w μ _ Q rfl hops I.heap fun μ' w' c v1 v2 v3 => ?_)
      obtain ⟨m', μ'', I'⟩ := I.turn T hO hj hl hd hw (w' := w') (μ' := μ') (v := v) (c := c) (by rw [e]) (by rw [eh]; exact v1) (by rw [eh]; exact v2) (by rw [eh]; exact v3) fun i hi hli => by
        have hno : (S (i + 1)).h.length ≤ (S i).h.length → (∀ b : Key, (S i).h.length ≤ b.b → b.b < (S (i + 1)).h.length → μ' b = .absent) ∧ ∀ b, (S i).h.length ≤ b → b < (S (i + 1)).h.length → (S (m + 1)).h[b]? = (S m).h[b]? := fun hle => ⟨fun b h1 h2 => by omega, fun b h1 h2 => by omega⟩
        refine hno ?_
        have ho : ops[i]? = some ops[i] := by simp [show i < ops.size by omega]
        cases hp : isP ops[i].op with
        | false =>
          have : anc m i := hO.pair i m _ _ hi ho hj (pairB_mem (memB_of_F hw hp (by rw [f5, Bool.false_and])))
          have := closed_anc hO I.closed m o hj hd i this
          rw [hli] at this
          cases this
        | true =>
          have hs := T.steps i _ ho
          have : (S (i + 1)).h = (S i).h := by
            cases hs with
            | skip _ e => rw [e]
            | pure v _ _ e _ => rw [e]
            | look v _ hq _ _ => rw [isQ_notP hq] at hp; cases hp
            | load v _ hq _ _ => rw [(isL_not hq).1] at hp; cases hp
            | new v ss _ hq _ _ => rw [(isA_not hq).1] at hp; cases hp
            | store ty x y b old new _ ho' _ _ _ _ _ _ => rw [ho'] at hp; cases hp
            | run v h' _ hq _ _ => rw [(isF_not (hq.elim id fun e => by cases e)).1] at hp; cases hp
          rw [this]
          exact Nat.le_refl _
      exact hK _ _ _ _ I'
    | false =>
      simp only [hw, Bool.not_false, Bool.and_true, cond_true] at hop
      have hjm := hMm f1 f2 hw
      have hp0 := hpreM hf hw j (Nat.le_refl _) (by omega)
      have hp1 := hpreM hf hw (j + 1) (by omega) hjm
      rw [eh] at hp1
      have hops' : ∀ x, x ∈ o.op.operands → VR (S j).h μ (evalO (S j).t x) (a.eval x) := eval_of_reads (all := ops.toList) fun s hs => (hread s hs).restrict hp0 (hsc.2.1 s)
      refine .inl (hop o a w μ _ Q rfl hops' ((I.heap.restrict hp0 hsc.1 hsc.2.2).quiet) fun μ' w' c v1 v2 v3 => ?_)
      obtain ⟨q1, q2, q3⟩ := quiet_step v3.grows hp1 I.heap hsc.2.2 (fun b h1 h2 => I.abs j hjm hl b h1 (by rw [eh]; exact h2)) v2 v3
      refine hK _ _ _ _ (I.same T hO hj hl hd hw (fun hmj => by omega) (by rw [e]) (v1.mono q3) q1 q2 fun i hi hij hli b h1 h2 => ?_)
      by_cases hlt : i < j
      · have hb : b.b < (S j).h.length := Nat.lt_of_lt_of_le h2 (T.len (by omega) (by omega))
        rw [cutMap_lt (Nat.lt_of_lt_of_le hb v3.len), show μ' b = μ b from (v3.rob b.b hb hb).2 b.r]
        exact I.abs i hi hli b h1 h2
      · have hb : h'.length ≤ b.b := by rw [← eh]; exact Nat.le_trans (T.len (show j + 1 ≤ i by omega) (by have := I.mle; omega)) h1
        rw [cutMap_ge hb]
        exact I.abs i hi hli b h1 h2

theorem countP_lt {p p' : Nat → Bool} {j : Nat} : ∀ {l : List Nat}, (∀ x, p' x = true → p x = true) → j ∈ l → p j = true → p' j = false → l.countP p' < l.countP p := by
  intro l hpp hj h1 h2
  induction l with
  | nil => simp at hj
  | cons x xs ih =>
    have hle : xs.countP p' ≤ xs.countP p := List.countP_mono_left fun x _ => hpp x
    rw [List.countP_cons, List.countP_cons]
    rcases List.mem_cons.1 hj with rfl | hj
    · rw [h1, h2]; simp; omega
    · have := ih hj
      cases hx : p' x with
      | true => rw [hpp x hx]; simp; omega
      | false => cases p x <;> simp <;> omega

theorem keepsB_spec {s : Nat} {rest : List Oper} (h : keepsB s rest = true) {o : Oper} (ho : o ∈ rest) : o.dst ≠ some s := by
  have := allB_spec h o ho
  intro e
  rw [e] at this
  simp at this
theorem Text.keeps {i s : Nat} (T : Text P ro ops S) (hi : i ≤ ops.size) (h : keepsB s (ops.toList.drop i) = true) : (S ops.size).t.getD s .undef = (S i).t.getD s .undef := by
  obtain ⟨d, hd⟩ := Nat.exists_eq_add_of_le hi
  have key : ∀ d, i + d ≤ ops.size → (S (i + d)).t.getD s .undef = (S i).t.getD s .undef := by
    intro d
    induction d with
    | zero => exact fun _ => rfl
    | succ d ih =>
      intro hd
      rw [show i + (d + 1) = i + d + 1 by omega, T.other (by omega), ih (by omega)]
      have ho : ops[i + d]? = some ops[i + d] := by simp [show i + d < ops.size by omega]
      rw [ho]
      refine keepsB_spec h (o := ops[i + d]) ?_
      rw [List.mem_iff_getElem?]
      exact ⟨d, by rw [List.getElem?_drop]; simp [show i + d < ops.size by omega]⟩
  rw [hd]
  exact key d (by omega)
theorem lateB_spec {all : List Oper} {t : List AV} {anc : List (List Nat)} : ∀ (rest : List Oper) (j : Nat), lateB all t anc j rest = true → ∀ k o, rest[k]? = some o → ∀ tk y z, o.op = .store tk y z →
    ∀ i ti x, i < j + k → (all.getD i default).op = .load ti x → i ∈ anc.getD (j + k) [] ∨ apartO all t i (j + k) x y = true := by
  intro rest
  induction rest with
  | nil => exact fun j _ k o hk => by simp at hk
  | cons o rest ih =>
    intro j hb k o' hk tk y z ho i ti x hi hl
    simp only [lateB, Bool.and_eq_true] at hb
    cases k with
    | zero =>
      simp only [List.getElem?_cons_zero, Option.some.injEq] at hk
      subst hk
      have h1 := hb.1
      rw [ho] at h1
      have h2 := allB_spec h1 i (by simpa using hi)
      rw [hl] at h2
      simp only [Bool.or_eq_true] at h2
      exact h2.imp elemB_spec id
    | succ k =>
      have := ih (j + 1) hb.2 k o' (by simpa using hk) tk y z ho i ti x (by omega) hl
      simpa [Nat.add_assoc, Nat.add_comm 1 k] using this
theorem Text.apart (T : Text P ro ops S) (h : lateB ops.toList (S ops.size).t (ancFrom [] ops.toList) 0 ops.toList = true) : Apart ops S fun j i => i ∈ (ancFrom [] ops.toList).getD j [] := by
  intro i k oi ok hik hi hk ti x tk y z hx hy
  have hksz : k < ops.size := (Array.getElem?_eq_some_iff.1 hk).1
  rcases lateB_spec _ _ h k ok (by simpa using hk) tk y z hy i ti x (by omega) (by
    have : ops.toList.getD i default = oi := by simp [List.getD_eq_getElem?_getD, hi]
    rw [this]; exact hx) with h1 | h1
  · exact .inl (by simpa using h1)
  · rw [Nat.zero_add] at h1
    unfold apartO at h1
    split at h1
    · rename_i s s'
      simp only [Bool.and_eq_true] at h1
      obtain ⟨h2, h3, h4⟩ := h1
      rw [T.keeps (by omega) h2, T.keeps (by omega) h3] at h4
      split at h4
      · rename_i b b' e1 e2
        exact .inr ⟨b, b', e1, e2, fun e => by rw [e] at h4; simp at h4⟩
      · cases h4
    · cases h1

theorem region_drawn {call : FuncId → Sum α} (hcall : CallsOk P call) (hm : P.follows .mixedOrders = true) {ops : Array Oper} (hok : drawOk ops.toList = true) {st : St} {K : St → Option α} {id : Nat} (he : opsK P true ro call ops.toList ops.toList st (fun st' => br (lateB ops.toList st'.t (ancFrom [] ops.toList) 0 ops.toList) (K st') none) = some r) :
    ∃ st', K st' = some r ∧ RegSem ro st st' ((Code.region id ops true).wp P) := by
  obtain ⟨S, e1, e2, e3⟩ := opsK_trace hcall _ _ _ he
  obtain ⟨hlate, e2⟩ := br_fail e2
  refine ⟨_, e2, fun a0 w0 μ0 Q ht H hq => wp_region_any hm ?_⟩
  have hO := drawOk_spec hok
  have H' : HR ro st.h μ0 { w0 with drawn := w0.drawn + 1 } := ⟨H.nil_, H.at_, H.inj, H.scope, H.rol⟩
  have hsteps : ∀ i o, ops[i]? = some o → StepOk P true ro ops.toList o (S i) (S (i + 1)) := fun i o ho => e3 i o (by simpa using ho)
  have T : Text P ro ops S := ⟨hsteps, fun i => by
    induction i with
    | zero => exact fun _ => ⟨a0, _, μ0, by rw [e1]; exact ht, by rw [e1]; exact H'⟩
    | succ i ih =>
      intro hi
      have ho : ops[i]? = some ops[i] := by simp [show i < ops.size by omega]
      exact ((ih (by omega)).step (hsteps i _ ho)).1⟩
  have hlast : S ops.toList.length = S ops.size := by simp
  rw [hlast] at hlate
  have hA := T.apart hlate
  have key : ∀ (fuel : Nat) (l : Array Bool) (a : Act) (w : World) (m : Nat) (μ : LMap), (List.range ops.size).countP (fun i => !listedB l i) ≤ fuel → Inv ops S ro a0 { w0 with drawn := w0.drawn + 1 } μ0 l a w m μ → wpAny P .any ops Q fuel l a w := by
    intro fuel
    -- when nothing is left to run
    have hend : ∀ (l : Array Bool) (a : Act) (w : World) (m : Nat) (μ : LMap), Inv ops S ro a0 { w0 with drawn := w0.drawn + 1 } μ0 l a w m μ → (∀ i, i < ops.size → listedB l i = true) → Q .normal a w := by
      intro l a w m μ I hall
      have hmn : m = ops.size := by
        rcases Nat.lt_or_eq_of_le I.mle with h | h
        · have ho : ops[m]? = some ops[m] := by simp [h]
          have := (I.next _ ho).2
          rw [hall m h] at this
          cases this
        · exact h
      subst hmn
      refine hq a w μ ⟨?_, fun s => ?_⟩ I.defers (by rw [hlast]; exact I.heap) ?_
      · rw [hlast, ← I.len]
        have : ∀ k, k ≤ ops.size → (S k).t.length = (S 0).t.length := by
          intro k
          induction k with
          | zero => exact fun _ => rfl
          | succ k ih =>
            intro hk
            have ho : ops[k]? = some ops[k] := by simp [show k < ops.size by omega]
            obtain ⟨v, hv⟩ := (hsteps _ _ ho).slots
            rw [hv, ← ih (by omega)]
            cases ops[k].dst <;> simp [putO]
        exact this _ (Nat.le_refl _)
      · rw [hlast]
        have := I.slots s
        rw [slotAt_read T (j := ops.size) (Nat.le_refl _) (fun i hi _ => hall i hi) (fun i h1 h2 => by omega)] at this
        exact this
      · rw [hlast]
        have := I.ext
        rw [e1] at this
        exact ⟨this.le, this.os, this.tape, this.output, this.size, this.len, this.frame, this.rob, this.moved, this.froz⟩
    have hready : ∀ (l : Array Bool) (a : Act) (w : World) (m : Nat) (μ : LMap), Inv ops S ro a0 { w0 with drawn := w0.drawn + 1 } μ0 l a w m μ → Region.ready .any ops l = [] → ∀ i, i < ops.size → listedB l i = true := by
      intro l a w m μ I hr i
      induction i using Nat.strongRecOn with
      | _ i ih =>
        intro hi
        cases hq : listedB l i with
        | true => rfl
        | false =>
          exfalso
          have ho : ops[i]? = some ops[i] := by simp [hi]
          have : i ∈ Region.ready .any ops l := mem_ready.2 ⟨by
            unfold listedB at hq
            have hsz : i < l.size := by rw [I.size]; exact hi
            simpa [Array.getD, hsz] using hq, ops[i], ho, fun e he' hb => ih e.on (hO.back i _ e ho he' hb) (by have := hO.back i _ e ho he' hb; omega)⟩
          rw [hr] at this
          simp at this
    induction fuel with
    | zero =>
      intro l a w m μ hc I
      have hall : ∀ i, i < ops.size → listedB l i = true := fun i hi => by
        have h0 : (List.range ops.size).countP (fun i => !listedB l i) = 0 := by omega
        rw [List.countP_eq_zero] at h0
        have := h0 i (by simpa using hi)
        simpa using this
      refine ⟨?_, hend l a w m μ I hall⟩
      apply List.eq_nil_iff_forall_not_mem.2
      intro i hi
      obtain ⟨h1, o, ho, _⟩ := mem_ready.1 hi
      have hlt : i < ops.size := (Array.getElem?_eq_some_iff.1 ho).1
      have h2 := hall i hlt
      unfold listedB at h2
      have hsz : i < l.size := by rw [I.size]; exact hlt
      simp [Array.getD, hsz] at h1 h2
      rw [h1] at h2
      cases h2
    | succ fuel ih =>
      intro l a w m μ hc I
      refine ⟨fun hr => hend l a w m μ I (hready l a w m μ I hr), fun i hi => ?_⟩
      obtain ⟨h1, o, ho, hd⟩ := mem_ready.1 hi
      have hlt : i < ops.size := (Array.getElem?_eq_some_iff.1 ho).1
      have hsz : i < l.size := by rw [I.size]; exact hlt
      have hl : listedB l i = false := by
        unfold listedB
        simpa [Array.getD, hsz] using h1
      refine I.step T hA hO ho hl hd fun a' w' m' μ' I' => ih _ a' w' m' μ' ?_ I'
      have hset := listedB_set (l := l) (j := i) hsz
      have := countP_lt (p := fun k => !listedB l k) (p' := fun k => !listedB (l.setIfInBounds i true) k) (j := i) (l := List.range ops.size) (fun x hx => by
        simp only [hset] at hx
        by_cases hxi : x = i
        · rw [if_pos hxi] at hx; simp at hx
        · rw [if_neg hxi] at hx; exact hx) (by simpa using hlt) (by simp [hl]) (by simp [hset])
      omega
  obtain ⟨m, g1, g2, g3, g4⟩ := next_W ops 0 (Nat.zero_le _)
  have hpre := T.pre (Nat.zero_le m) g2 fun k o h1 h2 => g3 k o h1 h2
  have hL : ∀ i, listedB (Array.replicate ops.size false) i = false := fun i => by
    unfold listedB
    rw [Array.getD_eq_getD_getElem?, Array.getElem?_replicate]
    split <;> rfl
  obtain ⟨H2, X2⟩ := (show HR ro (S 0).h μ0 _ by rw [e1]; exact H').extend hpre (T.reach m g2).inScope.1
  refine key ops.size _ a0 _ m (cutMap (S 0).h.length μ0 fun _ => .absent) ?_ ⟨by simp, fun i o _ hli => (by rw [hL] at hli; cases hli), g2, fun i o hi ho hw => ?_, fun o ho => ⟨g4 o ho, hL m⟩, fun i o _ _ hli => (by rw [hL] at hli; cases hli), ?_, fun s => ?_, rfl, H2, X2, fun i hi _ b h1 h2 => ?_, fun i hi _ b h1 h2 => ?_⟩
  · exact Nat.le_trans (List.countP_le_length) (by simp)
  · have := g3 i o (Nat.zero_le _) hi ho
    rw [hw] at this
    cases this
  · rw [e1]; exact ht.1
  · have hs : slotAt ops S (listedB (Array.replicate ops.size false)) s ops.size = (S 0).t.getD s .undef := by
      have : ∀ k, slotAt ops S (listedB (Array.replicate ops.size false)) s k = (S 0).t.getD s .undef := by
        intro k
        induction k with
        | zero => rfl
        | succ k ih =>
          simp only [slotAt]
          rw [if_neg (fun h => by rw [hL] at h; cases h.1), ih]
      exact this _
    rw [hs]
    refine VR.mono X2.le ?_
    rw [e1]
    exact ht.2 s
  · rw [cutMap_ge]
    exact Nat.le_trans (T.len (Nat.zero_le i) (by omega)) h1
  · exact prefix_get (T.pre (show i + 1 ≤ m by omega) g2 fun k o' q1 q2 q3 => g3 k o' (by omega) q2 q3) h2
end
end Go.AM
