/- A part of a proof about the given program: an abstract machine, what the given functions come to, and plain laws. -/
import Derived.Test.YtkboldcnkkolkaaAMRun
import Derived.Test.YtkboldcnkkolkaaAMCode
namespace Go.AM
section
variable {ρ : Nat → Nat}

theorem renL_eq (l : List AV) : renL ρ l = l.map (ren ρ) := by
  induction l with
  | nil => rfl
  | cons v l ih => simp [renL, ih]
theorem renH_eq (h : Heap) : renH ρ h = h.map (renL ρ) := by
  induction h with
  | nil => rfl
  | cons b h ih => simp [renH, ih]
theorem ren_undef : ren ρ .undef = .undef := by simp [ren]
theorem segVals_ren (v : AV) : segVals (ren ρ v) = (segVals v).map (ren ρ) := by
  cases v <;> simp [ren, segValsOf, renL_eq, Function.comp_def]
  · rename_i ks xs
    unfold recVals
    rw [List.map_map]
    refine List.map_congr_left fun i _ => ?_
    simp only [Function.comp_apply]
    cases ks.getD (i % ks.length) none <;> simp only [convC, ren]
  · intro a b _
    simp [idCell, ren, renK]
theorem segLen_ren (v : AV) : segLen (ren ρ v) = segLen v := by rw [← segVals_length, segVals_ren, List.length_map, segVals_length]
theorem flat_ren (ss : List AV) : flat (renL ρ ss) = (flat ss).map (ren ρ) := by
  induction ss with
  | nil => rfl
  | cons s ss ih => rw [renL, flat_cons, flat_cons, ih, List.map_append, segVals_ren]
theorem lenOf_ren (ss : List AV) : lenOf (renL ρ ss) = lenOf ss := by rw [← flat_length, flat_ren, List.length_map, flat_length]
theorem getD_map_ren (l : List AV) (i : Nat) : (l.map (ren ρ)).getD i .undef = ren ρ (l.getD i .undef) := by
  rw [List.getD_eq_getElem?_getD, List.getD_eq_getElem?_getD, List.getElem?_map]
  cases l[i]? with
  | none => exact ren_undef.symm
  | some v => rfl

/-- One heap lies in another one. -/
def Emb (ρ : Nat → Nat) (hs : Heap) (μs : LMap) (h : Heap) (μ : LMap) : Prop :=
  ∀ b s L, segLenAt hs b s = some L → segLenAt h (renK ρ b) s = some L ∧ segOff h (renK ρ b) s = segOff hs b s ∧ μ (renK ρ b) = μs b

theorem VR.ren {hs h : Heap} {μs μ : LMap} (E : Emb ρ hs μs h μ) {v : AV} {c : Value} (hv : VR hs μs v c) : VR h μ (ren ρ v) c := by
  induction hv with
  | undef c => rw [ren_undef]; exact .undef c
  | bool b => simp only [Go.AM.ren]; exact .bool b
  | int k n h => simp only [Go.AM.ren]; exact .int k n h
  | str s => simp only [Go.AM.ren]; exact .str s
  | nils => simp only [Go.AM.ren]; exact .nils
  | ptr p a L h1 h2 h3 =>
    simp only [Go.AM.ren]
    obtain ⟨e1, e2, e3⟩ := E _ _ _ h1
    exact .ptr _ a L e1 h2 fun e => by simp only; rw [e2, e3]; exact h3 e
  | rptr p c a L h1 h2 h3 =>
    simp only [Go.AM.ren]
    obtain ⟨e1, e2, e3⟩ := E _ _ _ h1
    exact .rptr _ c a L e1 h2 fun e => by simp only; rw [e2, e3]; exact h3 e
  | slice p len cap es ex a cap' L h1 h2 h3 h4 =>
    simp only [Go.AM.ren]
    obtain ⟨e1, e2, e3⟩ := E _ _ _ h1
    exact .slice _ len cap es ex a cap' L e1 h2 h3 fun e => by simp only; rw [e2, e3]; exact h4 e
  | func f caps cs h1 _ ih =>
    simp only [Go.AM.ren, renL_eq]
    exact .func f _ cs (by simpa using h1) fun i => by rw [getD_map_ren]; exact ih i
  | agg ss cs h1 _ ih =>
    simp only [Go.AM.ren]
    exact .agg _ cs (by rw [flat_ren]; simpa using h1) fun i => by rw [flat_ren, getD_map_ren]; exact ih i
  | tuple vs cs h1 _ ih =>
    simp only [Go.AM.ren, renL_eq]
    exact .tuple _ cs (by simpa using h1) fun i => by rw [getD_map_ren]; exact ih i

theorem VR.unren {hs h : Heap} {μs μ : LMap} (E : Emb ρ hs μs h μ) {v : AV} (hs' : Scoped hs v) : ∀ {c : Value}, VR h μ (Go.AM.ren ρ v) c → VR hs μs v c := by
  induction hs' with
  | undef => exact fun _ => .undef _
  | bool b => intro c hv; simp only [Go.AM.ren] at hv; cases hv; exact .bool b
  | int k n => intro c hv; simp only [Go.AM.ren] at hv; cases hv with | int _ _ h => exact .int k n h
  | str s => intro c hv; simp only [Go.AM.ren] at hv; cases hv; exact .str s
  | nils => intro c hv; simp only [Go.AM.ren] at hv; cases hv; exact .nils
  | ptr p L h1 h2 =>
    intro c hv
    simp only [Go.AM.ren] at hv
    obtain ⟨e1, e2, e3⟩ := E _ _ _ h1
    cases hv with
    | ptr _ a L' g1 g2 g3 =>
      simp only at g1 g2 g3
      rw [e1] at g1
      cases g1
      exact .ptr p a L h1 h2 fun e => by rw [← e2, ← e3]; exact g3 e
  | rptr p k L h1 h2 =>
    intro c hv
    simp only [Go.AM.ren] at hv
    obtain ⟨e1, e2, e3⟩ := E _ _ _ h1
    cases hv with
    | rptr _ _ a L' g1 g2 g3 =>
      simp only at g1 g2 g3
      rw [e1] at g1
      cases g1
      exact .rptr p k a L h1 h2 fun e => by rw [← e2, ← e3]; exact g3 e
  | slice p len cap es ex L h1 h2 =>
    intro c hv
    simp only [Go.AM.ren] at hv
    obtain ⟨e1, e2, e3⟩ := E _ _ _ h1
    cases hv with
    | slice _ _ _ _ _ a cap' L' g1 g2 g3 g4 =>
      simp only at g1 g2 g4
      rw [e1] at g1
      cases g1
      exact .slice p len cap es ex a cap' L h1 h2 g3 fun e => by rw [← e2, ← e3]; exact g4 e
  | func f caps _ ih =>
    intro c hv
    simp only [Go.AM.ren, renL_eq] at hv
    cases hv with
    | func _ _ cs h1 h2 => exact .func f caps cs (by simpa using h1) fun i => ih i (by rw [← getD_map_ren]; exact h2 i)
  | agg ss _ ih =>
    intro c hv
    simp only [Go.AM.ren] at hv
    cases hv with
    | agg _ cs h1 h2 => exact .agg ss cs (by rw [flat_ren] at h1; simpa using h1) fun i => ih i (by rw [← getD_map_ren, ← flat_ren]; exact h2 i)
  | tuple vs _ ih =>
    intro c hv
    simp only [Go.AM.ren, renL_eq] at hv
    cases hv with
    | tuple _ cs h1 h2 => exact .tuple vs cs (by simpa using h1) fun i => ih i (by rw [← getD_map_ren]; exact h2 i)

/-- A heap of its own for a call. -/
structure Canon (ro ro' : Nat) (ρ : Nat → Nat) (h hs : Heap) : Prop where
  lt : ∀ i, i < hs.length → ρ i < h.length
  inj : ∀ i j, i < hs.length → j < hs.length → ρ i = ρ j → i = j
  blk : ∀ i, i < hs.length → h[ρ i]? = (hs[i]?).map (renL ρ)
  new : ∀ j, ρ (hs.length + j) = h.length + j
  wr : ∀ i, ro' ≤ i → i < hs.length → ro ≤ ρ i
  rol : ro' ≤ hs.length
  scope : ScopedH hs

theorem renL_pool (x : Blk) : isPool (renL ρ x) = isPool x ∧ poolOf (renL ρ x) = poolOf x := by
  cases x with
  | nil => exact ⟨rfl, rfl⟩
  | cons v l =>
    cases l with
    | nil => cases v <;> simp [renL, ren, isPool, poolOf]
    | cons u l => cases v <;> simp [renL, ren, isPool, poolOf]
theorem blk_ren {h hs : Heap} {κ : Key} (hb : h[ρ κ.b]? = (hs[κ.b]?).map (renL ρ)) : blk? h (renK ρ κ) = (blk? hs κ).map (renL ρ) := by
  unfold blk? renK
  simp only
  rw [hb]
  cases κ.r with
  | zero =>
    simp only
    cases hs[κ.b]? with
    | none => rfl
    | some x =>
      simp only [Option.map_some, (renL_pool x).1]
      cases isPool x <;> rfl
  | succ r =>
    simp only
    cases hs[κ.b]? with
    | none => rfl
    | some x =>
      simp only [Option.map_some, (renL_pool x).2]
      cases poolOf x with
      | none => rfl
      | some q =>
        obtain ⟨k, rows⟩ := q
        simp only
        cases rows[r]? with
        | none => rfl
        | some xs => simp [renL, ren]
theorem seg_of_blk {h hs : Heap} {κ κ' : Key} (hb : blk? h κ' = (blk? hs κ).map (renL ρ)) (s : Nat) : segLenAt h κ' s = segLenAt hs κ s ∧ (has hs κ → segOff h κ' s = segOff hs κ s) := by
  refine ⟨?_, fun ⟨ss, hx⟩ => ?_⟩
  · unfold segLenAt
    rw [hb]
    cases blk? hs κ with
    | none => rfl
    | some ss =>
      simp only [Option.map_some, Option.bind_some]
      rw [renL_eq, List.getElem?_map, Option.map_map]
      congr 1
      funext v
      exact segLen_ren v
  · unfold segOff
    rw [blkD_of hx, blkD_of (ss := renL ρ ss) (by rw [hb, hx]; rfl), renL_eq, ← List.map_take, ← renL_eq, lenOf_ren]

variable {ro ro' : Nat} {h hs : Heap} {μ : LMap} {w : World}

theorem Canon.blkK (C : Canon ro ro' ρ h hs) {κ : Key} (hk : κ.b < hs.length) : blk? h (renK ρ κ) = (blk? hs κ).map (renL ρ) := blk_ren (C.blk κ.b hk)
theorem Canon.hasK (C : Canon ro ro' ρ h hs) {κ : Key} (hk : has hs κ) : has h (renK ρ κ) := by
  have := C.blkK (has_lt hk)
  obtain ⟨x, hx⟩ := hk
  exact ⟨_, by rw [this, hx]; rfl⟩

theorem Canon.emb (C : Canon ro ro' ρ h hs) : Emb ρ hs (fun b => μ (renK ρ b)) h μ := fun b s L hl => by
  obtain ⟨e1, e2⟩ := seg_of_blk (C.blkK (segLenAt_lt hl)) s
  exact ⟨e1.trans hl, e2 (segLenAt_has hl), rfl⟩

theorem renK_inj {a b : Key} (h : renK ρ a = renK ρ b) : ρ a.b = ρ b.b ∧ a.r = b.r := by
  unfold renK at h
  injection h with h1 h2
  exact ⟨h1, h2⟩

theorem Canon.small (C : Canon ro ro' ρ h hs) (H : HR ro h μ w) : HR ro' hs (fun b => μ (renK ρ b)) w := by
  have hget : ∀ {b : Key} {ss : Blk}, blk? hs b = some ss → blk? h (renK ρ b) = some (renL ρ ss) := fun hb => by rw [C.blkK (has_lt ⟨_, hb⟩), hb]; rfl
  refine ⟨fun b ss hb hm => ?_, fun b ss k base room hb hm => ?_, fun b b' k base room base' room' h1 h2 h3 h4 h5 => ?_, C.scope, C.rol⟩
  · have := H.nil_ _ _ (hget hb) hm
    rw [flat_ren] at this
    simpa using this
  · obtain ⟨q1, q2, q3, q4⟩ := H.at_ _ _ _ _ _ (hget hb) hm
    refine ⟨q1, by rw [flat_ren] at q2; simpa using q2, q3, fun i v hv => ?_⟩
    obtain ⟨c, e1, e2, e3⟩ := q4 i (ren ρ v) (by rw [flat_ren, List.getElem?_map, hv]; rfl)
    exact ⟨c, e1, e2, VR.unren C.emb (C.scope b ss hb i v hv) e3⟩
  · refine H.inj _ _ _ _ _ _ _ (C.wr b.b h1 (has_lt h2)) (C.hasK h2) (C.hasK h3) (fun e => h4 ?_) h5
    obtain ⟨e1, e2⟩ := renK_inj e
    have := C.inj b.b b'.b (has_lt h2) (has_lt h3) e1
    cases b; cases b'
    simp only at this e2
    rw [this, e2]

theorem Canon.back (C : Canon ro ro' ρ h hs) (H : HR ro h μ w) {hs' h'' : Heap} {μs' : LMap} {w' : World} (H' : HR ro' hs' μs' w') (X : Ext ro' hs (fun b => μ (renK ρ b)) w hs' μs' w')
    (f1 : ∀ i, i < hs.length → h''[ρ i]? = (hs'[i]?).map (renL ρ)) (f2 : ∀ b, b < h.length → (∀ i, i < hs.length → ρ i ≠ b) → h''[b]? = h[b]?)
    (f3 : ∀ j, h''[h.length + j]? = (hs'[hs.length + j]?).map (renL ρ)) (f4 : h''.length = h.length + (hs'.length - hs.length)) :
    ∃ μ'', Emb ρ hs' μs' h'' μ'' ∧ HR ro h'' μ'' w' ∧ Ext ro h μ w h'' μ'' w' := by
  have hinj : ∀ i j, ρ i = ρ j → i = j := by
    intro i j e
    by_cases hi : i < hs.length
    · by_cases hj : j < hs.length
      · exact C.inj i j hi hj e
      · obtain ⟨d, rfl⟩ := Nat.exists_eq_add_of_le (Nat.le_of_not_lt hj)
        rw [C.new] at e
        have := C.lt i hi
        omega
    · obtain ⟨d, rfl⟩ := Nat.exists_eq_add_of_le (Nat.le_of_not_lt hi)
      by_cases hj : j < hs.length
      · rw [C.new] at e
        have := C.lt j hj
        omega
      · obtain ⟨d', rfl⟩ := Nat.exists_eq_add_of_le (Nat.le_of_not_lt hj)
        rw [C.new, C.new] at e
        omega
  have hinjK : ∀ a b : Key, renK ρ a = renK ρ b → a = b := by
    intro a b e
    obtain ⟨e1, e2⟩ := renK_inj e
    have := hinj _ _ e1
    cases a; cases b
    simp only at this e2
    rw [this, e2]
  have hraw : ∀ i, h''[ρ i]? = (hs'[i]?).map (renL ρ) := by
    intro i
    by_cases hi : i < hs.length
    · exact f1 i hi
    · obtain ⟨d, rfl⟩ := Nat.exists_eq_add_of_le (Nat.le_of_not_lt hi)
      rw [C.new]
      exact f3 d
  have hblk : ∀ κ : Key, blk? h'' (renK ρ κ) = (blk? hs' κ).map (renL ρ) := fun κ => blk_ren (hraw κ.b)
  have hhas : ∀ κ : Key, has h'' (renK ρ κ) → has hs' κ := by
    rintro κ ⟨x, hx⟩
    rw [hblk] at hx
    cases hq : blk? hs' κ with
    | none => rw [hq] at hx; cases hx
    | some y => exact ⟨y, hq⟩
  -- every block of the new heap is an image or an old one
  have himg0 : ∀ b, b < h''.length → (∃ i, i < hs'.length ∧ ρ i = b) ∨ (b < h.length ∧ ∀ i, ρ i ≠ b) := by
    intro b hb
    by_cases hlt : b < h.length
    · by_cases hx : ∃ i, i < hs.length ∧ ρ i = b
      · obtain ⟨i, h1, h2⟩ := hx
        exact .inl ⟨i, Nat.lt_of_lt_of_le h1 X.len, h2⟩
      · refine .inr ⟨hlt, fun i e => ?_⟩
        by_cases hi : i < hs.length
        · exact hx ⟨i, hi, e⟩
        · obtain ⟨d, rfl⟩ := Nat.exists_eq_add_of_le (Nat.le_of_not_lt hi)
          rw [C.new] at e
          omega
    · obtain ⟨d, rfl⟩ := Nat.exists_eq_add_of_le (Nat.le_of_not_lt hlt)
      have := X.len
      exact .inl ⟨hs.length + d, by omega, C.new d⟩
  have hold0 : ∀ b, b < h.length → (∀ i, ρ i ≠ b) → h''[b]? = h[b]? := fun b hlt hb => f2 b hlt fun i _ => hb i
  have himg : ∀ b : Key, has h'' b → (∃ κ, has hs' κ ∧ renK ρ κ = b) ∨ (b.b < h.length ∧ (∀ i, ρ i ≠ b.b) ∧ has h b) := by
    intro b hb
    rcases himg0 b.b (has_lt hb) with ⟨i, hi, e⟩ | ⟨hlt, hn⟩
    · have e2 : renK ρ ⟨i, b.r⟩ = b := by cases b; simp only at e; unfold renK; simp only [e]
      exact .inl ⟨⟨i, b.r⟩, hhas _ (by rw [e2]; exact hb), e2⟩
    · obtain ⟨x, hx⟩ := hb
      exact .inr ⟨hlt, hn, x, by rw [← blk_congr (κ := b) rfl (hold0 b.b hlt hn)]; exact hx⟩
  have hex : ∃ μ'' : LMap, (∀ κ, μ'' (renK ρ κ) = μs' κ) ∧ ∀ b : Key, (∀ i, ρ i ≠ b.b) → μ'' b = μ b := by
    classical
    refine ⟨fun b => if h : ∃ κ, renK ρ κ = b then μs' (Classical.choose h) else μ b, fun κ => ?_, fun b hb => ?_⟩
    · have hx : ∃ j, renK ρ j = renK ρ κ := ⟨κ, rfl⟩
      simp only
      rw [dif_pos hx]
      congr 1
      exact hinjK _ _ (Classical.choose_spec hx)
    · simp only
      rw [dif_neg]
      rintro ⟨κ, rfl⟩
      exact hb κ.b rfl
  obtain ⟨μ'', m1, m2⟩ := hex
  have hold : ∀ b : Key, (∀ i, ρ i ≠ b.b) → b.b < h.length → blk? h'' b = blk? h b := fun b hb hlt => blk_congr rfl (hold0 b.b hlt hb)
  have hemb : Emb ρ hs' μs' h'' μ'' := fun b s L hl => by
    obtain ⟨e1, e2⟩ := seg_of_blk (hblk b) s
    exact ⟨e1.trans hl, e2 (segLenAt_has hl), m1 b⟩
  have hlen : h.length ≤ h''.length := by omega
  have hle : Le h μ h'' μ'' := by
    refine ⟨fun b s L hl => ?_⟩
    have hlt := segLenAt_lt hl
    rcases himg0 b.b (by omega) with ⟨i, h1, e⟩ | ⟨_, hn⟩
    · have hi : i < hs.length := by
        rcases Nat.lt_or_ge i hs.length with h | h
        · exact h
        · obtain ⟨d, rfl⟩ := Nat.exists_eq_add_of_le h
          rw [C.new] at e
          omega
      have eb : renK ρ ⟨i, b.r⟩ = b := by cases b; simp only at e; unfold renK; simp only [e]
      rw [← eb] at hl ⊢
      obtain ⟨e1, e2⟩ := seg_of_blk (C.blkK (κ := ⟨i, b.r⟩) hi) s
      obtain ⟨e3, e4⟩ := seg_of_blk (hblk ⟨i, b.r⟩) s
      obtain ⟨L', g1, g2, g3⟩ := X.le.lens ⟨i, b.r⟩ s L (e1.symm.trans hl)
      refine ⟨L', e3.trans g1, g2, fun e => ?_⟩
      obtain ⟨g4, g5⟩ := g3 e
      exact ⟨by rw [e4 (segLenAt_has g1), g4, e2 (segLenAt_has (e1.symm.trans hl))], fun hne => by rw [m1]; exact g5 hne⟩
    · refine ⟨L, ?_, Nat.le_refl _, fun _ => ⟨?_, fun _ => m2 b hn⟩⟩
      · unfold segLenAt at *
        rw [hold b hn hlt]
        exact hl
      · unfold segOff
        rw [blkD_same (segLenAt_has hl) (hold b hn hlt)]
  have hsm := C.small H
  -- what an old block lies on is not touched
  have hkeep : ∀ b k base room, has h b → (∀ i, ρ i ≠ b.b) → μ b = .at k base room → k < w.heap.size ∧ w'.heap[k]? = w.heap[k]? := by
    intro b k base room hb hn hm
    obtain ⟨x, hx⟩ := hb
    have hk := (H.at_ b x k base room hx hm).1
    refine ⟨hk, X.frame k hk fun i base' room' h1 h2 h3 => ?_⟩
    exact H.inj (renK ρ i) b k base' room' base room (C.wr i.b h1 (has_lt h2)) (C.hasK h2) ⟨x, hx⟩ (fun e => hn i.b (by rw [← e]; rfl)) h3 hm
  -- what a moved block lies on is not an old one's
  have hsep : ∀ κ b k base room base' room', has hs' κ → has h b → (∀ i, ρ i ≠ b.b) → μs' κ = .at k base room → μ b = .at k base' room' → (ro' ≤ κ.b ∨ ro ≤ b.b ∨ ro ≤ ρ κ.b) → False := by
    intro κ b k base room base' room' h1 h2 hn h3 h4 h5
    have hk := (hkeep b k base' room' h2 hn h4).1
    rcases X.moved κ k base room h1 h3 with ⟨b2, base2, room2, g1, g2, g3⟩ | g
    · have hne : renK ρ b2 ≠ b := fun e => hn b2.b (by rw [← e]; rfl)
      by_cases hr : ro ≤ ρ b2.b
      · exact H.inj (renK ρ b2) b k base2 room2 base' room' hr (C.hasK g1) h2 hne g2 h4
      · have hb2 : b2.b < ro' := by
          rcases Nat.lt_or_ge b2.b ro' with h | h
          · exact h
          · exact absurd (C.wr b2.b h (has_lt g1)) hr
        rcases g3 with g3 | rfl
        · omega
        · rcases h5 with h5 | h5 | h5
          · omega
          · exact H.inj b (renK ρ b2) k base' room' base2 room2 h5 h2 (C.hasK g1) (Ne.symm hne) h4 g2
          · omega
    · omega
  refine ⟨μ'', hemb, ⟨fun b ss hb hm => ?_, fun b ss k base room hb hm => ?_, fun b b' k base room base' room' h1 h2 h3 h4 h5 h6 => ?_, fun b ss hb i v hv => ?_, by have := H.rol; omega⟩,
    hle, X.os, X.tape, X.output, X.size, hlen, fun k hk hn => ?_, fun b h1 h2 => ?_, fun b k base room h1 h2 => ?_, X.froz⟩
  · rcases himg b ⟨_, hb⟩ with ⟨i, hi, rfl⟩ | ⟨hlt, hn, _⟩
    · rw [hblk] at hb
      rw [m1] at hm
      cases hq : blk? hs' i with
      | none => rw [hq] at hb; cases hb
      | some s2 =>
        rw [hq] at hb
        cases hb
        rw [flat_ren, H'.nil_ i s2 hq hm]
        rfl
    · rw [hold b hn hlt] at hb
      rw [m2 b hn] at hm
      exact H.nil_ b ss hb hm
  · rcases himg b ⟨_, hb⟩ with ⟨i, hi, rfl⟩ | ⟨hlt, hn, hh⟩
    · rw [hblk] at hb
      rw [m1] at hm
      cases hq : blk? hs' i with
      | none => rw [hq] at hb; cases hb
      | some s2 =>
        rw [hq] at hb
        cases hb
        obtain ⟨q1, q2, q3, q4⟩ := H'.at_ i s2 k base room hq hm
        refine ⟨q1, by rw [flat_ren]; simpa using q2, q3, fun j v hv => ?_⟩
        rw [flat_ren, List.getElem?_map] at hv
        cases hv' : (flat s2)[j]? with
        | none => rw [hv'] at hv; cases hv
        | some u =>
          rw [hv'] at hv
          cases hv
          obtain ⟨c, e1, e2, e3⟩ := q4 j u hv'
          exact ⟨c, e1, e2, e3.ren hemb⟩
    · rw [hold b hn hlt] at hb
      rw [m2 b hn] at hm
      obtain ⟨q1, q2, q3, q4⟩ := H.at_ b ss k base room hb hm
      have hh := (hkeep b k base room hh hn hm).2
      refine ⟨Nat.lt_of_lt_of_le q1 X.size, q2, fun i hi => ?_, fun i v hv => ?_⟩
      · rw [cell_heap (a := ⟨k, base + i, none⟩) hh, frozen_heap (a := ⟨k, base + i, none⟩) hh]; exact q3 i hi
      · obtain ⟨c, e1, e2, e3⟩ := q4 i v hv
        exact ⟨c, by rw [cell_heap (a := ⟨k, base + i, none⟩) hh]; exact e1, e2, e3.mono hle⟩
  · -- no two blocks on one
    rcases himg b h2 with ⟨i, hi, rfl⟩ | ⟨hlt, hn, hh⟩
    · rw [m1] at h5
      rcases himg b' h3 with ⟨j, hj, rfl⟩ | ⟨hlt', hn', hh'⟩
      · rw [m1] at h6
        have hij : i ≠ j := fun e => h4 (by rw [e])
        by_cases hr : ro' ≤ i.b
        · exact H'.inj i j k base room base' room' hr hi hj hij h5 h6
        · have hi0 : i.b < hs.length := by have := C.rol; omega
          obtain ⟨ri1, ri2⟩ := X.rob i.b (by omega) hi0
          have hri : μs' i = μ (renK ρ i) := ri2 i.r
          have hhi : has hs i := (raw_has ri1).1 hi
          rw [hri] at h5
          by_cases hr' : ro' ≤ j.b
          · exact H'.inj j i k base' room' base room hr' hj hi (Ne.symm hij) h6 (by rw [hri]; exact h5)
          · have hj0 : j.b < hs.length := by have := C.rol; omega
            obtain ⟨rj1, rj2⟩ := X.rob j.b (by omega) hj0
            have hrj : μs' j = μ (renK ρ j) := rj2 j.r
            rw [hrj] at h6
            exact H.inj (renK ρ i) (renK ρ j) k base room base' room' h1 (C.hasK hhi) (C.hasK ((raw_has rj1).1 hj)) h4 h5 h6
      · rw [m2 b' hn'] at h6
        exact hsep i b' k base room base' room' hi hh' hn' h5 h6 (.inr (.inr h1))
    · rw [m2 b hn] at h5
      rcases himg b' h3 with ⟨j, hj, rfl⟩ | ⟨hlt', hn', hh'⟩
      · rw [m1] at h6
        exact hsep j b k base' room' base room hj hh hn h6 h5 (.inr (.inl h1))
      · rw [m2 b' hn'] at h6
        exact H.inj b b' k base room base' room' h1 hh hh' h4 h5 h6
  · rcases himg b ⟨_, hb⟩ with ⟨j, hj, rfl⟩ | ⟨hlt, hn, _⟩
    · rw [hblk] at hb
      cases hq : blk? hs' j with
      | none => rw [hq] at hb; cases hb
      | some s2 =>
        rw [hq] at hb
        cases hb
        rw [flat_ren, List.getElem?_map] at hv
        cases hv' : (flat s2)[i]? with
        | none => rw [hv'] at hv; cases hv
        | some u =>
          rw [hv'] at hv
          cases hv
          have hu := H'.scope j s2 hq i u hv'
          clear hv' hq
          induction hu with
          | undef => rw [ren_undef]; exact .undef
          | bool b => simp only [ren]; exact .bool b
          | int k n => simp only [ren]; exact .int k n
          | str s => simp only [ren]; exact .str s
          | nils => simp only [ren]; exact .nils
          | ptr p L g1 g2 => simp only [ren]; exact .ptr _ L (hemb _ _ _ g1).1 g2
          | rptr p c L g1 g2 => simp only [ren]; exact .rptr _ c L (hemb _ _ _ g1).1 g2
          | slice p len cap es ex L g1 g2 => simp only [ren]; exact .slice _ len cap es ex L (hemb _ _ _ g1).1 g2
          | func f caps _ ih => simp only [ren, renL_eq]; exact .func f _ fun i => by rw [getD_map_ren]; exact ih i
          | agg ss _ ih => simp only [ren]; exact .agg _ fun i => by rw [flat_ren, getD_map_ren]; exact ih i
          | tuple vs _ ih => simp only [ren, renL_eq]; exact .tuple _ fun i => by rw [getD_map_ren]; exact ih i
    · rw [hold b hn hlt] at hb
      exact hle.inScope (H.scope b ss hb i v hv)
  · exact X.frame k hk fun i base room h1 h2 h3 => hn (renK ρ i) base room (C.wr i.b h1 (has_lt h2)) (C.hasK h2) h3
  · rcases himg0 b (by omega) with ⟨i, hi, rfl⟩ | ⟨hlt, hn⟩
    · have hi0 : i < hs.length := by
        rcases Nat.lt_or_ge i hs.length with h | h
        · exact h
        · obtain ⟨d, rfl⟩ := Nat.exists_eq_add_of_le h
          rw [C.new] at h2
          omega
      have hir : i < ro' := by
        rcases Nat.lt_or_ge i ro' with h | h
        · exact h
        · have := C.wr i h hi0
          omega
      obtain ⟨e1, e2⟩ := X.rob i hir hi0
      exact ⟨by rw [hraw, C.blk i hi0, e1], fun r => (m1 ⟨i, r⟩).trans (e2 r)⟩
    · exact ⟨hold0 b hlt hn, fun r => m2 ⟨b, r⟩ hn⟩
  · rcases himg b h1 with ⟨i, hi, rfl⟩ | ⟨hlt, hn, hh⟩
    · rw [m1] at h2
      rcases X.moved i k base room hi h2 with ⟨b2, base2, room2, g1, g2, g3⟩ | g2
      · refine .inl ⟨renK ρ b2, base2, room2, C.hasK g1, g2, ?_⟩
        rcases g3 with g3 | rfl
        · exact .inl (C.wr b2.b g3 (has_lt g1))
        · exact .inr rfl
      · exact .inr g2
    · rw [m2 b hn] at h2
      exact .inl ⟨b, base, room, hh, h2, .inr rfl⟩
end
end Go.AM
