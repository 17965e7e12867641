/- A part of a proof about the given program: an abstract machine, what the given functions come to, and plain laws. -/
import Derived.Test.YtijijnfmcmeioaaAMRun
import Derived.Test.YtijijnfmcmeioaaAMCode
namespace Go.AM
section
variable {ρ : Nat → Nat}

theorem renL_eq (l : List AV) : renL ρ l = l.map (ren ρ) := by
  induction l with
  | nil => rfl
  | cons v l ih => simp [renL, ih]
theorem renH_eq (h : Heap) : renH ρ h = h.map (renL ρ) := by
  induction h with
  | nil => rfl
  | cons b h ih => simp [renH, ih]
theorem ren_undef : ren ρ .undef = .undef := by simp [ren]
theorem segVals_ren (v : AV) : segVals (ren ρ v) = (segVals v).map (ren ρ) := by
  cases v <;> simp [ren, segValsOf, renL_eq, Function.comp_def]
  rename_i ks xs
  unfold recVals
  rw [List.map_map]
  refine List.map_congr_left fun i _ => ?_
  simp only [Function.comp_apply]
  cases ks.getD (i % ks.length) none <;> simp only [convC, ren]
theorem segLen_ren (v : AV) : segLen (ren ρ v) = segLen v := by rw [← segVals_length, segVals_ren, List.length_map, segVals_length]
theorem flat_ren (ss : List AV) : flat (renL ρ ss) = (flat ss).map (ren ρ) := by
  induction ss with
  | nil => rfl
  | cons s ss ih => rw [renL, flat_cons, flat_cons, ih, List.map_append, segVals_ren]
theorem lenOf_ren (ss : List AV) : lenOf (renL ρ ss) = lenOf ss := by rw [← flat_length, flat_ren, List.length_map, flat_length]
theorem getD_map_ren (l : List AV) (i : Nat) : (l.map (ren ρ)).getD i .undef = ren ρ (l.getD i .undef) := by
  rw [List.getD_eq_getElem?_getD, List.getD_eq_getElem?_getD, List.getElem?_map]
  cases l[i]? with
  | none => exact ren_undef.symm
  | some v => rfl

/-- One heap lies in another one. -/
def Emb (ρ : Nat → Nat) (hs : Heap) (μs : LMap) (h : Heap) (μ : LMap) : Prop :=
  ∀ b s L, segLenAt hs b s = some L → segLenAt h (ρ b) s = some L ∧ segOff h (ρ b) s = segOff hs b s ∧ μ (ρ b) = μs b

theorem VR.ren {hs h : Heap} {μs μ : LMap} (E : Emb ρ hs μs h μ) {v : AV} {c : Value} (hv : VR hs μs v c) : VR h μ (ren ρ v) c := by
  induction hv with
  | undef c => rw [ren_undef]; exact .undef c
  | bool b => simp only [Go.AM.ren]; exact .bool b
  | int k n h => simp only [Go.AM.ren]; exact .int k n h
  | str s => simp only [Go.AM.ren]; exact .str s
  | nils => simp only [Go.AM.ren]; exact .nils
  | ptr p a L h1 h2 h3 =>
    simp only [Go.AM.ren]
    obtain ⟨e1, e2, e3⟩ := E _ _ _ h1
    exact .ptr _ a L e1 h2 fun e => by simp only; rw [e2, e3]; exact h3 e
  | rptr p c a L h1 h2 h3 =>
    simp only [Go.AM.ren]
    obtain ⟨e1, e2, e3⟩ := E _ _ _ h1
    exact .rptr _ c a L e1 h2 fun e => by simp only; rw [e2, e3]; exact h3 e
  | slice p len cap es ex a cap' L h1 h2 h3 h4 =>
    simp only [Go.AM.ren]
    obtain ⟨e1, e2, e3⟩ := E _ _ _ h1
    exact .slice _ len cap es ex a cap' L e1 h2 h3 fun e => by simp only; rw [e2, e3]; exact h4 e
  | func f caps cs h1 _ ih =>
    simp only [Go.AM.ren, renL_eq]
    exact .func f _ cs (by simpa using h1) fun i => by rw [getD_map_ren]; exact ih i
  | agg ss cs h1 _ ih =>
    simp only [Go.AM.ren]
    exact .agg _ cs (by rw [flat_ren]; simpa using h1) fun i => by rw [flat_ren, getD_map_ren]; exact ih i
  | tuple vs cs h1 _ ih =>
    simp only [Go.AM.ren, renL_eq]
    exact .tuple _ cs (by simpa using h1) fun i => by rw [getD_map_ren]; exact ih i

theorem VR.unren {hs h : Heap} {μs μ : LMap} (E : Emb ρ hs μs h μ) {v : AV} (hs' : Scoped hs v) : ∀ {c : Value}, VR h μ (Go.AM.ren ρ v) c → VR hs μs v c := by
  induction hs' with
  | undef => exact fun _ => .undef _
  | bool b => intro c hv; simp only [Go.AM.ren] at hv; cases hv; exact .bool b
  | int k n => intro c hv; simp only [Go.AM.ren] at hv; cases hv with | int _ _ h => exact .int k n h
  | str s => intro c hv; simp only [Go.AM.ren] at hv; cases hv; exact .str s
  | nils => intro c hv; simp only [Go.AM.ren] at hv; cases hv; exact .nils
  | ptr p L h1 h2 =>
    intro c hv
    simp only [Go.AM.ren] at hv
    obtain ⟨e1, e2, e3⟩ := E _ _ _ h1
    cases hv with
    | ptr _ a L' g1 g2 g3 =>
      simp only at g1 g2 g3
      rw [e1] at g1
      cases g1
      exact .ptr p a L h1 h2 fun e => by rw [← e2, ← e3]; exact g3 e
  | rptr p k L h1 h2 =>
    intro c hv
    simp only [Go.AM.ren] at hv
    obtain ⟨e1, e2, e3⟩ := E _ _ _ h1
    cases hv with
    | rptr _ _ a L' g1 g2 g3 =>
      simp only at g1 g2 g3
      rw [e1] at g1
      cases g1
      exact .rptr p k a L h1 h2 fun e => by rw [← e2, ← e3]; exact g3 e
  | slice p len cap es ex L h1 h2 =>
    intro c hv
    simp only [Go.AM.ren] at hv
    obtain ⟨e1, e2, e3⟩ := E _ _ _ h1
    cases hv with
    | slice _ _ _ _ _ a cap' L' g1 g2 g3 g4 =>
      simp only at g1 g2 g4
      rw [e1] at g1
      cases g1
      exact .slice p len cap es ex a cap' L h1 h2 g3 fun e => by rw [← e2, ← e3]; exact g4 e
  | func f caps _ ih =>
    intro c hv
    simp only [Go.AM.ren, renL_eq] at hv
    cases hv with
    | func _ _ cs h1 h2 => exact .func f caps cs (by simpa using h1) fun i => ih i (by rw [← getD_map_ren]; exact h2 i)
  | agg ss _ ih =>
    intro c hv
    simp only [Go.AM.ren] at hv
    cases hv with
    | agg _ cs h1 h2 => exact .agg ss cs (by rw [flat_ren] at h1; simpa using h1) fun i => ih i (by rw [← getD_map_ren, ← flat_ren]; exact h2 i)
  | tuple vs _ ih =>
    intro c hv
    simp only [Go.AM.ren, renL_eq] at hv
    cases hv with
    | tuple _ cs h1 h2 => exact .tuple vs cs (by simpa using h1) fun i => ih i (by rw [← getD_map_ren]; exact h2 i)

/-- A heap of its own for a call. -/
structure Canon (ro ro' : Nat) (ρ : Nat → Nat) (h hs : Heap) : Prop where
  lt : ∀ i, i < hs.length → ρ i < h.length
  inj : ∀ i j, i < hs.length → j < hs.length → ρ i = ρ j → i = j
  blk : ∀ i, i < hs.length → h[ρ i]? = (hs[i]?).map (renL ρ)
  new : ∀ j, ρ (hs.length + j) = h.length + j
  wr : ∀ i, ro' ≤ i → i < hs.length → ro ≤ ρ i
  rol : ro' ≤ hs.length
  scope : ScopedH hs

theorem seg_of_blk {h hs : Heap} {i b : Nat} (hb : h[b]? = (hs[i]?).map (renL ρ)) (s : Nat) : segLenAt h b s = segLenAt hs i s ∧ segOff h b s = segOff hs i s := by
  unfold segLenAt segOff
  rw [List.getD_eq_getElem?_getD, List.getD_eq_getElem?_getD, hb]
  cases hs[i]? with
  | none => exact ⟨rfl, rfl⟩
  | some ss =>
    simp only [Option.map_some, Option.bind_some, Option.getD_some]
    refine ⟨?_, ?_⟩
    · rw [renL_eq, List.getElem?_map, Option.map_map]
      congr 1
      funext v
      exact segLen_ren v
    · rw [renL_eq, ← List.map_take, ← renL_eq, lenOf_ren]

variable {ro ro' : Nat} {h hs : Heap} {μ : LMap} {w : World}

theorem Canon.emb (C : Canon ro ro' ρ h hs) : Emb ρ hs (fun b => μ (ρ b)) h μ := fun b s L hl => by
  obtain ⟨e1, e2⟩ := seg_of_blk (C.blk b (segLenAt_lt hl)) s
  exact ⟨e1.trans hl, e2, rfl⟩

theorem Canon.small (C : Canon ro ro' ρ h hs) (H : HR ro h μ w) : HR ro' hs (fun b => μ (ρ b)) w := by
  have hget : ∀ {b : Nat} {ss : Blk}, hs[b]? = some ss → h[ρ b]? = some (renL ρ ss) := fun hb => by rw [C.blk _ (List.getElem?_eq_some_iff.1 hb).1, hb]; rfl
  refine ⟨fun b ss hb hm => ?_, fun b ss k base room hb hm => ?_, fun b b' k base room base' room' h1 h2 h3 h4 h5 => ?_, C.scope, C.rol⟩
  · have := H.nil_ _ _ (hget hb) hm
    rw [flat_ren] at this
    simpa using this
  · obtain ⟨q1, q2, q3, q4⟩ := H.at_ _ _ _ _ _ (hget hb) hm
    refine ⟨q1, by rw [flat_ren] at q2; simpa using q2, q3, fun i v hv => ?_⟩
    obtain ⟨c, e1, e2, e3⟩ := q4 i (ren ρ v) (by rw [flat_ren, List.getElem?_map, hv]; rfl)
    exact ⟨c, e1, e2, VR.unren C.emb (C.scope b ss hb i v hv) e3⟩
  · exact H.inj _ _ _ _ _ _ _ (C.wr b h1 h2) (C.lt b h2) (C.lt b' h3) (fun e => h4 (C.inj b b' h2 h3 e)) h5

theorem Canon.back (C : Canon ro ro' ρ h hs) (H : HR ro h μ w) {hs' h'' : Heap} {μs' : LMap} {w' : World} (H' : HR ro' hs' μs' w') (X : Ext ro' hs (fun b => μ (ρ b)) w hs' μs' w')
    (f1 : ∀ i, i < hs.length → h''[ρ i]? = (hs'[i]?).map (renL ρ)) (f2 : ∀ b, b < h.length → (∀ i, i < hs.length → ρ i ≠ b) → h''[b]? = h[b]?)
    (f3 : ∀ j, h''[h.length + j]? = (hs'[hs.length + j]?).map (renL ρ)) (f4 : h''.length = h.length + (hs'.length - hs.length)) :
    ∃ μ'', Emb ρ hs' μs' h'' μ'' ∧ HR ro h'' μ'' w' ∧ Ext ro h μ w h'' μ'' w' := by
  have hinj : ∀ i j, ρ i = ρ j → i = j := by
    intro i j e
    by_cases hi : i < hs.length
    · by_cases hj : j < hs.length
      · exact C.inj i j hi hj e
      · obtain ⟨d, rfl⟩ := Nat.exists_eq_add_of_le (Nat.le_of_not_lt hj)
        rw [C.new] at e
        have := C.lt i hi
        omega
    · obtain ⟨d, rfl⟩ := Nat.exists_eq_add_of_le (Nat.le_of_not_lt hi)
      by_cases hj : j < hs.length
      · rw [C.new] at e
        have := C.lt j hj
        omega
      · obtain ⟨d', rfl⟩ := Nat.exists_eq_add_of_le (Nat.le_of_not_lt hj)
        rw [C.new, C.new] at e
        omega
  have hblk : ∀ i, h''[ρ i]? = (hs'[i]?).map (renL ρ) := by
    intro i
    by_cases hi : i < hs.length
    · exact f1 i hi
    · obtain ⟨d, rfl⟩ := Nat.exists_eq_add_of_le (Nat.le_of_not_lt hi)
      rw [C.new]
      exact f3 d
  -- every block of the new heap is an image or an old one
  have himg : ∀ b, b < h''.length → (∃ i, i < hs'.length ∧ ρ i = b) ∨ (b < h.length ∧ ∀ i, ρ i ≠ b) := by
    intro b hb
    by_cases hlt : b < h.length
    · by_cases hx : ∃ i, i < hs.length ∧ ρ i = b
      · obtain ⟨i, h1, h2⟩ := hx
        exact .inl ⟨i, Nat.lt_of_lt_of_le h1 X.len, h2⟩
      · refine .inr ⟨hlt, fun i e => ?_⟩
        by_cases hi : i < hs.length
        · exact hx ⟨i, hi, e⟩
        · obtain ⟨d, rfl⟩ := Nat.exists_eq_add_of_le (Nat.le_of_not_lt hi)
          rw [C.new] at e
          omega
    · obtain ⟨d, rfl⟩ := Nat.exists_eq_add_of_le (Nat.le_of_not_lt hlt)
      have := X.len
      exact .inl ⟨hs.length + d, by omega, C.new d⟩
  have hex : ∃ μ'' : LMap, (∀ i, μ'' (ρ i) = μs' i) ∧ ∀ b, (∀ i, ρ i ≠ b) → μ'' b = μ b := by
    classical
    refine ⟨fun b => if h : ∃ i, ρ i = b then μs' (Classical.choose h) else μ b, fun i => ?_, fun b hb => ?_⟩
    · have hx : ∃ j, ρ j = ρ i := ⟨i, rfl⟩
      simp only
      rw [dif_pos hx]
      congr 1
      exact hinj _ _ (Classical.choose_spec hx)
    · simp only
      rw [dif_neg]
      rintro ⟨i, e⟩
      exact hb i e
  obtain ⟨μ'', m1, m2⟩ := hex
  have hold : ∀ b, (∀ i, ρ i ≠ b) → b < h.length → h''[b]? = h[b]? := fun b hb hlt => f2 b hlt fun i _ => hb i
  have hemb : Emb ρ hs' μs' h'' μ'' := fun b s L hl => by
    obtain ⟨e1, e2⟩ := seg_of_blk (hblk b) s
    exact ⟨e1.trans hl, e2, m1 b⟩
  have hlen : h.length ≤ h''.length := by omega
  have hle : Le h μ h'' μ'' := by
    refine ⟨fun b s L hl => ?_⟩
    have hlt := segLenAt_lt hl
    rcases himg b (by omega) with ⟨i, h1, rfl⟩ | ⟨_, hn⟩
    · have hi : i < hs.length := by
        rcases Nat.lt_or_ge i hs.length with h | h
        · exact h
        · obtain ⟨d, rfl⟩ := Nat.exists_eq_add_of_le h
          rw [C.new] at hlt
          omega
      obtain ⟨e1, e2⟩ := seg_of_blk (C.blk i hi) s
      obtain ⟨e3, e4⟩ := seg_of_blk (hblk i) s
      obtain ⟨L', g1, g2, g3⟩ := X.le.lens i s L (e1.symm.trans hl)
      refine ⟨L', e3.trans g1, g2, fun e => ?_⟩
      obtain ⟨g4, g5⟩ := g3 e
      exact ⟨by rw [e4, g4, e2], fun hne => by rw [m1]; exact g5 hne⟩
    · refine ⟨L, ?_, Nat.le_refl _, fun _ => ⟨?_, fun _ => m2 b hn⟩⟩
      · unfold segLenAt at *
        rw [hold b hn hlt]
        exact hl
      · unfold segOff
        rw [List.getD_eq_getElem?_getD, hold b hn hlt, ← List.getD_eq_getElem?_getD]
  have hsm := C.small H
  -- what an old block lies on is not touched
  have hkeep : ∀ b k base room, b < h.length → (∀ i, ρ i ≠ b) → μ b = .at k base room → k < w.heap.size ∧ w'.heap[k]? = w.heap[k]? := by
    intro b k base room hlt hn hm
    have hk := (H.at_ b h[b] k base room (List.getElem?_eq_getElem hlt) hm).1
    refine ⟨hk, X.frame k hk fun i base' room' h1 h2 h3 => ?_⟩
    exact H.inj (ρ i) b k base' room' base room (C.wr i h1 h2) (C.lt i h2) hlt (hn i) h3 hm
  refine ⟨μ'', hemb, ⟨fun b ss hb hm => ?_, fun b ss k base room hb hm => ?_, fun b b' k base room base' room' h1 h2 h3 h4 h5 h6 => ?_, fun b ss hb i v hv => ?_, by have := H.rol; omega⟩,
    hle, X.os, X.tape, X.output, X.size, hlen, fun k hk hn => ?_, fun b h1 h2 => ?_, fun b k base room h1 h2 => ?_, X.froz⟩
  · rcases himg b (List.getElem?_eq_some_iff.1 hb).1 with ⟨i, hi, rfl⟩ | ⟨hlt, hn⟩
    · rw [hblk] at hb
      rw [m1] at hm
      cases hq : hs'[i]? with
      | none => rw [hq] at hb; cases hb
      | some s2 =>
        rw [hq] at hb
        cases hb
        rw [flat_ren, H'.nil_ i s2 hq hm]
        rfl
    · rw [hold b hn hlt] at hb
      rw [m2 b hn] at hm
      exact H.nil_ b ss hb hm
  · rcases himg b (List.getElem?_eq_some_iff.1 hb).1 with ⟨i, hi, rfl⟩ | ⟨hlt, hn⟩
    · rw [hblk] at hb
      rw [m1] at hm
      cases hq : hs'[i]? with
      | none => rw [hq] at hb; cases hb
      | some s2 =>
        rw [hq] at hb
        cases hb
        obtain ⟨q1, q2, q3, q4⟩ := H'.at_ i s2 k base room hq hm
        refine ⟨q1, by rw [flat_ren]; simpa using q2, q3, fun j v hv => ?_⟩
        rw [flat_ren, List.getElem?_map] at hv
        cases hv' : (flat s2)[j]? with
        | none => rw [hv'] at hv; cases hv
        | some u =>
          rw [hv'] at hv
          cases hv
          obtain ⟨c, e1, e2, e3⟩ := q4 j u hv'
          exact ⟨c, e1, e2, e3.ren hemb⟩
    · rw [hold b hn hlt] at hb
      rw [m2 b hn] at hm
      obtain ⟨q1, q2, q3, q4⟩ := H.at_ b ss k base room hb hm
      have hh := (hkeep b k base room hlt hn hm).2
      refine ⟨Nat.lt_of_lt_of_le q1 X.size, q2, fun i hi => ?_, fun i v hv => ?_⟩
      · rw [cell_heap (a := ⟨k, base + i, none⟩) hh, frozen_heap (a := ⟨k, base + i, none⟩) hh]; exact q3 i hi
      · obtain ⟨c, e1, e2, e3⟩ := q4 i v hv
        exact ⟨c, by rw [cell_heap (a := ⟨k, base + i, none⟩) hh]; exact e1, e2, e3.mono hle⟩
  · -- no two blocks on one
    rcases himg b h2 with ⟨i, hi, rfl⟩ | ⟨hlt, hn⟩
    · rw [m1] at h5
      rcases himg b' h3 with ⟨j, hj, rfl⟩ | ⟨hlt', hn'⟩
      · rw [m1] at h6
        have hij : i ≠ j := fun e => h4 (by rw [e])
        by_cases hr : ro' ≤ i
        · exact H'.inj i j k base room base' room' hr hi hj hij h5 h6
        · have hi0 : i < hs.length := by have := C.rol; omega
          have hri := (X.rob i (by omega) hi0).2
          rw [hri] at h5
          by_cases hr' : ro' ≤ j
          · exact H'.inj j i k base' room' base room hr' hj hi (Ne.symm hij) h6 (by rw [hri]; exact h5)
          · have hj0 : j < hs.length := by have := C.rol; omega
            rw [(X.rob j (by omega) hj0).2] at h6
            exact H.inj (ρ i) (ρ j) k base room base' room' h1 (C.lt i hi0) (C.lt j hj0) h4 h5 h6
      · rw [m2 b' hn'] at h6
        obtain ⟨g1, _⟩ := hkeep b' k base' room' hlt' hn' h6
        rcases X.moved i k base room hi h5 with ⟨g2, g3⟩ | g3
        · exact H.inj (ρ i) b' k base room base' room' h1 (C.lt i g2) hlt' h4 g3 h6
        · omega
    · rw [m2 b hn] at h5
      rcases himg b' h3 with ⟨j, hj, rfl⟩ | ⟨hlt', hn'⟩
      · rw [m1] at h6
        obtain ⟨g1, _⟩ := hkeep b k base room hlt hn h5
        rcases X.moved j k base' room' hj h6 with ⟨g2, g3⟩ | g3
        · exact H.inj b (ρ j) k base room base' room' h1 hlt (C.lt j g2) h4 h5 g3
        · omega
      · rw [m2 b' hn'] at h6
        exact H.inj b b' k base room base' room' h1 hlt hlt' h4 h5 h6
  · rcases himg b (List.getElem?_eq_some_iff.1 hb).1 with ⟨j, hj, rfl⟩ | ⟨hlt, hn⟩
    · rw [hblk] at hb
      cases hq : hs'[j]? with
      | none => rw [hq] at hb; cases hb
      | some s2 =>
        rw [hq] at hb
        cases hb
        rw [flat_ren, List.getElem?_map] at hv
        cases hv' : (flat s2)[i]? with
        | none => rw [hv'] at hv; cases hv
        | some u =>
          rw [hv'] at hv
          cases hv
          have hu := H'.scope j s2 hq i u hv'
          clear hv' hq
          induction hu with
          | undef => rw [ren_undef]; exact .undef
          | bool b => simp only [ren]; exact .bool b
          | int k n => simp only [ren]; exact .int k n
          | str s => simp only [ren]; exact .str s
          | nils => simp only [ren]; exact .nils
          | ptr p L g1 g2 => simp only [ren]; exact .ptr _ L (hemb _ _ _ g1).1 g2
          | rptr p c L g1 g2 => simp only [ren]; exact .rptr _ c L (hemb _ _ _ g1).1 g2
          | slice p len cap es ex L g1 g2 => simp only [ren]; exact .slice _ len cap es ex L (hemb _ _ _ g1).1 g2
          | func f caps _ ih => simp only [ren, renL_eq]; exact .func f _ fun i => by rw [getD_map_ren]; exact ih i
          | agg ss _ ih => simp only [ren]; exact .agg _ fun i => by rw [flat_ren, getD_map_ren]; exact ih i
          | tuple vs _ ih => simp only [ren, renL_eq]; exact .tuple _ fun i => by rw [getD_map_ren]; exact ih i
    · rw [hold b hn hlt] at hb
      exact hle.inScope (H.scope b ss hb i v hv)
  · exact X.frame k hk fun i base room h1 h2 h3 => hn (ρ i) base room (C.wr i h1 h2) (C.lt i h2) h3
  · rcases himg b (by omega) with ⟨i, hi, rfl⟩ | ⟨hlt, hn⟩
    · have hi0 : i < hs.length := by
        rcases Nat.lt_or_ge i hs.length with h | h
        · exact h
        · obtain ⟨d, rfl⟩ := Nat.exists_eq_add_of_le h
          rw [C.new] at h2
          omega
      have hir : i < ro' := by
        rcases Nat.lt_or_ge i ro' with h | h
        · exact h
        · have := C.wr i h hi0
          omega
      obtain ⟨e1, e2⟩ := X.rob i hir hi0
      exact ⟨by rw [hblk, C.blk i hi0, e1], by rw [m1]; exact e2⟩
    · exact ⟨hold b hn hlt, m2 b hn⟩
  · rcases himg b h1 with ⟨i, hi, rfl⟩ | ⟨hlt, hn⟩
    · rw [m1] at h2
      rcases X.moved i k base room hi h2 with ⟨g1, g2⟩ | g2
      · exact .inl ⟨C.lt i g1, g2⟩
      · exact .inr g2
    · rw [m2 b hn] at h2
      exact .inl ⟨hlt, h2⟩
end
end Go.AM
