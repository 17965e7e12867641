/- A part of a proof about the given program: an abstract machine, what the given functions come to, and plain laws. -/
import Derived.Test.YtkboldcnkkolkaaAMOps2
namespace Go.AM
section
variable {α : Type} {r : α} {ro : Nat} {h : Heap}

theorem rowNums_spec {x : Blk} {k : IntKind} {xs : List Int} (hx : rowNums x = some (k, xs)) : ∃ seg, x = [seg] ∧ isPool x = false ∧ segVals seg = xs.map (.int k) ∧ segLen seg = xs.length := by
  unfold rowNums at hx
  split at hx
  · cases hx
    exact ⟨_, rfl, rfl, rfl, rfl⟩
  · cases hx
    refine ⟨_, rfl, rfl, ?_, by simp [segLen]⟩
    simp [segValsOf, Function.comp_def]
  · cases hx
theorem raw_of_D {b : Nat} {x : Blk} (hx : h.getD b [] = x) (hne : x ≠ []) : h[b]? = some x := by
  rw [List.getD_eq_getElem?_getD] at hx
  cases hb : h[b]? with
  | none => rw [hb] at hx; exact absurd hx.symm hne
  | some y => rw [hb] at hx; simp only [Option.getD_some] at hx; rw [hx]
theorem pool_of_D {pb : Nat} {k : IntKind} {rows : List (List Int)} (hp : poolOf (h.getD pb []) = some (k, rows)) : h[pb]? = some [.pool k rows] := by
  exact raw_of_D (poolOf_spec hp) (by simp)

/-- The keys of a heap whose pool has one more row. -/
theorem pool_grow {pb : Nat} {k : IntKind} {rows : List (List Int)} {xs : List Int} (hp : h[pb]? = some [.pool k rows]) (κ : Key) :
    blk? (h.set pb [.pool k (rows ++ [xs])]) κ = if κ = rowK pb rows.length then some [.vec k xs] else blk? h κ := by
  have hlt := (List.getElem?_eq_some_iff.1 hp).1
  by_cases hb : κ.b = pb
  · have hs : (h.set pb [.pool k (rows ++ [xs])])[κ.b]? = some [.pool k (rows ++ [xs])] := by rw [hb, List.getElem?_set, if_pos rfl, if_pos hlt]
    obtain ⟨kb, kr⟩ := κ
    simp only at hb hs
    subst hb
    cases kr with
    | zero =>
      rw [if_neg (by intro e; injection e with _ e; omega)]
      simp only [blk?, hs, hp, isPool, cond_true]
    | succ q =>
      simp only [blk?, hs, hp, poolOf]
      by_cases hq : q = rows.length
      · subst hq
        rw [if_pos rfl]
        simp
      · rw [if_neg (by intro e; injection e with _ e; omega)]
        rcases Nat.lt_or_ge q rows.length with hl | hl
        · rw [List.getElem?_append_left hl]
        · rw [List.getElem?_eq_none (by simp; omega), List.getElem?_eq_none (by omega)]
  · rw [if_neg (by rintro rfl; exact hb rfl)]
    exact blk_congr rfl (by rw [List.getElem?_set, if_neg (Ne.symm hb)])
theorem row_none {pb : Nat} {k : IntKind} {rows : List (List Int)} (hp : h[pb]? = some [.pool k rows]) : blk? h (rowK pb rows.length) = none := by
  simp [blk?, hp, poolOf]

/-- A ghost step: what a slice is told by lies in another place; nothing happens to the world. -/
def Ghost (ro : Nat) (h : Heap) (v : AV) (h' : Heap) (v' : AV) : Prop :=
  ∀ (μ : LMap) (w : World), HR ro h μ w → ∃ μ', HR ro h' μ' w ∧ Ext ro h μ w h' μ' w ∧ ∀ c, VR h μ v c → VR h' μ' v' c

theorem give_nil {pb : Nat} {k : IntKind} {rows : List (List Int)} (hp : h[pb]? = some [.pool k rows]) (hro : ro ≤ pb) : Ghost ro h .nils (h.set pb [.pool k (rows ++ [[]])]) (idCell pb (rows.length, 0)) := by
  intro μ w H
  have hget := pool_grow (h := h) (xs := []) hp
  have hnone := row_none hp
  have hne : ∀ {κ : Key}, has h κ → κ ≠ rowK pb rows.length := fun ⟨sb, hb⟩ e => by rw [e, hnone] at hb; cases hb
  generalize hh : h.set pb [.pool k (rows ++ [[]])] = h' at hget ⊢
  have hlen : h'.length = h.length := by rw [← hh]; simp
  generalize hmu : (fun κ : Key => if κ = rowK pb rows.length then Loc.none else μ κ) = μ'
  have m1 : μ' (rowK pb rows.length) = .none := by rw [← hmu]; exact if_pos rfl
  have m2 : ∀ κ, κ ≠ rowK pb rows.length → μ' κ = μ κ := fun κ hκ => by rw [← hmu]; exact if_neg hκ
  have hcase : ∀ {κ : Key} {sb : Blk}, blk? h' κ = some sb → (κ = rowK pb rows.length ∧ sb = [.vec k []]) ∨ (κ ≠ rowK pb rows.length ∧ blk? h κ = some sb) := fun {κ sb} hb => by
    rw [hget] at hb
    split at hb
    · rename_i e; cases hb; exact .inl ⟨e, rfl⟩
    · rename_i e; exact .inr ⟨e, hb⟩
  have hle : Le h μ h' μ' := ⟨fun b s L hl => by
    have hb := hne (segLenAt_has hl)
    refine ⟨L, ?_, Nat.le_refl _, fun _ => ⟨?_, fun _ => m2 b hb⟩⟩
    · unfold segLenAt at *; rw [hget, if_neg hb]; exact hl
    · unfold segOff; rw [blkD_same (segLenAt_has hl) (by rw [hget, if_neg hb])]⟩
  refine ⟨μ', ⟨fun b sb hb hm => ?_, fun b sb k' base room hb hm => ?_, fun b b' k' base room base' room' h1 ⟨sb, h2⟩ ⟨sb', h3⟩ h4 h5 h6 => ?_, fun b sb hb i v hvi => ?_, by rw [hlen]; exact H.rol⟩,
    ⟨hle, rfl, rfl, rfl, Nat.le_refl _, by rw [hlen]; exact Nat.le_refl _, fun _ _ _ => rfl, fun b h1 h2 => ⟨by rw [← hh, List.getElem?_set, if_neg (by omega)], fun r => m2 _ (by intro e; injection e with e _; omega)⟩, fun b k' base room ⟨sb, h1⟩ h2 => ?_, fun _ => rfl⟩, fun c hc => ?_⟩
  · rcases hcase hb with ⟨rfl, rfl⟩ | ⟨e, hb⟩
    · rfl
    · rw [m2 b e] at hm; exact H.nil_ b sb hb hm
  · rcases hcase hb with ⟨rfl, rfl⟩ | ⟨e, hb⟩
    · rw [m1] at hm; cases hm
    · rw [m2 b e] at hm
      obtain ⟨q1, q2, q3, q4⟩ := H.at_ b sb k' base room hb hm
      exact ⟨q1, q2, q3, fun i v hv => (q4 i v hv).imp fun c ⟨e1, e2, e3⟩ => ⟨e1, e2, e3.mono hle⟩⟩
  · rcases hcase h2 with ⟨rfl, rfl⟩ | ⟨e, g2⟩
    · rw [m1] at h5; cases h5
    · rw [m2 b e] at h5
      rcases hcase h3 with ⟨rfl, rfl⟩ | ⟨e', g3⟩
      · rw [m1] at h6; cases h6
      · rw [m2 b' e'] at h6
        exact H.inj b b' k' base room base' room' h1 ⟨_, g2⟩ ⟨_, g3⟩ h4 h5 h6
  · rcases hcase hb with ⟨rfl, rfl⟩ | ⟨e, hb⟩
    · simp [flat, segValsOf] at hvi
    · exact hle.inScope (H.scope b sb hb i v hvi)
  · rcases hcase h1 with ⟨rfl, rfl⟩ | ⟨e, g1⟩
    · rw [m1] at h2; cases h2
    · rw [m2 b e] at h2
      exact .inl ⟨b, base, room, ⟨_, g1⟩, h2, .inr rfl⟩
  · cases hc
    refine .slice _ 0 0 1 false none 0 0 ?_ (Nat.le_refl _) (Nat.le_refl _) fun _ => ⟨Nat.le_refl _, fun e => (by cases e), .inr ⟨m1, rfl, rfl⟩⟩
    simp [segLenAt, hget, segLen]

theorem give_row {pb r1 len cap es : Nat} {ex : Bool} {q : Place} (e0 : q.b = rowK pb r1) (e1 : q.s = 0) (e2 : q.o = 0) (e3 : len = q.n) (e4 : es = 1) (e5 : cap = len) : Ghost ro h (.slice q len cap es ex) h (idCell pb (r1, len)) := by
  intro μ w H
  refine ⟨μ, H, .refl _ _ _ _, fun c hc => ?_⟩
  obtain ⟨qb, qs, qo, qn⟩ := q
  simp only at e0 e1 e2 e3
  subst e0 e1 e2 e3 e4 e5
  obtain ⟨a, cap', L, rfl, g1, g2, _, g4⟩ := hc.slice_inv
  refine .slice _ _ _ 1 false a cap' L g1 g2 (Nat.le_refl _) fun e => ?_
  obtain ⟨h5, h6, h7⟩ := g4 e
  refine ⟨h5, (fun e => by cases e), ?_⟩
  rcases h7 with ⟨k, base, room, h8, h9, h10⟩ | h7
  · refine .inl ⟨k, base, room, h8, h9, fun _ => ?_⟩
    cases ex with
    | false => exact h10 rfl
    | true =>
      have hcap : cap' = cap := h6 rfl
      have e' : cap = L := e
      obtain ⟨ss, f1, f2, f3⟩ := segAt_get g1
      have f4 := (H.at_ _ ss k base room f1 h8).2.1
      have f5 : lenOf (ss.take 0) = 0 := rfl
      have f6 : segOff h (rowK pb r1) 0 = 0 := by rw [segOff_eq f1]; rfl
      rw [flat_length] at f4
      have f7 : L ≤ lenOf ss := by
        have := drop_of_get f2
        rw [List.drop_zero] at this
        rw [this, ← f3]
        simp [lenOf]
      simp only
      rw [f6]
      omega
  · exact .inr h7

theorem give_block {pb : Nat} {k k' : IntKind} {rows : List (List Int)} {xs : List Int} {x : Blk} {q : Place} {len cap es : Nat} {ex : Bool} (hp : h[pb]? = some [.pool k rows]) (hx : h[q.b.b]? = some x) (hn : rowNums x = some (k', xs))
    (e0 : q.b.r = 0) (hro : ro ≤ pb) (hro2 : ro ≤ q.b.b) (hkk : k = k') (e1 : q.s = 0) (e2 : q.o = 0) (e3 : q.n = xs.length) (e4 : len = q.n) (e5 : cap = len) (e6 : es = 1) (hne : q.b.b ≠ pb) :
    Ghost ro h (.slice q len cap es ex) ((h.set q.b.b [.vec k' (xs ++ [0])]).set pb [.pool k (rows ++ [xs])]) (idCell pb (rows.length, len)) := by
  intro μ w H
  obtain ⟨seg, rfl, hpl, hsv, hsl⟩ := rowNums_spec hn
  obtain ⟨⟨qb, qr⟩, qs, qo, qn⟩ := q
  simp only at e0 e1 e2 e3 e4 hx hro2 hne
  subst e0 e1 e2 e3 e4 e5 e6 hkk
  have hlt := (List.getElem?_eq_some_iff.1 hx).1
  have hold : blk? h (topK qb) = some [seg] := blk_top hpl hx
  have hp1 : (h.set qb [.vec k (xs ++ [0])])[pb]? = some [.pool k rows] := by rw [List.getElem?_set, if_neg hne]; exact hp
  have hget1 := pool_grow (h := h.set qb [.vec k (xs ++ [0])]) (xs := xs) hp1
  have hset : setB h (topK qb) [.vec k (xs ++ [0])] = h.set qb [.vec k (xs ++ [0])] := rfl
  have hget2 := setB_get hold (x := [.vec k (xs ++ [0])]) (.inl ⟨rfl, rfl⟩)
  rw [hset] at hget2
  have hnone : blk? h (rowK pb rows.length) = none := row_none hp
  have hne2 : topK qb ≠ rowK pb rows.length := by intro e; injection e with _ e; omega
  generalize hh : (h.set qb [.vec k (xs ++ [0])]).set pb [.pool k (rows ++ [xs])] = h' at hget1 ⊢
  have hlen : h'.length = h.length := by rw [← hh]; simp
  have hcase : ∀ {κ : Key} {sb : Blk}, blk? h' κ = some sb → (κ = rowK pb rows.length ∧ sb = [.vec k xs]) ∨ (κ = topK qb ∧ sb = [.vec k (xs ++ [0])]) ∨ (κ ≠ rowK pb rows.length ∧ κ ≠ topK qb ∧ blk? h κ = some sb) := fun {κ sb} hb => by
    rw [hget1] at hb
    split at hb
    · rename_i e; cases hb; exact .inl ⟨e, rfl⟩
    · rename_i e
      rw [hget2] at hb
      split at hb
      · rename_i e'; cases hb; exact .inr (.inl ⟨e', rfl⟩)
      · rename_i e'; exact .inr (.inr ⟨e, e', hb⟩)
  have hsame : ∀ {κ : Key}, κ ≠ rowK pb rows.length → κ ≠ topK qb → blk? h' κ = blk? h κ := fun {κ} a b => by rw [hget1, if_neg a, hget2, if_neg b]
  have hrow : blk? h' (rowK pb rows.length) = some [.vec k xs] := by rw [hget1, if_pos rfl]
  have hblk : blk? h' (topK qb) = some [.vec k (xs ++ [0])] := by rw [hget1, if_neg hne2, hget2, if_pos rfl]
  generalize hmu : (fun κ : Key => if κ = topK qb then Loc.absent else if κ = rowK pb rows.length then μ (topK qb) else μ κ) = μ'
  have m0 : μ' (topK qb) = .absent := by rw [← hmu]; exact if_pos rfl
  have m1 : μ' (rowK pb rows.length) = μ (topK qb) := by rw [← hmu]; simp only [if_neg (Ne.symm hne2), if_true]
  have m2 : ∀ κ, κ ≠ rowK pb rows.length → κ ≠ topK qb → μ' κ = μ κ := fun κ hκ hκ2 => by rw [← hmu]; simp only; rw [if_neg hκ2, if_neg hκ]
  have hle : Le h μ h' μ' := ⟨fun b s L hl => by
    have hb : b ≠ rowK pb rows.length := by rintro rfl; obtain ⟨sb, hb⟩ := segLenAt_has hl; rw [hnone] at hb; cases hb
    by_cases hb2 : b = topK qb
    · subst hb2
      unfold segLenAt at hl ⊢
      rw [hold] at hl
      rw [hblk]
      cases s with
      | zero =>
        simp only [Option.bind_some, List.getElem?_cons_zero, Option.map_some, Option.some.injEq] at hl
        refine ⟨xs.length + 1, by simp [segLen], by omega, fun e => by omega⟩
      | succ s => simp at hl
    · refine ⟨L, ?_, Nat.le_refl _, fun _ => ⟨?_, fun _ => m2 b hb hb2⟩⟩
      · unfold segLenAt at *; rw [hsame hb hb2]; exact hl
      · unfold segOff; rw [blkD_same (segLenAt_has hl) (hsame hb hb2)]⟩
  have hflat : flat [seg] = flat [AV.vec k xs] := by simp [flat, hsv, segValsOf]
  refine ⟨μ', ⟨fun b sb hb hm => ?_, fun b sb k' base room hb hm => ?_, fun b b' k' base room base' room' h1 ⟨sb, h2⟩ ⟨sb', h3⟩ h4 h5 h6 => ?_, fun b sb hb i v hvi => ?_, by rw [hlen]; exact H.rol⟩,
    ⟨hle, rfl, rfl, rfl, Nat.le_refl _, by rw [hlen]; exact Nat.le_refl _, fun _ _ _ => rfl, fun b h1 h2 => ⟨by rw [← hh, List.getElem?_set, if_neg (by omega), List.getElem?_set, if_neg (by omega)], fun r => m2 _ (by intro e; injection e with e _; omega) (by intro e; injection e with e _; omega)⟩, fun b k' base room ⟨sb, h1⟩ h2 => ?_, fun _ => rfl⟩, fun c hc => ?_⟩
  · rcases hcase hb with ⟨rfl, rfl⟩ | ⟨rfl, rfl⟩ | ⟨e, e', hb⟩
    · rw [m1] at hm
      rw [← hflat]; exact H.nil_ _ _ hold hm
    · rw [m0] at hm; cases hm
    · rw [m2 b e e'] at hm; exact H.nil_ b sb hb hm
  · rcases hcase hb with ⟨rfl, rfl⟩ | ⟨rfl, rfl⟩ | ⟨e, e', hb⟩
    · rw [m1] at hm
      obtain ⟨q1, q2, q3, q4⟩ := H.at_ _ _ k' base room hold hm
      rw [hflat] at q2 q4
      exact ⟨q1, q2, q3, fun i v hv => (q4 i v hv).imp fun c ⟨e1, e2, e3⟩ => ⟨e1, e2, e3.mono hle⟩⟩
    · rw [m0] at hm; cases hm
    · rw [m2 b e e'] at hm
      obtain ⟨q1, q2, q3, q4⟩ := H.at_ b sb k' base room hb hm
      exact ⟨q1, q2, q3, fun i v hv => (q4 i v hv).imp fun c ⟨e1, e2, e3⟩ => ⟨e1, e2, e3.mono hle⟩⟩
  · rcases hcase h2 with ⟨rfl, rfl⟩ | ⟨rfl, rfl⟩ | ⟨e, e', g2⟩
    · rw [m1] at h5
      rcases hcase h3 with ⟨rfl, rfl⟩ | ⟨rfl, rfl⟩ | ⟨f, f', g3⟩
      · exact absurd rfl h4
      · rw [m0] at h6; cases h6
      · rw [m2 b' f f'] at h6
        exact H.inj _ b' k' base room base' room' hro2 ⟨_, hold⟩ ⟨_, g3⟩ (Ne.symm f') h5 h6
    · rw [m0] at h5; cases h5
    · rw [m2 b e e'] at h5
      rcases hcase h3 with ⟨rfl, rfl⟩ | ⟨rfl, rfl⟩ | ⟨f, f', g3⟩
      · rw [m1] at h6
        exact H.inj b _ k' base room base' room' h1 ⟨_, g2⟩ ⟨_, hold⟩ e' h5 h6
      · rw [m0] at h6; cases h6
      · rw [m2 b' f f'] at h6
        exact H.inj b b' k' base room base' room' h1 ⟨_, g2⟩ ⟨_, g3⟩ h4 h5 h6
  · rcases hcase hb with ⟨rfl, rfl⟩ | ⟨rfl, rfl⟩ | ⟨e, e', hb⟩
    · rw [← hflat] at hvi
      exact hle.inScope (H.scope _ _ hold i v hvi)
    · simp only [flat, List.flatMap_cons, List.flatMap_nil, List.append_nil, segVals, segValsOf, List.getElem?_map] at hvi
      cases hq : (xs ++ [0])[i]? with
      | none => rw [hq] at hvi; cases hvi
      | some n => rw [hq] at hvi; cases hvi; exact .int _ _
    · exact hle.inScope (H.scope b sb hb i v hvi)
  · rcases hcase h1 with ⟨rfl, rfl⟩ | ⟨rfl, rfl⟩ | ⟨e, e', g1⟩
    · rw [m1] at h2
      exact .inl ⟨topK qb, base, room, ⟨_, hold⟩, h2, .inl hro2⟩
    · rw [m0] at h2; cases h2
    · rw [m2 b e e'] at h2
      exact .inl ⟨b, base, room, ⟨_, g1⟩, h2, .inr rfl⟩
  · obtain ⟨a, cap', L, rfl, g1, g2, _, g4⟩ := hc.slice_inv
    simp only at g1 g2 g4
    have hL : L = xs.length := by
      unfold segLenAt at g1
      rw [hold] at g1
      simp only [Option.bind_some, List.getElem?_cons_zero, Option.map_some, Option.some.injEq] at g1
      omega
    subst hL
    obtain ⟨h5, h6, h7⟩ := g4 rfl
    have hoff : segOff h (topK qb) 0 = 0 := by rw [segOff_eq hold]; rfl
    have hoff2 : segOff h' (rowK pb rows.length) 0 = 0 := by rw [segOff_eq hrow]; rfl
    refine .slice _ _ _ 1 false a cap' xs.length (by simp [segLenAt, hrow, segLen]) (Nat.le_refl _) (Nat.le_refl _) fun _ => ⟨h5, (fun e => by cases e), ?_⟩
    rcases h7 with ⟨k', base, room, h8, h9, h10⟩ | ⟨h8, h9, h10⟩
    · refine .inl ⟨k', base, room, by simp only; rw [m1]; exact h8, by simp only; rw [hoff2, h9, hoff], fun _ => ?_⟩
      simp only
      rw [hoff2]
      cases ex with
      | false => have := h10 rfl; rw [hoff] at this; exact this
      | true =>
        have := h6 rfl
        have f4 := (H.at_ _ _ k' base room hold h8).2.1
        rw [flat_length] at f4
        have f7 : lenOf [seg] = xs.length := by simp [lenOf, hsl]
        omega
    · exact .inr ⟨by simp only; rw [m1]; exact h8, h9, h10⟩

theorem giveK_sound {pb : Nat} {v : AV} {K : Nat × Nat → Heap → Option α} (he : giveK ro pb v h K = some r) : ∃ q h', K q h' = some r ∧ Ghost ro h v h' (idCell pb q) := by
  unfold giveK at he
  split at he
  · split at he
    · rename_i k rows hp
      obtain ⟨hb, hk⟩ := br_fail he
      exact ⟨_, _, hk, give_nil (pool_of_D hp) (Nat.le_of_ble_eq_true hb)⟩
    · cases he
  · rename_i q len cap es ex
    split at he
    · rename_i r1 hr
      obtain ⟨hb, hk⟩ := br_fail he
      simp only [Bool.and_eq_true] at hb
      obtain ⟨b1, b2, b3, b4, b5, b6⟩ := hb
      refine ⟨_, _, hk, give_row ?_ (Nat.eq_of_beq_eq_true b2) (Nat.eq_of_beq_eq_true b3) (Nat.eq_of_beq_eq_true b4) (Nat.eq_of_beq_eq_true b5) (Nat.eq_of_beq_eq_true b6)⟩
      have e1 := Nat.eq_of_beq_eq_true b1
      obtain ⟨⟨qb, qr⟩, _, _, _⟩ := q
      simp only at e1 hr ⊢
      rw [e1, hr]
    · rename_i hr
      split at he
      · rename_i k rows hp
        split at he
        · rename_i k' xs hn
          obtain ⟨hb, hk⟩ := br_fail he
          simp only [Bool.and_eq_true, Nat.ble_eq, Bool.not_eq_true'] at hb
          obtain ⟨b1, b2, b3, b4, b5, b6, b7, b8, b9, b10⟩ := hb
          refine ⟨_, _, hk, give_block (pool_of_D hp) (raw_of_D rfl ?_) hn hr b1 b2 (keq_eq b3) (Nat.eq_of_beq_eq_true b4) (Nat.eq_of_beq_eq_true b5) (Nat.eq_of_beq_eq_true b6) (Nat.eq_of_beq_eq_true b7) (Nat.eq_of_beq_eq_true b8) (Nat.eq_of_beq_eq_true b9) ?_⟩
          · intro e; rw [e] at hn; cases hn
          · intro e; rw [e, Nat.beq_refl] at b10; cases b10
        · cases he
      · cases he
  · cases he

theorem giveK_one {pb : Nat} {v : AV} {K : Nat × Nat → Heap → Option α} (he : giveK ro pb v h K = some r) : cellsIn v = 1 := by
  unfold giveK at he
  split at he
  · rfl
  · rfl
  · cases he
theorem giveTo_sound {gv : Bool} {p : Place} {v : AV} {K : AV → Heap → Option α} (he : giveTo gv ro p v h K = some r) : ∃ v' h', K v' h' = some r ∧ cellsIn v' = cellsIn v ∧ Ghost ro h v h' v' := by
  have same : K v h = some r → ∃ v' h', K v' h' = some r ∧ cellsIn v' = cellsIn v ∧ Ghost ro h v h' v' := fun hk => ⟨v, h, hk, rfl, fun μ w H => ⟨μ, H, .refl _ _ _ _, fun c hc => hc⟩⟩
  unfold giveTo at he
  split at he
  · split at he
    · have h1 := giveK_one he
      obtain ⟨q, h', hk, hg⟩ := giveK_sound he
      exact ⟨_, h', hk, by rw [h1]; rfl, hg⟩
    · exact same he
  · exact same he

theorem giveAll_sound {pb : Nat} : ∀ (vs : List AV) (h : Heap) (K : List (Nat × Nat) → Heap → Option α), giveAll ro pb vs h K = some r → ∃ ids h', K ids h' = some r ∧ ids.length = vs.length ∧
    ∀ (μ : LMap) (w : World), HR ro h μ w → ∃ μ', HR ro h' μ' w ∧ Ext ro h μ w h' μ' w ∧ ∀ (i : Nat) (c : Value) (v : AV), vs[i]? = some v → VR h μ v c → ∃ q, ids[i]? = some q ∧ VR h' μ' (idCell pb q) c := by
  intro vs
  induction vs with
  | nil => intro h K he; exact ⟨[], h, he, rfl, fun μ w H => ⟨μ, H, .refl _ _ _ _, fun i c v hv => by simp at hv⟩⟩
  | cons v vs ih =>
    intro h K he
    simp only [giveAll] at he
    obtain ⟨q, h1, hk, hg⟩ := giveK_sound he
    obtain ⟨ids, h2, hk2, hl, hs⟩ := ih h1 _ hk
    refine ⟨q :: ids, h2, hk2, by simp [hl], fun μ w H => ?_⟩
    obtain ⟨μ1, H1, X1, V1⟩ := hg μ w H
    obtain ⟨μ2, H2, X2, V2⟩ := hs μ1 w H1
    refine ⟨μ2, H2, X1.trans X2, fun i c u hu hc => ?_⟩
    cases i with
    | zero =>
      simp only [List.getElem?_cons_zero, Option.some.injEq] at hu
      subst hu
      exact ⟨q, rfl, (V1 c hc).mono X2.le⟩
    | succ i =>
      obtain ⟨q', e1, e2⟩ := V2 i c u (by simpa using hu) (hc.mono X1.le)
      exact ⟨q', by simpa using e1, e2⟩
end
end Go.AM
