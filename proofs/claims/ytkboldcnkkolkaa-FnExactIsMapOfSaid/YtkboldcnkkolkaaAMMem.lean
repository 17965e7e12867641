/- A part of a proof about the given program: an abstract machine, what the given functions come to, and plain laws. -/
import Derived.Test.YtkboldcnkkolkaaAMRel
import Derived.Laws.IdiomCopy
namespace Go.AM
theorem br_some {α : Type} {b : Bool} {x y : Option α} {r : α} (h : br b x y = some r) : (b = true ∧ x = some r) ∨ (b = false ∧ y = some r) := by
  cases b
  · exact .inr ⟨rfl, h⟩
  · exact .inl ⟨rfl, h⟩
theorem br_fail {α : Type} {b : Bool} {x : Option α} {r : α} (h : br b x none = some r) : b = true ∧ x = some r := by
  rcases br_some h with h | ⟨_, h⟩
  · exact h
  · cases h

theorem blkD_of {h : Heap} {b : Key} {ss : Blk} (hb : blk? h b = some ss) : blkD h b = ss := by
  unfold blk? at hb
  unfold blkD
  split at hb
  · split at hb
    · rename_i x hx
      cases hp : isPool x <;> rw [hp] at hb <;> simp only [cond_true, cond_false, reduceCtorEq, Option.some.injEq] at hb
      simp only [hb, cond_false]
    · cases hb
  · split at hb
    · rename_i x hx
      split at hb
      · rename_i k rows hr
        split at hb
        · rename_i xs hxs
          simp only [Option.some.injEq] at hb
          simp only [hr, List.getD_eq_getElem?_getD, hxs, Option.getD_some, hb]
        · cases hb
      · cases hb
    · cases hb
theorem blkD_same {h h' : Heap} {b b' : Key} (hx : ∃ ss, blk? h b = some ss) (e : blk? h' b' = blk? h b) : blkD h' b' = blkD h b := by
  obtain ⟨ss, hx⟩ := hx
  rw [blkD_of hx, blkD_of (e.trans hx)]
theorem blkD_congr {h h' : Heap} {κ κ' : Key} (hr : κ'.r = κ.r) (hb : h'[κ'.b]? = h[κ.b]?) : blkD h' κ' = blkD h κ := by
  unfold blkD
  rw [hr, hb]
theorem blkD_no {h : Heap} {b : Key} (hr : b.r = 0) (hb : blk? h b = none) : blkD h b = [] := by
  unfold blk? at hb
  unfold blkD
  rw [hr] at hb ⊢
  simp only at hb ⊢
  split at hb
  · rename_i x hx
    cases hp : isPool x with
    | true => simp
    | false => rw [hp] at hb; cases hb
  · simp
/-- What is not empty is there. -/
theorem has_of_pos {h : Heap} {b : Key} {s : Nat} (h0 : 0 < segLen (getSeg h b s)) : has h b := by
  cases hq : blk? h b with
  | some ss => exact ⟨ss, hq⟩
  | none =>
    exfalso
    unfold getSeg at h0
    have : ∀ s, segLen ((blkD h b).getD s .undef) = 0 := by
      unfold blk? at hq
      unfold blkD
      split at hq
      · split at hq
        · rename_i x hx
          intro s
          cases hp : isPool x with
          | true => simp [segLen]
          | false => rw [hp] at hq; cases hq
        · rename_i hx; intro s; simp [segLen]
      · split at hq
        · rename_i x hx
          split at hq
          · rename_i r k rows hr
            split at hq
            · cases hq
            · rename_i hxs
              intro s
              simp only [hr, List.getD_eq_getElem?_getD, hxs, Option.getD_none]
              cases s <;> simp [segLen]
          · rename_i hr
            intro s
            simp [hr, segLen]
        · rename_i hx; intro s; simp [segLen]
    rw [this] at h0
    omega
/-- A block that is no pool. -/
theorem blk_top {h : Heap} {b : Nat} {x : Blk} (hx : isPool x = false) (hb : h[b]? = some x) : blk? h ⟨b, 0⟩ = some x := by
  simp only [blk?, hb, hx, cond_false]
theorem poolOf_spec {x : Blk} {k : IntKind} {rows : List (List Int)} (h : poolOf x = some (k, rows)) : x = [.pool k rows] := by
  unfold poolOf at h
  split at h
  · cases h; rfl
  · cases h
theorem poolOf_pool {x : Blk} : isPool x = true ↔ ∃ k rows, poolOf x = some (k, rows) := by
  constructor
  · intro h
    unfold isPool at h
    split at h
    · exact ⟨_, _, rfl⟩
    · cases h
  · rintro ⟨k, rows, h⟩
    rw [poolOf_spec h]
    rfl
theorem blk_row {h : Heap} {b r : Nat} {k : IntKind} {rows : List (List Int)} {xs : List Int} (hb : h[b]? = some [.pool k rows]) (hr : rows[r]? = some xs) : blk? h ⟨b, r + 1⟩ = some [.vec k xs] := by
  simp only [blk?, hb, poolOf, hr]
/-- What a key names. -/
theorem blk_cases {h : Heap} {κ : Key} {x : Blk} (hb : blk? h κ = some x) : (κ.r = 0 ∧ h[κ.b]? = some x ∧ isPool x = false) ∨ ∃ r k rows xs, κ.r = r + 1 ∧ h[κ.b]? = some [.pool k rows] ∧ rows[r]? = some xs ∧ x = [.vec k xs] := by
  unfold blk? at hb
  split at hb
  · rename_i hr
    split at hb
    · rename_i y hy
      cases hp : isPool y with
      | true => rw [hp] at hb; cases hb
      | false =>
        rw [hp] at hb
        simp only [cond_false, Option.some.injEq] at hb
        subst hb
        exact .inl ⟨hr, hy, hp⟩
    · cases hb
  · rename_i r hr
    split at hb
    · rename_i y hy
      split at hb
      · rename_i k rows hk
        split at hb
        · rename_i xs hxs
          cases hb
          exact .inr ⟨r, k, rows, xs, hr, by rw [hy, poolOf_spec hk], hxs, rfl⟩
        · cases hb
      · cases hb
    · cases hb
theorem has_lt {h : Heap} {κ : Key} (hb : has h κ) : κ.b < h.length := by
  obtain ⟨x, hb⟩ := hb
  rcases blk_cases hb with ⟨_, h1, _⟩ | ⟨_, _, _, _, _, h1, _, _⟩
  · exact (List.getElem?_eq_some_iff.1 h1).1
  · exact (List.getElem?_eq_some_iff.1 h1).1
theorem blk_plain {h : Heap} {κ : Key} {x : Blk} (hb : blk? h κ = some x) : isPool x = false := by
  rcases blk_cases hb with ⟨_, _, h1⟩ | ⟨_, _, _, _, _, _, _, rfl⟩
  · exact h1
  · rfl
/-- What the block alone tells. -/
theorem blk_congr {h h' : Heap} {κ κ' : Key} (hr : κ'.r = κ.r) (hb : h'[κ'.b]? = h[κ.b]?) : blk? h' κ' = blk? h κ := by
  unfold blk?
  rw [hr, hb]

theorem flat_drop_get (ss : List AV) (s i : Nat) : (flat ss)[lenOf (ss.take s) + i]? = (flat (ss.drop s))[i]? := by
  have e : flat ss = flat (ss.take s) ++ flat (ss.drop s) := by rw [← flat_append, List.take_append_drop]
  rw [e, List.getElem?_append_right (by rw [flat_length]; omega), flat_length]
  congr 1
  omega

theorem segAt_get {h : Heap} {b : Key} {s L : Nat} (hl : segLenAt h b s = some L) : ∃ ss, blk? h b = some ss ∧ ss[s]? = some (getSeg h b s) ∧ segLen (getSeg h b s) = L := by
  unfold segLenAt at hl
  cases hb : blk? h b with
  | none => simp [hb] at hl
  | some ss =>
    cases hs : ss[s]? with
    | none => simp [hb, hs] at hl
    | some seg =>
      have e : getSeg h b s = seg := by simp [getSeg, List.getD_eq_getElem?_getD, blkD_of hb, hs]
      refine ⟨ss, rfl, ?_, ?_⟩
      · rw [e, hs]
      · rw [e]; simpa [hb, hs] using hl

theorem segOff_eq {h : Heap} {b : Key} {s : Nat} {ss : Blk} (hb : blk? h b = some ss) : segOff h b s = lenOf (ss.take s) := by
  rw [segOff, blkD_of hb]

theorem drop_of_get {ss : List AV} {s : Nat} {seg : AV} (hs : ss[s]? = some seg) : ss.drop s = seg :: ss.drop (s + 1) := by
  obtain ⟨hlt, he⟩ := List.getElem?_eq_some_iff.1 hs
  rw [List.drop_eq_getElem_cons hlt, he]

/-- Cells of a block, from a segment on. -/
theorem HR.row {ro : Nat} {h : Heap} {μ : LMap} {w : World} (H : HR ro h μ w) {b : Key} {s L k base room : Nat} (hl : segLenAt h b s = some L) (hm : μ b = .at k base room) {i : Nat} {v : AV}
    (hv : (flat ((blkD h b).drop s))[i]? = some v) :
    ∃ c, w.cell? ⟨k, base + segOff h b s + i, none⟩ = some c ∧ w.frozen? ⟨k, base + segOff h b s + i, none⟩ = false ∧ c.oneCell' = true ∧ VR h μ v c := by
  obtain ⟨ss, hb, hs, hL⟩ := segAt_get hl
  obtain ⟨_, hr, hx, hc⟩ := H.at_ b ss k base room hb hm
  have hd : blkD h b = ss := blkD_of hb
  rw [hd, ← flat_drop_get] at hv
  have ho := segOff_eq (s := s) hb
  have hlt : lenOf (ss.take s) + i < (flat ss).length := by
    rcases Nat.lt_or_ge (lenOf (ss.take s) + i) (flat ss).length with h | h
    · exact h
    · rw [List.getElem?_eq_none h] at hv; cases hv
  obtain ⟨c, h1, h2, h3⟩ := hc _ v hv
  rw [ho, Nat.add_assoc]
  exact ⟨c, h1, (hx _ (by omega)).2, h2, h3⟩

theorem flat_seg {h : Heap} {b : Key} {s L : Nat} (hl : segLenAt h b s = some L) {i : Nat} {v : AV} (hv : (segVals (getSeg h b s))[i]? = some v) : (flat ((blkD h b).drop s))[i]? = some v := by
  obtain ⟨ss, hb, hs, hL⟩ := segAt_get hl
  have hd : blkD h b = ss := blkD_of hb
  rw [hd, drop_of_get hs, flat_cons, List.getElem?_append_left, hv]
  rcases Nat.lt_or_ge i (segVals (getSeg h b s)).length with h | h
  · exact h
  · rw [List.getElem?_eq_none h] at hv; cases hv

theorem addr_add (k o i : Nat) : (⟨k, o, none⟩ : Addr).add i = ⟨k, o + i, none⟩ := by
  unfold Addr.add; split <;> simp_all

/-- The value of cell 'i' of a segment. -/
theorem seg_ints {k : IntKind} {n : Nat} {f : Nat → Int} {i : Nat} (hi : i < n) : (segVals (.ints k n f))[i]? = some (.int k (f i)) := by simp [segVals, segValsOf, hi]
theorem seg_bools {n : Nat} {f : Nat → Bool} {i : Nat} (hi : i < n) : (segVals (.bools n f))[i]? = some (.bool (f i)) := by simp [segVals, segValsOf, hi]
theorem seg_vec {k : IntKind} {xs : List Int} {i : Nat} (hi : i < xs.length) : (segVals (.vec k xs))[i]? = some (.int k (xs.getD i 0)) := by
  simp [segVals, segValsOf, List.getD_eq_getElem?_getD, hi]

theorem seg_hdr {b : Nat} {ids : List (Nat × Nat)} {i : Nat} (hi : i < ids.length) : (segVals (.hdr b ids))[i]? = some (idCell b (ids.getD i (0, 0))) := by
  simp [segVals, segValsOf, List.getD_eq_getElem?_getD, hi]
theorem seg_strs {xs : List (List UInt8)} {i : Nat} (hi : i < xs.length) : (segVals (.strs xs))[i]? = some (.str (xs.getD i [])) := by
  simp [segVals, segValsOf, List.getD_eq_getElem?_getD, hi]

section
variable {α : Type} {P : Program} {r : α}

/-- What a load gives. -/
def LoadSem (P : Program) (t : TypeId) (p : Place) (h : Heap) (v : AV) : Prop :=
  ∀ (ro : Nat) (μ : LMap) (w : World) (a : Addr), VR h μ (.ptr p) (.pointer (some a)) → HR ro h μ w → ∃ c, (loadVar t a).run P w = .ok c w ∧ VR h μ v c

theorem VR.ptr_inv {h : Heap} {μ : LMap} {p : Place} {c : Value} (hv : VR h μ (.ptr p) c) :
    ∃ a L, c = .pointer (some a) ∧ segLenAt h p.b p.s = some L ∧ p.n ≤ L ∧ (p.n = L → ∃ k base room, μ p.b = .at k base room ∧ a = ⟨k, base + segOff h p.b p.s + p.o, none⟩) := by
  cases hv with
  | ptr _ a L h1 h2 h3 => exact ⟨a, L, rfl, h1, h2, h3⟩

theorem fresh_of {h : Heap} {μ : LMap} {p : Place} {a : Addr} (hv : VR h μ (.ptr p) (.pointer (some a))) (hn : p.n = segLen (getSeg h p.b p.s)) :
    ∃ L k base room, segLenAt h p.b p.s = some L ∧ μ p.b = .at k base room ∧ a = ⟨k, base + segOff h p.b p.s + p.o, none⟩ := by
  obtain ⟨a', L, e, h1, h2, h3⟩ := hv.ptr_inv
  cases e
  obtain ⟨ss, _, _, hL⟩ := segAt_get h1
  obtain ⟨k, base, room, h4, h5⟩ := h3 (by omega)
  exact ⟨L, k, base, room, h1, h4, h5⟩

theorem load_one {t : TypeId} {d : TypeDesc} (hu : P.underlying t = some d) (hd : ∀ fs, d ≠ .struct fs) (hd2 : ∀ n e, d ≠ .array n e) {w : World} {a : Addr} {c : Value} (hc : w.cell? a = some c) :
    (loadVar t a).run P w = .ok c w := by
  have h1 : (isAgg t).run P w = .ok false w := by
    simp only [isAgg, Sem.run_bind, run_underlying hu, Result.andThen_ok]
    cases d <;> first | rfl | exact absurd rfl (hd _) | exact absurd rfl (hd2 _ _)
  simp [loadVar, Sem.run_bind, h1, hc]

theorem loadCell_sound {t : TypeId} {d : TypeDesc} (hu : P.underlying t = some d) (hd : ∀ fs, d ≠ .struct fs) (hd2 : ∀ n e, d ≠ .array n e) {p : Place} {h : Heap} {K : AV → Option α}
    (he : loadCell p h K = some r) : ∃ v, K v = some r ∧ LoadSem P t p h v := by
  have key : ∀ v, p.n = segLen (getSeg h p.b p.s) → (segVals (getSeg h p.b p.s))[p.o]? = some v → LoadSem P t p h v := by
    intro v hn hv ro μ w a hp H
    obtain ⟨L, k, base, room, h1, h2, rfl⟩ := fresh_of hp hn
    obtain ⟨c, h3, _, _, h4⟩ := H.row h1 h2 (flat_seg h1 hv)
    exact ⟨c, load_one hu hd hd2 h3, h4⟩
  unfold loadCell at he
  split at he
  · rename_i k n f hs
    obtain ⟨hb, hk⟩ := br_fail he
    simp only [Bool.and_eq_true, Nat.blt_eq] at hb
    exact ⟨_, hk, key _ (by rw [hs]; simpa [segLen] using hb.1) (by rw [hs]; exact seg_ints hb.2)⟩
  · rename_i k xs hs
    obtain ⟨hb, hk⟩ := br_fail he
    simp only [Bool.and_eq_true, Nat.blt_eq] at hb
    exact ⟨_, hk, key _ (by rw [hs]; simpa [segLen] using hb.1) (by rw [hs]; exact seg_vec hb.2)⟩
  · rename_i n f hs
    obtain ⟨hb, hk⟩ := br_fail he
    simp only [Bool.and_eq_true, Nat.blt_eq] at hb
    exact ⟨_, hk, key _ (by rw [hs]; simpa [segLen] using hb.1) (by rw [hs]; exact seg_bools hb.2)⟩
  · rename_i vs hs
    obtain ⟨hb, hk⟩ := br_fail he
    have hb := Nat.eq_of_beq_eq_true hb
    split at hk
    · cases hk
    · rename_i v hne
      refine ⟨_, hk, key _ (by rw [hs]; simpa [segLen] using hb) ?_⟩
      rw [hs]
      simp only [segVals, segValsOf]
      rw [List.getD_eq_getElem?_getD] at hne ⊢
      cases hq : vs[p.o]? with
      | none => simp [hq] at hne
      | some v => simp
  · rename_i pb ids hs
    obtain ⟨hb, hk⟩ := br_fail he
    simp only [Bool.and_eq_true, Nat.blt_eq] at hb
    exact ⟨_, hk, key _ (by rw [hs]; simpa [segLen] using hb.1) (by rw [hs]; exact seg_hdr hb.2)⟩
  · rename_i xs hs
    obtain ⟨hb, hk⟩ := br_fail he
    simp only [Bool.and_eq_true, Nat.blt_eq] at hb
    exact ⟨_, hk, key _ (by rw [hs]; simpa [segLen] using hb.1) (by rw [hs]; exact seg_strs hb.2)⟩
  · cases he

theorem keq_eq {k k' : IntKind} (h : keq k k' = true) : k = k' := by cases k <;> cases k' <;> first | rfl | simp [keq] at h
theorem addO_eq (o x : Nat) : addO o x = o + x := by cases o <;> simp [addO]
theorem mulS_eq (x m : Nat) : mulS x m = x * m := by
  unfold mulS
  split
  · simp
  · rfl
theorem shiftF_eq {β : Type} (f : Nat → β) (o i : Nat) : shiftF f o i = f (o + i) := by cases o <;> simp [shiftF]
theorem homT_size {t : TypeId} {k : IntKind} {m : Nat} (h : homT P t = some (k, m)) : m = P.cellsOf t := by
  unfold homT at h
  split at h
  · rename_i k' m' _
    cases hc : Nat.beq (P.cellsOf t) m' with
    | false => simp [hc] at h
    | true =>
      simp only [hc, cond_true, Option.some.injEq, Prod.mk.injEq] at h
      have := Nat.eq_of_beq_eq_true hc
      omega
  · cases h

theorem takeSegs_spec : ∀ (l : List AV) (n : Nat) (r : List AV), takeSegs l n = some r → (flat r).length = n ∧ ∀ i, i < n → (flat r)[i]? = (flat l)[i]?
  | l, 0, r, h => by
    have : r = [] := by cases l <;> simp [takeSegs] at h <;> exact h
    subst this
    exact ⟨rfl, fun i hi => by omega⟩
  | [], n + 1, r, h => by simp [takeSegs] at h
  | s :: rest, n + 1, r, h => by
    simp only [takeSegs] at h
    cases hc : (Nat.ble (segLen s) (n + 1) && Nat.blt 0 (segLen s)) with
    | false => simp [hc] at h
    | true =>
      simp only [hc, cond_true] at h
      simp only [Bool.and_eq_true, Nat.ble_eq, Nat.blt_eq] at hc
      cases hr : takeSegs rest (n + 1 - segLen s) with
      | none => simp [hr] at h
      | some r' =>
        simp only [hr, Option.some.injEq] at h
        subst h
        obtain ⟨h1, h2⟩ := takeSegs_spec rest _ r' hr
        rw [flat_cons, flat_cons]
        refine ⟨by simp [segVals_length, h1]; omega, fun i hi => ?_⟩
        by_cases hlt : i < segLen s
        · rw [List.getElem?_append_left (by rw [segVals_length]; exact hlt), List.getElem?_append_left (by rw [segVals_length]; exact hlt)]
        · rw [List.getElem?_append_right (by rw [segVals_length]; omega), List.getElem?_append_right (by rw [segVals_length]; omega), segVals_length]
          exact h2 _ (by omega)
termination_by _ n _ _ => n
decreasing_by simp only [Bool.and_eq_true, Nat.ble_eq, Nat.blt_eq] at hc; omega

theorem info_of_underlying {t : TypeId} {d : TypeDesc} (hu : P.underlying t = some d) : ∃ i, P.info? t = some i := by
  unfold Program.underlying at hu
  cases h : P.info? t with
  | none => simp [h] at hu
  | some i => exact ⟨i, rfl⟩

theorem run_sizeOf {t : TypeId} {d : TypeDesc} (hu : P.underlying t = some d) (w : World) : (sizeOf t).run P w = .ok (P.cellsOf t) w := by
  obtain ⟨i, hi⟩ := info_of_underlying hu
  simp [sizeOf, typeInfo, hi, Program.cellsOf]

/-- A struct or an array out of memory. -/
theorem load_agg {t : TypeId} {d : TypeDesc} (hu : P.underlying t = some d) (hd : (∃ fs, d = .struct fs) ∨ (∃ n e, d = .array n e)) {w : World} {k o : Nat} {h : Heap} {μ : LMap} {ss : List AV}
    (hn : (flat ss).length = P.cellsOf t)
    (hc : ∀ i v, (flat ss)[i]? = some v → ∃ c, w.cell? ⟨k, o + i, none⟩ = some c ∧ VR h μ v c) : ∃ c, (loadVar t ⟨k, o, none⟩).run P w = .ok c w ∧ VR h μ (.agg ss) c := by
  have h1 : (isAgg t).run P w = .ok true w := by
    simp only [isAgg, Sem.run_bind, run_underlying hu, Result.andThen_ok]
    rcases hd with ⟨fs, rfl⟩ | ⟨n, e, rfl⟩ <;> rfl
  let f : Nat → Value := fun i => (w.cell? ⟨k, o + i, none⟩).getD Go.undef
  have h2 : ∀ j, j < P.cellsOf t → w.cell? ((⟨k, o, none⟩ : Addr).add j) = some (f j) := by
    intro j hj
    rw [addr_add]
    rw [← hn] at hj
    obtain ⟨c, hc1, _⟩ := hc j _ (List.getElem?_eq_getElem hj)
    simp [f, hc1]
  refine ⟨.agg ((List.range (P.cellsOf t)).map f).toArray, ?_, ?_⟩
  · simp [loadVar, Sem.run_bind, h1, run_sizeOf hu, run_loadCells w _ _ f h2]
  · refine .agg _ _ (by simp [hn]) fun i => ?_
    by_cases hi : i < (flat ss).length
    · obtain ⟨c, hc1, hc2⟩ := hc i _ (List.getElem?_eq_getElem hi)
      have e1 : (flat ss).getD i .undef = (flat ss)[i] := by simp [List.getD_eq_getElem?_getD, hi]
      have e2 : ((List.range (P.cellsOf t)).map f).toArray.getD i Go.undef = c := by
        rw [Array.getD_eq_getD_getElem?]
        simp [← hn, hi, f, hc1]
      rw [e1, e2]
      exact hc2
    · have e1 : (flat ss).getD i .undef = .undef := by simp [List.getD_eq_getElem?_getD, hi]
      rw [e1]
      exact .undef _

theorem recVals_get {ks : List (Option IntKind)} {xs : List Int} {i : Nat} (hi : i < xs.length) : (recVals ks xs)[i]? = some (convC (ks.getD (i % ks.length) none) (xs.getD i 0)) := by
  simp [recVals, hi]
theorem recCells_get (xs : List Int) (o : Nat) : ∀ (ks : List (Option IntKind)) (j i : Nat), (recCells ks xs o j)[i]? = (ks[i]?).map fun k => convC k (xs.getD (o + (j + i)) 0) := by
  intro ks
  induction ks with
  | nil => intro j i; simp [recCells]
  | cons k ks ih =>
    intro j i
    cases i with
    | zero => simp [recCells, addO_eq]
    | succ i => simp only [recCells, List.getElem?_cons_succ, ih]; rw [show j + 1 + i = j + (i + 1) by omega]
theorem recCells_len (xs : List Int) (o : Nat) : ∀ (ks : List (Option IntKind)) (j : Nat), (recCells ks xs o j).length = ks.length := by
  intro ks
  induction ks with
  | nil => intro j; rfl
  | cons k ks ih => intro j; simp [recCells, ih]

theorem loadAgg_sound {t : TypeId} {d : TypeDesc} (hu : P.underlying t = some d) (hd : (∃ fs, d = .struct fs) ∨ (∃ n e, d = .array n e)) {p : Place} {h : Heap} {K : AV → Option α}
    (he : loadAgg P t p h K = some r) : ∃ v, K v = some r ∧ LoadSem P t p h v := by
  have key : ∀ ss, p.n = segLen (getSeg h p.b p.s) → (flat ss).length = P.cellsOf t → (∀ i v, (flat ss)[i]? = some v → (flat ((blkD h p.b).drop p.s))[p.o + i]? = some v) → LoadSem P t p h (.agg ss) := by
    intro ss hn hl hv ro μ w a hp H
    obtain ⟨L, k, base, room, h1, h2, rfl⟩ := fresh_of hp hn
    refine load_agg hu hd hl fun i v hi => ?_
    obtain ⟨c, h3, _, _, h4⟩ := H.row h1 h2 (hv i v hi)
    exact ⟨c, by rw [Nat.add_assoc]; exact h3, h4⟩
  have one : ∀ {L : Nat} {i : Nat} {v : AV}, segLenAt h p.b p.s = some L → (segVals (getSeg h p.b p.s))[i]? = some v → (flat ((blkD h p.b).drop p.s))[i]? = some v := fun h1 h2 => flat_seg h1 h2
  have vals : loadAgg.loadVals P t p h K = some r → ∃ v, K v = some r ∧ LoadSem P t p h v := by
    intro he
    unfold loadAgg.loadVals at he
    split at he
    · rename_i vs hs
      obtain ⟨hb, hk⟩ := br_fail he
      simp only [Bool.and_eq_true, Nat.ble_eq] at hb
      have hn : p.n = segLen (getSeg h p.b p.s) := by rw [hs]; simpa [segLen] using hb.1
      refine ⟨_, hk, fun ro μ w a hp H => ?_⟩
      obtain ⟨L, _, _, _, h1, _, _⟩ := fresh_of hp hn
      refine key _ hn (by simp [flat, segVals, segValsOf]; omega) (fun i v hi => one h1 ?_) ro μ w a hp H
      rw [hs]
      simp only [flat, List.flatMap_cons, List.flatMap_nil, List.append_nil, segVals, segValsOf, List.getElem?_take, List.getElem?_drop] at hi ⊢
      split at hi
      · exact hi
      · cases hi
    · cases he
  unfold loadAgg at he
  split at he
  · rename_i k m hh
    split at he
    · rename_i k' n f hs
      obtain ⟨hb, hk⟩ := br_fail he
      simp only [Bool.and_eq_true, Nat.ble_eq] at hb
      have hn : p.n = segLen (getSeg h p.b p.s) := by rw [hs]; simpa [segLen] using hb.1.2
      have hkk := keq_eq hb.1.1
      subst hkk
      refine ⟨_, hk, fun ro μ w a hp H => ?_⟩
      obtain ⟨L, _, _, _, h1, _, _⟩ := fresh_of hp hn
      refine key _ hn (by simp [flat, segVals, segValsOf, homT_size hh]) (fun i v hi => one h1 ?_) ro μ w a hp H
      simp only [flat, List.flatMap_cons, List.flatMap_nil, List.append_nil] at hi
      have hlt : i < m := by
        rcases Nat.lt_or_ge i (segVals (.ints k m (shiftF f p.o))).length with h | h
        · simpa [segVals, segValsOf] using h
        · rw [List.getElem?_eq_none h] at hi; cases hi
      rw [seg_ints hlt] at hi
      rw [hs, seg_ints (by omega), ← hi, shiftF_eq]
    · rename_i k' xs hs
      obtain ⟨hb, hk⟩ := br_fail he
      simp only [Bool.and_eq_true, Nat.ble_eq] at hb
      have hn : p.n = segLen (getSeg h p.b p.s) := by rw [hs]; simpa [segLen] using hb.1.2
      have hkk := keq_eq hb.1.1
      subst hkk
      refine ⟨_, hk, fun ro μ w a hp H => ?_⟩
      obtain ⟨L, _, _, _, h1, _, _⟩ := fresh_of hp hn
      refine key _ hn (by simp [flat, segVals, segValsOf, homT_size hh]) (fun i v hi => one h1 ?_) ro μ w a hp H
      simp only [flat, List.flatMap_cons, List.flatMap_nil, List.append_nil] at hi
      have hlt : i < m := by
        rcases Nat.lt_or_ge i (segVals (.ints k m fun j => xs.getD (addO p.o j) 0)).length with h | h
        · simpa [segVals, segValsOf] using h
        · rw [List.getElem?_eq_none h] at hi; cases hi
      rw [seg_ints hlt] at hi
      rw [hs, seg_vec (by omega), ← hi, addO_eq]
    · cases he
  · split at he
    · rename_i ks xs hs
      obtain ⟨hb, hk⟩ := br_fail he
      simp only [Bool.and_eq_true, Nat.ble_eq] at hb
      obtain ⟨b1, b2, b3, b4⟩ := hb
      have b2 := Nat.eq_of_beq_eq_true b2
      have b3 := Nat.eq_of_beq_eq_true b3
      have hn : p.n = segLen (getSeg h p.b p.s) := by rw [hs]; simpa [segLen] using b1
      have hfl : flat [AV.vals (recCells ks xs p.o 0)] = recCells ks xs p.o 0 := by simp [flat, segValsOf]
      refine ⟨_, hk, fun ro μ w a hp H => ?_⟩
      obtain ⟨L, _, _, _, h1, _, _⟩ := fresh_of hp hn
      refine key _ hn (by rw [hfl, recCells_len]; exact b2.symm) (fun i v hi => one h1 ?_) ro μ w a hp H
      rw [hfl, recCells_get] at hi
      cases hki : ks[i]? with
      | none => rw [hki] at hi; simp at hi
      | some kk =>
        rw [hki] at hi
        simp only [Option.map_some, Option.some.injEq] at hi
        have hlt := (List.getElem?_eq_some_iff.1 hki).1
        rw [hs]
        show (recVals ks xs)[p.o + i]? = _
        rw [recVals_get (by omega), ← hi, Nat.zero_add]
        have e1 : (p.o + i) % ks.length = i := by
          rw [Nat.add_mod, b3, Nat.zero_add, Nat.mod_mod, Nat.mod_eq_of_lt hlt]
        rw [e1, List.getD_eq_getElem?_getD, hki]
        rfl
    · split at he
      · rename_i ho
        split at he
        · rename_i ss hss
          obtain ⟨hb, hk⟩ := br_fail he
          have hb := Nat.eq_of_beq_eq_true hb
          obtain ⟨h1, h2⟩ := takeSegs_spec _ _ _ hss
          refine ⟨_, hk, key _ hb h1 fun i v hi => ?_⟩
          have hlt : i < P.cellsOf t := by
            rcases Nat.lt_or_ge i (flat ss).length with h | h
            · omega
            · rw [List.getElem?_eq_none h] at hi; cases hi
          rw [ho, Nat.zero_add, ← h2 i hlt, hi]
        · exact vals he
      · exact vals he

/-- What a load through a pointer to a column gives. -/
def LoadSemR (P : Program) (t : TypeId) (p : Place) (c : Nat) (h : Heap) (v : AV) : Prop :=
  ∀ (ro : Nat) (μ : LMap) (w : World) (a : Addr), VR h μ (.rptr p c) (.pointer (some a)) → HR ro h μ w → ∃ c', (loadVar t a).run P w = .ok c' w ∧ VR h μ v c'

theorem fresh_ofR {h : Heap} {μ : LMap} {p : Place} {c : Nat} {a : Addr} (hv : VR h μ (.rptr p c) (.pointer (some a))) (hn : p.n = segLen (getSeg h p.b p.s)) :
    ∃ L k base room, segLenAt h p.b p.s = some L ∧ μ p.b = .at k base room ∧ a = ⟨k, base + segOff h p.b p.s + p.o + c, none⟩ := by
  cases hv with
  | rptr _ _ _ L h1 h2 h3 =>
    obtain ⟨ss, _, _, hL⟩ := segAt_get h1
    obtain ⟨k, base, room, h4, h5⟩ := h3 (by omega)
    exact ⟨L, k, base, room, h1, h4, h5⟩

theorem col_get {ks : List (Option IntKind)} {xs : List Int} {o c : Nat} (h1 : c < ks.length) (h2 : o % ks.length = 0) (h3 : o + ks.length ≤ xs.length) :
    (recVals ks xs)[o + c]? = some (convC (ks.getD c none) (xs.getD (addO o c) 0)) := by
  have e1 : (o + c) % ks.length = c := by rw [Nat.add_mod, h2, Nat.zero_add, Nat.mod_mod, Nat.mod_eq_of_lt h1]
  rw [recVals_get (by omega), e1, addO_eq]

theorem loadRec_sound {t : TypeId} {p : Place} {c : Nat} {h : Heap} {K : AV → Option α} (he : loadRec P t p c h K = some r) : ∃ v, K v = some r ∧ LoadSemR P t p c h v := by
  unfold loadRec at he
  split at he
  · cases he
  · cases he
  · rename_i d h1 h2 hu
    split at he
    · rename_i ks xs hs
      obtain ⟨hb, hk⟩ := br_fail he
      simp only [Bool.and_eq_true, Nat.ble_eq, Nat.blt_eq] at hb
      obtain ⟨b1, b2, b3, b4⟩ := hb
      have hn : p.n = segLen (getSeg h p.b p.s) := by rw [hs]; simpa [segLen] using b1
      refine ⟨_, hk, fun ro μ w a hp H => ?_⟩
      obtain ⟨L, k, base, room, g1, g2, rfl⟩ := fresh_ofR hp hn
      have hv : (segVals (getSeg h p.b p.s))[p.o + c]? = some (convC (ks.getD c none) (xs.getD (addO p.o c) 0)) := by
        rw [hs]; exact col_get b2 (Nat.eq_of_beq_eq_true b3) b4
      obtain ⟨c', h3, _, _, h4⟩ := H.row g1 g2 (flat_seg g1 hv)
      exact ⟨c', load_one hu (fun fs e => h1 fs e) (fun n e' e => h2 n e' e) (by rw [Nat.add_assoc _ p.o c]; exact h3), h4⟩
    · cases he
  · cases he
end
end Go.AM
