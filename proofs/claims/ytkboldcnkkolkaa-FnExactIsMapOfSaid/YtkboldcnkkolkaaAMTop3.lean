/- A part of a proof about the given program: an abstract machine, what the given functions come to, and plain laws. -/
import Derived.Test.YtkboldcnkkolkaaAMTop2
import Derived.Deep.Slices
import Derived.OpenShut
namespace Go.AM
open Go.ChangeShapes Go.WideShapes Go.RowKit
section
variable {P : Program} {H : Type} {enc : TypeId × Value → H} {w : World} {base : Nat} {spare : Nat → Bool} {held : Bool}

def chkK (P : Program) (t : TypeId) : Option (List IntKind) → Option (List IntKind)
  | some ks => cond (Nat.beq (P.cellsOf t) ks.length) (some ks) none
  | none => none
def fieldsK (g : TypeId → Option (List IntKind)) : Nat → List Field → Option (List IntKind)
  | _, [] => some []
  | o, f :: fs => match g f.type with
    | some ks => cond (Nat.beq f.offset o) (match fieldsK g (o + ks.length) fs with
      | some r => some (ks ++ r)
      | none => none) none
    | none => none
/-- The kinds of a type's cells, if they are numbers all. -/
def cellsK (P : Program) : Nat → TypeId → Option (List IntKind)
  | 0, _ => none
  | d + 1, t => chkK P t (match P.underlying t with
    | some (.int k) => some [k]
    | some (.array n e) => match cellsK P d e with
      | some ks => some ((List.replicate n ks).flatten)
      | none => none
    | some (.struct fs) => fieldsK (cellsK P d) 0 fs.toList
    | _ => none)

theorem chkK_spec {t : TypeId} {o : Option (List IntKind)} {ks : List IntKind} (h : chkK P t o = some ks) : o = some ks ∧ P.cellsOf t = ks.length := by
  cases o with
  | none => simp [chkK] at h
  | some l =>
    simp only [chkK] at h
    cases hb : Nat.beq (P.cellsOf t) l.length with
    | false => simp [hb] at h
    | true =>
      simp only [hb, cond_true, Option.some.injEq] at h
      subst h
      exact ⟨rfl, Nat.eq_of_beq_eq_true hb⟩
theorem cellsK_len {d : Nat} {t : TypeId} {ks : List IntKind} (h : cellsK P d t = some ks) : P.cellsOf t = ks.length := by
  cases d with
  | zero => simp [cellsK] at h
  | succ d => exact (chkK_spec h).2

/-- Cells of these kinds. -/
def GoodK (ks : List IntKind) (cs : List Value) : Prop := ∀ (i : Nat) (k : IntKind), ks[i]? = some k → ∃ n, cs[i]? = some (.int k n) ∧ fits k n = true

theorem wf_fits {k : IntKind} {n : Int} (h : (Lit.int k n).wf = true) : fits k n = true := by
  rw [fits_iff]
  simp only [Lit.wf, Bool.and_eq_true, decide_eq_true_eq] at h
  cases k <;> exact h

theorem repK : ∀ (n : Nat) (ks : List IntKind) (i : Nat) (k : IntKind), ((List.replicate n ks).flatten)[i]? = some k → ∃ q j, q < n ∧ j < ks.length ∧ i = q * ks.length + j ∧ ks[j]? = some k
  | 0, _, i, k, h => by simp at h
  | n + 1, ks, i, k, h => by
    rw [List.replicate_succ, List.flatten_cons] at h
    by_cases hi : i < ks.length
    · rw [List.getElem?_append_left hi] at h
      exact ⟨0, i, by omega, hi, by omega, h⟩
    · rw [List.getElem?_append_right (by omega)] at h
      obtain ⟨q, j, h1, h2, h3, h4⟩ := repK n ks _ k h
      refine ⟨q + 1, j, by omega, h2, ?_, h4⟩
      rw [Nat.succ_mul]
      omega

theorem take_drop_get (cs : List Value) (o m j : Nat) (hj : j < m) : ((cs.drop o).take m)[j]? = cs[o + j]? := by
  rw [List.getElem?_take, if_pos hj, List.getElem?_drop]

theorem fieldsK_spec {g : TypeId → Option (List IntKind)} {cs : List Value} (hg : ∀ t ks, g t = some ks → P.cellsOf t = ks.length) : ∀ (fs : List Field) (o : Nat) (ks : List IntKind), fieldsK g o fs = some ks →
    (∀ f, f ∈ fs → ∀ ks', g f.type = some ks' → GoodK ks' ((cs.drop f.offset).take (P.cellsOf f.type))) → ∀ (i : Nat) (k : IntKind), ks[i]? = some k → ∃ n, cs[o + i]? = some (.int k n) ∧ fits k n = true
  | [], o, ks, h, _, i, k, hi => by
    simp only [fieldsK, Option.some.injEq] at h
    subst h
    simp at hi
  | f :: fs, o, ks, h, hf, i, k, hi => by
    simp only [fieldsK] at h
    split at h
    · rename_i ks1 hk1
      cases hb : Nat.beq f.offset o with
      | false => simp [hb] at h
      | true =>
        simp only [hb, cond_true] at h
        have ho := Nat.eq_of_beq_eq_true hb
        split at h
        · rename_i r hr
          simp only [Option.some.injEq] at h
          subst h
          by_cases hlt : i < ks1.length
          · rw [List.getElem?_append_left hlt] at hi
            obtain ⟨n, h1, h2⟩ := hf f (by simp) ks1 hk1 i k hi
            rw [take_drop_get _ _ _ _ (by rw [hg _ _ hk1]; exact hlt), ho] at h1
            exact ⟨n, h1, h2⟩
          · rw [List.getElem?_append_right (by omega)] at hi
            obtain ⟨n, h1, h2⟩ := fieldsK_spec hg fs _ r hr (fun f' hf' => hf f' (by simp [hf'])) _ k hi
            rw [show o + ks1.length + (i - ks1.length) = o + i by omega] at h1
            exact ⟨n, h1, h2⟩
        · cases h
    · cases h

theorem cellsK_spec : ∀ (d : Nat) (t : TypeId) (ks : List IntKind), cellsK P d t = some ks → ∀ (n : Nat) (cs : List Value) (y : DataW H × List MemPlace), DataW.trod enc P w base spare held n t cs = some y → GoodK ks cs
  | 0, t, ks, h, _, _, _, _ => by simp [cellsK] at h
  | d + 1, t, ks, h, n, cs, y, hy => by
    obtain ⟨h1, h2⟩ := chkK_spec h
    split at h1
    · rename_i k hu
      simp only [Option.some.injEq] at h1
      subst h1
      obtain ⟨m, rfl, _, hw⟩ := DataW.trod_int hu hy
      intro i k' hi
      cases i with
      | zero =>
        simp only [List.getElem?_cons_zero, Option.some.injEq] at hi
        subst hi
        exact ⟨m, rfl, wf_fits hw⟩
      | succ i => simp at hi
    · rename_i a e hu
      split at h1
      · rename_i ks1 hk1
        simp only [Option.some.injEq] at h1
        subst h1
        obtain ⟨xs, m, _, _, hl, hxl, hx⟩ := DataW.trod_array hu hy
        intro i k hi
        obtain ⟨q, j, hq, hj, rfl, hjk⟩ := repK _ _ _ _ hi
        have hc := cellsK_len hk1
        have hxq := hx q hq
        rw [List.getElem?_eq_getElem (by omega)] at hxq
        obtain ⟨v, h3, h4⟩ := cellsK_spec d e ks1 hk1 m _ _ hxq j k hjk
        rw [take_drop_get _ _ _ _ (by omega), hc] at h3
        exact ⟨v, h3, h4⟩
      · cases h1
    · rename_i fs hu
      obtain ⟨xs, m, _, _, hl, hxl, hx⟩ := DataW.trod_struct hu hy
      intro i k hi
      obtain ⟨v, h3, h4⟩ := fieldsK_spec (P := P) (cs := cs) (fun t ks h => cellsK_len h) fs.toList 0 ks h1 (fun f hf ks' hk' => by
        obtain ⟨q, hq⟩ := List.getElem?_of_mem hf
        have hq' : fs[q]? = some f := by simpa using hq
        have hxq := hx q f hq'
        have hlt : q < fs.size := by
          have := (List.getElem?_eq_some_iff.1 hq).1
          simpa using this
        rw [List.getElem?_eq_getElem (by omega)] at hxq
        exact cellsK_spec d f.type ks' hk' m _ _ hxq) i k hi
      rw [Nat.zero_add] at h3
      exact ⟨v, h3, h4⟩
    · cases h1

/-- The number in a cell of memory. -/
def cellNum (w : World) (a : Addr) (o : Nat) : Int := match w.cell? (a.add o) with
  | some (.int _ n) => n
  | _ => 0
def cellNumV (w : World) (v : Value) (o : Nat) : Int := match v with
  | .slice (some a) _ _ => cellNum w a o
  | _ => 0
def sliceLen (v : Value) : Nat := match v with
  | .slice _ l _ => l
  | _ => 0
/-- Where a slice's elements lie. -/
def sliceLoc (es : Nat) (v : Value) : Loc := match v with
  | .slice (some a) _ cap => .at a.block a.off (cap * es)
  | _ => .none

/-- A slice of numbers that is handed over. -/
structure SliceIn (W : World) (k : IntKind) (es : Nat) (v : Value) : Prop where
  small : sliceLen v ≤ maxLen
  fit : ∀ j, j < sliceLen v * es → fits k (cellNumV W v j) = true
  val : (∃ kb o cap, v = .slice (some ⟨kb, o, none⟩) (sliceLen v) cap ∧ sliceLen v ≤ cap ∧ kb < W.heap.size ∧
      (∀ i, i < cap * es → (∃ c, W.cell? ⟨kb, o + i, none⟩ = some c) ∧ W.frozen? ⟨kb, o + i, none⟩ = false) ∧
      ∀ i, i < sliceLen v * es → W.cell? ⟨kb, o + i, none⟩ = some (.int k (cellNumV W v i))) ∨ v = .slice none 0 0

def allKind (k : IntKind) (ks : List IntKind) : Bool := allB (fun k' => keq k k') ks
theorem SliceIn.open_ {W : World} {t e : TypeId} {k : IntKind} {es b0 : Nat} {v : Value} {d : DataW H} {p : List MemPlace} (hu : P.underlying t = some (.slice e))
    (hk : (match cellsK P 8 e with | some ks => allKind k ks && (Nat.beq ks.length es && Nat.blt 0 es) | none => false) = true) (hval : Value.okWide P W .any b0 t v)
    (hd : DataW.Trod enc P W 0 (fun _ => true) true t v d p) (hfz : W.noneFrozen p) : SliceIn W k es v := by
  split at hk
  · rename_i ks hks
    simp only [Bool.and_eq_true, Nat.blt_eq] at hk
    obtain ⟨hk1, hk2, hk3⟩ := hk
    have hlen := Nat.eq_of_beq_eq_true hk2
    have hes : P.cellsOf e = es := by rw [cellsK_len hks, hlen]
    have hkk : ∀ j, j < es → ks[j]? = some k := by
      intro j hj
      rw [List.getElem?_eq_getElem (by omega)]
      have := allB_spec hk1 ks[j] (List.getElem_mem _)
      rw [keq_eq this]
    unfold Value.okWide at hval
    rw [hu] at hval
    have hval : Cell.ok P W .any b0 t v := by
      unfold Cell.okWide at hval
      rw [hu] at hval
      exact hval
    obtain ⟨fuel, hd⟩ := hd
    rcases Deep.open_slice hu hd with ⟨h1, _⟩ | ⟨a, len, cap, m, n, D, Pl, h1, _, h3, h4, h5, h6, h7⟩
    · have : v = .slice none 0 0 := by
        unfold Cell.ok at hval
        rw [hu] at hval
        cases v <;> simp [Value.cells] at h1 hval ⊢
        exact h1
      subst this
      exact ⟨Nat.zero_le _, fun j hj => by simp [sliceLen] at hj, .inr rfl⟩
    · have hv : v = .slice (some a) len cap := by
        unfold Cell.ok at hval
        rw [hu] at hval
        cases v <;> simp [Value.cells] at h1 hval ⊢
        exact h1
      subst hv
      unfold Cell.ok at hval
      rw [hu] at hval
      obtain ⟨_, _, _, hsp, row, cells, hshape, _⟩ := hval
      obtain ⟨kb, o, spot⟩ := a
      have hkb : kb < W.heap.size := by
        simp only [World.shape?] at hshape
        rcases Nat.lt_or_ge kb W.heap.size with h | h
        · exact h
        · rw [Array.getElem?_eq_none h] at hshape
          simp at hshape
      simp only at hsp
      subst hsp
      simp only [if_true] at h5
      subst h5
      have hp : p = MemPlace.row ⟨kb, o, none⟩ (m * P.cellsOf e) ++ (List.range m).flatMap Pl := by
        simp only [Prod.mk.injEq] at h6
        exact h6.2
      have hcell : ∀ q, q < m → ∀ j, j < es → ∃ n, W.cell? ⟨kb, o + (q * es + j), none⟩ = some (.int k n) ∧ fits k n = true := by
        intro q hq j hj
        obtain ⟨cs', g1, g2⟩ := h7 q hq
        obtain ⟨n', g3, g4⟩ := cellsK_spec 8 e ks hks _ _ _ g2 j k (hkk j hj)
        refine ⟨n', ?_, g4⟩
        obtain ⟨_, _, g6⟩ := World.cells?_some g1
        have := g6 j (by omega)
        rw [g3, addr_add, addr_add, hes] at this
        rw [← this, Nat.add_assoc]
      have hall : ∀ i, i < m * es → ∃ n, W.cell? ⟨kb, o + i, none⟩ = some (.int k n) ∧ fits k n = true := by
        intro i hi
        have e1 : i = i / es * es + i % es := by rw [Nat.mul_comm]; exact (Nat.div_add_mod i es).symm
        have := hcell (i / es) (Nat.div_lt_of_lt_mul (by rw [Nat.mul_comm]; exact hi)) (i % es) (Nat.mod_lt _ hk3)
        rw [← e1] at this
        exact this
      have hnum : ∀ i, i < m * es → W.cell? ⟨kb, o + i, none⟩ = some (.int k (cellNumV W (.slice (some ⟨kb, o, none⟩) len m) i)) ∧ fits k (cellNumV W (.slice (some ⟨kb, o, none⟩) len m) i) = true := by
        intro i hi
        obtain ⟨n', g1, g2⟩ := hall i hi
        have : cellNumV W (.slice (some ⟨kb, o, none⟩) len m) i = n' := by simp only [cellNumV, cellNum, addr_add, g1]
        rw [this]
        exact ⟨g1, g2⟩
      have hle : len * es ≤ m * es := Nat.mul_le_mul_right _ h3
      refine ⟨by simp only [sliceLen]; omega, fun j hj => (hnum j (by simp only [sliceLen] at hj; omega)).2, .inl ⟨kb, o, m, rfl, h3, hkb, fun i hi => ?_, fun i hi => (hnum i (by simp only [sliceLen] at hi; omega)).1⟩⟩
      obtain ⟨n', g1, _⟩ := hall i hi
      refine ⟨⟨_, g1⟩, hfz kb (o + i) ?_⟩
      rw [hp]
      refine List.mem_append_left _ ?_
      unfold MemPlace.row
      exact List.mem_map.2 ⟨i, List.mem_range.2 (by rw [hes]; exact hi), rfl⟩
  · cases hk
end
end Go.AM
namespace Go.AM
open Go.ChangeShapes Go.WideShapes Go.RowKit
section
variable {P : Program}
/-- A block that is handed over, and where it lies. -/
structure BlkIn (W : World) (b : Blk) (loc : Loc) : Prop where
  plain : poolOf b = none
  some_ : loc ≠ .absent
  nil_ : loc = .none → flat b = []
  at_ : ∀ k base room, loc = .at k base room → k < W.heap.size ∧ (flat b).length ≤ room ∧ (∀ i, i < room → (∃ c, W.cell? ⟨k, base + i, none⟩ = some c) ∧ W.frozen? ⟨k, base + i, none⟩ = false) ∧
    ∀ (i : Nat) (v : AV), (flat b)[i]? = some v → ∃ kd n, v = .int kd n ∧ fits kd n = true ∧ W.cell? ⟨k, base + i, none⟩ = some (.int kd n)
  sc : ∀ (i : Nat) (v : AV), (flat b)[i]? = some v → ∃ kd n, v = .int kd n

def mapOf (l : List (Blk × Loc)) : LMap := fun b => (l.getD b.b ([], .absent)).2
theorem mapOf_get {l : List (Blk × Loc)} {b : Key} {x : Blk × Loc} (h : l[b.b]? = some x) : mapOf l b = x.2 := by simp [mapOf, List.getD_eq_getElem?_getD, h]

theorem HR_of {W : World} {l : List (Blk × Loc)} (hl : ∀ (i : Nat) (x : Blk × Loc), l[i]? = some x → BlkIn W x.1 x.2) : HR l.length (l.map (·.1)) (mapOf l) W := by
  have get : ∀ (b : Key) (ss : Blk), blk? (l.map (·.1)) b = some ss → ∃ x, l[b.b]? = some x ∧ x.1 = ss := by
    intro b ss hb
    rcases blk_cases hb with ⟨_, h1, _⟩ | ⟨r, k, rows, xs, _, h1, _, _⟩
    · rw [List.getElem?_map, Option.map_eq_some_iff] at h1
      exact h1
    · rw [List.getElem?_map, Option.map_eq_some_iff] at h1
      obtain ⟨x, h2, h3⟩ := h1
      have := (hl _ x h2).plain
      rw [h3] at this
      cases this
  refine ⟨fun b ss hb hm => ?_, fun b ss k base room hb hm => ?_, fun b b' k base room base' room' h1 h2 => ?_, fun b ss hb i v hv => ?_, by simp⟩
  · obtain ⟨x, hx, rfl⟩ := get b ss hb
    rw [mapOf_get hx] at hm
    exact (hl b.b x hx).nil_ hm
  · obtain ⟨x, hx, rfl⟩ := get b ss hb
    rw [mapOf_get hx] at hm
    obtain ⟨h1, h2, h3, h4⟩ := (hl b.b x hx).at_ k base room hm
    refine ⟨h1, h2, h3, fun i v hv => ?_⟩
    obtain ⟨kd, n, rfl, h5, h6⟩ := h4 i v hv
    exact ⟨_, h6, rfl, .int _ _ h5⟩
  · have := has_lt h2
    simp at this
    omega
  · obtain ⟨x, hx, rfl⟩ := get b ss hb
    obtain ⟨kd, n, rfl⟩ := (hl b.b x hx).sc i v hv
    exact .int _ _

theorem SliceIn.blk {W : World} {k : IntKind} {es : Nat} {v : Value} (h : SliceIn W k es v) : BlkIn W [.ints k (sliceLen v * es) (cellNumV W v)] (sliceLoc es v) := by
  have hf : flat [AV.ints k (sliceLen v * es) (cellNumV W v)] = (List.range (sliceLen v * es)).map fun i => .int k (cellNumV W v i) := by simp [flat, segValsOf]
  have hget : ∀ (i : Nat) (u : AV), (flat [AV.ints k (sliceLen v * es) (cellNumV W v)])[i]? = some u → i < sliceLen v * es ∧ u = .int k (cellNumV W v i) := by
    intro i u hu
    rw [hf, List.getElem?_map, Option.map_eq_some_iff] at hu
    obtain ⟨j, h1, h2⟩ := hu
    rw [List.getElem?_eq_some_iff] at h1
    obtain ⟨h3, h4⟩ := h1
    simp only [List.length_range] at h3
    simp only [List.getElem_range] at h4
    subst h4
    exact ⟨h3, h2.symm⟩
  rcases h.val with ⟨kb, o, cap, hv, h1, h2, h3, h4⟩ | hv
  · have hloc : sliceLoc es v = .at kb o (cap * es) := by rw [hv]; rfl
    refine ⟨rfl, by rw [hloc]; simp, fun e => (by rw [hloc] at e; cases e), fun k' base room e => ?_, fun i u hu => ⟨k, _, (hget i u hu).2⟩⟩
    rw [hloc] at e
    cases e
    refine ⟨h2, by rw [hf]; simp; exact Nat.mul_le_mul_right _ h1, h3, fun i u hu => ?_⟩
    obtain ⟨hi, rfl⟩ := hget i u hu
    exact ⟨k, _, rfl, h.fit i hi, h4 i hi⟩
  · have h0 : sliceLen v = 0 := by rw [hv]; rfl
    have hloc : sliceLoc es v = .none := by rw [hv]; rfl
    refine ⟨rfl, by rw [hloc]; simp, fun _ => by rw [hf, h0]; simp, fun k' base room e => (by rw [hloc] at e; cases e), fun i u hu => ⟨k, _, (hget i u hu).2⟩⟩

theorem SliceIn.rel {W : World} {k : IntKind} {es : Nat} {v : Value} (h : SliceIn W k es v) {H : Heap} {μ : LMap} {b : Nat} (hb : H[b]? = some [.ints k (sliceLen v * es) (cellNumV W v)]) (hm : μ ⟨b, 0⟩ = sliceLoc es v) :
    VR H μ (.slice ⟨⟨b, 0⟩, 0, 0, sliceLen v * es⟩ (sliceLen v) (sliceLen v) es false) v := by
  have hL : segLenAt H ⟨b, 0⟩ 0 = some (sliceLen v * es) := by
    unfold segLenAt
    rw [blk_top rfl hb]
    rfl
  have ho : segOff H ⟨b, 0⟩ 0 = 0 := by simp [segOff, lenOf]
  rcases h.val with ⟨kb, o, cap, hv, h1, h2, h3, h4⟩ | hv
  · have hloc : sliceLoc es v = .at kb o (cap * es) := by rw [hv]; rfl
    have := VR.slice (h := H) (μ := μ) ⟨⟨b, 0⟩, 0, 0, sliceLen v * es⟩ (sliceLen v) (sliceLen v) es false (some ⟨kb, o, none⟩) cap _ hL (Nat.le_refl _) (Nat.le_refl _) fun _ =>
      ⟨h1, fun e => (by cases e), .inl ⟨kb, o, cap * es, by rw [hm, hloc], by simp [ho], fun _ => by simp [ho]⟩⟩
    rw [← hv] at this
    exact this
  · have h0 : sliceLen v = 0 := by rw [hv]; rfl
    have hloc : sliceLoc es v = .none := by rw [hv]; rfl
    have := VR.slice (h := H) (μ := μ) ⟨⟨b, 0⟩, 0, 0, sliceLen v * es⟩ (sliceLen v) (sliceLen v) es false none 0 _ hL (Nat.le_refl _) (Nat.le_refl _) fun _ =>
      ⟨by omega, fun e => (by cases e), .inr ⟨by rw [hm, hloc], rfl, rfl⟩⟩
    rw [h0] at this ⊢
    rw [hv]
    exact this

/-- A value that leads nowhere is told in any heap. -/
theorem Le.nil (H : Heap) (μ : LMap) : Le [] (fun _ => .absent) H μ := ⟨fun b s L h => by have := segLenAt_lt h; simp at this⟩

/-- The end of a law, of arguments that lie in blocks. -/
theorem law_callsH (hm : P.follows .mixedOrders = true) (hnames : NamesOk P) {E : Env (AV × Heap)} (hE : EnvOk P E) {d : Nat} {f : FuncId} {args : List AV} {b : Bool} {h' : Heap} {W : World} (l : List (Blk × Loc))
    (hl : ∀ (i : Nat) (x : Blk × Loc), l[i]? = some x → BlkIn W x.1 x.2)
    (hk : callK P E d f l.length args (l.map (·.1)) (fun v h => some (v, h)) = some (.bool b, h')) {cs : Array Value} (hlen : args.length = cs.size) (hargs : ∀ i, VR (l.map (·.1)) (mapOf l) (args.getD i .undef) (cs.getD i Go.undef)) :
    Calls P f cs W fun e W' => e = .returned (.bool b) ∧ Below W.heap.size W W' ∧ ∀ a, W'.frozen? a = W.frozen? a := by
  obtain ⟨v, h2, h3, _, hs⟩ := callK_sound hm hnames hE d f l.length args _ _ _ hk
  simp only [Option.some.injEq, Prod.mk.injEq] at h3
  obtain ⟨rfl, rfl⟩ := h3
  refine (hs _ W cs hlen hargs (HR_of hl)).mono ?_
  rintro e W' ⟨c, rfl, μ', v1, _, v3⟩
  cases v1
  refine ⟨rfl, ⟨v3.os, v3.tape, v3.output, v3.size, fun k hk => v3.frame k hk fun b base room h1 h2 => by have := has_lt h2; simp at this; omega⟩, v3.froz⟩
theorem blks_nil {W : World} : ∀ (i : Nat) (y : Blk × Loc), ([] : List (Blk × Loc))[i]? = some y → BlkIn W y.1 y.2 := fun i y h => by simp at h
theorem blks_cons {W : World} {x : Blk × Loc} {l : List (Blk × Loc)} (hx : BlkIn W x.1 x.2) (hl : ∀ (i : Nat) (y : Blk × Loc), l[i]? = some y → BlkIn W y.1 y.2) :
    ∀ (i : Nat) (y : Blk × Loc), (x :: l)[i]? = some y → BlkIn W y.1 y.2 := fun i y h => by
  cases i with
  | zero =>
    simp only [List.getElem?_cons_zero, Option.some.injEq] at h
    subst h
    exact hx
  | succ i => exact hl i y (by simpa using h)
theorem SliceIn.bytes {W : World} {es : Nat} {v : Value} (h : SliceIn W .u8 es v) : ∀ j, j < sliceLen v * es → 0 ≤ cellNumV W v j ∧ cellNumV W v j ≤ 255 := fun j hj => by
  have := h.fit j hj
  rw [fits_iff] at this
  exact this
theorem SliceIn.longs {W : World} {es : Nat} {v : Value} (h : SliceIn W .i64 es v) : ∀ j, j < sliceLen v * es → -9223372036854775808 ≤ cellNumV W v j ∧ cellNumV W v j ≤ 9223372036854775807 := fun j hj => by
  have := h.fit j hj
  rw [fits_iff] at this
  exact this
theorem SliceIn.short {W : World} {k : IntKind} {es : Nat} {v : Value} (h : SliceIn W k es v) : sliceLen v ≤ 9223372036854775807 := Nat.le_trans h.small (by decide)
end
end Go.AM
