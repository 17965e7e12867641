/- A part of a proof about the given program: an abstract machine, what the given functions come to, and plain laws. -/
import Derived.Test.YtkboldcnkkolkaaAMTop
namespace Go.AM
open Go.ChangeShapes Go.WideShapes Go.RowKit
section
variable {P : Program}

theorem okWide_num {w : World} {r : Go.Reach} {base : Nat} {t : TypeId} {k : IntKind} {v : Value} (hu : P.underlying t = some (.int k)) (hv : Value.okWide P w r base t v) : ∃ n, v = .int k n ∧ fits k n = true := by
  unfold Value.okWide at hv
  rw [hu] at hv
  exact cell_int hu hv
theorem okWide_boolv {w : World} {r : Go.Reach} {base : Nat} {t : TypeId} {v : Value} (hu : P.underlying t = some .bool) (hv : Value.okWide P w r base t v) : ∃ b, v = .bool b := by
  unfold Value.okWide at hv
  rw [hu] at hv
  exact cell_bool hu hv

/-- How the cells of a value lie in segments: some numbers, or so many of one kind. -/
inductive Seg where
  | one (ks : List IntKind)
  | many (k : IntKind) (n : Nat)
def Seg.kinds : Seg → List IntKind
  | .one ks => ks
  | .many k n => List.replicate n k
def onesAV (cs : Array Value) : Nat → List IntKind → List AV
  | _, [] => []
  | o, k :: ks => .int k (numAt cs o) :: onesAV cs (o + 1) ks
def segAV (cs : Array Value) : Nat → List Seg → List AV
  | _, [] => []
  | o, .one ks :: r => .vals (onesAV cs o ks) :: segAV cs (o + ks.length) r
  | o, .many k n :: r => .ints k n (fun j => numAt cs (o + j)) :: segAV cs (o + n) r
def isKind (P : Program) (u : TypeId) (k : IntKind) : Bool := match P.underlying u with
  | some (.int k') => keq k k'
  | _ => false
def kindsB (P : Program) : List TypeId → List IntKind → Bool
  | [], [] => true
  | u :: ts, k :: ks => isKind P u k && kindsB P ts ks
  | _, _ => false

theorem isKind_eq {u : TypeId} {k : IntKind} (h : isKind P u k = true) : P.underlying u = some (.int k) := by
  unfold isKind at h
  split at h
  · rename_i k' hu
    rw [hu, keqP h]
  · cases h
theorem kindsB_len : ∀ {ts : List TypeId} {ks : List IntKind}, kindsB P ts ks = true → ts.length = ks.length
  | [], [], _ => rfl
  | [], _ :: _, h => by simp [kindsB] at h
  | _ :: _, [], h => by simp [kindsB] at h
  | u :: ts, k :: ks, h => by
    simp only [kindsB, Bool.and_eq_true] at h
    simp [kindsB_len h.2]
theorem kindsB_get : ∀ {ts : List TypeId} {ks : List IntKind}, kindsB P ts ks = true → ∀ (i : Nat) (k : IntKind), ks[i]? = some k → ∃ u, ts[i]? = some u ∧ P.underlying u = some (.int k)
  | [], [], _, i, k, hk => by simp at hk
  | [], _ :: _, h, _, _, _ => by simp [kindsB] at h
  | _ :: _, [], h, _, _, _ => by simp [kindsB] at h
  | u :: ts, k :: ks, h, i, k', hk => by
    simp only [kindsB, Bool.and_eq_true] at h
    cases i with
    | zero =>
      simp only [List.getElem?_cons_zero, Option.some.injEq] at hk
      subst hk
      exact ⟨u, rfl, isKind_eq h.1⟩
    | succ i =>
      obtain ⟨v, h1, h2⟩ := kindsB_get h.2 i k' (by simpa using hk)
      exact ⟨v, by simpa using h1, h2⟩

theorem onesAV_get (cs : Array Value) : ∀ (ks : List IntKind) (o i : Nat), (onesAV cs o ks)[i]? = (ks[i]?).map fun k => .int k (numAt cs (o + i)) := by
  intro ks
  induction ks with
  | nil => intro o i; simp [onesAV]
  | cons k ks ih =>
    intro o i
    cases i with
    | zero => simp [onesAV]
    | succ i => simp only [onesAV, List.getElem?_cons_succ, ih]; rw [show o + 1 + i = o + (i + 1) by omega]
theorem onesAV_length (cs : Array Value) : ∀ (ks : List IntKind) (o : Nat), (onesAV cs o ks).length = ks.length := by
  intro ks
  induction ks with
  | nil => intro o; rfl
  | cons k ks ih => intro o; simp [onesAV, ih]
theorem segAV_get (cs : Array Value) : ∀ (ss : List Seg) (o i : Nat), (flat (segAV cs o ss))[i]? = ((ss.flatMap Seg.kinds)[i]?).map fun k => .int k (numAt cs (o + i)) := by
  intro ss
  induction ss with
  | nil => intro o i; simp [segAV, flat]
  | cons s ss ih =>
    intro o i
    cases s with
    | one ks =>
      simp only [segAV, flat_cons, List.flatMap_cons, Seg.kinds]
      rw [show segVals (AV.vals (onesAV cs o ks)) = onesAV cs o ks from rfl]
      by_cases h : i < ks.length
      · rw [List.getElem?_append_left (by rw [onesAV_length]; exact h), List.getElem?_append_left h, onesAV_get]
      · rw [List.getElem?_append_right (by rw [onesAV_length]; omega), List.getElem?_append_right (by omega), onesAV_length, ih]
        rw [show o + ks.length + (i - ks.length) = o + i by omega]
    | many k n =>
      simp only [segAV, flat_cons, List.flatMap_cons, Seg.kinds]
      have hl : (segVals (AV.ints k n fun j => numAt cs (o + j))).length = n := by simp [segValsOf]
      by_cases h : i < n
      · rw [List.getElem?_append_left (by rw [hl]; exact h), List.getElem?_append_left (by simpa using h)]
        simp [segValsOf, h]
      · rw [List.getElem?_append_right (by rw [hl]; omega), List.getElem?_append_right (by simp; omega), hl, ih, List.length_replicate]
        rw [show o + n + (i - n) = o + i by omega]

/-- An array or a struct of numbers that is handed over by value. -/
structure AggIn (P : Program) (W : World) (base : Nat) (t : TypeId) (ss : List Seg) (v : Value) (cs : Array Value) : Prop where
  eq : v = .agg cs
  rel : VR [] (fun _ => .absent) (.agg (segAV cs 0 ss)) (.agg cs)
  fit : ∀ (i : Nat) (k : IntKind), (ss.flatMap Seg.kinds)[i]? = some k → fits k (numAt cs i) = true
theorem okWide_agg {W : World} {r : Go.Reach} {base : Nat} {t : TypeId} {d : TypeDesc} {v : Value} {ts : List TypeId} (ss : List Seg) (hu : P.underlying t = some d) (hd : isAggD d = true) (hts : P.cellTypes P.depth t = some ts) (hn : P.cellsOf t = ts.length)
    (hk : kindsB P ts (ss.flatMap Seg.kinds) = true) (hv : Value.okWide P W r base t v) : ∃ cs, AggIn P W base t ss v cs := by
  obtain ⟨cs, rfl, hs, hc⟩ := okWide_cells hu hd hts hn hv
  have hl := kindsB_len hk
  have key : ∀ (i : Nat) (k : IntKind), (ss.flatMap Seg.kinds)[i]? = some k → cs.getD i Go.undef = .int k (numAt cs i) ∧ fits k (numAt cs i) = true := by
    intro i k hik
    obtain ⟨u, h1, h2⟩ := kindsB_get hk i k hik
    obtain ⟨c, h3, h4⟩ := hc i u h1
    obtain ⟨n, rfl, h5⟩ := cell_int h2 h4
    have : numAt cs i = n := by unfold numAt; rw [h3]
    rw [this, Array.getD_eq_getD_getElem?, h3]
    exact ⟨rfl, h5⟩
  refine ⟨cs, rfl, .agg _ cs ?_ fun i => ?_, fun i k hik => (key i k hik).2⟩
  · have h1 : ∀ i, (flat (segAV cs 0 ss))[i]? = none ↔ (ss.flatMap Seg.kinds)[i]? = none := fun i => by rw [segAV_get]; exact Option.map_eq_none_iff
    rw [hs, hl]
    have a := (h1 (ss.flatMap Seg.kinds).length).2 (List.getElem?_eq_none (Nat.le_refl _))
    have b := (h1 (flat (segAV cs 0 ss)).length).1 (List.getElem?_eq_none (Nat.le_refl _))
    rw [List.getElem?_eq_none_iff] at a b
    omega
  · rw [List.getD_eq_getElem?_getD, segAV_get, Nat.zero_add]
    cases hq : (ss.flatMap Seg.kinds)[i]? with
    | none => exact .undef _
    | some k =>
      obtain ⟨h1, h2⟩ := key i k hq
      simp only [Option.map_some, Option.getD_some]
      rw [h1]
      exact .int _ _ h2

/-- Are the cells of a type of these kinds? -/
def typesB (P : Program) (t : TypeId) (ss : List Seg) : Bool := match P.cellTypes P.depth t with
  | some ts => Nat.beq (P.cellsOf t) ts.length && kindsB P ts (ss.flatMap Seg.kinds)
  | none => false
theorem okWide_aggB {W : World} {r : Go.Reach} {base : Nat} {t : TypeId} {d : TypeDesc} {v : Value} (ss : List Seg) (hu : P.underlying t = some d) (hd : isAggD d = true) (ht : typesB P t ss = true)
    (hv : Value.okWide P W r base t v) : ∃ cs, AggIn P W base t ss v cs := by
  unfold typesB at ht
  split at ht
  · rename_i ts hts
    simp only [Bool.and_eq_true] at ht
    exact okWide_agg ss hu hd hts (Nat.eq_of_beq_eq_true ht.1) ht.2 hv
  · cases ht

/-- Byte cells are not negative. -/
theorem AggIn.byte {W : World} {base : Nat} {t : TypeId} {ss : List Seg} {v : Value} {cs : Array Value} (h : AggIn P W base t ss v cs) {i : Nat} (hi : (ss.flatMap Seg.kinds)[i]? = some .u8) : 0 ≤ numAt cs i ∧ numAt cs i ≤ 255 := by
  have := h.fit i .u8 hi
  rw [fits_iff] at this
  exact this
theorem AggIn.long {W : World} {base : Nat} {t : TypeId} {ss : List Seg} {v : Value} {cs : Array Value} (h : AggIn P W base t ss v cs) {i : Nat} (hi : (ss.flatMap Seg.kinds)[i]? = some .i64) : -9223372036854775808 ≤ numAt cs i ∧ numAt cs i ≤ 9223372036854775807 := by
  have := h.fit i .i64 hi
  rw [fits_iff] at this
  exact this
def isU8 : Option IntKind → Bool
  | some .u8 => true
  | _ => false
def isI64 : Option IntKind → Bool
  | some .i64 => true
  | _ => false
theorem AggIn.bytes {W : World} {base : Nat} {t : TypeId} {ss : List Seg} {v : Value} {cs : Array Value} (h : AggIn P W base t ss v cs) (o n : Nat) (hb : allB (fun i => isU8 (ss.flatMap Seg.kinds)[o + i]?) (List.range n) = true) :
    ∀ j, j < n → 0 ≤ numAt cs (o + j) ∧ numAt cs (o + j) ≤ 255 := by
  intro j hj
  have := allB_spec hb j (List.mem_range.2 hj)
  refine h.byte (i := o + j) ?_
  cases hq : (ss.flatMap Seg.kinds)[o + j]? with
  | none => rw [hq] at this; cases this
  | some k => rw [hq] at this; cases k <;> first | rfl | cases this
theorem AggIn.longs {W : World} {base : Nat} {t : TypeId} {ss : List Seg} {v : Value} {cs : Array Value} (h : AggIn P W base t ss v cs) (o n : Nat) (hb : allB (fun i => isI64 (ss.flatMap Seg.kinds)[o + i]?) (List.range n) = true) :
    ∀ j, j < n → -9223372036854775808 ≤ numAt cs (o + j) ∧ numAt cs (o + j) ≤ 9223372036854775807 := by
  intro j hj
  have := allB_spec hb j (List.mem_range.2 hj)
  refine h.long (i := o + j) ?_
  cases hq : (ss.flatMap Seg.kinds)[o + j]? with
  | none => rw [hq] at this; cases this
  | some k => rw [hq] at this; cases k <;> first | rfl | cases this
end
end Go.AM
