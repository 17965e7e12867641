/- A part of a proof about the given program: an abstract machine, what the given functions come to, and plain laws. -/
import Derived.Test.YtkboldcnkkolkaaPLib
import Derived.Test.YtkboldcnkkolkaaDRelationsOf
namespace Go.AM
section
variable {β : Type}
/-- The cells of a header. -/
abbrev idAt (ids : List (Nat × Nat)) (i : Nat) : Nat × Nat := ids[i]?.getD (0, 0)
abbrev rowAt (T : List (List Int)) (i : Nat) : List Int := T[i]?.getD []
/-- A table told by a header row and a pool of rows. -/
structure TabP (ids : List (Nat × Nat)) (pool T : List (List Int)) : Prop where
  len : T.length ≤ ids.length
  lt : ∀ i, i < T.length → (idAt ids i).1 < pool.length
  sz : ∀ i, i < T.length → (idAt ids i).2 = (rowAt T i).length
  row : ∀ i, i < T.length → rowAt pool (idAt ids i).1 = rowAt T i
  inj : ∀ i j, i < T.length → j < T.length → (idAt ids i).1 = (idAt ids j).1 → i = j
/-- How many cells the first rows have. -/
def total (T : List (List Int)) : Nat → Nat
  | 0 => 0
  | i + 1 => total T i + (rowAt T i).length
structure SmallT (N : Nat) (T : List (List Int)) : Prop where
  rows : T.length < N ∧ T.length ≤ 1000
  cols : ∀ i, i < T.length → (rowAt T i).length < N ∧ (rowAt T i).length ≤ 1000
theorem SmallT.total {N : Nat} {T : List (List Int)} (h : SmallT N T) : ∀ i, i ≤ T.length → total T i ≤ 1000 * i := by
  intro i
  induction i with
  | zero => intro _; exact Nat.le_refl _
  | succ i ih =>
    intro hi
    have := ih (by omega)
    have := (h.cols i (by omega)).2
    simp only [Go.AM.total]
    omega
theorem pair_beq {a b : Nat} (h : a = b) : (a.beq b) = true := by subst h; exact Nat.beq_refl a

/-! the law's functions on tables -/
theorem eqNil (z : β) {N : Nat} (hN : 0 < N) (k : Bool → β) : w_eqInt64SS z N k = k true := by
  obtain ⟨N, rfl⟩ : ∃ m, N = m + 1 := ⟨N - 1, by omega⟩
  simp (disch := omega) only [w_eqInt64SS, w_eqInt64SS_l0, w_eqInt64SS_l0_s, c_nlt]
theorem markNil (z : β) {N : Nat} (hN : 0 < N) (i : Int) (k : β) : w_markInt64SS z N i k = k := by
  obtain ⟨N, rfl⟩ : ∃ m, N = m + 1 := ⟨N - 1, by omega⟩
  simp (disch := omega) only [w_markInt64SS, w_markInt64SS_l0, w_markInt64SS_l0_s, c_nlt]
theorem heldNil (z : β) {N : Nat} (hN : 0 < N) (i : Int) (k : β) : w_heldInt64SS z N i k = k := by
  obtain ⟨N, rfl⟩ : ∃ m, N = m + 1 := ⟨N - 1, by omega⟩
  simp (disch := omega) only [w_heldInt64SS, w_heldInt64SS_l0, w_heldInt64SS_l0_s, c_nlt]

theorem eqRow (z : β) {N L c c' a b : Nat} (hN : L < N) (hl : L ≤ 1000) {P Q : List (List Int)} {xs : List Int} (ha : rowAt P a = xs) (hb : rowAt Q b = xs) (hx : xs.length = L) (k : Bool → β) :
    w_eqInt64S_s14 z N a 0 L L c b 0 L L c' P Q k = k true := by
  unfold w_eqInt64S_s14
  unfold rowAt at ha hb
  simp (disch := omega) only [c_ble, c_nne]
  exact (up_to_all (L := fun m i => w_eqInt64S_l0_s12 z a 0 L L c b 0 L L c' P Q m (i : Int) (k false) (k true)) (n := L) (kt := k true) (kf := k false) (p := fun _ => true)
    (fun m i hi => by
      simp only [w_eqInt64S_l0_s12, w_eqInt64S_l0_s12_s, c_and, Int.toNat_natCast, addO_eq, Nat.zero_add, ha, hb]
      simp (disch := omega) only [c_lt, c_le, c_blt, c_ble, c_beq, c_fits, c_nne]
      rfl)
    (fun m => by simp (disch := omega) only [w_eqInt64S_l0_s12, w_eqInt64S_l0_s12_s, c_ble, c_nlt]) L N 0 (by omega) hN).trans (by rw [(allFrom_iff L 0).2 fun _ _ _ => rfl]; rfl)
theorem eqTab (z : β) {N c c' : Nat} {ids ids' : List (Nat × Nat)} {P P' T : List (List Int)} (h : TabP ids P T) (h' : TabP ids' P' T) (s : SmallT N T) (k : Bool → β) :
    w_eqInt64SS_s4 z N ids.length T.length c ids'.length T.length c' ids ids' P P' k = k true := by
  have := s.rows
  have := h.len
  have := h'.len
  unfold w_eqInt64SS_s4
  simp (disch := omega) only [c_ble, c_nne]
  exact (up_to_all (L := fun m i => w_eqInt64SS_l0_s4 z N ids.length T.length c ids'.length T.length c' ids ids' P P' m (i : Int) (k false) (k true)) (n := T.length) (kt := k true) (kf := k false) (p := fun _ => true)
    (fun m i hi => by
      have e1 := h.sz i hi
      have e2 := h'.sz i hi
      have e3 := s.cols i hi
      have e4 := h.row i hi
      have e5 := h'.row i hi
      unfold idAt at e1 e2
      simp only [w_eqInt64SS_l0_s4, w_eqInt64SS_l0_s4_s, c_and, Int.toNat_natCast]
      simp (disch := omega) only [c_lt, c_le, c_blt, c_ble, c_beq, e1, e2]
      rw [eqRow z e3.1 e3.2 e4 e5 rfl]
      simp (disch := omega) only [Bool.not_true, cond_false, c_fits]
      rfl)
    (fun m => by simp (disch := omega) only [w_eqInt64SS_l0_s4, w_eqInt64SS_l0_s4_s, c_ble, c_nlt]) T.length N 0 (by omega) (by omega)).trans (by rw [(allFrom_iff T.length 0).2 fun _ _ _ => rfl]; rfl)

/-- A row that is marked from a number on. -/
def MarkR (k0 : Int) (L : Nat) (xs : List Int) : Prop := xs.length = L ∧ ∀ j, j < L → xs[j]?.getD 0 = k0 + j
theorem rowAt_set {P : List (List Int)} {a : Nat} {ys : List Int} (ha : a < P.length) (b : Nat) : rowAt (P.set a ys) b = if b = a then ys else rowAt P b := by
  unfold rowAt
  rw [List.getElem?_set]
  by_cases e : b = a
  · subst e; rw [if_pos rfl, if_pos ha, if_pos rfl]; rfl
  · rw [if_neg (Ne.symm e), if_neg e]
def markRowF (a : Nat) (k0 : Int) (i : Nat) (p : List (List Int)) : List (List Int) := p.set a ((rowAt p a).set i (k0 + i))
def markRowS (a : Nat) (k0 : Int) (L : Nat) (p : List (List Int)) : List (List Int) := iter (markRowF a k0) L 0 p
theorem markRowS_spec {a L : Nat} {k0 : Int} {P : List (List Int)} (ha : a < P.length) (hx : (rowAt P a).length = L) :
    (markRowS a k0 L P).length = P.length ∧ (∀ b, b ≠ a → rowAt (markRowS a k0 L P) b = rowAt P b) ∧ MarkR k0 L (rowAt (markRowS a k0 L P) a) := by
  have := iter_inv (f := markRowF a k0) (n := L) (I := fun i s => s.length = P.length ∧ (∀ b, b ≠ a → rowAt s b = rowAt P b) ∧ (rowAt s a).length = L ∧ ∀ j, j < i → (rowAt s a)[j]?.getD 0 = k0 + j)
    (fun i s hi ⟨i1, i2, i3, i4⟩ => by
      unfold markRowF
      refine ⟨by simp [i1], fun b hb => ?_, ?_, fun j hj => ?_⟩
      · rw [rowAt_set (by omega), if_neg hb]; exact i2 b hb
      · rw [rowAt_set (by omega), if_pos rfl, List.length_set]; exact i3
      · rw [rowAt_set (by omega), if_pos rfl, List.getElem?_set]
        by_cases e : i = j
        · subst e; rw [if_pos rfl, if_pos (by omega)]; rfl
        · rw [if_neg e]; exact i4 j (by omega)) L 0 P (by omega) ⟨rfl, fun _ _ => rfl, hx, fun j hj => by omega⟩
  rw [Nat.zero_add] at this
  exact this
theorem markRow (z : β) {N L c a : Nat} (hN : L < N) (hl : L ≤ 1000) {P : List (List Int)} {k0 : Int} (hk : 0 ≤ k0 ∧ k0 ≤ 1000000000) (ha : a < P.length) (hx : (rowAt P a).length = L) (k : Int → List (List Int) → β) :
    w_markInt64S_s6 z N a 0 L L c k0 P k = k (k0 + L) (markRowS a k0 L P) := by
  unfold w_markInt64S_s6
  have h1 := up_to (L := fun m i (s : List (List Int)) => w_markInt64S_l0_s6 z a 0 L L c m (k0 + i) (i : Int) s fun q10 q11 => k q10 q11) (n := L) (out := fun s => k (k0 + L) s) (f := markRowF a k0)
    (I := fun i s => s.length = P.length ∧ (rowAt s a).length = L)
    (fun m i s hi ⟨i1, i3⟩ => by
      unfold markRowF
      refine ⟨?_, by simp [i1], ?_⟩
      · have i3' := i3
        unfold rowAt at i3'
        simp only [w_markInt64S_l0_s6, w_markInt64S_l0_s6_s, c_and, Int.toNat_natCast, addO_eq, Nat.zero_add, i3']
        simp (disch := omega) only [c_lt, c_le, c_blt, c_ble, c_beq, c_fits]
        rw [show k0 + (i : Int) + 1 = k0 + ((i + 1 : Nat) : Int) by omega]
        rfl
      · rw [rowAt_set (by omega), if_pos rfl, List.length_set]; exact i3)
    (fun m s _ => by simp (disch := omega) only [w_markInt64S_l0_s6, w_markInt64S_l0_s6_s, c_ble, c_nlt]) L N 0 P (by omega) hN ⟨rfl, hx⟩
  refine Eq.trans ?_ h1
  simp
/-- A table that is marked. -/
structure TabM (ids : List (Nat × Nat)) (P T : List (List Int)) : Prop where
  len : T.length ≤ ids.length
  sz : ∀ i, i < T.length → (idAt ids i).2 = (rowAt T i).length
  row : ∀ i, i < T.length → MarkR (1 + total T i) (rowAt T i).length (rowAt P (idAt ids i).1)
def markTabF (ids : List (Nat × Nat)) (T : List (List Int)) (i : Nat) (p : List (List Int)) : List (List Int) := markRowS (idAt ids i).1 (1 + total T i) (rowAt T i).length p
def markTabS (ids : List (Nat × Nat)) (T P : List (List Int)) : List (List Int) := iter (markTabF ids T) T.length 0 P
theorem markTab (z : β) {N c : Nat} {ids : List (Nat × Nat)} {P T : List (List Int)} (h : TabP ids P T) (s : SmallT N T) (k : Int → List (List Int) → β) :
    w_markInt64SS_s2 z N ids.length T.length c 1 ids P k = k (1 + total T T.length) (markTabS ids T P) := by
  have hr := s.rows
  have hlen := h.len
  unfold w_markInt64SS_s2
  exact up_to (L := fun m i (p : List (List Int)) => w_markInt64SS_l0_s2 z N ids.length T.length c ids m (1 + total T i) (i : Int) p fun q9 q10 => k q9 q10) (n := T.length) (out := fun p => k (1 + total T T.length) p) (f := markTabF ids T)
    (I := fun i p => p.length = P.length ∧ ∀ j, i ≤ j → j < T.length → rowAt p (idAt ids j).1 = rowAt T j)
    (fun m i p hi ⟨i1, i2⟩ => by
      have e1 := h.sz i hi
      have e3 := s.cols i hi
      have e6 := s.total i (by omega)
      have hx : (rowAt p (idAt ids i).1).length = (rowAt T i).length := by rw [i2 i (Nat.le_refl _) hi]
      have hlt : (idAt ids i).1 < p.length := by rw [i1]; exact h.lt i hi
      obtain ⟨g2, g3, g4⟩ := markRowS_spec (k0 := 1 + total T i) hlt hx
      refine ⟨?_, by unfold markTabF; rw [g2, i1], fun j hj1 hj2 => ?_⟩
      · unfold idAt at e1
        simp only [w_markInt64SS_l0_s2, w_markInt64SS_l0_s2_s, c_and, Int.toNat_natCast]
        simp (disch := omega) only [c_lt, c_le, c_blt, c_ble, c_beq, e1]
        rw [markRow z e3.1 e3.2 (by omega) hlt hx]
        simp (disch := omega) only [c_fits]
        rw [show (1 : Int) + (total T i : Int) + ((rowAt T i).length : Int) = 1 + ((total T (i + 1) : Nat) : Int) by simp only [total]; omega]
        rfl
      · unfold markTabF
        rw [g3 _ (fun e => by have := h.inj j i hj2 hi e; omega)]; exact i2 j (by omega) hj2)
    (fun m p _ => by simp (disch := omega) only [w_markInt64SS_l0_s2, w_markInt64SS_l0_s2_s, c_ble, c_nlt]) T.length N 0 P (by omega) (by omega) ⟨rfl, fun j _ hj => h.row j hj⟩
theorem markTab_spec {ids : List (Nat × Nat)} {P T : List (List Int)} (h : TabP ids P T) : TabM ids (markTabS ids T P) T := by
  have := iter_inv (f := markTabF ids T) (n := T.length) (I := fun i p => p.length = P.length ∧ (∀ j, i ≤ j → j < T.length → rowAt p (idAt ids j).1 = rowAt T j) ∧ ∀ j, j < i → MarkR (1 + total T j) (rowAt T j).length (rowAt p (idAt ids j).1))
    (fun i p hi ⟨i1, i2, i3⟩ => by
      have hx : (rowAt p (idAt ids i).1).length = (rowAt T i).length := by rw [i2 i (Nat.le_refl _) hi]
      have hlt : (idAt ids i).1 < p.length := by rw [i1]; exact h.lt i hi
      obtain ⟨g2, g3, g4⟩ := markRowS_spec (k0 := 1 + total T i) hlt hx
      unfold markTabF
      refine ⟨by rw [g2, i1], fun j hj1 hj2 => ?_, fun j hj => ?_⟩
      · rw [g3 _ (fun e => by have := h.inj j i hj2 hi e; omega)]; exact i2 j (by omega) hj2
      · by_cases e : j = i
        · subst e; exact g4
        · rw [g3 _ (fun e' => e (h.inj j i (by omega) hi e'))]; exact i3 j (by omega)) T.length 0 P (by omega) ⟨rfl, fun j _ hj => h.row j hj, fun j hj => by omega⟩
  rw [Nat.zero_add] at this
  exact ⟨h.len, h.sz, this.2.2⟩
theorem heldRow (z : β) {N L c a : Nat} (hN : L < N) (hl : L ≤ 1000) {P : List (List Int)} {k0 : Int} (hk : 0 ≤ k0 ∧ k0 ≤ 1000000000) (hx : MarkR k0 L (rowAt P a)) (k : Int → β) :
    w_heldInt64S_s6 z N a 0 L L c k0 P k = k (k0 + L) := by
  obtain ⟨hx, hm⟩ := hx
  unfold rowAt at hx hm
  unfold w_heldInt64S_s6
  refine Eq.trans (b := w_heldInt64S_l0_s6 z a 0 L L c P N (k0 + (0 : Nat)) ((0 : Nat) : Int) (k (-1)) fun q10 => k q10) (by simp) ?_
  exact (up_to_all (L := fun m i => w_heldInt64S_l0_s6 z a 0 L L c P m (k0 + (i : Nat)) (i : Int) (k (-1)) fun q10 => k q10) (n := L) (kt := k (k0 + L)) (kf := k (-1)) (p := fun _ => true)
    (fun m i hi => by
      have := hm i hi
      simp only [w_heldInt64S_l0_s6, w_heldInt64S_l0_s6_s, c_and, Int.toNat_natCast, addO_eq, Nat.zero_add]
      simp (disch := omega) only [c_lt, c_le, c_blt, c_ble, c_beq, c_fits, c_nne]
      rw [show k0 + (i : Int) + 1 = k0 + ((i + 1 : Nat) : Int) by omega]
      rfl)
    (fun m => by simp (disch := omega) only [w_heldInt64S_l0_s6, w_heldInt64S_l0_s6_s, c_ble, c_nlt]) L N 0 (by omega) hN).trans (by rw [(allFrom_iff L 0).2 fun _ _ _ => rfl]; rfl)
theorem heldTab (z : β) {N c : Nat} {ids : List (Nat × Nat)} {P T : List (List Int)} (h : TabM ids P T) (s : SmallT N T) (k : Int → β) :
    w_heldInt64SS_s2 z N ids.length T.length c 1 ids P k = k (1 + total T T.length) := by
  have hr := s.rows
  have hlen := h.len
  unfold w_heldInt64SS_s2
  exact (up_to_all (L := fun m i => w_heldInt64SS_l0_s2 z N ids.length T.length c ids P m (1 + (total T i : Nat)) (i : Int) (k (-1)) fun q9 => k q9) (n := T.length) (kt := k (1 + total T T.length)) (kf := k (-1)) (p := fun _ => true)
    (fun m i hi => by
      have e1 := h.sz i hi
      have e3 := s.cols i hi
      have e6 := s.total i (by omega)
      unfold idAt at e1
      simp only [w_heldInt64SS_l0_s2, w_heldInt64SS_l0_s2_s, c_and, Int.toNat_natCast]
      simp (disch := omega) only [c_lt, c_le, c_blt, c_ble, c_beq, e1]
      rw [heldRow z e3.1 e3.2 (by omega) (h.row i hi)]
      simp (disch := omega) only [c_fits, c_nlt]
      rw [show (1 : Int) + (total T i : Int) + ((rowAt T i).length : Int) = 1 + ((total T (i + 1) : Nat) : Int) by simp only [total]; omega]
      rfl)
    (fun m => by simp (disch := omega) only [w_heldInt64SS_l0_s2, w_heldInt64SS_l0_s2_s, c_ble, c_nlt]) T.length N 0 (by omega) (by omega)).trans (by rw [(allFrom_iff T.length 0).2 fun _ _ _ => rfl]; rfl)

/-! tables that are built by appends -/
def idsOf (T : List (List Int)) : List (Nat × Nat) := (List.range T.length).map fun i => (i, (rowAt T i).length)
theorem idsOf_len (T : List (List Int)) : (idsOf T).length = T.length := by simp [idsOf]
theorem idsOf_at (T : List (List Int)) {i : Nat} (hi : i < T.length) : idAt (idsOf T) i = (i, (rowAt T i).length) := by
  simp [idAt, idsOf, hi]
theorem idsOf_app (T : List (List Int)) (x : List Int) : idsOf (T ++ [x]) = idsOf T ++ [(T.length, x.length)] := by
  unfold idsOf
  rw [List.length_append, List.length_singleton, List.range_succ, List.map_append]
  congr 1
  · refine List.map_congr_left fun i hi => ?_
    rw [List.mem_range] at hi
    unfold rowAt
    rw [List.getElem?_append_left hi]
  · simp [rowAt]
theorem TabP.of_app (T : List (List Int)) : TabP (idsOf T) T T where
  len := by rw [idsOf_len]; exact Nat.le_refl _
  lt i hi := by rw [idsOf_at T hi]; exact hi
  sz i hi := by rw [idsOf_at T hi]
  row i hi := by rw [idsOf_at T hi]
  inj i j hi hj e := by rw [idsOf_at T hi, idsOf_at T hj] at e; exact e
end
end Go.AM
