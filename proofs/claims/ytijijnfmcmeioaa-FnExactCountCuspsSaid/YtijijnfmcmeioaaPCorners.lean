/- A part of a proof about the given program: an abstract machine, what the given functions come to, and plain laws. -/
import Derived.Test.YtijijnfmcmeioaaPRows
import Derived.Test.YtijijnfmcmeioaaPRect2
import Derived.Test.YtijijnfmcmeioaaDCornersOf
namespace Go.AM
section
variable {β : Type}
theorem s_l01Row_int (z : β) {N : Nat} (hN : 8 < N) {n : Nat} (h8 : n ≤ 8) {X : Nat → Int} (h : PermP 8 n X) (hX : ∀ j, 0 ≤ X j) {r : Int} (h0 : 0 ≤ r) (hr : r < n) (k : Int → β) : s_l01Row z N X n r k = k (rowOf n X r.toNat) := by
  have := s_l01Row_val z hN h8 h hX (r := r.toNat) (by omega) k
  rwa [Int.toNat_of_nonneg h0] at this
/-- The kind of a mark as a corner. -/
def kindI (i r o c : Int) : Int := if o < r then (if c < i then 3 else 2) else if c < i then 1 else 0
theorem i_kind_val (z : β) (N : Nat) (i r o c : Int) (k : Int → β) : i_kind z N i r o c k = k (kindI i r o c) := by
  unfold i_kind kindI
  by_cases h1 : o < r <;> by_cases h2 : c < i <;> simp [h1, h2]
theorem kindI_bd (i r o c : Int) : 0 ≤ kindI i r o c ∧ kindI i r o c ≤ 3 := by unfold kindI; split <;> split <;> omega
theorem grid_other {n : Nat} {X O : Nat → Int} (g : GridP n X O) (hO : ∀ j, 0 ≤ O j) (hX : ∀ j, 0 ≤ X j) {i : Nat} (hi : i < n) : rowOf n O (X i).toNat ≠ i := by
  intro e
  have h1 := g.px.2.1 i hi
  have h2 := hX i
  have := (rowOf_spec g.po hO (r := (X i).toNat) (by omega)).2
  rw [e] at this
  exact g.ne i hi (by omega)
theorem GridP.swap {n : Nat} {X O : Nat → Int} (g : GridP n X O) : GridP n O X := ⟨g.lo, g.hi, g.po, g.px, fun i hi => (g.ne i hi).symm⟩
theorem s_l07Kind_val (z : β) {N : Nat} (hN : 8 < N) {n : Nat} {X O : Nat → Int} (g : GridP n X O) (hX : ∀ j, 0 ≤ X j) (hO : ∀ j, 0 ≤ O j) {i : Nat} (hi : i < n) (k : Int → β) :
    s_l07Kind z N n X O i (X i) true k = k (kindI i (X i) (O i) (rowOf n O (X i).toNat)) ∧ s_l07Kind z N n X O i (O i) false k = k (kindI i (O i) (X i) (rowOf n X (O i).toNat)) := by
  have h8 := g.hi
  have x1 := g.px.2.1 i hi
  have x2 := hX i
  have o1 := g.po.2.1 i hi
  have o2 := hO i
  have ne := g.ne i hi
  have r1 := grid_other g hO hX hi
  have r2 := grid_other g.swap hX hO hi
  have s1 := (rowOf_spec g.px hX (r := (X i).toNat) (by omega)).2
  constructor
  · unfold s_l07Kind
    simp only [c_and, Int.toNat_natCast, Bool.not_true, c_false, s_l01Row_int z hN h8 g.po hO x2 x1]
    simp (disch := omega) only [c_lt, c_le, c_blt]
    unfold kindI
    simp only [c_dec]
    have q1 : X i < O i ↔ ¬ O i < X i := by omega
    have q2 : (i : Int) < rowOf n O (X i).toNat ↔ ¬ ((rowOf n O (X i).toNat : Nat) : Int) < i := by omega
    simp only [q1, q2]
    by_cases h1 : O i < X i <;> by_cases h2 : ((rowOf n O (X i).toNat : Nat) : Int) < i <;> simp [h1, h2]
  · unfold s_l07Kind
    simp only [c_and, Int.toNat_natCast, Bool.not_false, c_true, s_l01Row_int z hN h8 g.po hO o2 o1, s_l01Row_int z hN h8 g.px hX o2 o1]
    simp (disch := omega) only [c_lt, c_le, c_blt]
    unfold kindI
    simp only [c_dec]
    have q1 : O i < X i ↔ ¬ X i < O i := by omega
    have q2 : (i : Int) < rowOf n X (O i).toNat ↔ ¬ ((rowOf n X (O i).toNat : Nat) : Int) < i := by omega
    simp only [q1, q2]
    by_cases h1 : X i < O i <;> by_cases h2 : ((rowOf n X (O i).toNat : Nat) : Int) < i <;> simp [h1, h2]
/-- The corners of a column's two marks, each as four numbers. -/
noncomputable def cornerL (n : Nat) (X O : Nat → Int) (i : Nat) : List Int :=
  [(i : Int), X i, kindI i (X i) (O i) (rowOf n O (X i).toNat), 1, (i : Int), O i, kindI i (O i) (X i) (rowOf n X (O i).toNat), 0]
theorem cornerL_len (n : Nat) (X O : Nat → Int) (i : Nat) : (cornerL n X O i).length = 8 := rfl
noncomputable def cornersL (n : Nat) (X O : Nat → Int) : List Int := iter (fun i l => l ++ cornerL n X O i) n 0 []
theorem cornersL_len (n : Nat) (X O : Nat → Int) : (cornersL n X O).length = 8 * n := by
  have := iter_inv (f := fun i l => l ++ cornerL n X O i) (I := fun i (l : List Int) => l.length = 8 * i) (n := n) (fun i s _ h => by rw [List.length_append, cornerL_len]; omega) n 0 [] (by omega) rfl
  rwa [Nat.zero_add] at this
theorem s_l07Corners_val (z : β) {N : Nat} (hN : 8 < N) {n : Nat} {X O : Nat → Int} (g : GridP n X O) (hX : ∀ j, 0 ≤ X j) (hO : ∀ j, 0 ≤ O j) (k : Nat → Nat → Nat → List Int → β) :
    s_l07Corners z N n X O k = k (8 * n) (2 * n) (2 * n) (cornersL n X O) := by
  unfold s_l07Corners
  have h8 := g.hi
  refine (up_to (L := fun m i (l : List Int) => s_l07Corners_l0 z N n X O m (8 * i) (2 * i) (2 * i) (i : Int) l k) (n := n) (out := fun l => k (8 * n) (2 * n) (2 * n) l)
    (f := fun i l => l ++ cornerL n X O i) (I := fun i l => l.length = 8 * i)
    (fun m i l hi hl => ⟨?_, by rw [List.length_append, cornerL_len]; omega⟩) (fun m s _ => by simp (disch := omega) only [s_l07Corners_l0, s_l07Corners_l0_s, c_nlt]) n N 0 [] (by omega) (by omega) rfl)
  obtain ⟨k1, k2⟩ : (∀ k, s_l07Kind z N n X O i (X i) true k = k (kindI i (X i) (O i) (rowOf n O (X i).toNat))) ∧ ∀ k, s_l07Kind z N n X O i (O i) false k = k (kindI i (O i) (X i) (rowOf n X (O i).toNat)) := ⟨fun k => (s_l07Kind_val z hN g hX hO hi k).1, fun k => (s_l07Kind_val z hN g hX hO hi k).2⟩
  simp only [s_l07Corners_l0, s_l07Corners_l0_s, c_and, c_true, Int.toNat_natCast, k1, k2]
  simp (disch := omega) only [c_lt, c_le, c_blt, c_fits, c_beq, c_ble, c_nble]
  refine (show _ = s_l07Corners_l0 z N n X O m (l ++ cornerL n X O i).length (2 * i + 2) (2 * i + 2) ((i : Int) + 1) (l ++ cornerL n X O i) k from rfl).trans ?_
  rw [List.length_append, cornerL_len, hl]
  rfl
theorem i_Grid_corners_val (z : β) {N : Nat} (hN : 8 < N) {n : Nat} {X O : Nat → Int} (g : GridP n X O) (hX : ∀ j, 0 ≤ X j) (hO : ∀ j, 0 ≤ O j) (k : Nat → Nat → Nat → List Int → β) :
    i_Grid_corners z N n X O k = k (8 * n) (2 * n) (2 * n) (cornersL n X O) := by
  unfold i_Grid_corners i_Grid_n
  have h8 := g.hi
  rw [i_Grid_places_val z hN h8 g.px hX, i_Grid_places_val z hN h8 g.po hO]
  refine (up_to (L := fun m i (l : List Int) => i_Grid_corners_l0 z N n n X O (plc n X) (plc n O) m (8 * i) (2 * i) (2 * i) (i : Int) l k) (n := n) (out := fun l => k (8 * n) (2 * n) (2 * n) l)
    (f := fun i l => l ++ cornerL n X O i) (I := fun i l => l.length = 8 * i)
    (fun m i l hi hl => ⟨?_, by rw [List.length_append, cornerL_len]; omega⟩) (fun m s _ => by simp (disch := omega) only [i_Grid_corners_l0, i_Grid_corners_l0_s, c_nlt]) n N 0 [] (by omega) (by omega) rfl)
  have x1 := g.px.2.1 i hi
  have x2 := hX i
  have o1 := g.po.2.1 i hi
  have o2 := hO i
  have p1 := plc_spec g.po hO (r := (X i).toNat) (by omega)
  have p2 := plc_spec g.px hX (r := (O i).toNat) (by omega)
  simp only [i_Grid_corners_l0, i_Grid_corners_l0_s, c_and, c_true, Int.toNat_natCast, i_kind_val, p1, p2]
  simp (disch := omega) only [c_lt, c_le, c_blt, c_fits, c_beq, c_ble, c_nble]
  have e : ∀ a b c d : Int, fromTo [a, b, c, d] 0 4 = [a, b, c, d] := fun _ _ _ _ => rfl
  have e2 : ∀ a b c d : Int, (l ++ [a, b, c, d]).length = 8 * i + 4 := fun _ _ _ _ => by rw [List.length_append, hl]; rfl
  simp only [e, c_false, e2]
  rw [c_beq (by omega), c_beq (by omega), List.append_assoc, List.length_append, hl]
  rfl
/-- Lists of corners that lie as records. -/
theorem eqC_none (z : β) {N : Nat} (hN : 0 < N) (k : Bool → β) : w_eqCornerS z N k = k true := by
  obtain ⟨N, rfl⟩ : ∃ m, N = m + 1 := ⟨N - 1, by omega⟩
  simp (disch := omega) only [w_eqCornerS, w_eqCornerS_l0, w_eqCornerS_l0_s, c_nlt]
theorem markC_none (z : β) {N : Nat} (hN : 0 < N) (i : Int) (k : β) : w_markCornerS z N i k = k := by
  obtain ⟨N, rfl⟩ : ∃ m, N = m + 1 := ⟨N - 1, by omega⟩
  simp (disch := omega) only [w_markCornerS, w_markCornerS_l0, w_markCornerS_l0_s, c_nlt]
theorem heldC_none (z : β) {N : Nat} (hN : 0 < N) (i : Int) (k : β) : w_heldCornerS z N i k = k := by
  obtain ⟨N, rfl⟩ : ∃ m, N = m + 1 := ⟨N - 1, by omega⟩
  simp (disch := omega) only [w_heldCornerS, w_heldCornerS_l0, w_heldCornerS_l0_s, c_nlt]
theorem eqC_refl (z : β) {N L : Nat} (xs : List Int) (hx : xs.length = 4 * L) (hl : L ≤ 100000) (hN : L < N) (k : Bool → β) :
    w_eqCornerS_s4 z N (4 * L) L L (4 * L) L L xs xs k = k true := by
  unfold w_eqCornerS_s4
  rw [c_ble (by omega), c_ble (by omega), c_nne rfl]
  exact (up_to_all (L := fun m i => w_eqCornerS_l0_s4 z N (4 * L) L L (4 * L) L L xs xs m (i : Int) (k false) (k true)) (n := L) (kt := k true) (kf := k false) (p := fun _ => true)
    (fun m i hi => by
      simp only [w_eqCornerS_l0_s4, w_eqCornerS_l0_s4_s, w_eqCorner, c_and, Int.toNat_natCast, bne_self_eq_false, c_false, Bool.not_true]
      simp (disch := omega) only [c_lt, c_le, c_blt, c_ble, c_beq, c_fits]
      rfl)
    (fun m => by simp (disch := omega) only [w_eqCornerS_l0_s4, w_eqCornerS_l0_s4_s, c_nlt, c_ble]) L N 0 (by omega) hN).trans (by
      have := (allFrom_iff (p := fun _ => true) L 0).2 fun _ _ _ => rfl
      rw [this]; rfl)
def set4 (i : Nat) (h : List Int) : List Int :=
  (((h.set (i * 4) (4 * (i : Int) + 1)).set (i * 4 + 1) (4 * (i : Int) + 1 + 1)).set (i * 4 + 2) (4 * (i : Int) + 1 + 1 + 1)).set (i * 4 + 3) (cond ((4 * (i : Int) + 1 + 1 + 1 + 1).tmod 3 == 0) 1 0)
theorem set4_len (i : Nat) (h : List Int) : (set4 i h).length = h.length := by simp [set4]
def mark4 (j : Nat) : Int := if j % 4 = 3 then cond (((j : Int) + 1).tmod 3 == 0) 1 0 else (j : Int) + 1
theorem set4_get {i j : Nat} {h : List Int} (hi : 4 * i + 4 ≤ h.length) (hj : j < h.length) : (set4 i h)[j]?.getD 0 = if 4 * i ≤ j ∧ j < 4 * i + 4 then mark4 j else h[j]?.getD 0 := by
  unfold set4
  simp only [List.getElem?_set, List.length_set]
  by_cases e : 4 * i ≤ j ∧ j < 4 * i + 4
  · rw [if_pos e]
    have : j = i * 4 ∨ j = i * 4 + 1 ∨ j = i * 4 + 2 ∨ j = i * 4 + 3 := by omega
    rcases this with rfl | rfl | rfl | rfl
    · rw [if_neg (by omega), if_neg (by omega), if_neg (by omega), if_pos rfl, if_pos (by omega)]; unfold mark4; rw [if_neg (by omega)]; simp only [Option.getD_some]; omega
    · rw [if_neg (by omega), if_neg (by omega), if_pos rfl, if_pos (by omega)]; unfold mark4; rw [if_neg (by omega)]; simp only [Option.getD_some]; omega
    · rw [if_neg (by omega), if_pos rfl, if_pos (by omega)]; unfold mark4; rw [if_neg (by omega)]; simp only [Option.getD_some]; omega
    · rw [if_pos rfl, if_pos (by omega)]; unfold mark4; rw [if_pos (by omega)]; simp only [Option.getD_some]
      rw [show (((i * 4 + 3 : Nat) : Int) + 1) = 4 * (i : Int) + 1 + 1 + 1 + 1 by omega]
  · rw [if_neg e, if_neg (by omega), if_neg (by omega), if_neg (by omega), if_neg (by omega)]
/-- The marks of a list of corners. -/
def marksC (L : Nat) (xs : List Int) : List Int := iter set4 L 0 xs
theorem marksC_spec {L : Nat} (xs : List Int) (hx : xs.length = 4 * L) : (marksC L xs).length = 4 * L ∧ ∀ j, j < 4 * L → (marksC L xs)[j]?.getD 0 = mark4 j := by
  have := iter_inv (f := set4) (I := fun i h => h.length = 4 * L ∧ ∀ j, j < 4 * i → h[j]?.getD 0 = mark4 j) (n := L)
    (fun i s hi hs => ⟨by rw [set4_len]; exact hs.1, fun j hj => by
      rw [set4_get (by omega) (by omega)]
      split
      · rfl
      · exact hs.2 j (by omega)⟩) L 0 xs (by omega) ⟨hx, fun j hj => by omega⟩
  rw [Nat.zero_add] at this
  exact this
theorem markC_val (z : β) {N L : Nat} (xs : List Int) (hx : xs.length = 4 * L) (hl : L ≤ 100000) (hN : L < N) (k : Int → List Int → β) :
    w_markCornerS_s2 z N (4 * L) L L 1 xs k = k (4 * (L : Int) + 1) (marksC L xs) := by
  unfold w_markCornerS_s2 marksC
  exact up_to (L := fun m i h => w_markCornerS_l0_s2 z (4 * L) L L m (4 * (i : Int) + 1) (i : Int) h k) (n := L) (out := k (4 * (L : Int) + 1)) (f := set4) (I := fun _ h => h.length = 4 * L)
    (fun m i s hi hs => ⟨by
      simp only [w_markCornerS_l0_s2, w_markCornerS_l0_s2_s, c_and, Int.toNat_natCast, List.length_set, addO_eq, Nat.add_zero]
      simp (disch := omega) only [c_lt, c_le, c_blt, c_ble, c_beq, c_fits]
      rw [show 4 * (i : Int) + 1 + 1 + 1 + 1 + 1 = 4 * ((i + 1 : Nat) : Int) + 1 by omega]
      rfl, by rw [set4_len]; exact hs⟩)
    (fun m s _ => by simp (disch := omega) only [w_markCornerS_l0_s2, w_markCornerS_l0_s2_s, c_nlt, c_ble]) L N 0 xs (by omega) hN hx
theorem heldC_val (z : β) {N L : Nat} (xs : List Int) (hx : xs.length = 4 * L) (hm : ∀ j, j < 4 * L → xs[j]?.getD 0 = mark4 j) (hl : L ≤ 100000) (hN : L < N) (k : Int → β) :
    w_heldCornerS_s2 z N (4 * L) L L 1 xs k = k (4 * (L : Int) + 1) := by
  unfold w_heldCornerS_s2
  exact (up_to_all (L := fun m i => w_heldCornerS_l0_s2 z (4 * L) L L xs m (4 * (i : Int) + 1) (i : Int) (k (-1)) k) (n := L) (kt := k (4 * (L : Int) + 1)) (kf := k (-1)) (p := fun _ => true)
    (fun m i hi => by
      have a0 : xs[i * 4]?.getD 0 = 4 * (i : Int) + 1 := by rw [hm (i * 4) (by omega)]; unfold mark4; rw [if_neg (by omega)]; omega
      have a1 : xs[i * 4 + 1]?.getD 0 = 4 * (i : Int) + 1 + 1 := by rw [hm (i * 4 + 1) (by omega)]; unfold mark4; rw [if_neg (by omega)]; omega
      have a2 : xs[i * 4 + 2]?.getD 0 = 4 * (i : Int) + 1 + 1 + 1 := by rw [hm (i * 4 + 2) (by omega)]; unfold mark4; rw [if_neg (by omega)]; omega
      have a3 : (xs[i * 4 + 3]?.getD 0 != 0) = ((4 * (i : Int) + 1 + 1 + 1).tmod 3 == 0) ∨ True := .inr trivial
      have a4 : ((xs[i * 4 + 3]?.getD 0 != 0) != ((4 * (i : Int) + 1 + 1 + 1 + 1).tmod 3 == 0)) = false := by
        rw [hm (i * 4 + 3) (by omega)]
        unfold mark4
        rw [if_pos (by omega), show (((i * 4 + 3 : Nat) : Int) + 1) = 4 * (i : Int) + 1 + 1 + 1 + 1 by omega]
        cases ((4 * (i : Int) + 1 + 1 + 1 + 1).tmod 3 == 0) <;> rfl
      simp only [w_heldCornerS_l0_s2, w_heldCornerS_l0_s2_s, c_and, Int.toNat_natCast, addO_eq, Nat.add_zero, a4, c_false]
      simp (disch := omega) only [c_lt, c_le, c_blt, c_ble, c_beq, c_fits, c_nne]
      rw [show 4 * (i : Int) + 1 + 1 + 1 + 1 + 1 = 4 * ((i + 1 : Nat) : Int) + 1 by omega]
      rfl)
    (fun m => by simp (disch := omega) only [w_heldCornerS_l0_s2, w_heldCornerS_l0_s2_s, c_nlt, c_ble]) L N 0 (by omega) hN).trans (by
      have := (allFrom_iff (p := fun _ => true) L 0).2 fun _ _ _ => rfl
      rw [this]; rfl)
theorem w_FnExactCornersOf_val (z : β) {N : Nat} (hN : 100 < N) (n : Int) (X O : Nat → Int) (hX : ∀ j, j < 8 → 0 ≤ X j ∧ X j ≤ 255) (hO : ∀ j, j < 8 → 0 ≤ O j ∧ O j ≤ 255) (k0 : Bool → β) : w_FnExactCornersOf z N n X O k0 = k0 true := by
  unfold w_FnExactCornersOf
  have hN8 : 8 < N := by omega
  have hX0 := clip8_nn (a := X) fun j hj => (hX j hj).1
  have hO0 := clip8_nn (a := O) fun j hj => (hO j hj).1
  simp only [w_toGrid_val z hN8, s_CornersOf, i_CornersOf, i_whole_i_Corner, s_l01Is_val z hN8 _ _ _ hX0 hO0, i_IsGrid_val z hN8 _ _ _ hX0 hO0]
  cases hg : gridB n (clip8 X) (clip8 O) with
  | false => simp (disch := omega) only [Bool.not_false, c_true, eqC_none z, markC_none z, heldC_none z, Bool.not_true, c_false, bne_self_eq_false]
  | true =>
    obtain ⟨m, rfl, g⟩ := gridB_iff.1 hg
    have h8 := g.hi
    simp only [Bool.not_true, c_false, s_l07Corners_val z hN8 g hX0 hO0, i_Grid_corners_val z hN8 g hX0 hO0]
    have hl := cornersL_len m (clip8 X) (clip8 O)
    generalize cornersL m (clip8 X) (clip8 O) = xs at *
    have hx : xs.length = 4 * (2 * m) := by omega
    obtain ⟨h1, h2⟩ := marksC_spec xs hx
    rw [show 8 * m = 4 * (2 * m) by omega]
    simp only [eqC_refl z (N := N) xs hx (by omega) (by omega), markC_val z (N := N) xs hx (by omega) (by omega), heldC_val z (N := N) (marksC (2 * m) xs) h1 h2 (by omega) (by omega), Bool.not_true, c_false, bne_self_eq_false]
    rw [c_nlt (by omega), c_nlt (by omega)]
end
end Go.AM
