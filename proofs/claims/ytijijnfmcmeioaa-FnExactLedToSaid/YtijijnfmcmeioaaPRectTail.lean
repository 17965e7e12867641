/- A part of a proof about the given program: an abstract machine, what the given functions come to, and plain laws. -/
import Derived.Test.YtijijnfmcmeioaaPRect2
namespace Go.AM
section
variable {β : Type}
theorem eqR_none (z : β) {N : Nat} (hN : 0 < N) (k : Bool → β) : w_eqRectangleS z N k = k true := by
  obtain ⟨N, rfl⟩ : ∃ m, N = m + 1 := ⟨N - 1, by omega⟩
  simp (disch := omega) only [w_eqRectangleS, w_eqRectangleS_l0, w_eqRectangleS_l0_s, c_nlt]
theorem markR_none (z : β) {N : Nat} (hN : 0 < N) (i : Int) (k : β) : w_markRectangleS z N i k = k := by
  obtain ⟨N, rfl⟩ : ∃ m, N = m + 1 := ⟨N - 1, by omega⟩
  simp (disch := omega) only [w_markRectangleS, w_markRectangleS_l0, w_markRectangleS_l0_s, c_nlt]
theorem heldR_none (z : β) {N : Nat} (hN : 0 < N) (i : Int) (k : β) : w_heldRectangleS z N i k = k := by
  obtain ⟨N, rfl⟩ : ∃ m, N = m + 1 := ⟨N - 1, by omega⟩
  simp (disch := omega) only [w_heldRectangleS, w_heldRectangleS_l0, w_heldRectangleS_l0_s, c_nlt]
theorem eqR_refl (z : β) {N L : Nat} (xs : List Int) (hx : xs.length = 6 * L) (hl : L ≤ 100000) (hN : L < N) (k : Bool → β) :
    w_eqRectangleS_s4 z N xs.length L L xs.length L L xs xs k = k true := by
  unfold w_eqRectangleS_s4
  rw [c_ble (by omega), c_ble (by omega), c_nne rfl]
  exact (up_to_all (L := fun m i => w_eqRectangleS_l0_s4 z N xs.length L L xs.length L L xs xs m (i : Int) (k false) (k true)) (n := L) (kt := k true) (kf := k false) (p := fun _ => true)
    (fun m i hi => by
      simp only [w_eqRectangleS_l0_s4, w_eqRectangleS_l0_s4_s, w_eqRectangle, c_and, Int.toNat_natCast, bne_self_eq_false, c_false, Bool.not_true]
      simp (disch := omega) only [c_lt, c_le, c_blt, c_ble, c_beq, c_fits]
      rfl)
    (fun m => by simp (disch := omega) only [w_eqRectangleS_l0_s4, w_eqRectangleS_l0_s4_s, c_nlt, c_ble]) L N 0 (by omega) hN).trans (by
      have := (allFrom_iff (p := fun _ => true) L 0).2 fun _ _ _ => rfl
      rw [this]; rfl)
def set6 (i : Nat) (h : List Int) : List Int :=
  (((((h.set (i * 6) (6 * (i : Int) + 1)).set (i * 6 + 1) (6 * (i : Int) + 1 + 1)).set (i * 6 + 2) (6 * (i : Int) + 1 + 1 + 1)).set (i * 6 + 3) (6 * (i : Int) + 1 + 1 + 1 + 1)).set (i * 6 + 4) (6 * (i : Int) + 1 + 1 + 1 + 1 + 1)).set (i * 6 + 5) (6 * (i : Int) + 1 + 1 + 1 + 1 + 1 + 1)
theorem set6_len (i : Nat) (h : List Int) : (set6 i h).length = h.length := by simp [set6]
theorem set6_get {i j : Nat} {h : List Int} (hi : 6 * i + 6 ≤ h.length) (hj : j < h.length) : (set6 i h)[j]?.getD 0 = if 6 * i ≤ j ∧ j < 6 * i + 6 then (j : Int) + 1 else h[j]?.getD 0 := by
  unfold set6
  simp only [List.getElem?_set, List.length_set]
  by_cases e : 6 * i ≤ j ∧ j < 6 * i + 6
  · rw [if_pos e]
    have : j = i * 6 ∨ j = i * 6 + 1 ∨ j = i * 6 + 2 ∨ j = i * 6 + 3 ∨ j = i * 6 + 4 ∨ j = i * 6 + 5 := by omega
    rcases this with rfl | rfl | rfl | rfl | rfl | rfl
    · rw [if_neg (by omega), if_neg (by omega), if_neg (by omega), if_neg (by omega), if_neg (by omega), if_pos rfl, if_pos (by omega)]; simp only [Option.getD_some]; omega
    · rw [if_neg (by omega), if_neg (by omega), if_neg (by omega), if_neg (by omega), if_pos rfl, if_pos (by omega)]; simp only [Option.getD_some]; omega
    · rw [if_neg (by omega), if_neg (by omega), if_neg (by omega), if_pos rfl, if_pos (by omega)]; simp only [Option.getD_some]; omega
    · rw [if_neg (by omega), if_neg (by omega), if_pos rfl, if_pos (by omega)]; simp only [Option.getD_some]; omega
    · rw [if_neg (by omega), if_pos rfl, if_pos (by omega)]; simp only [Option.getD_some]; omega
    · rw [if_pos rfl, if_pos (by omega)]; simp only [Option.getD_some]; omega
  · rw [if_neg e, if_neg (by omega), if_neg (by omega), if_neg (by omega), if_neg (by omega), if_neg (by omega), if_neg (by omega)]
/-- The marks of a list of rectangles. -/
def marksR (L : Nat) (xs : List Int) : List Int := iter set6 L 0 xs
theorem marksR_spec {L : Nat} (xs : List Int) (hx : xs.length = 6 * L) : (marksR L xs).length = 6 * L ∧ ∀ j, j < 6 * L → (marksR L xs)[j]?.getD 0 = (j : Int) + 1 := by
  have := iter_inv (f := set6) (I := fun i h => h.length = 6 * L ∧ ∀ j, j < 6 * i → h[j]?.getD 0 = (j : Int) + 1) (n := L)
    (fun i s hi hs => ⟨by rw [set6_len]; exact hs.1, fun j hj => by
      rw [set6_get (by omega) (by omega)]
      split
      · rfl
      · exact hs.2 j (by omega)⟩) L 0 xs (by omega) ⟨hx, fun j hj => by omega⟩
  rw [Nat.zero_add] at this
  exact this
theorem markR_val (z : β) {N L : Nat} (xs : List Int) (hx : xs.length = 6 * L) (hl : L ≤ 100000) (hN : L < N) (k : Int → List Int → β) :
    w_markRectangleS_s2 z N xs.length L L 1 xs k = k (6 * (L : Int) + 1) (marksR L xs) := by
  unfold w_markRectangleS_s2 marksR
  exact up_to (L := fun m i h => w_markRectangleS_l0_s2 z xs.length L L m (6 * (i : Int) + 1) (i : Int) h k) (n := L) (out := k (6 * (L : Int) + 1)) (f := set6) (I := fun _ h => h.length = xs.length)
    (fun m i s hi hs => ⟨by
      simp only [w_markRectangleS_l0_s2, w_markRectangleS_l0_s2_s, c_and, Int.toNat_natCast, List.length_set, addO_eq, Nat.add_zero]
      simp (disch := omega) only [c_lt, c_le, c_blt, c_ble, c_beq, c_fits]
      rw [show 6 * (i : Int) + 1 + 1 + 1 + 1 + 1 + 1 + 1 = 6 * ((i + 1 : Nat) : Int) + 1 by omega]
      rfl, by rw [set6_len]; exact hs⟩)
    (fun m s _ => by simp (disch := omega) only [w_markRectangleS_l0_s2, w_markRectangleS_l0_s2_s, c_nlt, c_ble]) L N 0 xs (by omega) hN rfl
theorem heldR_val (z : β) {N L n : Nat} (xs : List Int) (hn : xs.length = n) (hx : xs.length = 6 * L) (hm : ∀ j, j < 6 * L → xs[j]?.getD 0 = (j : Int) + 1) (hl : L ≤ 100000) (hN : L < N) (k : Int → β) :
    w_heldRectangleS_s2 z N n L L 1 xs k = k (6 * (L : Int) + 1) := by
  unfold w_heldRectangleS_s2
  exact (up_to_all (L := fun m i => w_heldRectangleS_l0_s2 z n L L xs m (6 * (i : Int) + 1) (i : Int) (k (-1)) k) (n := L) (kt := k (6 * (L : Int) + 1)) (kf := k (-1)) (p := fun _ => true)
    (fun m i hi => by
      have a0 := hm (i * 6) (by omega)
      have a1 := hm (i * 6 + 1) (by omega)
      have a2 := hm (i * 6 + 2) (by omega)
      have a3 := hm (i * 6 + 3) (by omega)
      have a4 := hm (i * 6 + 4) (by omega)
      have a5 := hm (i * 6 + 5) (by omega)
      simp only [w_heldRectangleS_l0_s2, w_heldRectangleS_l0_s2_s, c_and, Int.toNat_natCast, addO_eq, Nat.add_zero]
      simp (disch := omega) only [c_lt, c_le, c_blt, c_ble, c_beq, c_fits, c_nne]
      rw [show 6 * (i : Int) + 1 + 1 + 1 + 1 + 1 + 1 + 1 = 6 * ((i + 1 : Nat) : Int) + 1 by omega]
      rfl)
    (fun m => by simp (disch := omega) only [w_heldRectangleS_l0_s2, w_heldRectangleS_l0_s2_s, c_nlt, c_ble]) L N 0 (by omega) hN).trans (by
      have := (allFrom_iff (p := fun _ => true) L 0).2 fun _ _ _ => rfl
      rw [this]; rfl)
end
end Go.AM
