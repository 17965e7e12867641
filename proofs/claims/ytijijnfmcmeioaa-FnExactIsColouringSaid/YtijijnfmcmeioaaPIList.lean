/- A part of a proof about the given program: an abstract machine, what the given functions come to, and plain laws. -/
import Derived.Test.YtijijnfmcmeioaaPLib
import Derived.Test.YtijijnfmcmeioaaDCountTiles
namespace Go.AM
section
variable {β : Type}
theorem eq_none (z : β) {N : Nat} (hN : 0 < N) (k : Bool → β) : w_eqInt64S z N k = k true := by
  obtain ⟨N, rfl⟩ : ∃ m, N = m + 1 := ⟨N - 1, by omega⟩
  simp (disch := omega) only [w_eqInt64S, w_eqInt64S_l0, w_eqInt64S_l0_s, c_nlt]
theorem mark_none (z : β) {N : Nat} (hN : 0 < N) (i : Int) (k : β) : w_markInt64S z N i k = k := by
  obtain ⟨N, rfl⟩ : ∃ m, N = m + 1 := ⟨N - 1, by omega⟩
  simp (disch := omega) only [w_markInt64S, w_markInt64S_l0, w_markInt64S_l0_s, c_nlt]
theorem held_none (z : β) {N : Nat} (hN : 0 < N) (i : Int) (k : β) : w_heldInt64S z N i k = k := by
  obtain ⟨N, rfl⟩ : ∃ m, N = m + 1 := ⟨N - 1, by omega⟩
  simp (disch := omega) only [w_heldInt64S, w_heldInt64S_l0, w_heldInt64S_l0_s, c_nlt]
/-- Slices of numbers that lie in a row of their own. -/
theorem eqI_val (z : β) {N L c c' : Nat} (hN : L < N) (hl : L ≤ 2000000) (a b : Nat → Int) (hab : ∀ j, j < L → a j = b j) (k : Bool → β) : w_eqInt64S_s10 z N L L c L L c' L a L b k = k true := by
  unfold w_eqInt64S_s10
  simp (disch := omega) only [c_ble, c_nne]
  exact (up_to_all (L := fun m i => w_eqInt64S_l0_s8 z L L c L L c' L a L b m (i : Int) (k false) (k true)) (n := L) (kt := k true) (kf := k false) (p := fun _ => true)
    (fun m i hi => by
      have := hab i hi
      simp only [w_eqInt64S_l0_s8, w_eqInt64S_l0_s8_s, c_and, Int.toNat_natCast]
      simp (disch := omega) only [c_lt, c_le, c_blt, c_ble, c_beq, c_fits, c_nne]
      rfl)
    (fun m => by simp (disch := omega) only [w_eqInt64S_l0_s8, w_eqInt64S_l0_s8_s, c_ble, c_nlt]) L N 0 (by omega) hN).trans (by rw [(allFrom_iff L 0).2 fun _ _ _ => rfl]; rfl)
def marksI (L : Nat) (a : Nat → Int) : Nat → Int := iter (fun i h => upd h i ((i : Int) + 1)) L 0 a
theorem marksI_get (L : Nat) (a : Nat → Int) (j : Nat) (hj : j < L) : marksI L a j = j + 1 := by
  unfold marksI
  rw [iter_set (fun i : Nat => (i : Int) + 1)]
  simp
  omega
theorem markI_val (z : β) {N L c : Nat} (hN : L < N) (hl : L ≤ 2000000) (a : Nat → Int) (k : Int → (Nat → Int) → β) : w_markInt64S_s4 z N L L c 1 L a k = k (L + 1) (marksI L a) := by
  unfold w_markInt64S_s4
  refine (up_to (L := fun m i h => w_markInt64S_l0_s4 z L L c L m ((i : Int) + 1) (i : Int) h k) (n := L) (out := k (L + 1)) (f := fun i h => upd h i ((i : Int) + 1)) (I := fun _ _ => True)
      (fun m i s hi _ => ⟨by
        simp only [w_markInt64S_l0_s4, w_markInt64S_l0_s4_s, c_and, Int.toNat_natCast]
        simp (disch := omega) only [c_lt, c_le, c_blt, c_ble, c_beq, c_fits]
        rfl, trivial⟩)
      (fun m s _ => by simp (disch := omega) only [w_markInt64S_l0_s4, w_markInt64S_l0_s4_s, c_ble, c_nlt]) L N 0 a (by omega) hN trivial)
theorem heldI_val (z : β) {N L c : Nat} (hN : L < N) (hl : L ≤ 2000000) (a : Nat → Int) (ha : ∀ j, j < L → a j = j + 1) (k : Int → β) : w_heldInt64S_s4 z N L L c 1 L a k = k (L + 1) := by
  unfold w_heldInt64S_s4
  exact (up_to_all (L := fun m i => w_heldInt64S_l0_s4 z L L c L a m ((i : Int) + 1) (i : Int) (k (-1)) k) (n := L) (kt := k (L + 1)) (kf := k (-1)) (p := fun _ => true)
    (fun m i hi => by
      have := ha i hi
      simp only [w_heldInt64S_l0_s4, w_heldInt64S_l0_s4_s, c_and, Int.toNat_natCast]
      simp (disch := omega) only [c_lt, c_le, c_blt, c_ble, c_beq, c_fits, c_nne]
      rfl)
    (fun m => by simp (disch := omega) only [w_heldInt64S_l0_s4, w_heldInt64S_l0_s4_s, c_ble, c_nlt]) L N 0 (by omega) hN).trans (by rw [(allFrom_iff L 0).2 fun _ _ _ => rfl]; rfl)
end
end Go.AM
