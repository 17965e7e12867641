/- A part of a proof about the given program: an abstract machine, what the given functions come to, and plain laws. -/
import Derived.Test.YtlpfpjbmikpheaaPCountTiles
import Derived.Test.YtlpfpjbmikpheaaDDirectionsOf
namespace Go.AM
section
variable {β : Type}
theorem eqL_refl (z : β) {N : Nat} (xs : List Int) (hl : xs.length ≤ 1000000) (hN : xs.length < N) (k : Bool → β) :
    w_eqInt64S_s7 z N xs.length xs.length xs.length xs.length xs.length xs.length xs xs k = k true := by
  unfold w_eqInt64S_s7
  rw [c_ble (by omega), c_ble (by omega), c_nne rfl]
  exact (up_to_all (L := fun m i => w_eqInt64S_l0_s5 z xs.length xs.length xs.length xs.length xs.length xs.length xs xs m (i : Int) (k false) (k true)) (n := xs.length) (kt := k true) (kf := k false) (p := fun _ => true)
    (fun m i hi => by
      simp only [w_eqInt64S_l0_s5, w_eqInt64S_l0_s5_s, c_and, Int.toNat_natCast]
      simp (disch := omega) only [c_lt, c_le, c_blt, c_ble, c_beq, c_fits, c_nne]
      rfl)
    (fun m => by simp (disch := omega) only [w_eqInt64S_l0_s5, w_eqInt64S_l0_s5_s, c_nlt, c_ble]) xs.length N 0 (by omega) hN).trans (by
      cases hq : allFrom (fun _ => true) xs.length 0
      · rw [← hq]
        have := (allFrom_iff (p := fun _ => true) xs.length 0).2 fun _ _ _ => rfl
        rw [this]; rfl
      · rfl)
/-- The list of marks. -/
def marksL (xs : List Int) : List Int := iter (fun i h => h.set i ((i : Int) + 1)) xs.length 0 xs
theorem marksL_spec (xs : List Int) : (marksL xs).length = xs.length ∧ ∀ j, j < xs.length → (marksL xs)[j]?.getD 0 = (j : Int) + 1 := by
  have := iter_inv (f := fun i (h : List Int) => h.set i ((i : Int) + 1)) (I := fun i h => h.length = xs.length ∧ ∀ j, j < i → h[j]?.getD 0 = (j : Int) + 1) (n := xs.length)
    (fun i s hi hs => ⟨by simp [hs.1], fun j hj => by
      rw [List.getElem?_set]
      by_cases e : i = j
      · subst e; rw [if_pos rfl, if_pos (by omega)]; rfl
      · rw [if_neg e]; exact hs.2 j (by omega)⟩) xs.length 0 xs (by omega) ⟨rfl, fun j hj => by omega⟩
  rw [Nat.zero_add] at this
  exact this
theorem markL_val (z : β) {N : Nat} (xs : List Int) (hl : xs.length ≤ 1000000) (hN : xs.length < N) (k : Int → List Int → β) :
    w_markInt64S_s3 z N xs.length xs.length xs.length 1 xs k = k ((xs.length : Int) + 1) (marksL xs) := by
  unfold w_markInt64S_s3 marksL
  exact up_to (L := fun m i h => w_markInt64S_l0_s3 z xs.length xs.length xs.length m ((i : Int) + 1) (i : Int) h k) (n := xs.length) (out := k ((xs.length : Int) + 1)) (f := fun i h => h.set i ((i : Int) + 1)) (I := fun _ h => h.length = xs.length)
    (fun m i s hi hs => ⟨by
      simp only [w_markInt64S_l0_s3, w_markInt64S_l0_s3_s, c_and, Int.toNat_natCast]
      simp (disch := omega) only [c_lt, c_le, c_blt, c_ble, c_beq, c_fits]
      rfl, by simp [hs]⟩)
    (fun m s _ => by simp (disch := omega) only [w_markInt64S_l0_s3, w_markInt64S_l0_s3_s, c_nlt, c_ble]) xs.length N 0 xs (by omega) hN rfl
theorem heldL_val (z : β) {N : Nat} (n : Nat) (xs : List Int) (hx : xs.length = n) (hm : ∀ j, j < n → xs[j]?.getD 0 = (j : Int) + 1) (hl : n ≤ 1000000) (hN : n < N) (k : Int → β) :
    w_heldInt64S_s3 z N n n n 1 xs k = k ((n : Int) + 1) := by
  unfold w_heldInt64S_s3
  exact (up_to_all (L := fun m i => w_heldInt64S_l0_s3 z n n n xs m ((i : Int) + 1) (i : Int) (k (-1)) k) (n := n) (kt := k ((n : Int) + 1)) (kf := k (-1)) (p := fun _ => true)
    (fun m i hi => by
      have := hm i hi
      simp only [w_heldInt64S_l0_s3, w_heldInt64S_l0_s3_s, c_and, Int.toNat_natCast]
      simp (disch := omega) only [c_lt, c_le, c_blt, c_ble, c_beq, c_fits, c_nne]
      rfl)
    (fun m => by simp (disch := omega) only [w_heldInt64S_l0_s3, w_heldInt64S_l0_s3_s, c_nlt, c_ble]) n N 0 (by omega) hN).trans (by
      have := (allFrom_iff (p := fun _ => true) n 0).2 fun _ _ _ => rfl
      rw [this]; rfl)
theorem iter_append {γ : Type} (g : Nat → γ) : ∀ (d i : Nat) (xs : List γ), (iter (fun i h => h ++ [g i]) d i xs).length = xs.length + d := by
  intro d
  induction d with
  | zero => intro i xs; rfl
  | succ d ih => intro i xs; rw [iter, ih]; simp; omega
end
end Go.AM
