/- A part of a proof about the given program: an abstract machine, what the given functions come to, and plain laws. -/
import Derived.Test.YtlpfpjbmikpheaaPMosaic
import Derived.Test.YtlpfpjbmikpheaaDCountTiles
namespace Go.AM
section
variable {β : Type}
/-- One tile counted. -/
def tileF (t : Nat → Int) (i : Nat) (h : Nat → Int) : Nat → Int := upd h (t i).toNat (h (t i).toNat + 1)
theorem tileF_bd {t : Nat → Int} {i : Nat} {h : Nat → Int} (hh : ∀ j, 0 ≤ h j ∧ h j ≤ i) : ∀ j, 0 ≤ tileF t i h j ∧ tileF t i h j ≤ (i + 1 : Nat) := by
  intro j
  unfold tileF
  rw [upd_at]
  have a := hh j
  have b := hh (t i).toNat
  split <;> omega
theorem s_CountTiles_val (z : β) {N : Nat} (hN : 64 < N) {n : Int} {t : Nat → Int} (ht : ∀ j, 0 ≤ t j) (hm : mosaicB n t = true) (k0 : Int → β) (k1 : Int → (Nat → Int) → β) :
    s_CountTiles z N n t k0 k1 = k1 0 (iter (tileF t) (n * n).toNat 0 fun _ => 0) := by
  unfold s_CountTiles
  rw [s_l09Is_val z hN, hm]
  have hq := sq_bd (mosaicB_bd hm)
  simp only [Bool.not_true, c_false]
  refine up_to (L := fun m i h => s_CountTiles_l0 z n t m (i : Int) h (k1 0)) (n := (n * n).toNat) (out := k1 0) (f := tileF t) (I := fun i h => ∀ j, 0 ≤ h j ∧ h j ≤ i)
    (fun m i s hi hs => ⟨?_, tileF_bd hs⟩) (fun m s _ => ?_) (n * n).toNat N 0 (fun _ => 0) (by omega) (by omega) (fun j => by omega)
  · have h1 := ht i
    have h2 := mosaicB_tile hm (k := i) (by omega)
    have h3 := hs (t i).toNat
    simp only [s_CountTiles_l0, s_CountTiles_l0_s, c_and, Int.toNat_natCast]
    generalize n * n = q at *
    simp (disch := omega) only [c_lt, c_le, c_blt, c_fits]
    rfl
  · simp only [s_CountTiles_l0, s_CountTiles_l0_s, c_and, Int.toNat_natCast]
    generalize n * n = q at *
    simp (disch := omega) only [c_nlt, c_fits]
theorem i_CountTiles_val (z : β) {N : Nat} (hN : 64 < N) {n : Int} {t : Nat → Int} (ht : ∀ j, 0 ≤ t j) (hm : mosaicB n t = true) (k0 : Int → β) (k1 : Int → (Nat → Int) → β) :
    i_CountTiles z N n t k0 k1 = k1 0 (iter (tileF t) (n * n).toNat 0 fun _ => 0) := by
  unfold i_CountTiles
  rw [i_IsMosaic_val z hN, hm]
  have hq := sq_bd (mosaicB_bd hm)
  simp only [Bool.not_true, c_false, c_and, Nat.sub_zero]
  rw [c_fits (by omega), c_le (by omega), c_le (by omega), c_true, c_ble (by omega)]
  refine up_to (L := fun m i h => i_CountTiles_l0 z 64 (n * n).toNat 64 ((n * n).toNat : Int) n t m (i : Int) h (k1 0)) (n := (n * n).toNat) (out := k1 0) (f := tileF t) (I := fun i h => ∀ j, 0 ≤ h j ∧ h j ≤ i)
    (fun m i s hi hs => ⟨?_, tileF_bd hs⟩) (fun m s _ => ?_) (n * n).toNat N 0 (fun _ => 0) (by omega) (by omega) (fun j => by omega)
  · have h1 := ht i
    have h2 := mosaicB_tile hm (k := i) (by omega)
    have h3 := hs (t i).toNat
    simp only [i_CountTiles_l0, i_CountTiles_l0_s, c_and, Int.toNat_natCast]
    generalize n * n = q at *
    simp (disch := omega) only [c_lt, c_le, c_blt, c_fits, c_beq]
    rfl
  · simp (disch := omega) only [i_CountTiles_l0, i_CountTiles_l0_s, c_nlt]
theorem eq_none (z : β) {N : Nat} (hN : 0 < N) (k : Bool → β) : w_eqInt64S z N k = k true := by
  obtain ⟨N, rfl⟩ : ∃ m, N = m + 1 := ⟨N - 1, by omega⟩
  simp (disch := omega) only [w_eqInt64S, w_eqInt64S_l0, w_eqInt64S_l0_s, c_nlt]
theorem mark_none (z : β) {N : Nat} (hN : 0 < N) (i : Int) (k : β) : w_markInt64S z N i k = k := by
  obtain ⟨N, rfl⟩ : ∃ m, N = m + 1 := ⟨N - 1, by omega⟩
  simp (disch := omega) only [w_markInt64S, w_markInt64S_l0, w_markInt64S_l0_s, c_nlt]
theorem held_none (z : β) {N : Nat} (hN : 0 < N) (i : Int) (k : β) : w_heldInt64S z N i k = k := by
  obtain ⟨N, rfl⟩ : ∃ m, N = m + 1 := ⟨N - 1, by omega⟩
  simp (disch := omega) only [w_heldInt64S, w_heldInt64S_l0, w_heldInt64S_l0_s, c_nlt]
theorem eq_8 (z : β) {N : Nat} (hN : 8 < N) (a : Nat → Int) (k : Bool → β) : w_eqInt64S_s4 z N a a k = k true := by
  unfold w_eqInt64S_s4
  exact (up_to_all (L := fun m i => w_eqInt64S_l0_s2 z a a m (i : Int) (k false) (k true)) (n := 8) (kt := k true) (kf := k false) (p := fun _ => true)
    (fun m i hi => by
      simp only [w_eqInt64S_l0_s2, w_eqInt64S_l0_s2_s, c_and, Int.toNat_natCast]
      simp (disch := omega) only [c_lt, c_le, c_blt, c_fits, c_nne]
      rfl)
    (fun m => by simp (disch := omega) only [w_eqInt64S_l0_s2, w_eqInt64S_l0_s2_s, c_nlt]) 8 N 0 rfl hN)
theorem mark_8 (z : β) {N : Nat} (hN : 8 < N) (a : Nat → Int) (k : Int → (Nat → Int) → β) : ∃ b, w_markInt64S_s2 z N 1 a k = k 9 b ∧ ∀ j, j < 8 → b j = j + 1 := by
  unfold w_markInt64S_s2
  refine ⟨iter (fun i h => upd h i ((i : Int) + 1)) 8 0 a, ?_, fun j hj => ?_⟩
  · exact up_to (L := fun m i h => w_markInt64S_l0_s2 z m ((i : Int) + 1) (i : Int) h k) (n := 8) (out := k 9) (f := fun i h => upd h i ((i : Int) + 1)) (I := fun _ _ => True)
      (fun m i s hi _ => ⟨by
        simp only [w_markInt64S_l0_s2, w_markInt64S_l0_s2_s, c_and, Int.toNat_natCast]
        simp (disch := omega) only [c_lt, c_le, c_blt, c_fits]
        rfl, trivial⟩)
      (fun m s _ => by simp (disch := omega) only [w_markInt64S_l0_s2, w_markInt64S_l0_s2_s, c_nlt]; rfl) 8 N 0 a rfl hN trivial
  · rw [iter_set (fun i : Nat => (i : Int) + 1)]; simp; omega
theorem held_8 (z : β) {N : Nat} (hN : 8 < N) (a : Nat → Int) (ha : ∀ j, j < 8 → a j = j + 1) (k : Int → β) : w_heldInt64S_s2 z N 1 a k = k 9 := by
  unfold w_heldInt64S_s2
  exact (up_to_all (L := fun m i => w_heldInt64S_l0_s2 z a m ((i : Int) + 1) (i : Int) (k (-1)) k) (n := 8) (kt := k 9) (kf := k (-1)) (p := fun _ => true)
    (fun m i hi => by
      have := ha i hi
      simp only [w_heldInt64S_l0_s2, w_heldInt64S_l0_s2_s, c_and, Int.toNat_natCast]
      simp (disch := omega) only [c_lt, c_le, c_blt, c_fits, c_nne]
      rfl)
    (fun m => by simp (disch := omega) only [w_heldInt64S_l0_s2, w_heldInt64S_l0_s2_s, c_nlt]; rfl) 8 N 0 rfl hN)
theorem w_FnExactCountTiles_val (z : β) {N : Nat} (hN : 64 < N) (n : Int) (t : Nat → Int) (ht : ∀ j, j < 64 → 0 ≤ t j ∧ t j ≤ 255) (k0 : Bool → β) : w_FnExactCountTiles z N n t k0 = k0 true := by
  unfold w_FnExactCountTiles w_toMosaic
  have h0 : ∀ j, 0 ≤ (fun j => if j < 64 then t j else 0) j := fun j => by simp only; split; exact (ht j ‹_›).1; omega
  simp only [w_toByteA64_val z hN]
  generalize (fun j => if j < 64 then t j else 0) = u at h0 ⊢
  cases hm : mosaicB n u with
  | false =>
    have hs : ∀ (k0 : Int → β) (k1 : Int → (Nat → Int) → β), s_CountTiles z N n u k0 k1 = k0 1 := fun k0 k1 => by
      unfold s_CountTiles; rw [s_l09Is_val z hN, hm]; rfl
    have hi : ∀ (k0 : Int → β) (k1 : Int → (Nat → Int) → β), i_CountTiles z N n u k0 k1 = k0 1 := fun k0 k1 => by
      unfold i_CountTiles; rw [i_IsMosaic_val z hN, hm]; rfl
    simp (disch := omega) only [hs, hi, eq_none z, mark_none z, held_none z, Bool.not_true, c_false, bne_self_eq_false]
  | true =>
    simp only [s_CountTiles_val z hN h0 hm, i_CountTiles_val z hN h0 hm]
    generalize iter (tileF u) (n * n).toNat 0 (fun _ => 0) = v
    rw [eq_8 z (by omega)]
    simp only [Bool.not_true, c_false, bne_self_eq_false]
    obtain ⟨b, h1, h2⟩ := mark_8 z (N := N) (by omega) v (fun q12 q13 => w_heldInt64S_s2 z N 1 q13 fun q14 => cond (decide (q14 < 0)) (k0 false) (cond (q14 != q12) (k0 false) (w_eqInt64S_s4 z N v v fun q17 => cond (!q17) (k0 false) (w_heldInt64S_s2 z N 1 q13 fun q19 => cond (decide (q19 < 0)) (k0 false) (cond (q19 != q12) (k0 false) (k0 true))))))
    rw [h1, held_8 z (by omega) b h2, eq_8 z (by omega), held_8 z (by omega) b h2]
    rfl
end
end Go.AM
