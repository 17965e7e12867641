/- A part of a proof about the given program: an abstract machine, what the given functions come to, and plain laws. -/
import Derived.Test.YtijijnfmcmeioaaPTransposeOf
import Derived.Test.YtijijnfmcmeioaaDShiftGrid
namespace Go.AM
section
variable {β : Type}
theorem tmod_pos {a b : Int} (ha : 0 ≤ a) : a.tmod b = a % b := Int.tmod_eq_emod_of_nonneg ha
theorem tmod_bnd {a b : Int} (hb : 0 < b) : -b < a.tmod b ∧ a.tmod b < b := by
  refine ⟨?_, Int.tmod_lt_of_pos a hb⟩
  have := Int.tmod_lt_of_pos (-a) hb
  rw [Int.neg_tmod] at this
  omega
/-- A number modulo another one, as the reference reckons it. -/
theorem tmod_twice (a : Int) {n : Int} (hn : 0 < n) : (a.tmod n + n).tmod n = a % n := by
  have h := tmod_bnd (a := a) hn
  rw [tmod_pos (by omega), Int.add_emod_right]
  have h1 : a.tmod n = a - n * a.tdiv n := by have := Int.mul_tdiv_add_tmod a n; omega
  rw [h1]
  have : a - n * a.tdiv n = a + n * (-(a.tdiv n)) := by rw [Int.mul_neg]; omega
  rw [this, Int.add_mul_emod_self_left]
theorem tmod_more (a i : Int) {n : Int} (hn : 0 < n) (hi : 0 ≤ i) (ha : -100 ≤ a) : (i + (a + 100 * n).tmod n).tmod n = (i + a) % n := by
  have h0 : 0 ≤ a + 100 * n := by omega
  rw [tmod_pos h0]
  have h1 := Int.emod_nonneg (a + 100 * n) (show n ≠ 0 by omega)
  rw [tmod_pos (by omega), show a + 100 * n = a + n * 100 by omega, Int.add_mul_emod_self_left, Int.add_emod_emod]
theorem emod_bd (a : Int) {n : Int} (hn : 0 < n) : 0 ≤ a % n ∧ a % n < n := ⟨Int.emod_nonneg a (by omega), Int.emod_lt_of_pos a hn⟩

def rollF (n : Nat) (X O : Nat → Int) (v u : Int) (i : Nat) (h : (Nat → Int) × (Nat → Int)) : (Nat → Int) × (Nat → Int) :=
  (upd h.1 ((i + u) % (n : Int)).toNat (wrapU IntKind.u8 ((X i + v) % (n : Int))), upd h.2 ((i + u) % (n : Int)).toNat (wrapU IntKind.u8 ((O i + v) % (n : Int))))
def rollP (n : Nat) (X O : Nat → Int) (v u : Int) : (Nat → Int) × (Nat → Int) := iter (rollF n X O v u) n 0 (fun _ => 0, fun _ => 0)
theorem s_l01Rolled_val (z : β) {N : Nat} (hN : 8 < N) {n : Nat} {X O : Nat → Int} (h2 : 2 ≤ n) (h8 : n ≤ 8) (hX : ∀ j, 0 ≤ X j ∧ X j ≤ 255) (hO : ∀ j, 0 ≤ O j ∧ O j ≤ 255) {v u : Int} (hv : -1000 ≤ v ∧ v ≤ 1000) (hu : -1000 ≤ u ∧ u ≤ 1000) (k0 : (Nat → Int) → (Nat → Int) → β) :
    s_l01Rolled z N n X O v u k0 = k0 (rollP n X O v u).1 (rollP n X O v u).2 := by
  unfold s_l01Rolled
  refine up_to (L := fun m i (h : (Nat → Int) × (Nat → Int)) => s_l01Rolled_l0 z v u n n X O 0 (fun _ => 0) (fun _ => 0) n m (i : Int) h.1 h.2 k0) (n := n) (out := fun h => k0 h.1 h.2) (f := rollF n X O v u) (I := fun _ _ => True)
    (fun m i s hi _ => ⟨?_, trivial⟩) (fun m s _ => by simp (disch := omega) only [s_l01Rolled_l0, s_l01Rolled_l0_s, c_nlt]) n N 0 (fun _ => 0, fun _ => 0) (by omega) (by omega) trivial
  have h1 := hX i
  have h3 := hO i
  have hn : (0 : Int) < n := by omega
  have b1 := tmod_bnd (a := (i : Int) + u) hn
  have b2 := tmod_bnd (a := X i + v) hn
  have b3 := tmod_bnd (a := O i + v) hn
  have b4 := emod_bd ((i : Int) + u) hn
  simp only [s_l01Rolled_l0, s_l01Rolled_l0_s, c_and, c_not, Int.toNat_natCast, tmod_twice _ hn]
  simp (disch := omega) only [c_lt, c_le, c_blt, c_fits, c_neq]
  rfl
theorem i_Grid_shift_val (z : β) {N : Nat} (hN : 8 < N) {n : Nat} {X O : Nat → Int} (h2 : 2 ≤ n) (h8 : n ≤ 8) (hX : ∀ j, 0 ≤ X j ∧ X j ≤ 255) (hO : ∀ j, 0 ≤ O j ∧ O j ≤ 255) {v u : Int} (hv : -100 ≤ v ∧ v ≤ 100) (hu : -100 ≤ u ∧ u ≤ 100) (k0 : (Nat → Int) → (Nat → Int) → β) :
    i_Grid_shift z N n X O ((v + 100 * n).tmod n) ((u + 100 * n).tmod n) k0 = k0 (rollP n X O v u).1 (rollP n X O v u).2 := by
  unfold i_Grid_shift i_Grid_led_s2
  simp only [c_false, i_Grid_n]
  refine up_to (L := fun m i (h : (Nat → Int) × (Nat → Int)) => i_Grid_led_l0_s4 z N n ((u + 100 * n).tmod n) n X O ((v + 100 * n).tmod n) n X O 0 (fun _ => 0) (fun _ => 0) n m (i : Int) h.1 h.2 k0) (n := n) (out := fun h => k0 h.1 h.2) (f := rollF n X O v u) (I := fun _ _ => True)
    (fun m i s hi _ => ⟨?_, trivial⟩) (fun m s _ => by simp (disch := omega) only [i_Grid_led_l0_s4, i_Grid_led_l0_s4_s, c_nlt]) n N 0 (fun _ => 0, fun _ => 0) (by omega) (by omega) trivial
  have h1 := hX i
  have h3 := hO i
  have hn : (0 : Int) < n := by omega
  have a1 := tmod_more u i hn (by omega) hu.1
  have a2 := tmod_more v (X i) hn h1.1 hv.1
  have a3 := tmod_more v (O i) hn h3.1 hv.1
  have b4 := emod_bd ((i : Int) + u) hn
  have b5 := tmod_bnd (a := v + 100 * n) hn
  have b6 := tmod_bnd (a := u + 100 * n) hn
  simp only [i_Grid_led_l0_s4, i_Grid_led_l0_s4_s, i_Grid_shift_1, i_Grid_n, c_and, c_not, Int.toNat_natCast, a1, a2, a3]
  simp (disch := omega) only [c_lt, c_le, c_blt, c_fits, c_neq]
  rfl
theorem w_FnExactShiftGrid_val (z : β) {N : Nat} (hN : 8 < N) (n : Int) (X O : Nat → Int) (v u : Int) (hX : ∀ j, j < 8 → 0 ≤ X j ∧ X j ≤ 255) (hO : ∀ j, j < 8 → 0 ≤ O j ∧ O j ≤ 255) (k0 : Bool → β) : w_FnExactShiftGrid z N n X O v u k0 = k0 true := by
  unfold w_FnExactShiftGrid
  have hX0 := clip8_nn fun j h => (hX j h).1
  have hO0 := clip8_nn fun j h => (hO j h).1
  have hX1 := clip8_le fun j h => (hX j h).2
  have hO1 := clip8_le fun j h => (hO j h).2
  simp only [w_toGrid_val z hN, s_ShiftGrid, i_ShiftGrid, s_l01Is_val z hN _ _ _ hX0 hO0, i_IsGrid_val z hN _ _ _ hX0 hO0, s_l01In_val, i_within_val]
  cases hg : gridB n (clip8 X) (clip8 O) with
  | false => simp only [Bool.not_false, c_true, w_eqGrid_refl z hN, Bool.not_true, c_false, bne_self_eq_false]
  | true =>
    obtain ⟨m, rfl, g⟩ := gridB_iff.1 hg
    have hlo := g.lo
    have hhi := g.hi
    simp only [Bool.not_true, c_false]
    by_cases hv : -100 ≤ v ∧ v ≤ 100
    · simp only [decide_eq_true hv, Bool.not_true, c_false]
      by_cases hu : -100 ≤ u ∧ u ≤ 100
      · simp only [decide_eq_true hu, Bool.not_true, c_false, c_not]
        have hX2 : ∀ j, 0 ≤ clip8 X j ∧ clip8 X j ≤ 255 := fun j => ⟨hX0 j, hX1 j⟩
        have hO2 : ∀ j, 0 ≤ clip8 O j ∧ clip8 O j ≤ 255 := fun j => ⟨hO0 j, hO1 j⟩
        simp (disch := omega) only [s_l01Rolled_val z hN hlo hhi hX2 hO2 (v := v) (u := u) (by omega) (by omega), c_fits, c_neq, i_Grid_shift_val z hN hlo hhi hX2 hO2 hv hu, w_eqGrid_refl z hN, bne_self_eq_false, c_false, c_true]
      · simp only [decide_eq_false hu, Bool.not_false, c_true, w_eqGrid_refl z hN, Bool.not_true, c_false, bne_self_eq_false]
    · simp only [decide_eq_false hv, Bool.not_false, c_true, w_eqGrid_refl z hN, Bool.not_true, c_false, bne_self_eq_false]
end
end Go.AM
