/- A part of a proof about the given program: an abstract machine, what the given functions come to, and plain laws. -/
import Derived.Test.YtlpfpjbmikpheaaPMaslov
namespace Go.AM
section
variable {β : Type}
theorem s_l05Alexander_val (z : β) {N : Nat} (hN : 8 < N) {n : Nat} (h8 : n ≤ 8) {X O x : Nat → Int} (hX : ∀ j, 0 ≤ X j ∧ X j ≤ 255) (hO : ∀ j, 0 ≤ O j ∧ O j ≤ 255) (hx : ∀ j, 0 ≤ x j ∧ x j ≤ 255) (k0 : Int → β) :
    s_l05Alexander z N n X O x k0 = k0 (maslov n x O - maslov n x X - n + 1) := by
  unfold s_l05Alexander
  have := maslov_bd n h8 x O
  have := maslov_bd n h8 x X
  simp (disch := omega) only [s_l05Maslov_val z hN h8 X O hx hO, s_l05Maslov_val z hN h8 X O hx hX, c_fits]
theorem i_Grid_gradeOf_val (z : β) {N : Nat} (hN : 8 < N) {n : Nat} (h8 : n ≤ 8) {X O x : Nat → Int} (hX : ∀ j, 0 ≤ X j ∧ X j ≤ 255) (hO : ∀ j, 0 ≤ O j ∧ O j ≤ 255) (hx : ∀ j, 0 ≤ x j ∧ x j ≤ 255) (k0 : (Nat → Int) → β) :
    i_Grid_gradeOf z N n X O x k0 = k0 (upd (upd (fun _ => 0) 0 (maslov n x O - maslov n x X - n + 1)) 1 (maslov n x O)) := by
  unfold i_Grid_gradeOf
  have := maslov_bd n h8 x O
  have := maslov_bd n h8 x X
  simp (disch := omega) only [i_Grid_maslov_val z hN h8 X O hx hO, i_Grid_maslov_val z hN h8 X O hx hX, c_fits]
theorem w_FnExactAlexanderNumber_val (z : β) {N : Nat} (hN : 8 < N) (n : Int) (X O x : Nat → Int) (hX : ∀ j, j < 8 → 0 ≤ X j ∧ X j ≤ 255) (hO : ∀ j, j < 8 → 0 ≤ O j ∧ O j ≤ 255) (hx : ∀ j, j < 8 → 0 ≤ x j ∧ x j ≤ 255) (k0 : Bool → β) : w_FnExactAlexanderNumber z N n X O x k0 = k0 true := by
  unfold w_FnExactAlexanderNumber
  have hX2 : ∀ j, 0 ≤ clip8 X j ∧ clip8 X j ≤ 255 := fun j => ⟨clip8_nn (fun j h => (hX j h).1) j, clip8_le (fun j h => (hX j h).2) j⟩
  have hO2 : ∀ j, 0 ≤ clip8 O j ∧ clip8 O j ≤ 255 := fun j => ⟨clip8_nn (fun j h => (hO j h).1) j, clip8_le (fun j h => (hO j h).2) j⟩
  have hx2 : ∀ j, 0 ≤ clip8 x j ∧ clip8 x j ≤ 255 := fun j => ⟨clip8_nn (fun j h => (hx j h).1) j, clip8_le (fun j h => (hx j h).2) j⟩
  have hX0 := fun j => (hX2 j).1
  have hO0 := fun j => (hO2 j).1
  have hx0 := fun j => (hx2 j).1
  simp only [w_toGrid_val z hN, w_toState_val z hN, s_AlexanderNumber, i_AlexanderNumber, i_stated_int64, i_AlexanderNumber_1, s_l05Is_val z hN _ _ _ _ hX0 hO0 hx0, i_IsState_val z hN _ _ _ _ hX0 hO0 hx0]
  cases hg : stateB n (clip8 X) (clip8 O) (clip8 x) with
  | false => simp only [Bool.not_false, c_true, c_false, bne_self_eq_false]
  | true =>
    have hg2 : gridB n (clip8 X) (clip8 O) = true := by unfold stateB at hg; simp only [Bool.and_eq_true] at hg; exact hg.1
    obtain ⟨m, rfl, g⟩ := gridB_iff.1 hg2
    simp only [Bool.not_true, c_false, s_l05Alexander_val z hN g.hi hX2 hO2 hx2, i_Grid_gradeOf_val z hN g.hi hX2 hO2 hx2]
    simp [upd_at]
end
end Go.AM
