/- A part of a proof about the given program: an abstract machine, what the given functions come to, and plain laws. -/
import Derived.Test.YtlpfpjbmikpheaaPList
import Derived.Test.YtlpfpjbmikpheaaPGrid
namespace Go.AM
section
variable {β : Type}
def dirV (X O : Nat → Int) (i : Nat) : Int := if X i < O i then 1 else -1
def dirL (n : Nat) (X O : Nat → Int) : List Int := iter (fun i h => h ++ [dirV X O i]) n 0 []
theorem dirL_len (n : Nat) (X O : Nat → Int) : (dirL n X O).length = n := by unfold dirL; rw [iter_append]; simp
theorem s_dir_val (z : β) {N : Nat} (hN : 8 < N) {n : Nat} (h8 : n ≤ 8) (X O : Nat → Int) (k : Nat → Nat → Nat → List Int → β) :
    s_DirectionsOf_l0 z N n X O N 0 0 0 0 (List.replicate 0 0) k = k n n n (dirL n X O) := by
  have := up_to (L := fun m i (h : List Int) => s_DirectionsOf_l0 z N n X O m h.length h.length h.length (i : Int) h k) (n := n) (out := fun h => k h.length h.length h.length h) (f := fun i h => h ++ [dirV X O i]) (I := fun i h => h.length = i)
    (fun m i s hi hs => ⟨?_, by simp [hs]⟩) (fun m s _ => by simp (disch := omega) only [s_DirectionsOf_l0, s_DirectionsOf_l0_s, c_nlt]) n N 0 [] (by omega) (by omega) rfl
  · refine this.trans ?_
    show k (dirL n X O).length (dirL n X O).length (dirL n X O).length (dirL n X O) = _
    rw [dirL_len]
  · simp only [s_DirectionsOf_l0, s_DirectionsOf_l0_s, s_l08Direction, c_and, Int.toNat_natCast, c_true]
    by_cases h : X i < O i
    · simp (disch := omega) only [c_lt, c_le, c_blt, c_ble, c_nble, c_beq, c_fits]
      simp [fromTo, dirV, h, List.set]
    · simp (disch := omega) only [c_lt, c_nlt, c_le, c_blt, c_ble, c_nble, c_beq, c_fits]
      simp [fromTo, dirV, h, List.set]
theorem i_dir_val (z : β) {N : Nat} (hN : 8 < N) {n : Nat} (h8 : n ≤ 8) (X O : Nat → Int) (k : Nat → Nat → Nat → List Int → β) :
    i_Grid_directions z N n X O k = k n n n (dirL n X O) := by
  unfold i_Grid_directions i_Grid_n
  have := up_to (L := fun m i (h : List Int) => i_Grid_directions_l0 z n n X O m h.length h.length h.length (i : Int) h k) (n := n) (out := fun h => k h.length h.length h.length h) (f := fun i h => h ++ [dirV X O i]) (I := fun i h => h.length = i)
    (fun m i s hi hs => ⟨?_, by simp [hs]⟩) (fun m s _ => by simp (disch := omega) only [i_Grid_directions_l0, i_Grid_directions_l0_s, c_nlt]) n N 0 [] (by omega) (by omega) rfl
  · refine this.trans ?_
    show k (dirL n X O).length (dirL n X O).length (dirL n X O).length (dirL n X O) = _
    rw [dirL_len]
  · simp only [i_Grid_directions_l0, i_Grid_directions_l0_s, c_and, Int.toNat_natCast, c_true]
    by_cases h : X i < O i
    · simp (disch := omega) only [c_lt, c_le, c_blt, c_ble, c_nble, c_beq, c_fits]
      simp [fromTo, dirV, h, List.set]
    · simp (disch := omega) only [c_lt, c_nlt, c_le, c_blt, c_ble, c_nble, c_beq, c_fits]
      simp [fromTo, dirV, h, List.set]
theorem w_FnExactDirectionsOf_val (z : β) {N : Nat} (hN : 8 < N) (n : Int) (X O : Nat → Int) (hX : ∀ j, j < 8 → 0 ≤ X j ∧ X j ≤ 255) (hO : ∀ j, j < 8 → 0 ≤ O j ∧ O j ≤ 255) (k0 : Bool → β) : w_FnExactDirectionsOf z N n X O k0 = k0 true := by
  unfold w_FnExactDirectionsOf
  have hX0 := clip8_nn fun j h => (hX j h).1
  have hO0 := clip8_nn fun j h => (hO j h).1
  simp only [w_toGrid_val z hN, s_DirectionsOf, i_DirectionsOf, i_whole_int64, s_l01Is_val z hN _ _ _ hX0 hO0, i_IsGrid_val z hN _ _ _ hX0 hO0]
  cases hg : gridB n (clip8 X) (clip8 O) with
  | false => simp (disch := omega) only [Bool.not_false, c_true, eq_none z, mark_none z, held_none z, Bool.not_true, c_false, bne_self_eq_false]
  | true =>
    obtain ⟨m, rfl, g⟩ := gridB_iff.1 hg
    have h8 := g.hi
    simp only [Bool.not_true, c_false, s_dir_val z hN h8, i_dir_val z hN h8, bne_self_eq_false]
    have hl := dirL_len m (clip8 X) (clip8 O)
    generalize dirL m (clip8 X) (clip8 O) = xs at hl
    subst hl
    obtain ⟨h1, h2⟩ := marksL_spec xs
    simp only [eqL_refl z (N := N) xs (by omega) (by omega), markL_val z (N := N) xs (by omega) (by omega), heldL_val z (N := N) xs.length (marksL xs) h1 h2 (by omega) (by omega), Bool.not_true, c_false, bne_self_eq_false]
    rw [c_nlt (by omega), c_nlt (by omega)]
end
end Go.AM
