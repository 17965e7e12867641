/- A part of a proof about the given program: an abstract machine, what the given functions come to, and plain laws. -/
import Derived.Test.YtijijnfmcmeioaaPMaslov
import Derived.Test.YtijijnfmcmeioaaDMaslovOf
namespace Go.AM
section
variable {β : Type}
theorem w_FnExactMaslovOf_val (z : β) {N : Nat} (hN : 8 < N) (n : Int) (X O x : Nat → Int) (xs : Bool) (hX : ∀ j, j < 8 → 0 ≤ X j ∧ X j ≤ 255) (hO : ∀ j, j < 8 → 0 ≤ O j ∧ O j ≤ 255) (hx : ∀ j, j < 8 → 0 ≤ x j ∧ x j ≤ 255) (k0 : Bool → β) : w_FnExactMaslovOf z N n X O x xs k0 = k0 true := by
  unfold w_FnExactMaslovOf
  have hX2 : ∀ j, 0 ≤ clip8 X j ∧ clip8 X j ≤ 255 := fun j => ⟨clip8_nn (fun j h => (hX j h).1) j, clip8_le (fun j h => (hX j h).2) j⟩
  have hO2 : ∀ j, 0 ≤ clip8 O j ∧ clip8 O j ≤ 255 := fun j => ⟨clip8_nn (fun j h => (hO j h).1) j, clip8_le (fun j h => (hO j h).2) j⟩
  have hx2 : ∀ j, 0 ≤ clip8 x j ∧ clip8 x j ≤ 255 := fun j => ⟨clip8_nn (fun j h => (hx j h).1) j, clip8_le (fun j h => (hx j h).2) j⟩
  have hX0 := fun j => (hX2 j).1
  have hO0 := fun j => (hO2 j).1
  have hx0 := fun j => (hx2 j).1
  simp only [w_toGrid_val z hN, w_toState_val z hN, s_MaslovOf, i_MaslovOf, i_stated_int64_s2, i_MaslovOf_1, s_l05Is_val z hN _ _ _ _ hX0 hO0 hx0, i_IsState_val z hN _ _ _ _ hX0 hO0 hx0]
  cases hg : stateB n (clip8 X) (clip8 O) (clip8 x) with
  | false => simp only [Bool.not_false, c_true, c_false, bne_self_eq_false]
  | true =>
    have hg2 : gridB n (clip8 X) (clip8 O) = true := by unfold stateB at hg; simp only [Bool.and_eq_true] at hg; exact hg.1
    obtain ⟨m, rfl, g⟩ := gridB_iff.1 hg2
    cases xs with
    | true => simp only [Bool.not_true, c_false, c_true, s_l05Maslov_val z hN g.hi (clip8 X) (clip8 O) hx2 hX2, i_Grid_maslov_val z hN g.hi (clip8 X) (clip8 O) hx2 hX2, bne_self_eq_false]
    | false => simp only [Bool.not_true, c_false, s_l05Maslov_val z hN g.hi (clip8 X) (clip8 O) hx2 hO2, i_Grid_maslov_val z hN g.hi (clip8 X) (clip8 O) hx2 hO2, bne_self_eq_false]
end
end Go.AM
