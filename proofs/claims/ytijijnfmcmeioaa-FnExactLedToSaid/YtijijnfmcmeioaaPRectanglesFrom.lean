/- A part of a proof about the given program: an abstract machine, what the given functions come to, and plain laws. -/
import Derived.Test.YtijijnfmcmeioaaPRectTail
namespace Go.AM
section
variable {β : Type}
theorem stateB_true {n : Int} {X O x : Nat → Int} (h : stateB n X O x = true) : ∃ m : Nat, n = m ∧ GridP m X O ∧ PermP 8 m x := by
  unfold stateB at h
  simp only [Bool.and_eq_true] at h
  obtain ⟨m, rfl, g⟩ := gridB_iff.1 h.1
  exact ⟨m, rfl, g, permB_iff.1 (by simpa using h.2)⟩
theorem w_FnExactRectanglesFrom_val (z : β) {N : Nat} (hN : 90 < N) (n : Int) (X O x : Nat → Int) (hX : ∀ j, j < 8 → 0 ≤ X j ∧ X j ≤ 255) (hO : ∀ j, j < 8 → 0 ≤ O j ∧ O j ≤ 255) (hx : ∀ j, j < 8 → 0 ≤ x j ∧ x j ≤ 255) (k0 : Bool → β) : w_FnExactRectanglesFrom z N n X O x k0 = k0 true := by
  unfold w_FnExactRectanglesFrom
  have hN8 : 8 < N := by omega
  have hX2 : ∀ j, 0 ≤ clip8 X j ∧ clip8 X j ≤ 255 := fun j => ⟨clip8_nn (fun j h => (hX j h).1) j, clip8_le (fun j h => (hX j h).2) j⟩
  have hO2 : ∀ j, 0 ≤ clip8 O j ∧ clip8 O j ≤ 255 := fun j => ⟨clip8_nn (fun j h => (hO j h).1) j, clip8_le (fun j h => (hO j h).2) j⟩
  have hx2 : ∀ j, 0 ≤ clip8 x j ∧ clip8 x j ≤ 255 := fun j => ⟨clip8_nn (fun j h => (hx j h).1) j, clip8_le (fun j h => (hx j h).2) j⟩
  have hX0 := fun j => (hX2 j).1
  have hO0 := fun j => (hO2 j).1
  have hx0 := fun j => (hx2 j).1
  simp only [w_toGrid_val z hN8, w_toState_val z hN8, s_RectanglesFrom, i_RectanglesFrom, i_stated_i_Rectangle, i_RectanglesFrom_1, s_l05Is_val z hN8 _ _ _ _ hX0 hO0 hx0, i_IsState_val z hN8 _ _ _ _ hX0 hO0 hx0]
  cases hg : stateB n (clip8 X) (clip8 O) (clip8 x) with
  | false => simp (disch := omega) only [Bool.not_false, c_true, eqR_none z, markR_none z, heldR_none z, Bool.not_true, c_false, bne_self_eq_false]
  | true =>
    obtain ⟨m, rfl, g, hp⟩ := stateB_true hg
    have e : (fun l w => empB m (clip8 x) l w || !false) = fun _ _ => true := by funext l w; simp
    simp only [Bool.not_true, c_false, s_l05Rects_val z hN8 g.lo g.hi hX2 hO2 hx2 hp, i_Grid_rectangles_val z hN8 g.lo g.hi hX2 hO2 hx2 hp, e]
    rw [rectsL_eq, recs_6]
    have hl : ((prs m).filter fun _ => true).length ≤ 64 := Nat.le_trans (List.length_filter_le _ _) (prs_len m g.hi)
    have hr := recs_len m (clip8 X) (clip8 O) (clip8 x) ((prs m).filter fun _ => true)
    generalize recs m (clip8 X) (clip8 O) (clip8 x) ((prs m).filter fun _ => true) = xs at *
    generalize ((prs m).filter fun _ => true).length = L at *
    obtain ⟨h1, h2⟩ := marksR_spec xs hr
    simp only [eqR_refl z (N := N) xs hr (by omega) (by omega), markR_val z (N := N) xs hr (by omega) (by omega), heldR_val z (N := N) (n := xs.length) (marksR L xs) (by omega) h1 h2 (by omega) (by omega), Bool.not_true, c_false, bne_self_eq_false]
    rw [c_nlt (by omega), c_nlt (by omega)]
end
end Go.AM
