/- A part of a proof about the given program: an abstract machine, what the given functions come to, and plain laws. -/
import Derived.Test.YtlpfpjbmikpheaaPGrid
namespace Go.AM
section
variable {β : Type}
theorem w_FnExactLowerState_val (z : β) {N : Nat} (hN : 8 < N) (n : Int) (X O : Nat → Int) (hX : ∀ j, j < 8 → 0 ≤ X j ∧ X j ≤ 255) (hO : ∀ j, j < 8 → 0 ≤ O j ∧ O j ≤ 255) (k0 : Bool → β) : w_FnExactLowerState z N n X O k0 = k0 true := by
  unfold w_FnExactLowerState
  rw [w_toGrid_val z hN]
  unfold s_LowerState
  rw [s_l01Is_val z hN _ _ _ (clip8_nn fun j h => (hX j h).1) (clip8_nn fun j h => (hO j h).1)]
  have key : ∀ (Y : Nat → Int) (e : Int), (∀ k : (Nat → Int) → Int → β, i_LowerState z N n (clip8 X) (clip8 O) k = k Y e) →
      (w_toGrid z N n X O fun q10 q11 => i_LowerState z N n q10 q11 fun q12 q13 => w_eqState z N q12 Y fun q14 => cond (!q14) (k0 false) (cond (q13 != e) (k0 false) (k0 true))) = k0 true := by
    intro Y e h
    rw [w_toGrid_val z hN, h, w_eqState_refl z hN]
    simp only [Bool.not_true, c_false, bne_self_eq_false]
  have hi : ∀ k : (Nat → Int) → Int → β, i_LowerState z N n (clip8 X) (clip8 O) k = cond (!gridB n (clip8 X) (clip8 O)) (k (fun _ => 0) 1) (k (clip8 X) 0) := by
    intro k
    unfold i_LowerState i_whole_i_State
    rw [i_IsGrid_val z hN _ _ _ (clip8_nn fun j h => (hX j h).1) (clip8_nn fun j h => (hO j h).1)]
    rfl
  cases hg : gridB n (clip8 X) (clip8 O) with
  | false => exact key _ _ fun k => by rw [hi, hg]; rfl
  | true => exact key _ _ fun k => by rw [hi, hg]; rfl
end
end Go.AM
