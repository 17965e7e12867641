/- A part of a proof about the given program: an abstract machine, what the given functions come to, and plain laws. -/
import Derived.Test.YtlpfpjbmikpheaaPGrid
import Derived.Test.YtlpfpjbmikpheaaDUpperState
namespace Go.AM
section
variable {β : Type}
theorem tmod_lt {a b : Int} (ha : 0 ≤ a) (hb : 0 < b) : 0 ≤ a.tmod b ∧ a.tmod b < b := ⟨Int.tmod_nonneg b ha, Int.tmod_lt_of_pos a hb⟩
theorem upper_loops (z : β) (n : Int) (X O h1 : Nat → Int) : ∀ m t h k, i_UpperState_1_l0 z n n n X O h1 m t h k = s_l07Upper_l0 z n X O h1 m t h k := by
  intro m
  induction m with
  | zero => intros; rfl
  | succ m ih => intro t h k; simp only [i_UpperState_1_l0, s_l07Upper_l0, ih]; rfl
/-- The upper state. -/
def upperF (n : Nat) (X : Nat → Int) (i : Nat) (h : Nat → Int) : Nat → Int := upd h (((i : Int) + 1).tmod n).toNat (wrapU IntKind.u8 ((X i + 1).tmod n))
theorem s_l07Upper_val (z : β) {N : Nat} (hN : 8 < N) {n : Nat} {X O : Nat → Int} (g : GridP n X O) (hX : ∀ j, 0 ≤ X j ∧ X j ≤ 255) (k0 : (Nat → Int) → β) : s_l07Upper z N n X O k0 = k0 (iter (upperF n X) n 0 fun _ => 0) := by
  unfold s_l07Upper
  have hlo := g.lo
  have hhi := g.hi
  refine up_to (L := fun m i h => s_l07Upper_l0 z n X O (fun _ => 0) m (i : Int) h k0) (n := n) (out := k0) (I := fun _ _ => True)
    (fun m i s hi _ => ⟨?_, trivial⟩) (fun m s _ => by simp (disch := omega) only [s_l07Upper_l0, s_l07Upper_l0_s, c_nlt]) n N 0 (fun _ => 0) (by omega) (by omega) trivial
  have h1 := hX i
  obtain ⟨h2, h3⟩ := tmod_lt (a := (i : Int) + 1) (b := n) (by omega) (by omega)
  simp only [s_l07Upper_l0, s_l07Upper_l0_s, c_and, Int.toNat_natCast, c_not]
  simp (disch := omega) only [c_lt, c_le, c_blt, c_fits, c_neq]
  rfl
theorem w_FnExactUpperState_val (z : β) {N : Nat} (hN : 8 < N) (n : Int) (X O : Nat → Int) (hX : ∀ j, j < 8 → 0 ≤ X j ∧ X j ≤ 255) (hO : ∀ j, j < 8 → 0 ≤ O j ∧ O j ≤ 255) (k0 : Bool → β) : w_FnExactUpperState z N n X O k0 = k0 true := by
  unfold w_FnExactUpperState
  have hX0 := clip8_nn fun j h => (hX j h).1
  have hX1 := clip8_le fun j h => (hX j h).2
  simp only [w_toGrid_val z hN, s_UpperState, i_UpperState, i_whole_i_State_s2, s_l01Is_val z hN _ _ _ hX0 (clip8_nn fun j h => (hO j h).1), i_IsGrid_val z hN _ _ _ hX0 (clip8_nn fun j h => (hO j h).1)]
  cases hg : gridB n (clip8 X) (clip8 O) with
  | false => simp only [Bool.not_false, c_true, w_eqState_refl z hN, Bool.not_true, c_false, bne_self_eq_false]
  | true =>
    obtain ⟨m, rfl, g⟩ := gridB_iff.1 hg
    have hi : ∀ k : (Nat → Int) → β, i_UpperState_1 z N m (clip8 X) (clip8 O) k = s_l07Upper z N m (clip8 X) (clip8 O) k := fun k => by
      unfold i_UpperState_1 s_l07Upper i_Grid_n; rw [upper_loops]
    simp only [Bool.not_true, c_false, hi, s_l07Upper_val z hN g fun j => ⟨hX0 j, hX1 j⟩, w_eqState_refl z hN, bne_self_eq_false]
end
end Go.AM
