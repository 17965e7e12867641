/- A part of a proof about the given program: an abstract machine, what the given functions come to, and plain laws. -/
import Derived.Test.YtijijnfmcmeioaaPGrid
import Derived.Test.YtijijnfmcmeioaaDTransposeOf
namespace Go.AM
section
variable {β : Type}
theorem w_eqByteA8_refl (z : β) {N : Nat} (hN : 8 < N) (a : Nat → Int) (k0 : Bool → β) : w_eqByteA8 z N a a k0 = k0 true := by
  unfold w_eqByteA8
  have := up_to_all (L := fun k i => w_eqByteA8_l0 z a a k (i : Int) (k0 false) (k0 true)) (n := 8) (kt := k0 true) (kf := k0 false) (p := fun _ => true)
    (fun k i hi => by
      simp only [w_eqByteA8_l0, w_eqByteA8_l0_s, c_and, Int.toNat_natCast]
      simp (disch := omega) only [c_lt, c_le, c_blt, c_fits, c_nne]
      rfl)
    (fun k => by simp (disch := omega) only [w_eqByteA8_l0, w_eqByteA8_l0_s, c_nlt]) 8 N 0 (by omega) (by omega)
  refine this.trans ?_
  rfl
theorem w_eqGrid_refl (z : β) {N : Nat} (hN : 8 < N) (n : Int) (a b : Nat → Int) (k0 : Bool → β) : w_eqGrid z N n a b n a b k0 = k0 true := by
  unfold w_eqGrid
  simp only [bne_self_eq_false, c_false, w_eqByteA8_refl z hN, Bool.not_true]
/-- Both lists after a round of the transpose. -/
def transF (X O : Nat → Int) (i : Nat) (h : (Nat → Int) × (Nat → Int)) : (Nat → Int) × (Nat → Int) :=
  (upd h.1 (O i).toNat (wrapU IntKind.u8 i), upd h.2 (X i).toNat (wrapU IntKind.u8 i))
def transP (n : Nat) (X O : Nat → Int) : (Nat → Int) × (Nat → Int) := iter (transF X O) n 0 (fun _ => 0, fun _ => 0)
theorem s_TransposeOf_loop (z : β) {N : Nat} (hN : 8 < N) {n : Nat} {X O : Nat → Int} (g : GridP n X O) (hX : ∀ j, 0 ≤ X j) (hO : ∀ j, 0 ≤ O j) (a c : Int) (f1 f2 : Nat → Int) (k0 : (Nat → Int) → (Nat → Int) → β) :
    s_TransposeOf_l0 z n X O a f1 f2 c N 0 (fun _ => 0) (fun _ => 0) k0 = k0 (transP n X O).1 (transP n X O).2 := by
  have hhi := g.hi
  refine up_to (L := fun m i (h : (Nat → Int) × (Nat → Int)) => s_TransposeOf_l0 z n X O a f1 f2 c m (i : Int) h.1 h.2 k0) (n := n) (out := fun h => k0 h.1 h.2) (f := transF X O) (I := fun _ _ => True)
    (fun m i s hi _ => ⟨?_, trivial⟩) (fun m s _ => by simp (disch := omega) only [s_TransposeOf_l0, s_TransposeOf_l0_s, c_nlt]) n N 0 (fun _ => 0, fun _ => 0) (by omega) (by omega) trivial
  have h1 := hX i
  have h2 := hO i
  have h3 := g.px.2.1 i hi
  have h4 := g.po.2.1 i hi
  simp only [s_TransposeOf_l0, s_TransposeOf_l0_s, c_and, Int.toNat_natCast]
  simp (disch := omega) only [c_lt, c_le, c_blt, c_fits]
  rfl
theorem i_led_trans (z : β) {N : Nat} (hN : 8 < N) {n : Nat} {X O : Nat → Int} (g : GridP n X O) (hX : ∀ j, 0 ≤ X j) (hO : ∀ j, 0 ≤ O j) (b a c : Int) (f1 f2 : Nat → Int) (k0 : (Nat → Int) → (Nat → Int) → β) :
    i_Grid_led_l0 z N n b X O a f1 f2 c N 0 (fun _ => 0) (fun _ => 0) k0 = k0 (transP n X O).1 (transP n X O).2 := by
  have hhi := g.hi
  refine up_to (L := fun m i (h : (Nat → Int) × (Nat → Int)) => i_Grid_led_l0 z N n b X O a f1 f2 c m (i : Int) h.1 h.2 k0) (n := n) (out := fun h => k0 h.1 h.2) (f := transF X O) (I := fun _ _ => True)
    (fun m i s hi _ => ⟨?_, trivial⟩) (fun m s _ => by simp (disch := omega) only [i_Grid_led_l0, i_Grid_led_l0_s, c_nlt]) n N 0 (fun _ => 0, fun _ => 0) (by omega) (by omega) trivial
  have h1 := hX i
  have h2 := hO i
  have h3 := g.px.2.1 i hi
  have h4 := g.po.2.1 i hi
  simp only [i_Grid_led_l0, i_Grid_led_l0_s, i_Grid_transpose_1, c_and, Int.toNat_natCast]
  simp (disch := omega) only [c_lt, c_le, c_blt, c_fits]
  rfl
theorem w_FnExactTransposeOf_val (z : β) {N : Nat} (hN : 8 < N) (n : Int) (X O : Nat → Int) (hX : ∀ j, j < 8 → 0 ≤ X j ∧ X j ≤ 255) (hO : ∀ j, j < 8 → 0 ≤ O j ∧ O j ≤ 255) (k0 : Bool → β) : w_FnExactTransposeOf z N n X O k0 = k0 true := by
  unfold w_FnExactTransposeOf
  have hX0 := clip8_nn fun j h => (hX j h).1
  have hO0 := clip8_nn fun j h => (hO j h).1
  simp only [w_toGrid_val z hN, s_TransposeOf, i_TransposeOf, i_whole_i_Grid, i_Grid_transpose, i_Grid_led, i_Grid_n, c_true, s_l01Is_val z hN _ _ _ hX0 hO0, i_IsGrid_val z hN _ _ _ hX0 hO0]
  cases hg : gridB n (clip8 X) (clip8 O) with
  | false => simp only [Bool.not_false, c_true, w_eqGrid_refl z hN, Bool.not_true, c_false, bne_self_eq_false]
  | true =>
    obtain ⟨m, rfl, g⟩ := gridB_iff.1 hg
    simp only [Bool.not_true, c_false, s_TransposeOf_loop z hN g hX0 hO0, i_led_trans z hN g hX0 hO0, w_eqGrid_refl z hN, bne_self_eq_false]
end
end Go.AM
