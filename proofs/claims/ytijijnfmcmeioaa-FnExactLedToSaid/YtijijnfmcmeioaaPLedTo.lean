/- A part of a proof about the given program: an abstract machine, what the given functions come to, and plain laws. -/
import Derived.Test.YtijijnfmcmeioaaPRectanglesFrom
import Derived.Test.YtijijnfmcmeioaaDLedTo
namespace Go.AM
section
variable {β : Type}
theorem iBeq (a b : Int) : (a == b) = (b == a) := by rw [Bool.eq_iff_iff, beq_iff_eq, beq_iff_eq]; exact eq_comm
/-- Is the list's record the same as this one? -/
def eq6 (xs : List Int) (r : Nat → Int) (i : Nat) : Bool :=
  xs[i * 6 + 0]?.getD 0 == r 0 && (xs[i * 6 + 1]?.getD 0 == r 1 && (xs[i * 6 + 2]?.getD 0 == r 2 && (xs[i * 6 + 3]?.getD 0 == r 3 && (xs[i * 6 + 4]?.getD 0 == r 4 && (xs[i * 6 + 5]?.getD 0 == r 5 && true)))))
theorem s_LedTo_l0_val (z : β) {N L c : Nat} {n : Int} {X O x r zz : Nat → Int} {xs : List Int} (hx : xs.length = 6 * L) (hl : L ≤ 100000) (k0 : (Nat → Int) → β) (k1 : β) (hN : L < N) :
    s_LedTo_l0 z N xs.length L c n X O x r zz xs N 0 k0 k1 = cond (allFrom (fun i => !eq6 xs r i) L 0) k1 (s_l05Led z N n x r (fun q => k0 q)) := by
  refine up_to_all (L := fun m i => s_LedTo_l0 z N xs.length L c n X O x r zz xs m (i : Int) k0 k1) (n := L) (fun m i hi => ?_) (fun m => ?_) L N 0 (by omega) hN
  · simp only [s_LedTo_l0, s_LedTo_l0_s, c_and _ _ (x := _) (y := z), Int.toNat_natCast, addO_eq]
    simp (disch := omega) only [c_lt, c_le, c_blt, c_ble, c_beq, c_fits]
    rw [show ((i : Int) + 1) = ((i + 1 : Nat) : Int) by omega]
    rw [c_not]
    rfl
  · simp (disch := omega) only [s_LedTo_l0, s_LedTo_l0_s, c_nlt, c_ble]
theorem contains_val (z : β) {N L c : Nat} {r : Nat → Int} {xs : List Int} (hx : xs.length = 6 * L) (hl : L ≤ 100000) (hN : L < N) (k : Bool → β) :
    slices_Contains_i_Rectangle_i_Rectangle z N xs.length L c r xs k = cond (allFrom (fun i => !eq6 xs r i) L 0) (k false) (k true) := by
  unfold slices_Contains_i_Rectangle_i_Rectangle slices_Index_i_Rectangle_i_Rectangle
  rw [c_ble (by omega)]
  refine up_to_all (L := fun m i => slices_Index_i_Rectangle_i_Rectangle_l0 z xs.length L c (L : Int) xs r m (i : Int) (fun q => k (decide (0 ≤ q))) (k (decide (0 ≤ (-1 : Int))))) (n := L) (fun m i hi => ?_) (fun m => ?_) L N 0 (by omega) hN
  · simp only [slices_Index_i_Rectangle_i_Rectangle_l0, slices_Index_i_Rectangle_i_Rectangle_l0_s, c_and _ _ (x := _) (y := z), Int.toNat_natCast, addO_eq]
    simp (disch := omega) only [c_lt, c_le, c_blt, c_ble, c_beq, c_fits]
    rw [show ((i : Int) + 1) = ((i + 1 : Nat) : Int) by omega, decide_eq_true (show (0 : Int) ≤ i by omega)]
    rw [c_not]
    simp only [eq6]
    rw [iBeq (r 0), iBeq (r 1), iBeq (r 2), iBeq (r 3), iBeq (r 4), iBeq (r 5)]
  · simp (disch := omega) only [slices_Index_i_Rectangle_i_Rectangle_l0, slices_Index_i_Rectangle_i_Rectangle_l0_s, c_nlt]
    rfl
def ledX (n : Nat) (x r : Nat → Int) : Nat → Int := upd (upd x (r 0).toNat (x ((r 0 + r 2).tmod n).toNat)) ((r 0 + r 2).tmod n).toNat (x (r 0).toNat)
theorem led_bd {n : Nat} (h2 : 2 ≤ n) (h8 : n ≤ 8) {a b : Int} (ha : 0 ≤ a ∧ a < n) (hb : 0 ≤ b ∧ b < n) : 0 ≤ (a + b).tmod n ∧ (a + b).tmod n < n :=
  ⟨Int.tmod_nonneg _ (by omega), Int.tmod_lt_of_pos _ (by omega)⟩
theorem s_l05Led_val (z : β) (N : Nat) {n : Nat} (h2 : 2 ≤ n) (h8 : n ≤ 8) {x r : Nat → Int} (ha : 0 ≤ r 0 ∧ r 0 < n) (hb : 0 ≤ r 2 ∧ r 2 < n) (k : (Nat → Int) → β) : s_l05Led z N n x r k = k (ledX n x r) := by
  obtain ⟨q1, q2⟩ := led_bd h2 h8 ha hb
  unfold s_l05Led
  rw [show (!((n : Int) == 0)) = true by simp; omega]
  simp only [c_and, c_true]
  simp (disch := omega) only [c_lt, c_le, c_blt, c_fits]
  rfl
theorem i_led_val (z : β) (N : Nat) {n : Nat} (h2 : 2 ≤ n) (h8 : n ≤ 8) {x r : Nat → Int} (ha : 0 ≤ r 0 ∧ r 0 < n) (hb : 0 ≤ r 2 ∧ r 2 < n) (k : (Nat → Int) → β) : i_Rectangle_led z N r x n k = k (ledX n x r) := by
  obtain ⟨q1, q2⟩ := led_bd h2 h8 ha hb
  unfold i_Rectangle_led
  rw [show (!((n : Int) == 0)) = true by simp; omega]
  simp only [c_and, c_true]
  simp (disch := omega) only [c_lt, c_le, c_blt, c_fits]
  rfl
theorem hit_bd {m : Nat} {X O x r : Nat → Int} {ps : List (Nat × Nat)} (hps : ∀ p, p ∈ ps → p ∈ prs m) (h : allFrom (fun i => !eq6 (recs m X O x ps) r i) ps.length 0 = false) : (0 ≤ r 0 ∧ r 0 < m) ∧ (0 ≤ r 2 ∧ r 2 < m) := by
  have : ∃ i, i < ps.length ∧ eq6 (recs m X O x ps) r i = true := by
    refine Classical.byContradiction fun hc => ?_
    have : allFrom (fun i => !eq6 (recs m X O x ps) r i) ps.length 0 = true := by
      rw [allFrom_iff]
      intro j _ hj
      cases he : eq6 (recs m X O x ps) r j with
      | false => rfl
      | true => exact absurd ⟨j, by omega, he⟩ hc
    rw [h] at this
    cases this
  obtain ⟨i, hi, he⟩ := this
  have hp := hps _ (List.getElem_mem hi)
  obtain ⟨p1, p2, p3⟩ := prs_mem hp
  have g0 := recs_get m X O x ps i _ (List.getElem?_eq_getElem hi) 0 (by omega)
  have g2 := recs_get m X O x ps i _ (List.getElem?_eq_getElem hi) 2 (by omega)
  simp only [rectL, List.getElem?_cons_zero, List.getElem?_cons_succ] at g0 g2
  simp only [eq6, g0, g2, Bool.and_eq_true, beq_iff_eq, Option.getD_some] at he
  obtain ⟨e0, _, e2, _⟩ := he
  rw [← e0, ← e2]
  omega
theorem w_FnExactLedTo_val (z : β) {N : Nat} (hN : 90 < N) (n : Int) (X O x r : Nat → Int) (hX : ∀ j, j < 8 → 0 ≤ X j ∧ X j ≤ 255) (hO : ∀ j, j < 8 → 0 ≤ O j ∧ O j ≤ 255) (hx : ∀ j, j < 8 → 0 ≤ x j ∧ x j ≤ 255) (k0 : Bool → β) : w_FnExactLedTo z N n X O x r k0 = k0 true := by
  unfold w_FnExactLedTo
  have hN8 : 8 < N := by omega
  have hX2 : ∀ j, 0 ≤ clip8 X j ∧ clip8 X j ≤ 255 := fun j => ⟨clip8_nn (fun j h => (hX j h).1) j, clip8_le (fun j h => (hX j h).2) j⟩
  have hO2 : ∀ j, 0 ≤ clip8 O j ∧ clip8 O j ≤ 255 := fun j => ⟨clip8_nn (fun j h => (hO j h).1) j, clip8_le (fun j h => (hO j h).2) j⟩
  have hx2 : ∀ j, 0 ≤ clip8 x j ∧ clip8 x j ≤ 255 := fun j => ⟨clip8_nn (fun j h => (hx j h).1) j, clip8_le (fun j h => (hx j h).2) j⟩
  have hX0 := fun j => (hX2 j).1
  have hO0 := fun j => (hO2 j).1
  have hx0 := fun j => (hx2 j).1
  simp only [w_toGrid_val z hN8, w_toState_val z hN8, w_toRectangle, s_LedTo, i_LedTo, s_l05Is_val z hN8 _ _ _ _ hX0 hO0 hx0, i_IsState_val z hN8 _ _ _ _ hX0 hO0 hx0]
  cases hg : stateB n (clip8 X) (clip8 O) (clip8 x) with
  | false => simp only [Bool.not_false, c_true, w_eqState_refl z hN8, Bool.not_true, c_false, bne_self_eq_false]
  | true =>
    obtain ⟨m, rfl, g, hp⟩ := stateB_true hg
    have e : (fun l w => empB m (clip8 x) l w || !false) = fun _ _ => true := by funext l w; simp
    simp only [Bool.not_true, c_false, s_l05Rects_val z hN8 g.lo g.hi hX2 hO2 hx2 hp, i_Grid_rectangles_val z hN8 g.lo g.hi hX2 hO2 hx2 hp, e]
    rw [rectsL_eq, recs_6]
    have hl : ((prs m).filter fun _ => true).length ≤ 64 := Nat.le_trans (List.length_filter_le _ _) (prs_len m g.hi)
    have hr := recs_len m (clip8 X) (clip8 O) (clip8 x) ((prs m).filter fun _ => true)
    generalize upd (upd (upd (upd (upd (upd (fun (x : Nat) => (0 : Int)) 0 (r 0)) 1 (r 1)) 2 (r 2)) 3 (r 3)) 4 (r 4)) 5 (r 5) = R at *
    have hb := fun h => hit_bd (m := m) (X := clip8 X) (O := clip8 O) (x := clip8 x) (r := R) (ps := (prs m).filter fun _ => true) (fun p hp => (List.mem_filter.1 hp).1) h
    generalize recs m (clip8 X) (clip8 O) (clip8 x) ((prs m).filter fun _ => true) = xs at *
    generalize ((prs m).filter fun _ => true).length = L at *
    simp only [s_LedTo_l0_val z (N := N) hr (by omega) _ _ (show L < N by omega), contains_val z (N := N) hr (by omega) (show L < N by omega)]
    cases ha : allFrom (fun i => !eq6 xs R i) L 0 with
    | true => simp only [c_true, c_false, Bool.not_false, w_eqState_refl z hN8, Bool.not_true, bne_self_eq_false]
    | false =>
      obtain ⟨b0, b2⟩ := hb ha
      simp only [c_false, s_l05Led_val z N g.lo g.hi b0 b2, i_led_val z N g.lo g.hi b0 b2, c_true, Bool.not_false, w_eqState_refl z hN8, Bool.not_true, bne_self_eq_false]
end
end Go.AM
