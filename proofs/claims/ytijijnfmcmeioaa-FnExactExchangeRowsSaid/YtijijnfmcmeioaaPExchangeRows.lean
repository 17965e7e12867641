/- A part of a proof about the given program: an abstract machine, what the given functions come to, and plain laws. -/
import Derived.Test.YtijijnfmcmeioaaPRows
namespace Go.AM
section
variable {β : Type}
theorem min_bif (a b : Int) : (bif decide (b < a) then b else a) = min a b := by rw [c_dec]; split <;> omega
theorem max_bif (a b : Int) : (bif decide (a < b) then b else a) = max a b := by rw [c_dec]; split <;> omega
/-- Do two spans lie apart? -/
def apart2 (a b c d : Int) : Bool := !(a == c) && (!(a == d) && (!(b == c) && (!(b == d) && ((decide (min a b < c) && decide (c < max a b)) == (decide (min a b < d) && decide (d < max a b))))))
theorem i_areApart_val (z : β) (N : Nat) (a b c d : Int) (k : Bool → β) : i_areApart z N a b c d k = k (apart2 a b c d) := by
  unfold i_areApart apart2
  simp only [min_bif, max_bif]
  cases a == c <;> cases a == d <;> cases b == c <;> cases b == d <;> cases decide (min a b < c) <;> cases decide (min a b < d) <;> cases decide (c < max a b) <;> cases decide (d < max a b) <;> rfl
theorem s_l02Free_val (z : β) (N : Nat) {a b c d : Int} (hab : a ≠ b) (hcd : c ≠ d) (k : Bool → β) : s_l02Free z N a b c d k = k (apart2 a b c d) := by
  have key : apart2 a b c d = (!(a == c) && (!(a == d) && (!(b == c) && (!(b == d) && (((decide (min a b < c) && decide (c < max a b)) == (decide (min a b < d) && decide (d < max a b))) || ((decide (min c d < a) && decide (a < max c d)) == (decide (min c d < b) && decide (b < max c d)))))))) := by
    unfold apart2
    by_cases h1 : a = c
    · simp [h1]
    by_cases h2 : a = d
    · simp [h2]
    by_cases h3 : b = c
    · simp [h3]
    by_cases h4 : b = d
    · simp [h4]
    have e : ((decide (min c d < a) && decide (a < max c d)) == (decide (min c d < b) && decide (b < max c d))) = ((decide (min a b < c) && decide (c < max a b)) == (decide (min a b < d) && decide (d < max a b))) := by
      have q : ∀ p q r s : Bool, ((p == q) = (r == s)) ↔ ((p = true ↔ q = true) ↔ (r = true ↔ s = true)) := by decide
      rw [q]
      simp only [Bool.and_eq_true, decide_eq_true_eq]
      constructor <;> intro h <;> constructor <;> intro h' <;> omega
    rw [e, Bool.or_self]
  rw [key]
  unfold s_l02Free
  simp only [min_bif, max_bif]
  cases a == c <;> cases a == d <;> cases b == c <;> cases b == d <;> first | rfl | skip
  cases decide (min a b < c) <;> cases decide (min a b < d) <;> cases decide (c < max a b) <;> cases decide (d < max a b) <;> cases decide (min c d < a) <;> cases decide (min c d < b) <;> cases decide (a < max c d) <;> cases decide (b < max c d) <;> rfl
/-- May two neighbouring rows be exchanged? -/
noncomputable def rowsB (n : Nat) (X O : Nat → Int) (r : Nat) : Bool := apart2 (rowOf n X r) (rowOf n O r) (rowOf n X (r + 1)) (rowOf n O (r + 1))
theorem rowOf_ne {n : Nat} {X O : Nat → Int} (g : GridP n X O) (hX : ∀ j, 0 ≤ X j) (hO : ∀ j, 0 ≤ O j) {r : Nat} (hr : r < n) : (rowOf n X r : Int) ≠ rowOf n O r := by
  intro e
  have h1 := rowOf_spec g.px hX hr
  have h2 := rowOf_spec g.po hO hr
  have := g.ne _ h1.1
  rw [h1.2, show rowOf n X r = rowOf n O r by omega, h2.2] at this
  exact this rfl
theorem s_l02Rows_val (z : β) {N : Nat} (hN : 8 < N) {n : Nat} {X O : Nat → Int} (g : GridP n X O) (hX : ∀ j, 0 ≤ X j) (hO : ∀ j, 0 ≤ O j) {r : Nat} (hr : r + 1 < n) (k : Bool → β) : s_l02Rows z N n X O r k = k (rowsB n X O r) := by
  unfold s_l02Rows
  have h8 := g.hi
  have hr0 : r < n := by omega
  have e : ((r : Int) + 1) = ((r + 1 : Nat) : Int) := by omega
  rw [s_l01Row_val z hN h8 g.px hX hr0, s_l01Row_val z hN h8 g.po hO hr0, c_fits (by omega)]
  rw [e, s_l01Row_val z hN h8 g.px hX hr]
  rw [c_fits (by omega), s_l01Row_val z hN h8 g.po hO hr, s_l02Free_val z N (rowOf_ne g hX hO hr0) (rowOf_ne g hX hO hr)]
  rfl
theorem i_Grid_canRows_val (z : β) {N : Nat} (hN : 8 < N) {n : Nat} {X O : Nat → Int} (g : GridP n X O) (hX : ∀ j, 0 ≤ X j) (hO : ∀ j, 0 ≤ O j) {r : Nat} (hr : r + 1 < n) (k : Bool → β) : i_Grid_canRows z N n X O r k = k (rowsB n X O r) := by
  unfold i_Grid_canRows
  have h8 := g.hi
  have hr0 : r < n := by omega
  have e : ((r : Int) + 1).toNat = r + 1 := by omega
  simp only [i_Grid_places_val z hN h8 g.px hX, i_Grid_places_val z hN h8 g.po hO, c_and, e, Int.toNat_natCast, plc_spec g.px hX hr0, plc_spec g.po hO hr0, plc_spec g.px hX hr, plc_spec g.po hO hr]
  simp (disch := omega) only [c_lt, c_le, c_blt, c_fits, i_areApart_val]
  rfl
/-- A row when two neighbouring rows have been exchanged. -/
def swapR (r : Nat) (v : Int) : Int := if v = r then r + 1 else if v = r + 1 then r else v
def swapF (n : Nat) (r : Nat) (X : Nat → Int) : Nat → Int := fun i => if i < n then swapR r (X i) else X i
theorem wrap8 {x : Int} (h : 0 ≤ x ∧ x ≤ 255) : wrapU IntKind.u8 x = x := by unfold wrapU kmod; simp only; omega
theorem s_l02SwapRows_val (z : β) {N : Nat} (hN : 8 < N) {n : Nat} (h8 : n ≤ 8) (X O : Nat → Int) {r : Nat} (hr : r + 1 < n) (k : (Nat → Int) → (Nat → Int) → β) : s_l02SwapRows z N n X O r k = k (swapF n r X) (swapF n r O) := by
  unfold s_l02SwapRows
  rw [c_fits (by omega), wrap8 (by omega), wrap8 (by omega)]
  have := up_to (L := fun m i (h : (Nat → Int) × (Nat → Int)) => s_l02SwapRows_l0 z r ((r : Int) + 1) n 0 (fun _ => 0) (fun _ => 0) m (i : Int) h.1 h.2 k) (n := n) (out := fun h => k h.1 h.2) (f := fun i h => (upd h.1 i (swapR r (h.1 i)), upd h.2 i (swapR r (h.2 i)))) (I := fun _ _ => True)
    (fun m i s hi _ => ⟨?_, trivial⟩) (fun m s _ => by simp (disch := omega) only [s_l02SwapRows_l0, s_l02SwapRows_l0_s, c_nlt]) n N 0 (X, O) (by omega) (by omega) trivial
  · refine this.trans ?_
    have e : ∀ Y : Nat → Int, ∀ d i : Nat, ∀ h : Nat → Int, (∀ j, i ≤ j → h j = Y j) → iter (fun i (h : Nat → Int) => upd h i (swapR r (h i))) d i h = fun j => if i ≤ j ∧ j < i + d then swapR r (Y j) else h j := by
      intro Y d
      induction d with
      | zero => intro i h _; funext j; rw [if_neg (by omega)]; rfl
      | succ d ih =>
        intro i h hh
        rw [iter, ih (i + 1) _ (fun j hj => by rw [upd_at, if_neg (by omega)]; exact hh j (by omega))]
        funext j
        simp only [upd_at]
        by_cases e : j = i
        · subst e; rw [if_neg (by omega), if_pos rfl, if_pos (by omega), hh j (by omega)]
        · by_cases e2 : i + 1 ≤ j ∧ j < i + 1 + d
          · rw [if_pos e2, if_pos (by omega)]
          · rw [if_neg e2, if_neg e, if_neg (by omega)]
    have e2 : ∀ d i : Nat, ∀ s : (Nat → Int) × (Nat → Int), iter (fun i (h : (Nat → Int) × (Nat → Int)) => (upd h.1 i (swapR r (h.1 i)), upd h.2 i (swapR r (h.2 i)))) d i s = (iter (fun i (h : Nat → Int) => upd h i (swapR r (h i))) d i s.1, iter (fun i (h : Nat → Int) => upd h i (swapR r (h i))) d i s.2) := by
      intro d
      induction d with
      | zero => intro i s; rfl
      | succ d ih => intro i s; rw [iter, ih]; rfl
    rw [e2, e X n 0 X (fun _ _ => rfl), e O n 0 O (fun _ _ => rfl)]
    unfold swapF
    simp only [Nat.zero_le, true_and, Nat.zero_add]
  · simp only [s_l02SwapRows_l0, s_l02SwapRows_l0_s, c_and, Int.toNat_natCast]
    have self : ∀ h : Nat → Int, upd h i (h i) = h := fun h => by funext j; rw [upd_at]; split; (· subst_vars; rfl); rfl
    unfold swapR
    by_cases a1 : s.1 i = r <;> by_cases a2 : s.1 i = (r : Int) + 1 <;> by_cases b1 : s.2 i = r <;> by_cases b2 : s.2 i = (r : Int) + 1 <;> first
      | omega
      | (simp (disch := omega) only [c_lt, c_le, c_blt, c_fits, c_eq, c_neq, if_pos, if_neg, a1, a2, b1, b2, self, reduceIte]; try rfl)
theorem swapR_bd {n r : Nat} (hr : r + 1 < n) (h8 : n ≤ 8) {v : Int} (h0 : 0 ≤ v) (hv : v < n) : 0 ≤ swapR r v ∧ swapR r v < n := by unfold swapR; split; omega; split <;> omega
theorem i_Grid_swapRows_val (z : β) {N : Nat} (hN : 8 < N) {n : Nat} {X O : Nat → Int} (g : GridP n X O) (hX : ∀ j, 0 ≤ X j) (hO : ∀ j, 0 ≤ O j) (zX : ∀ j, 8 ≤ j → X j = 0) (zO : ∀ j, 8 ≤ j → O j = 0) {r : Nat} (hr : r + 1 < n) (k : (Nat → Int) → (Nat → Int) → β) :
    i_Grid_swapRows z N n X O r k = k (swapF n r X) (swapF n r O) := by
  have h8 := g.hi
  unfold i_Grid_swapRows i_Grid_led_s3 i_Grid_n
  rw [c_false]
  have := up_to (L := fun m i (h : (Nat → Int) × (Nat → Int)) => i_Grid_led_l0_s6 z N n r n X O 0 (fun _ => 0) (fun _ => 0) n m (i : Int) h.1 h.2 k) (n := n) (out := fun h => k h.1 h.2) (f := fun i h => (upd h.1 i (swapR r (X i)), upd h.2 i (swapR r (O i)))) (I := fun _ _ => True)
    (fun m i s hi _ => ⟨?_, trivial⟩) (fun m s _ => by simp (disch := omega) only [i_Grid_led_l0_s6, i_Grid_led_l0_s6_s, c_nlt]) n N 0 (fun _ => 0, fun _ => 0) (by omega) (by omega) trivial
  · refine this.trans ?_
    have e2 : ∀ d i : Nat, ∀ s : (Nat → Int) × (Nat → Int), iter (fun i (h : (Nat → Int) × (Nat → Int)) => (upd h.1 i (swapR r (X i)), upd h.2 i (swapR r (O i)))) d i s = (iter (fun i (h : Nat → Int) => upd h i (swapR r (X i))) d i s.1, iter (fun i (h : Nat → Int) => upd h i (swapR r (O i))) d i s.2) := by
      intro d
      induction d with
      | zero => intro i s; rfl
      | succ d ih => intro i s; rw [iter, ih]; rfl
    rw [e2, iter_set (fun i => swapR r (X i)), iter_set (fun i => swapR r (O i))]
    have e3 : ∀ Y : Nat → Int, PermP 8 n Y → (∀ j, 8 ≤ j → Y j = 0) → (fun j => if 0 ≤ j ∧ j < 0 + n then swapR r (Y j) else 0) = swapF n r Y := by
      intro Y hp hz
      funext j
      unfold swapF
      simp only [Nat.zero_le, true_and, Nat.zero_add]
      split
      · rfl
      · by_cases h : j < 8
        · exact (hp.1 j (by omega) h).symm
        · exact (hz j (by omega)).symm
    rw [e3 X g.px zX, e3 O g.po zO]
  · have a1 := hX i
    have a2 := g.px.2.1 i hi
    have b1 := hO i
    have b2 := g.po.2.1 i hi
    have sw : ∀ v : Int, 0 ≤ v → v < n → ∀ kk : Int → β, i_Grid_swapRows_1 z N i v r kk = kk (swapR r v) := by
      intro v h0 h1 kk
      unfold i_Grid_swapRows_1 swapR
      by_cases e1 : v = r
      · rw [c_eq e1, c_fits (by omega), if_pos e1]
      · rw [c_neq e1, c_fits (by omega), if_neg e1]
        by_cases e2 : v = (r : Int) + 1
        · rw [c_eq e2, if_pos e2]
        · rw [c_neq e2, if_neg e2]
    have c1 := swapR_bd hr h8 a1 a2
    have c2 := swapR_bd hr h8 b1 b2
    simp only [i_Grid_led_l0_s6, i_Grid_led_l0_s6_s, c_and, Int.toNat_natCast, sw _ a1 a2, sw _ b1 b2, wrap8 (show 0 ≤ swapR r (X i) ∧ swapR r (X i) ≤ 255 by omega), wrap8 (show 0 ≤ swapR r (O i) ∧ swapR r (O i) ≤ 255 by omega)]
    simp (disch := omega) only [c_lt, c_le, c_blt, c_fits]
    rfl
theorem s_place1 (z : β) {N : Nat} (hN : 8 < N) {n : Int} {X O : Nat → Int} (hX : ∀ j, 0 ≤ X j) (hO : ∀ j, 0 ≤ O j) (r : Int) (k : Int → β) :
    s_l02Place z N n X O ((List.replicate 1 0).set 0 r) k = cond (gridB n X O) (cond (decide (0 ≤ r ∧ r ≤ n - 2)) (k 0) (k 2)) (k 1) := by
  unfold s_l02Place
  rw [s_l01Is_val z hN _ _ _ hX hO]
  cases hg : gridB n X O with
  | false => rfl
  | true =>
    obtain ⟨m, rfl, g⟩ := gridB_iff.1 hg
    have h8 := g.hi
    obtain ⟨N, rfl⟩ : ∃ M, N = M + 2 := ⟨N - 2, by omega⟩
    simp only [Bool.not_true, c_false, c_true, s_l02Place_l0, s_l02Place_l0_s, c_and, s_l01In_val]
    have e : ((List.replicate 1 0).set 0 r).length = 1 := by simp
    rw [e]
    simp (disch := omega) only [c_lt, c_le, c_blt, c_fits, c_beq]
    by_cases h : 0 ≤ r ∧ r ≤ (m : Int) - 2
    · simp [h, List.set, c_if, fits64]
    · simp [h, List.set, c_if]
theorem i_place1 (z : β) {N : Nat} (hN : 8 < N) {n : Int} {X O : Nat → Int} (hX : ∀ j, 0 ≤ X j) (hO : ∀ j, 0 ≤ O j) (r : Int) (k : Int → β) :
    i_isPair z N n X O ((List.replicate 1 0).set 0 r) k = cond (gridB n X O) (cond (decide (0 ≤ r ∧ r ≤ n - 2)) (k 0) (k 2)) (k 1) := by
  unfold i_isPair
  rw [i_IsGrid_val z hN _ _ _ hX hO]
  cases hg : gridB n X O with
  | false => rfl
  | true =>
    obtain ⟨m, rfl, g⟩ := gridB_iff.1 hg
    have h8 := g.hi
    obtain ⟨N, rfl⟩ : ∃ M, N = M + 2 := ⟨N - 2, by omega⟩
    simp only [Bool.not_true, c_false, c_true, i_isPair_l0, i_isPair_l0_s, c_and, i_within_val]
    have e : ((List.replicate 1 0).set 0 r).length = 1 := by simp
    rw [e]
    simp (disch := omega) only [c_lt, c_le, c_blt, c_fits, c_beq]
    by_cases h : 0 ≤ r ∧ r ≤ (m : Int) - 2
    · simp [h, List.set, c_if, fits64]
    · simp [h, List.set, c_if]
theorem w_FnExactExchangeRows_val (z : β) {N : Nat} (hN : 8 < N) (n : Int) (X O : Nat → Int) (r : Int) (hX : ∀ j, j < 8 → 0 ≤ X j ∧ X j ≤ 255) (hO : ∀ j, j < 8 → 0 ≤ O j ∧ O j ≤ 255) (k0 : Bool → β) : w_FnExactExchangeRows z N n X O r k0 = k0 true := by
  unfold w_FnExactExchangeRows
  have hX0 := clip8_nn fun j h => (hX j h).1
  have hO0 := clip8_nn fun j h => (hO j h).1
  have zX : ∀ j, 8 ≤ j → clip8 X j = 0 := fun j h => if_neg (by omega)
  have zO : ∀ j, 8 ≤ j → clip8 O j = 0 := fun j h => if_neg (by omega)
  simp only [w_toGrid_val z hN, s_ExchangeRows, i_ExchangeRows, i_CanExchangeRows, s_place1 z hN hX0 hO0, i_place1 z hN hX0 hO0]
  cases hg : gridB n (clip8 X) (clip8 O) with
  | false =>
    simp only [c_false]
    simp (disch := omega) only [c_ne, w_eqGrid_refl z hN, Bool.not_true, c_false, bne_self_eq_false]
  | true =>
    obtain ⟨m, rfl, g⟩ := gridB_iff.1 hg
    simp only [c_true]
    by_cases h : 0 ≤ r ∧ r ≤ (m : Int) - 2
    · obtain ⟨q, rfl⟩ : ∃ q : Nat, r = (q : Int) := ⟨r.toNat, by omega⟩
      have hq : q + 1 < m := by omega
      simp only [decide_eq_true h, c_true, bne_self_eq_false, c_false, s_l02Rows_val z hN g hX0 hO0 hq, i_Grid_canRows_val z hN g hX0 hO0 hq]
      cases rowsB m (clip8 X) (clip8 O) q with
      | false => simp only [Bool.not_false, c_true, w_eqGrid_refl z hN, Bool.not_true, c_false, bne_self_eq_false]
      | true => simp only [Bool.not_true, c_false, s_l02SwapRows_val z hN g.hi _ _ hq, i_Grid_swapRows_val z hN g hX0 hO0 zX zO hq, w_eqGrid_refl z hN, bne_self_eq_false]
    · simp only [decide_eq_false h, c_false]
      simp (disch := omega) only [c_ne, w_eqGrid_refl z hN, Bool.not_true, c_false, bne_self_eq_false]
end
end Go.AM
