/- A part of a proof about the given program: an abstract machine, what the given functions come to, and plain laws. -/
import Derived.Test.YtijijnfmcmeioaaPTransposeOf
import Derived.Test.YtijijnfmcmeioaaDExchangeRows
namespace Go.AM
section
variable {β : Type}
theorem perm_surj {n : Nat} {X : Nat → Int} (h : PermP 8 n X) (hX : ∀ j, 0 ≤ X j) {r : Nat} (hr : r < n) : ∃ i, i < n ∧ X i = r := by
  obtain ⟨i, h1, h2⟩ := surj_of_inj n (fun i => (X i).toNat) (fun i hi => by have := h.2.1 i hi; have := hX i; omega) (fun i j hi hj e => h.2.2 i j hi hj (by have := hX i; have := hX j; omega)) r hr
  exact ⟨i, h1, by have := hX i; omega⟩
/-- The column of a row. -/
noncomputable def rowOf (n : Nat) (X : Nat → Int) (r : Nat) : Nat := @dite _ (∃ i, i < n ∧ X i = r) (Classical.propDecidable _) (fun h => Classical.choose h) (fun _ => 0)
theorem rowOf_spec {n : Nat} {X : Nat → Int} (h : PermP 8 n X) (hX : ∀ j, 0 ≤ X j) {r : Nat} (hr : r < n) : rowOf n X r < n ∧ X (rowOf n X r) = r := by
  have hx := perm_surj h hX hr
  unfold rowOf
  rw [dif_pos hx]
  exact Classical.choose_spec hx
theorem rowOf_eq {n : Nat} {X : Nat → Int} (h : PermP 8 n X) (hX : ∀ j, 0 ≤ X j) {r i : Nat} (hi : i < n) (hr : X i = r) : rowOf n X r = i := by
  have := h.2.1 i hi
  have h2 := rowOf_spec h hX (r := r) (by omega)
  exact h.2.2 _ _ h2.1 hi (by omega)
theorem s_l01Row_val (z : β) {N : Nat} (hN : 8 < N) {n : Nat} (h8 : n ≤ 8) {X : Nat → Int} (h : PermP 8 n X) (hX : ∀ j, 0 ≤ X j) {r : Nat} (hr : r < n) (k : Int → β) : s_l01Row z N X n r k = k (rowOf n X r) := by
  unfold s_l01Row
  obtain ⟨h1, h2⟩ := rowOf_spec h hX hr
  have key : ∀ (d i m : Nat), i + d = rowOf n X r → d < m → s_l01Row_l0 z n r X m (i : Int) k (k 0) = k (rowOf n X r) := by
    intro d
    induction d with
    | zero =>
      intro i m hi hm
      obtain ⟨m, rfl⟩ : ∃ m', m = m' + 1 := ⟨m - 1, by omega⟩
      have e : i = rowOf n X r := by omega
      subst e
      simp only [s_l01Row_l0, s_l01Row_l0_s, c_and, Int.toNat_natCast]
      simp (disch := omega) only [c_lt, c_le, c_blt, c_eq]
    | succ d ih =>
      intro i m hi hm
      obtain ⟨m, rfl⟩ : ∃ m', m = m' + 1 := ⟨m - 1, by omega⟩
      have hne : X i ≠ (r : Int) := fun e => by have := rowOf_eq h hX (by omega) e; omega
      simp only [s_l01Row_l0, s_l01Row_l0_s, c_and, Int.toNat_natCast]
      simp (disch := omega) only [c_lt, c_le, c_blt, c_neq, c_fits]
      exact ih (i + 1) m (by omega) (by omega)
  exact key (rowOf n X r) 0 N (by omega) (by omega)
/-- The columns of all rows. -/
def plc (n : Nat) (X : Nat → Int) : Nat → Int := iter (fun i h => upd h (X i).toNat (i : Int)) n 0 (fun _ => 0)
theorem plc_spec {n : Nat} {X : Nat → Int} (h : PermP 8 n X) (hX : ∀ j, 0 ≤ X j) {r : Nat} (hr : r < n) : plc n X r = rowOf n X r := by
  have := iter_inv (f := fun i (h : Nat → Int) => upd h (X i).toNat (i : Int)) (I := fun i h => ∀ j, j < i → h (X j).toNat = j) (n := n)
    (fun i s hi hs j hj => by
      simp only [upd_at]
      by_cases e : (X j).toNat = (X i).toNat
      · rw [if_pos e]
        have := h.2.2 j i (by omega) hi (by have := hX i; have := hX j; omega)
        omega
      · rw [if_neg e]
        exact hs j (by by_cases e2 : j = i; (· subst e2; exact absurd rfl e); omega)) n 0 (fun _ => 0) (by omega) (fun j hj => by omega)
  rw [Nat.zero_add] at this
  obtain ⟨h1, h2⟩ := rowOf_spec h hX hr
  have h3 := this _ h1
  rw [h2, Int.toNat_natCast] at h3
  exact h3
theorem i_Grid_places_val (z : β) {N : Nat} (hN : 8 < N) {n : Nat} (h8 : n ≤ 8) {Y : Nat → Int} (h : PermP 8 n Y) (hY : ∀ j, 0 ≤ Y j) (X O : Nat → Int) (k : (Nat → Int) → β) : i_Grid_places z N n X O Y k = k (plc n Y) := by
  unfold i_Grid_places i_Grid_n
  refine up_to (L := fun m i h => i_Grid_places_l0 z n n X O Y (fun _ => 0) m (i : Int) h k) (n := n) (out := k) (f := fun i h => upd h (Y i).toNat (i : Int)) (I := fun _ _ => True)
    (fun m i s hi _ => ⟨?_, trivial⟩) (fun m s _ => by simp (disch := omega) only [i_Grid_places_l0, i_Grid_places_l0_s, c_nlt]) n N 0 (fun _ => 0) (by omega) (by omega) trivial
  have h1 := hY i
  have h3 := h.2.1 i hi
  simp only [i_Grid_places_l0, i_Grid_places_l0_s, c_and, Int.toNat_natCast]
  simp (disch := omega) only [c_lt, c_le, c_blt, c_fits]
  rfl
end
end Go.AM
