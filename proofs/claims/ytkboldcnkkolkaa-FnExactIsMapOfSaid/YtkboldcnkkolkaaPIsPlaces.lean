/- A part of a proof about the given program: an abstract machine, what the given functions come to, and plain laws. -/
import Derived.Test.YtkboldcnkkolkaaPBase
import Derived.Test.YtkboldcnkkolkaaDIsPlaces
namespace Go.AM
section
variable {β : Type}
theorem isOrder_ordL (z : β) (n : Int) (h : Nat → Int) : ∀ m s t k0 k1, i_isOrder_l0 z n h m s t k0 k1 = ordL 4 z n h m s t k0 k1 := by
  intro m
  induction m with
  | zero => intros; rfl
  | succ m ih => intro s t k0 k1; simp only [i_isOrder_l0, ordL, ih]; rfl
theorem l08Is_permL (z : β) (n : Int) (h : Nat → Int) : ∀ m i s k0 k1, s_l08Is_l0 z n h m i s k0 k1 = permL 4 z n h m i s k0 k1 := by
  intro m
  induction m with
  | zero => intros; rfl
  | succ m ih => intro s t k0 k1; simp only [s_l08Is_l0, permL, ih]; rfl
/-- Is it a permutation of so many points? -/
noncomputable def placesB (q : Nat → Int) (k : Int) : Bool := decide (1 ≤ k ∧ k ≤ 4) && permB 4 k.toNat q
theorem i_IsPlaces_val (z : β) {N : Nat} (hN : 4 < N) (q : Nat → Int) (hq : ∀ j, 0 ≤ q j) (k : Int) (k0 : Bool → β) : i_IsPlaces z N q k k0 = k0 (placesB q k) := by
  unfold i_IsPlaces placesB
  rw [i_within_val]
  by_cases h : 1 ≤ k ∧ k ≤ 4
  · obtain ⟨n, rfl⟩ : ∃ n : Nat, k = (n : Int) := ⟨k.toNat, by omega⟩
    simp only [decide_eq_true h, Bool.true_and, c_true]
    unfold i_isOrder
    rw [isOrder_ordL, Int.toNat_natCast]
    exact ord_val 4 (by omega) z n (by omega) (by omega) (by omega) q hq k0 hN
  · simp only [decide_eq_false h, Bool.false_and, c_false]
theorem s_IsPlaces_val (z : β) {N : Nat} (hN : 4 < N) (q : Nat → Int) (hq : ∀ j, 0 ≤ q j) (k : Int) (k0 : Bool → β) : s_IsPlaces z N q k k0 = k0 (placesB q k) := by
  unfold s_IsPlaces s_l08Is placesB
  rw [s_l01In_val]
  by_cases h : 1 ≤ k ∧ k ≤ 4
  · obtain ⟨n, rfl⟩ : ∃ n : Nat, k = (n : Int) := ⟨k.toNat, by omega⟩
    simp only [decide_eq_true h, Bool.true_and, Bool.not_true, c_false, l08Is_permL, Int.toNat_natCast]
    exact perm_val 4 (by omega) z n (by omega) q hq k0 hN
  · simp only [decide_eq_false h, Bool.false_and, Bool.not_false, c_true]
theorem w_toPlaces_val (z : β) {N : Nat} (hN : 4 < N) (a : Nat → Int) (k0 : (Nat → Int) → β) : w_toPlaces z N a k0 = k0 (fun j => if j < 4 then a j else 0) := by
  unfold w_toPlaces
  have := up_to (L := fun m i h => w_toPlaces_l0 z a (fun _ => 0) m (i : Int) h k0) (n := 4) (out := k0) (f := fun i h => upd h i (a i)) (I := fun _ _ => True)
    (fun m i s hi _ => ⟨by
      simp only [w_toPlaces_l0, w_toPlaces_l0_s, c_and, Int.toNat_natCast]
      simp (disch := omega) only [c_lt, c_le, c_blt, c_fits]
      rfl, trivial⟩)
    (fun m s _ => by simp (disch := omega) only [w_toPlaces_l0, w_toPlaces_l0_s, c_nlt]) 4 N 0 (fun _ => 0) rfl hN trivial
  rw [iter_set] at this
  refine this.trans (congrArg k0 (funext fun j => ?_))
  simp
theorem w_FnExactIsPlaces_val (z : β) {N : Nat} (hN : 4 < N) (q : Nat → Int) (k : Int) (hq : ∀ j, j < 4 → 0 ≤ q j ∧ q j ≤ 255) (k0 : Bool → β) : w_FnExactIsPlaces z N q k k0 = k0 true := by
  unfold w_FnExactIsPlaces
  have h : ∀ j, 0 ≤ (if j < 4 then q j else 0) := fun j => by split; exact (hq j ‹_›).1; omega
  rw [w_toPlaces_val z hN, s_IsPlaces_val z hN _ h, w_toPlaces_val z hN, i_IsPlaces_val z hN _ h]
  cases placesB _ k <;> rfl
end
end Go.AM
