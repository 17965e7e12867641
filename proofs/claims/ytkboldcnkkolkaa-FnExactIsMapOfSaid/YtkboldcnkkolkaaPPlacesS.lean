/- A part of a proof about the given program: an abstract machine, what the given functions come to, and plain laws. -/
import Derived.Test.YtkboldcnkkolkaaPIsPlaces
import Derived.Test.YtkboldcnkkolkaaDIsTransitive
import Derived.Test.YtkboldcnkkolkaaAMStore
namespace Go.AM
section
variable {β : Type}
/-- Lists of places, copied. -/
def clip4 (a : Nat → Int) : Nat → Int := fun j => if j < 4 then a j else 0
def copyF (M : Nat) (h : Nat → Int) (i : Nat) (s : Nat → Int) : Nat → Int := chooseF (Nat.beq 4 (M * 4)) (clip4 (shiftF h (i * 4))) (spliceF s (i * 4) 4 (clip4 (shiftF h (i * 4))))
def copy4 (M : Nat) (h : Nat → Int) : Nat → Int := iter (copyF M h) M 0 fun _ => 0
theorem copy4_all (M : Nat) (h : Nat → Int) : (∀ j, j < 4 * M → copy4 M h j = h j) ∧ ∀ j, 4 * M ≤ j → copy4 M h j = 0 := by
  have key := iter_inv (f := copyF M h) (n := M) (I := fun i s => (∀ j, j < 4 * i → s j = h j) ∧ ∀ j, 4 * M ≤ j → s j = 0) (fun i s hi ⟨h1, h2⟩ => by
    constructor
    · intro j hj
      unfold copyF
      rw [chooseF_at (by omega) (by omega)]
      unfold spliceF
      by_cases hb : i * 4 ≤ j
      · rw [show (Nat.ble (i * 4) j && Nat.blt j (i * 4 + 4)) = true from by simp only [Bool.and_eq_true, Nat.ble_eq, Nat.blt_eq]; omega]
        simp only [cond_true, clip4, shiftF_eq]
        rw [if_pos (by omega), show i * 4 + (j - i * 4) = j by omega]
      · rw [show (Nat.ble (i * 4) j && Nat.blt j (i * 4 + 4)) = false from by rw [← Bool.not_eq_true]; simp only [Bool.and_eq_true, Nat.ble_eq, Nat.blt_eq]; omega]
        exact h1 j (by omega)
    · intro j hj
      unfold copyF chooseF
      cases hb : Nat.beq 4 (M * 4) with
      | true =>
        have := Nat.eq_of_beq_eq_true hb
        simp only [cond_true, clip4]
        rw [if_neg (by omega)]
      | false =>
        simp only [cond_false, spliceF]
        rw [show (Nat.ble (i * 4) j && Nat.blt j (i * 4 + 4)) = false from by rw [← Bool.not_eq_true]; simp only [Bool.and_eq_true, Nat.ble_eq, Nat.blt_eq]; omega]
        exact h2 j hj) M 0 (fun _ => 0) (by omega) ⟨fun j hj => by omega, fun _ _ => rfl⟩
  rw [Nat.zero_add] at key
  exact key
theorem copy4_bd {M : Nat} {h : Nat → Int} (hh : ∀ j, j < 4 * M → 0 ≤ h j ∧ h j ≤ 255) (j : Nat) : 0 ≤ copy4 M h j ∧ copy4 M h j ≤ 255 := by
  rcases Nat.lt_or_ge j (4 * M) with hj | hj
  · rw [(copy4_all M h).1 j hj]; exact hh j hj
  · rw [(copy4_all M h).2 j hj]; omega
theorem w_toPlacesS_val (z : β) {N M c : Nat} (hM : M ≤ 1048576) (hN : 1048576 < N) (h : Nat → Int) (k : Nat → Nat → Nat → Nat → (Nat → Int) → β) :
    w_toPlacesS z N (M * 4) M c (M * 4) h k = k (M * 4) M M (M * 4) (copy4 M h) := by
  unfold w_toPlacesS
  simp only [c_and, c_true, Int.toNat_natCast]
  simp (disch := omega) only [c_ble, c_le]
  refine up_to (L := fun m i s => w_toPlacesS_l0 z N (M * 4) M c (M * 4) M M (M * 4) h (M * 4) m (i : Int) s fun q8 => k (M * 4) M M (M * 4) q8) (n := M) (out := fun s => k (M * 4) M M (M * 4) s) (f := copyF M h) (I := fun _ _ => True)
    (fun m i s hi _ => ⟨?_, trivial⟩) (fun m s _ => ?_) M N 0 (fun _ => 0) (by omega) (by omega) trivial
  · simp only [w_toPlacesS_l0, w_toPlacesS_l0_s, c_and, Int.toNat_natCast, w_toPlaces_val z (N := N) (by omega)]
    simp (disch := omega) only [c_lt, c_le, c_ble, c_beq, c_fits]
    rfl
  · simp (disch := omega) only [w_toPlacesS_l0, w_toPlacesS_l0_s, c_ble, c_nlt]
theorem eqPlaces_val (z : β) {N : Nat} (hN : 4 < N) (a : Nat → Int) (k : Bool → β) : w_eqPlaces z N a a k = k true := by
  unfold w_eqPlaces
  exact (up_to_all (L := fun m i => w_eqPlaces_l0 z a a m (i : Int) (k false) (k true)) (n := 4) (kt := k true) (kf := k false) (p := fun _ => true)
    (fun m i hi => by
      simp only [w_eqPlaces_l0, w_eqPlaces_l0_s, c_and, Int.toNat_natCast]
      simp (disch := omega) only [c_lt, c_le, c_blt, c_fits, c_nne]
      rfl)
    (fun m => by simp (disch := omega) only [w_eqPlaces_l0, w_eqPlaces_l0_s, c_nlt]) 4 N 0 (by omega) hN)
theorem eqPlacesS_val (z : β) {N M c c' : Nat} (hM : M ≤ 1048576) (hN : 1048576 < N) (a : Nat → Int) (k : Bool → β) : w_eqPlacesS z N (M * 4) M c (M * 4) M c' (M * 4) a (M * 4) a k = k true := by
  unfold w_eqPlacesS
  simp (disch := omega) only [c_ble, c_nne]
  exact (up_to_all (L := fun m i => w_eqPlacesS_l0 z N (M * 4) M c (M * 4) M c' (M * 4) a (M * 4) a m (i : Int) (k false) (k true)) (n := M) (kt := k true) (kf := k false) (p := fun _ => true)
    (fun m i hi => by
      simp only [w_eqPlacesS_l0, w_eqPlacesS_l0_s, c_and, Int.toNat_natCast, eqPlaces_val z (N := N) (by omega), Bool.not_true, c_false]
      simp (disch := omega) only [c_lt, c_le, c_ble, c_beq, c_fits]
      rfl)
    (fun m => by simp (disch := omega) only [w_eqPlacesS_l0, w_eqPlacesS_l0_s, c_ble, c_nlt]) M N 0 (by omega) (by omega)).trans (by rw [(allFrom_iff M 0).2 fun _ _ _ => rfl]; rfl)
/-- Are they lists of permutations of so many points? -/
noncomputable def listB (M : Nat) (h : Nat → Int) (k : Int) : Bool := decide (1 ≤ k ∧ k ≤ 4) && allFrom (fun i => placesB (shiftF h (i * 4)) k) M 0
theorem s_l08List_val (z : β) {N M c : Nat} (hM : M ≤ 1048576) (hN : 1048576 < N) {h : Nat → Int} (hh : ∀ j, 0 ≤ h j) (k : Int) (k0 : Int → β) : s_l08List z N k (M * 4) M c (M * 4) h k0 = k0 (cond (listB M h k) 0 2) := by
  unfold s_l08List listB
  rw [s_l01In_val]
  cases hk : decide (1 ≤ k ∧ k ≤ 4) with
  | false => rfl
  | true =>
    simp only [Bool.not_true, c_false, Bool.true_and]
    refine (up_to_all (L := fun m i => s_l08List_l0 z N k (M * 4) M c (M * 4) h m (i : Int) (k0 2) (k0 0)) (n := M) (kt := k0 0) (kf := k0 2) (p := fun i => placesB (shiftF h (i * 4)) k)
      (fun m i hi => ?_) (fun m => ?_) M N 0 (by omega) (by omega)).trans (c_app k0 _).symm
    · have : ∀ k1, s_l08Is z N (shiftF h (i * 4)) k k1 = k1 (placesB (shiftF h (i * 4)) k) := fun k1 => s_IsPlaces_val z (by omega) _ (fun j => by rw [shiftF_eq]; exact hh _) k k1
      simp only [s_l08List_l0, s_l08List_l0_s, c_and, Int.toNat_natCast, this]
      simp (disch := omega) only [c_lt, c_le, c_ble, c_beq, c_fits, c_not]
      rfl
    · simp (disch := omega) only [s_l08List_l0, s_l08List_l0_s, c_ble, c_nlt]
theorem i_arePlaces_val (z : β) {N M c : Nat} (hM : M ≤ 1048576) (hN : 1048576 < N) {h : Nat → Int} (hh : ∀ j, 0 ≤ h j) (k : Int) (k0 : Bool → β) : i_arePlaces z N (M * 4) M c k (M * 4) h k0 = k0 (listB M h k) := by
  unfold i_arePlaces listB
  rw [i_within_val]
  cases hk : decide (1 ≤ k ∧ k ≤ 4) with
  | false => rfl
  | true =>
    simp only [c_true, Bool.true_and]
    unfold slices_ContainsFunc_i_Places_i_Places slices_IndexFunc_i_Places_i_Places
    rw [c_ble (by omega)]
    refine (up_to_all (L := fun m i => slices_IndexFunc_i_Places_i_Places_l0 z N (M * 4) M c (M : Int) (M * 4) h k m (i : Int) (fun q9 => k0 (!decide (0 ≤ q9))) (k0 (!decide (0 ≤ (-1 : Int))))) (n := M) (kt := k0 true) (kf := k0 false) (p := fun i => placesB (shiftF h (i * 4)) k)
      (fun m i hi => ?_) (fun m => ?_) M N 0 (by omega) (by omega)).trans (by cases allFrom (fun i => placesB (shiftF h (i * 4)) k) M 0 <;> rfl)
    · simp only [slices_IndexFunc_i_Places_i_Places_l0, slices_IndexFunc_i_Places_i_Places_l0_s, i_arePlaces_1, c_and, Int.toNat_natCast, i_IsPlaces_val z (N := N) (by omega) (shiftF h (i * 4)) (fun j => by rw [shiftF_eq]; exact hh _)]
      simp (disch := omega) only [c_lt, c_le, c_ble, c_beq, c_fits, c_not]
      rw [decide_eq_true (show (0 : Int) ≤ i by omega)]
      rfl
    · simp (disch := omega) only [slices_IndexFunc_i_Places_i_Places_l0, slices_IndexFunc_i_Places_i_Places_l0_s, c_nlt]
      rfl
end
end Go.AM
