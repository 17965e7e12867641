/- A part of a proof about the given program: an abstract machine, what the given functions come to, and plain laws. -/
import Derived.Test.YtijijnfmcmeioaaPMaslov
import Derived.Test.YtijijnfmcmeioaaDIsSum
import Derived.Test.YtijijnfmcmeioaaAMStore
namespace Go.AM
section
variable {β : Type}
/-- Lists of states, copied. -/
def copyF8 (M : Nat) (h : Nat → Int) (i : Nat) (s : Nat → Int) : Nat → Int := chooseF (Nat.beq 8 (M * 8)) (clip8 (shiftF h (i * 8))) (spliceF s (i * 8) 8 (clip8 (shiftF h (i * 8))))
def copy8 (M : Nat) (h : Nat → Int) : Nat → Int := iter (copyF8 M h) M 0 fun _ => 0
theorem copy8_all (M : Nat) (h : Nat → Int) : (∀ j, j < 8 * M → copy8 M h j = h j) ∧ ∀ j, 8 * M ≤ j → copy8 M h j = 0 := by
  have key := iter_inv (f := copyF8 M h) (n := M) (I := fun i s => (∀ j, j < 8 * i → s j = h j) ∧ ∀ j, 8 * M ≤ j → s j = 0) (fun i s hi ⟨h1, h2⟩ => by
    constructor
    · intro j hj
      unfold copyF8
      have hch : chooseF (Nat.beq 8 (M * 8)) (clip8 (shiftF h (i * 8))) (spliceF s (i * 8) 8 (clip8 (shiftF h (i * 8)))) j = spliceF s (i * 8) 8 (clip8 (shiftF h (i * 8))) j := by
        unfold chooseF
        cases hb : Nat.beq 8 (M * 8) with
        | false => rfl
        | true =>
          have := Nat.eq_of_beq_eq_true hb
          have hi0 : i = 0 := by omega
          subst hi0
          simp only [cond_true, spliceF]
          rw [show (Nat.ble (0 * 8) j && Nat.blt j (0 * 8 + 8)) = true from by simp only [Bool.and_eq_true, Nat.ble_eq, Nat.blt_eq]; omega]
          simp
      rw [hch]
      unfold spliceF
      by_cases hb : i * 8 ≤ j
      · rw [show (Nat.ble (i * 8) j && Nat.blt j (i * 8 + 8)) = true from by simp only [Bool.and_eq_true, Nat.ble_eq, Nat.blt_eq]; omega]
        simp only [cond_true, clip8, shiftF_eq]
        rw [if_pos (by omega), show i * 8 + (j - i * 8) = j by omega]
      · rw [show (Nat.ble (i * 8) j && Nat.blt j (i * 8 + 8)) = false from by rw [← Bool.not_eq_true]; simp only [Bool.and_eq_true, Nat.ble_eq, Nat.blt_eq]; omega]
        exact h1 j (by omega)
    · intro j hj
      unfold copyF8 chooseF
      cases hb : Nat.beq 8 (M * 8) with
      | true =>
        have := Nat.eq_of_beq_eq_true hb
        simp only [cond_true, clip8]
        rw [if_neg (by omega)]
      | false =>
        simp only [cond_false, spliceF]
        rw [show (Nat.ble (i * 8) j && Nat.blt j (i * 8 + 8)) = false from by rw [← Bool.not_eq_true]; simp only [Bool.and_eq_true, Nat.ble_eq, Nat.blt_eq]; omega]
        exact h2 j hj) M 0 (fun _ => 0) (by omega) ⟨fun j hj => by omega, fun _ _ => rfl⟩
  rw [Nat.zero_add] at key
  exact key
theorem copy8_bd {M : Nat} {h : Nat → Int} (hh : ∀ j, j < 8 * M → 0 ≤ h j ∧ h j ≤ 255) (j : Nat) : 0 ≤ copy8 M h j ∧ copy8 M h j ≤ 255 := by
  rcases Nat.lt_or_ge j (8 * M) with hj | hj
  · rw [(copy8_all M h).1 j hj]; exact hh j hj
  · rw [(copy8_all M h).2 j hj]; omega
theorem w_toStateS_val (z : β) {N M c : Nat} (hM : M ≤ 1048576) (hN : 1048576 < N) (h : Nat → Int) (k : Nat → Nat → Nat → Nat → (Nat → Int) → β) :
    w_toStateS z N (M * 8) M c (M * 8) h k = k (M * 8) M M (M * 8) (copy8 M h) := by
  unfold w_toStateS
  simp only [c_and, c_true, Int.toNat_natCast]
  simp (disch := omega) only [c_ble, c_le]
  refine up_to (L := fun m i s => w_toStateS_l0 z N (M * 8) M c (M * 8) M M (M * 8) h (M * 8) m (i : Int) s fun q8 => k (M * 8) M M (M * 8) q8) (n := M) (out := fun s => k (M * 8) M M (M * 8) s) (f := copyF8 M h) (I := fun _ _ => True)
    (fun m i s hi _ => ⟨?_, trivial⟩) (fun m s _ => ?_) M N 0 (fun _ => 0) (by omega) (by omega) trivial
  · simp only [w_toStateS_l0, w_toStateS_l0_s, c_and, Int.toNat_natCast, w_toState_val z (N := N) (by omega)]
    simp (disch := omega) only [c_lt, c_le, c_ble, c_beq, c_fits]
    rfl
  · simp (disch := omega) only [w_toStateS_l0, w_toStateS_l0_s, c_ble, c_nlt]
theorem eqStateS_val (z : β) {N M c c' : Nat} (hM : M ≤ 1048576) (hN : 1048576 < N) (a : Nat → Int) (k : Bool → β) : w_eqStateS z N (M * 8) M c (M * 8) M c' (M * 8) a (M * 8) a k = k true := by
  unfold w_eqStateS
  simp (disch := omega) only [c_ble, c_nne]
  exact (up_to_all (L := fun m i => w_eqStateS_l0 z N (M * 8) M c (M * 8) M c' (M * 8) a (M * 8) a m (i : Int) (k false) (k true)) (n := M) (kt := k true) (kf := k false) (p := fun _ => true)
    (fun m i hi => by
      simp only [w_eqStateS_l0, w_eqStateS_l0_s, c_and, Int.toNat_natCast, w_eqState_refl z (N := N) (by omega), Bool.not_true, c_false]
      simp (disch := omega) only [c_lt, c_le, c_ble, c_beq, c_fits]
      rfl)
    (fun m => by simp (disch := omega) only [w_eqStateS_l0, w_eqStateS_l0_s, c_ble, c_nlt]) M N 0 (by omega) (by omega)).trans (by rw [(allFrom_iff M 0).2 fun _ _ _ => rfl]; rfl)
/-- Does one row of numbers come before another one? -/
def lexB (x y : Nat → Int) : Nat → Nat → Bool
  | 0, _ => false
  | d + 1, i => if x i ≠ y i then decide (x i < y i) else lexB x y d (i + 1)
theorem s_l05Before_val (z : β) {N : Nat} (hN : 8 < N) (x y : Nat → Int) (k : Bool → β) : s_l05Before z N x y k = k (lexB x y 8 0) := by
  unfold s_l05Before
  have key : ∀ (d m i : Nat), i + d = 8 → d < m → s_l05Before_l0 z x y m (i : Int) (fun q5 => k q5) (k false) = k (lexB x y d i) := by
    intro d
    induction d with
    | zero =>
      intro m i hi hm
      obtain ⟨m, rfl⟩ : ∃ m', m = m' + 1 := ⟨m - 1, by omega⟩
      simp (disch := omega) only [s_l05Before_l0, s_l05Before_l0_s, c_nlt]
      rfl
    | succ d ih =>
      intro m i hi hm
      obtain ⟨m, rfl⟩ : ∃ m', m = m' + 1 := ⟨m - 1, by omega⟩
      simp only [s_l05Before_l0, s_l05Before_l0_s, c_and, Int.toNat_natCast]
      simp (disch := omega) only [c_lt, c_le, c_blt, c_fits]
      simp only [lexB]
      by_cases h : x i = y i
      · rw [c_nne h, if_neg (by simpa using h)]
        exact ih m (i + 1) (by omega) (by omega)
      · rw [c_ne h, if_pos h]
  exact key 8 N 0 rfl hN
theorem i_compareStates_val (z : β) {N : Nat} (hN : 8 < N) (x y : Nat → Int) (k : Bool → β) : i_compareStates z N x y (fun q => k (decide (0 ≤ q))) = k (!lexB x y 8 0) := by
  unfold i_compareStates slices_Compare_byte_byte
  have key : ∀ (d m i : Nat), i + d = 8 → d < m → slices_Compare_byte_byte_l0 z N x y m (i : Int) (k (decide ((0 : Int) ≤ 1))) (fun q5 => k (decide (0 ≤ q5))) (k (decide ((0 : Int) ≤ 0))) = k (!lexB x y d i) := by
    intro d
    induction d with
    | zero =>
      intro m i hi hm
      obtain ⟨m, rfl⟩ : ∃ m', m = m' + 1 := ⟨m - 1, by omega⟩
      simp (disch := omega) only [slices_Compare_byte_byte_l0, slices_Compare_byte_byte_l0_s, c_nlt]
      rfl
    | succ d ih =>
      intro m i hi hm
      obtain ⟨m, rfl⟩ : ∃ m', m = m' + 1 := ⟨m - 1, by omega⟩
      simp only [slices_Compare_byte_byte_l0, slices_Compare_byte_byte_l0_s, c_and, Int.toNat_natCast, cmp_Compare_byte, cmp_isNaN_byte, bne_self_eq_false, c_false]
      simp (disch := omega) only [c_lt, c_le, c_blt, c_fits, c_nle]
      simp only [lexB]
      rcases Int.lt_trichotomy (x i) (y i) with h | h | h
      · rw [c_lt h, if_pos (by omega), decide_eq_true h]
        rfl
      · rw [c_nlt (by omega), c_nlt (by omega), if_neg (by simpa using h)]
        exact ih m (i + 1) (by omega) (by omega)
      · rw [c_nlt (by omega), c_lt h, if_pos (by omega), decide_eq_false (show ¬ x i < y i by omega), c_ne (by omega)]
        rfl
  exact key 8 N 0 rfl hN
/-- Is the state at this place good, and behind the one before it? -/
noncomputable def sumB (m : Nat) (X O h : Nat → Int) (i : Nat) : Bool := permB 8 m (shiftF h (i * 8)) && (decide (i = 0) || lexB (shiftF h ((i - 1) * 8)) (shiftF h (i * 8)) 8 0)
theorem s_IsSum_val (z : β) {N M c : Nat} (hM : M ≤ 1048576) (hN : 1048576 < N) {h : Nat → Int} (hh : ∀ j, 0 ≤ h j) (n : Int) (X O : Nat → Int) (hX : ∀ j, 0 ≤ X j) (hO : ∀ j, 0 ≤ O j) (k : Bool → β) :
    s_IsSum z N n X O (M * 8) M c (M * 8) h k = k (gridB n X O && allFrom (sumB n.toNat X O h) M 0) := by
  unfold s_IsSum s_l06Sum
  rw [s_l01Is_val z (by omega) _ _ _ hX hO]
  cases hg : gridB n X O with
  | false => rfl
  | true =>
    simp only [Bool.not_true, c_false, Bool.true_and]
    refine (up_to_all (L := fun m i => s_l06Sum_l0 z N (M * 8) M c (M * 8) h n X O m (i : Int) (k false) (k true)) (n := M) (kt := k true) (kf := k false) (p := sumB n.toNat X O h) (fun m i hi => ?_) (fun m => ?_) M N 0 (by omega) (by omega)).trans (by cases allFrom (sumB n.toNat X O h) M 0 <;> rfl)
    · have e : ∀ k1, s_l05Is z N n X O (shiftF h (i * 8)) k1 = k1 (stateB n X O (shiftF h (i * 8))) := fun k1 => s_l05Is_val z (by omega) n X O _ hX hO (fun j => by rw [shiftF_eq]; exact hh _) k1
      simp only [s_l06Sum_l0, s_l06Sum_l0_s, c_and, Int.toNat_natCast, e, s_l05Before_val z (N := N) (by omega)]
      simp (disch := omega) only [c_lt, c_le, c_ble, c_beq, c_fits, c_not]
      unfold stateB sumB
      rw [hg, Bool.true_and]
      cases permB 8 n.toNat (shiftF h (i * 8)) with
      | false => rfl
      | true =>
        simp only [c_true, Bool.true_and]
        by_cases h0 : i = 0
        · subst h0
          rw [c_nlt (by omega)]
          rfl
        · rw [c_lt (by omega), decide_eq_false h0]
          simp (disch := omega) only [c_le, c_lt, c_ble]
          rw [show ((i : Int) - 1).toNat = i - 1 by omega]
          rfl
    · simp (disch := omega) only [s_l06Sum_l0, s_l06Sum_l0_s, c_ble, c_nlt]
theorem i_Grid_isState_val (z : β) {N : Nat} (hN : 8 < N) {m : Nat} (h1 : 1 ≤ m) (h8 : m ≤ 8) (X O x : Nat → Int) (hx : ∀ j, 0 ≤ x j) (k : Bool → β) : i_Grid_isState z N m X O x k = k (permB 8 m x) := by
  unfold i_Grid_isState
  simp only [i_Grid_n]
  unfold i_isOrder_s4
  rw [isOrder_s4_ordL]
  exact ord_val 8 (by omega) z m h1 h8 h8 x hx k hN
theorem i_IsSum_val (z : β) {N M c : Nat} (hM : M ≤ 1048576) (hN : 1048576 < N) {h : Nat → Int} (hh : ∀ j, 0 ≤ h j) (n : Int) (X O : Nat → Int) (hX : ∀ j, 0 ≤ X j) (hO : ∀ j, 0 ≤ O j) (k : Bool → β) :
    i_IsSum z N n X O (M * 8) M c (M * 8) h k = k (gridB n X O && allFrom (sumB n.toNat X O h) M 0) := by
  unfold i_IsSum
  rw [i_IsGrid_val z (by omega) _ _ _ hX hO]
  cases hg : gridB n X O with
  | false => rfl
  | true =>
    obtain ⟨m, rfl, g⟩ := gridB_iff.1 hg
    have hlo := g.lo
    simp only [Bool.not_true, c_false, Bool.true_and, Int.toNat_natCast]
    rw [c_ble (by omega)]
    refine (up_to_all (L := fun j i => i_IsSum_l0 z N (M * 8) M c (M * 8) M c (M : Int) (M * 8) h m X O j (i : Int) (k false) (k true)) (n := M) (kt := k true) (kf := k false) (p := sumB m X O h) (fun j i hi => ?_) (fun j => ?_) M N 0 (by omega) (by omega)).trans (by cases allFrom (sumB m X O h) M 0 <;> rfl)
    · have e : ∀ k1, i_Grid_isState z N m X O (shiftF h (i * 8)) k1 = k1 (permB 8 m (shiftF h (i * 8))) := fun k1 => i_Grid_isState_val z (by omega) (by omega) g.hi X O _ (fun j => by rw [shiftF_eq]; exact hh _) k1
      simp only [i_IsSum_l0, i_IsSum_l0_s, c_and, Int.toNat_natCast, e]
      simp (disch := omega) only [c_lt, c_le, c_ble, c_beq, c_fits, c_not]
      unfold sumB
      cases permB 8 m (shiftF h (i * 8)) with
      | false => rfl
      | true =>
        simp only [c_true, Bool.true_and]
        by_cases h0 : i = 0
        · subst h0
          rw [c_nlt (by omega)]
          rfl
        · rw [c_lt (by omega), decide_eq_false h0]
          simp (disch := omega) only [c_le, c_lt, c_ble]
          rw [show ((i : Int) - 1).toNat = i - 1 by omega]
          rw [i_compareStates_val z (N := N) (by omega) _ _ (fun b => cond b (k false) _)]
          simp only [Bool.false_or, c_not]
          rfl
    · simp (disch := omega) only [i_IsSum_l0, i_IsSum_l0_s, c_nlt]
theorem w_FnExactIsSum_val (z : β) {N : Nat} (hN : 1048576 < N) (n : Int) (X O : Nat → Int) (ln l c hn : Nat) (h : Nat → Int) (hX : ∀ j, j < 8 → 0 ≤ X j ∧ X j ≤ 255) (hO : ∀ j, j < 8 → 0 ≤ O j ∧ O j ≤ 255)
    (e1 : ln = l * 8) (e2 : c = l) (e3 : hn = l * 8) (hM : l ≤ 9223372036854775807) (hh : ∀ j, j < l * 8 → 0 ≤ h j ∧ h j ≤ 255) (k0 : Bool → β) :
    w_FnExactIsSum z N n X O ln l c hn h k0 = k0 true := by
  subst e1 e2 e3
  unfold w_FnExactIsSum w_szStateS
  rw [c_ble hM, c_fits (by omega)]
  by_cases hs : c ≤ 1048576
  · have hc := fun j => (copy8_bd (M := c) (h := h) (fun j hj => hh j (by omega)) j).1
    have hx := clip8_nn (a := X) fun j hj => (hX j hj).1
    have ho := clip8_nn (a := O) fun j hj => (hO j hj).1
    simp (disch := omega) only [c_nlt, w_toStateS_val z hs hN, w_toGrid_val z (N := N) (show 8 < N by omega)]
    simp only [s_IsSum_val z hs hN hc _ _ _ hx ho, i_IsSum_val z hs hN hc _ _ _ hx ho, bne_self_eq_false, c_false, eqStateS_val z hs hN, Bool.not_true]
  · rw [c_lt (by omega)]
    rfl
end
end Go.AM
