/- A part of a proof about the given program: an abstract machine, what the given functions come to, and plain laws. -/
import Derived.Test.YtkboldcnkkolkaaPRelations
import Derived.Test.YtkboldcnkkolkaaPTransitive
import Derived.Test.YtkboldcnkkolkaaDIsMapOf
namespace Go.AM
section
variable {β : Type}
/-- Where a point comes to through the first of the places that columns name. -/
def actF (h : Nat → Int) (xs : List Int) (j v : Nat) : Nat := getP h (xs[j]?.getD 0).toNat v
def actN (h : Nat → Int) (xs : List Int) (j x : Nat) : Nat := iter (actF h xs) j 0 x
def actS (h : Nat → Int) (xs : List Int) (x : Nat) : Nat := actN h xs xs.length x
theorem actN_succ (h : Nat → Int) (xs : List Int) (j x : Nat) : actN h xs (j + 1) x = getP h (xs[j]?.getD 0).toNat (actN h xs j x) := by
  unfold actN
  rw [iter_succ, Nat.zero_add]
  rfl
def ColsB (M : Nat) (xs : List Int) : Prop := ∀ j, j < xs.length → 0 ≤ xs[j]?.getD 0 ∧ xs[j]?.getD 0 < M
theorem actN_lt {K M : Nat} {h : Nat → Int} (L : Lists K M h) {xs : List Int} (hx : ColsB M xs) {x : Nat} (hk : x < K) : ∀ j, j ≤ xs.length → actN h xs j x < K := by
  intro j
  induction j with
  | zero => intro _; exact hk
  | succ j ih =>
    intro hj
    have := hx j (by omega)
    rw [actN_succ]
    exact (L.val _ _ (by omega) (ih (by omega))).2
/-- The unit. -/
def unitK (K : Nat) : Nat → Int := fun j => if 0 ≤ j ∧ j < 0 + K then (j : Int) else 0
theorem wrap_small {t : Nat} (h : t < 256) : wrapU .u8 (t : Int) = t := by
  show (t : Int) % 256 = t
  omega
theorem s_l08Same_val (z : β) {N K : Nat} (hN : 4 < N) (hK : K ≤ 4) (k : (Nat → Int) → β) : s_l08Same z N K k = k (unitK K) := by
  unfold s_l08Same
  have := up_to (L := fun m i s => s_l08Same_l0 z K (fun _ => 0) m (i : Int) s fun q4 => k q4) (n := K) (out := k) (f := fun i s => upd s i (i : Int)) (I := fun _ _ => True)
    (fun m i s hi _ => ⟨by
      have := wrap_small (t := i) (by omega)
      simp only [s_l08Same_l0, s_l08Same_l0_s, c_and, Int.toNat_natCast, this]
      simp (disch := omega) only [c_lt, c_le, c_blt, c_fits]
      rfl, trivial⟩)
    (fun m s _ => by simp (disch := omega) only [s_l08Same_l0, s_l08Same_l0_s, c_nlt]) K N 0 (fun _ => 0) (by omega) (by omega) trivial
  rw [iter_set] at this
  exact this
theorem i_unit_val (z : β) {N K : Nat} (hN : 4 < N) (hK : K ≤ 4) (k : (Nat → Int) → β) : i_unit z N K k = k (unitK K) := by
  unfold i_unit
  have := up_to (L := fun m i s => i_unit_l0 z K (fun _ => 0) m (i : Int) s fun q4 => k q4) (n := K) (out := k) (f := fun i s => upd s i (i : Int)) (I := fun _ _ => True)
    (fun m i s hi _ => ⟨by
      have := wrap_small (t := i) (by omega)
      simp only [i_unit_l0, i_unit_l0_s, c_and, Int.toNat_natCast, this]
      simp (disch := omega) only [c_lt, c_le, c_blt, c_fits]
      rfl, trivial⟩)
    (fun m s _ => by simp (disch := omega) only [i_unit_l0, i_unit_l0_s, c_nlt]) K N 0 (fun _ => 0) (by omega) (by omega) trivial
  rw [iter_set] at this
  exact this
def thenK (K : Nat) (p q : Nat → Int) : Nat → Int := fun j => if 0 ≤ j ∧ j < 0 + K then q (p j).toNat else 0
theorem s_l08Then_val (z : β) {N K : Nat} (hN : 4 < N) (hK : K ≤ 4) {p : Nat → Int} (q : Nat → Int) (hp : ∀ x, x < K → 0 ≤ p x ∧ p x < 4) (k : (Nat → Int) → β) : s_l08Then z N p q K k = k (thenK K p q) := by
  unfold s_l08Then
  have := up_to (L := fun m i s => s_l08Then_l0 z K p q (fun _ => 0) m (i : Int) s fun q4 => k q4) (n := K) (out := k) (f := fun i s => upd s i (q (p i).toNat)) (I := fun _ _ => True)
    (fun m i s hi _ => ⟨by
      have := hp i hi
      simp only [s_l08Then_l0, s_l08Then_l0_s, c_and, Int.toNat_natCast]
      simp (disch := omega) only [c_lt, c_le, c_blt, c_fits]
      rfl, trivial⟩)
    (fun m s _ => by simp (disch := omega) only [s_l08Then_l0, s_l08Then_l0_s, c_nlt]) K N 0 (fun _ => 0) (by omega) (by omega) trivial
  rw [iter_set (fun i => q (p i).toNat)] at this
  exact this
/-- All four are replaced where they lie. -/
theorem i_Places_then_val (z : β) {N : Nat} (hN : 4 < N) {p : Nat → Int} (q : Nat → Int) (hp : ∀ x, x < 4 → 0 ≤ p x ∧ p x < 4) (k : (Nat → Int) → β) : i_Places_then z N p q k = k (fun j => if j < 4 then q (p j).toNat else p j) := by
  unfold i_Places_then
  have := up_to (L := fun m i s => i_Places_then_l0 z q (fun _ => 0) m (i : Int) s fun q5 => k q5) (n := 4) (out := k) (f := fun i s => upd s i (q (s i).toNat)) (I := fun i s => ∀ x, i ≤ x → s x = p x)
    (fun m i s hi hs => ⟨by
      have := hp i hi
      rw [← hs i (Nat.le_refl _)] at this
      simp only [i_Places_then_l0, i_Places_then_l0_s, c_and, Int.toNat_natCast]
      simp (disch := omega) only [c_lt, c_le, c_blt, c_fits]
      rfl, fun x hx => by rw [upd_at, if_neg (by omega)]; exact hs x (by omega)⟩)
    (fun m s _ => by simp (disch := omega) only [i_Places_then_l0, i_Places_then_l0_s, c_nlt]) 4 N 0 p (by omega) (by omega) (fun _ _ => rfl)
  refine this.trans (congrArg k (funext fun j => ?_))
  have key := iter_inv (f := fun i (s : Nat → Int) => upd s i (q (s i).toNat)) (n := 4) (I := fun i s => ∀ x, s x = if x < i then q (p x).toNat else p x) (fun i s hi hs x => by
    rw [upd_at]
    by_cases e : x = i
    · subst e; rw [if_pos rfl, if_pos (by omega), hs x, if_neg (by omega)]
    · rw [if_neg e, hs x]
      by_cases e2 : x < i
      · rw [if_pos e2, if_pos (by omega)]
      · rw [if_neg e2, if_neg (by omega)]) 4 0 p (by omega) (fun x => by rw [if_neg (by omega)])
  exact key j
theorem s_l08Product_val (z : β) {N K M c c' : Nat} {h : Nat → Int} {xs : List Int} (hN : 1048576 < N) (L : Lists K M h) (hM : M ≤ 1000) (hx : ColsB M xs) (hl : xs.length ≤ 1000) (k : (Nat → Int) → β) :
    s_l08Product z N xs.length xs.length c (M * 4) M c' K (M * 4) h xs k = k fun x => if 0 ≤ x ∧ x < 0 + K then (actS h xs x : Int) else 0 := by
  have h4 := L.hi
  unfold s_l08Product
  rw [s_l08Same_val z (by omega) h4]
  obtain ⟨s', e1, e2⟩ := up_to_ex (L := fun m j s => s_l08Product_l0 z N xs.length xs.length c (M * 4) M c' K (M * 4) h xs (fun _ => 0) m (j : Int) s fun q14 => k q14) (n := xs.length) (out := k) (I := fun j s => s = fun x => if 0 ≤ x ∧ x < 0 + K then (actN h xs j x : Int) else 0)
    (fun j s hj hs => by
      have hc := hx j hj
      refine ⟨thenK K s (shiftF h ((xs[j]?.getD 0).toNat * 4)), fun m => ?_, ?_⟩
      · simp only [s_l08Product_l0, s_l08Product_l0_s, c_and, Int.toNat_natCast]
        simp (disch := omega) only [c_lt, c_le, c_blt, c_ble, c_beq]
        rw [s_l08Then_val z (by omega) h4 _ fun x hxk => by
          rw [hs]
          simp only
          rw [if_pos (by omega)]
          have := actN_lt L hx hxk j (by omega)
          omega]
        simp (disch := omega) only [c_fits]
        rfl
      · unfold thenK
        funext x
        by_cases e : 0 ≤ x ∧ x < 0 + K
        · rw [if_pos e, if_pos e, hs, actN_succ]
          simp only
          rw [if_pos e, Int.toNat_natCast, shiftF_eq]
          exact (L.val _ _ (by omega) (actN_lt L hx (by omega) j (by omega))).1
        · rw [if_neg e, if_neg e])
    (fun m s _ => by simp (disch := omega) only [s_l08Product_l0, s_l08Product_l0_s, c_nlt, c_ble]) xs.length N 0 (unitK K) (by omega) (by omega) rfl
  refine e1.trans ?_
  rw [e2]
  rfl
theorem i_product_val (z : β) {N K M c' q : Nat} {h : Nat → Int} {xs : List Int} {P : List (List Int)} (hq : rowAt P q = xs) (hN : 1048576 < N) (L : Lists K M h) (hM : M ≤ 1000) (hx : ColsB M xs) (hl : xs.length ≤ 1000) (k : (Nat → Int) → β) :
    ∃ s, i_product z N K (M * 4) M c' q 0 xs.length xs.length xs.length (M * 4) h P k = k s ∧ ∀ x, x < 4 → s x = if x < K then (actS h xs x : Int) else (actS h xs 0 : Int) := by
  have h4 := L.hi
  have h1 := L.lo
  unfold rowAt at hq
  unfold i_product
  rw [i_unit_val z (by omega) h4, c_ble (by omega)]
  obtain ⟨s', e1, e2⟩ := up_to_ex (L := fun m j s => i_product_l0 z N (M * 4) M c' q 0 xs.length xs.length xs.length (xs.length : Int) (M * 4) h P (fun _ => 0) m (j : Int) s fun q14 => k q14) (n := xs.length) (out := k) (I := fun j s => ∀ x, x < 4 → s x = if x < K then (actN h xs j x : Int) else (actN h xs j 0 : Int))
    (fun j s hj hs => by
      have hc := hx j hj
      refine ⟨fun x => if x < 4 then shiftF h ((xs[j]?.getD 0).toNat * 4) (s x).toNat else s x, fun m => ?_, fun x hx4 => ?_⟩
      · simp only [i_product_l0, i_product_l0_s, c_and, Int.toNat_natCast, addO_eq, Nat.zero_add, hq]
        simp (disch := omega) only [c_lt, c_le, c_blt, c_ble, c_beq]
        rw [i_Places_then_val z (by omega) _ fun x hx4 => by
          rw [hs x hx4]
          have a1 := actN_lt L hx (x := 0) (by omega) j (by omega)
          split
          · have := actN_lt L hx (x := x) (by omega) j (by omega)
            omega
          · omega]
        simp (disch := omega) only [c_fits]
        rfl
      · simp only
        rw [if_pos hx4, hs x hx4, shiftF_eq]
        by_cases e : x < K
        · rw [if_pos e, if_pos e, actN_succ, Int.toNat_natCast]
          exact (L.val _ _ (by omega) (actN_lt L hx e j (by omega))).1
        · rw [if_neg e, if_neg e, actN_succ, Int.toNat_natCast]
          exact (L.val _ _ (by omega) (actN_lt L hx (by omega) j (by omega))).1)
    (fun m s _ => by simp (disch := omega) only [i_product_l0, i_product_l0_s, c_nlt]) xs.length N 0 (unitK K) (by omega) (by omega) (fun x _ => by
      unfold unitK actN
      by_cases e : x < K
      · rw [if_pos (by omega), if_pos e]; rfl
      · rw [if_neg (by omega), if_neg e]; rfl)
  exact ⟨s', e1, e2⟩
/-- Does a relation lead every point to itself? -/
def fixB (K : Nat) (h : Nat → Int) (xs : List Int) : Bool := allFrom (fun x => ((actS h xs x : Nat) : Int) == ((x : Nat) : Int)) K 0
theorem test_s {K : Nat} (h1 : 1 ≤ K) (h4 : K ≤ 4) {s : Nat → Int} (a : Nat → Nat) (hs : s = fun x => if 0 ≤ x ∧ x < 0 + K then (a x : Int) else 0) :
    (s 0 == unitK K 0 && (s 1 == unitK K 1 && (s 2 == unitK K 2 && (s 3 == unitK K 3 && true)))) = allFrom (fun x => ((a x : Nat) : Int) == ((x : Nat) : Int)) K 0 := by
  subst hs
  have : K = 1 ∨ K = 2 ∨ K = 3 ∨ K = 4 := by omega
  rcases this with rfl | rfl | rfl | rfl <;> simp [allFrom, unitK]
theorem test_i {K : Nat} (h1 : 1 ≤ K) (h4 : K ≤ 4) {s : Nat → Int} (a : Nat → Nat) (hs : ∀ x, x < 4 → s x = if x < K then (a x : Int) else (a 0 : Int)) :
    (s 0 == unitK K 0 && (s 1 == unitK K 1 && (s 2 == unitK K 2 && (s 3 == unitK K 3 && true)))) = allFrom (fun x => ((a x : Nat) : Int) == ((x : Nat) : Int)) K 0 := by
  rw [hs 0 (by omega), hs 1 (by omega), hs 2 (by omega), hs 3 (by omega)]
  have : K = 1 ∨ K = 2 ∨ K = 3 ∨ K = 4 := by omega
  rcases this with rfl | rfl | rfl | rfl <;> simp [allFrom, unitK] <;> cases (a 0 : Int) == 0 <;> simp
/-- Is it a map to the permutations? -/
def mapB (n : Nat) (X O : Nat → Int) (K : Nat) (h : Nat → Int) : Bool := allFrom (fun r => fixB K h (relL n X O r)) (n - 1) 0
theorem relL_cols (n : Nat) (X O : Nat → Int) (r : Int) : ColsB n (relL n X O r) := by
  have := iter_inv (f := relF X O r) (n := n) (I := fun i s => ∀ j, j < s.length → 0 ≤ s[j]?.getD 0 ∧ s[j]?.getD 0 < i) (fun i s _ h j hj => by
    unfold relF at hj ⊢
    cases hc : crossB X O r i with
    | true =>
      rw [hc, c_true, len1] at hj
      rw [c_true]
      by_cases e : j = s.length
      · subst e; simp; omega
      · rw [List.getElem?_append_left (by omega)]; have := h j (by omega); omega
    | false =>
      rw [hc, c_false] at hj
      rw [c_false]
      have := h j hj; omega) n 0 [] (by omega) (fun j hj => by simp at hj)
  rw [Nat.zero_add] at this
  exact this
theorem s_l08Map_val (z : β) {N K n c : Nat} {h X O : Nat → Int} (hN : 1048576 < N) (L : Lists K n h) (hlo : 2 ≤ n) (hhi : n ≤ 8) (k : Bool → β) : s_l08Map z N n X O K (n * 4) n c (n * 4) h k = k (mapB n X O K h) := by
  unfold s_l08Map
  refine (up_to_all (L := fun m i => s_l08Map_l0 z N K (n * 4) n c (n * 4) h n X O m (i : Int) (k false) (k true)) (n := n - 1) (kt := k true) (kf := k false) (p := fun r => fixB K h (relL n X O r))
    (fun m i hi => by
      have := relL_len n X O i
      simp only [s_l08Map_l0, s_l08Map_l0_s]
      simp (disch := omega) only [c_lt, c_fits]
      rw [s_l08Relation_val z (by omega) hhi, s_l08Product_val z hN L (by omega) (relL_cols n X O i) (by omega), s_l08Same_val z (by omega) L.hi, test_s L.lo L.hi _ rfl, c_not]
      rfl)
    (fun m => by simp (disch := omega) only [s_l08Map_l0, s_l08Map_l0_s, c_nlt, c_fits]) (n - 1) N 0 (by omega) (by omega)).trans ?_
  unfold mapB
  cases allFrom (fun r => fixB K h (relL n X O r)) (n - 1) 0 <;> rfl
theorem containsM_val (z : β) {N K n c : Nat} {h X O : Nat → Int} (hN : 1048576 < N) (L : Lists K n h) (hlo : 2 ≤ n) (hhi : n ≤ 8) (k : Bool → β) :
    slices_ContainsFunc_int_int z N (idsOf (relsT n X O)).length (relsT n X O).length (relsT n X O).length (n * 4) h (idsOf (relsT n X O)) K (n * 4) n c (relsT n X O) k = k (!mapB n X O K h) := by
  obtain ⟨hl, hr⟩ := relsT_spec n X O
  have hb := relsT_small (N := N) (by omega) hhi X O
  have hP := TabP.of_app (relsT n X O)
  have hi2 := idsOf_len (relsT n X O)
  unfold slices_ContainsFunc_int_int slices_IndexFunc_int_int mapB
  rw [c_ble (by omega), ← hl]
  generalize hT : relsT n X O = T at *
  have key : ∀ (d m i : Nat), i + d = T.length → d < m → slices_IndexFunc_int_int_l0 z N (idsOf T).length T.length T.length (T.length : Int) (idsOf T) K (n * 4) n c T (n * 4) h m i (fun q14 => k (decide (0 ≤ q14))) (k (decide ((0 : Int) ≤ -1))) = k (!allFrom (fun r => fixB K h (relL n X O r)) d i) := by
    intro d
    induction d with
    | zero =>
      intro m i hi hm
      obtain ⟨m, rfl⟩ : ∃ m', m = m' + 1 := ⟨m - 1, by omega⟩
      rw [slices_IndexFunc_int_int_l0, slices_IndexFunc_int_int_l0_s, c_nlt (by omega)]
      rfl
    | succ d ih =>
      intro m i hi hm
      obtain ⟨m, rfl⟩ : ∃ m', m = m' + 1 := ⟨m - 1, by omega⟩
      have := ih m (i + 1) (by omega) (by omega)
      have e1 := hP.sz i (by omega)
      have e2 := hP.row i (by omega)
      have e3 := hb.cols i (by omega)
      unfold idAt at e1 e2
      have hcol : ColsB n (rowAt T i) := by rw [hr i (by omega)]; exact relL_cols n X O i
      rw [slices_IndexFunc_int_int_l0, slices_IndexFunc_int_int_l0_s]
      simp only [c_and, Int.toNat_natCast, i_IsMapOf_1]
      simp (disch := omega) only [c_lt, c_le, c_blt, c_beq, e1]
      obtain ⟨s, g1, g2⟩ := i_product_val z (c' := c) e2 hN L (by omega) hcol (by omega) (fun q15 => i_unit z N (K : Int) (fun q16 => cond (!(q15 0 == q16 0 && (q15 1 == q16 1 && (q15 2 == q16 2 && (q15 3 == q16 3 && true))))) (k (decide (0 ≤ (i : Int)))) (cond (fits IntKind.i64 ((i : Int) + 1)) (slices_IndexFunc_int_int_l0 z N (idsOf T).length T.length T.length (T.length : Int) (idsOf T) K (n * 4) n c T (n * 4) h m ((i : Int) + 1) (fun q14 => k (decide (0 ≤ q14))) (k (decide ((0 : Int) ≤ -1)))) z)))
      rw [g1, i_unit_val z (by omega) L.hi, test_i L.lo L.hi _ g2, c_fits (by omega), allFrom, c_not]
      rw [show allFrom (fun x => ((actS h (rowAt T i) x : Nat) : Int) == ((x : Nat) : Int)) K 0 = fixB K h (relL n X O i) by rw [hr i (by omega)]; rfl]
      cases fixB K h (relL n X O i) with
      | true => rw [c_true, Bool.true_and]; exact this
      | false => rw [c_false, Bool.false_and, decide_eq_true (by omega)]; rfl
  exact key T.length N 0 (by omega) (by omega)
theorem w_FnExactIsMapOf_main (z : β) {N : Nat} (hN : 1048576 < N) (n : Int) (X O : Nat → Int) (aK : Int) (M : Nat) (h : Nat → Int) (hM : M ≤ 9223372036854775807) (hX : ∀ j, j < 8 → 0 ≤ X j ∧ X j ≤ 255) (hO : ∀ j, j < 8 → 0 ≤ O j ∧ O j ≤ 255) (hh : ∀ j, j < 4 * M → 0 ≤ h j ∧ h j ≤ 255) (k0 : Bool → β) : w_FnExactIsMapOf z N n X O aK (M * 4) M M (M * 4) h k0 = k0 true := by
  unfold w_FnExactIsMapOf w_szPlacesS
  rw [c_ble hM, c_fits (by omega)]
  by_cases hs : M ≤ 1048576
  · have hN8 : 8 < N := by omega
    have hX0 := clip8_nn (a := X) fun j hj => (hX j hj).1
    have hO0 := clip8_nn (a := O) fun j hj => (hO j hj).1
    have hc := fun j => (copy4_bd hh j).1
    simp (disch := omega) only [c_nlt, w_toPlacesS_val z hs hN, w_toGrid_val z hN8]
    simp only [s_IsMapOf, i_IsMapOf, i_Grid_n, s_l01Is_val z hN8 _ _ _ hX0 hO0, i_IsGrid_val z hN8 _ _ _ hX0 hO0, s_l08List_val z hs hN hc, i_arePlaces_val z hs hN hc, eqPlacesS_val z hs hN, Bool.not_true, c_false]
    cases hg : gridB n (clip8 X) (clip8 O) with
    | false => rfl
    | true =>
      obtain ⟨m, rfl, g⟩ := gridB_iff.1 hg
      cases hb : listB M (copy4 M h) aK with
      | false => rfl
      | true =>
        obtain ⟨K, rfl, L⟩ := lists_of hc hb
        simp only [c_true, c_false, Bool.not_true]
        rw [c_nne rfl, c_ble (by omega)]
        by_cases hl : M = m
        · subst hl
          rw [c_nne rfl, s_l08Map_val z hN L g.lo g.hi, c_ble (by omega), c_nne rfl, i_Grid_relations_val z (by omega) g.lo g.hi, containsM_val z hN L g.lo g.hi, Bool.not_not, c_nne rfl]
          cases mapB M (clip8 X) (clip8 O) K (copy4 M h) <;> rfl
        · rw [c_ne (by omega), c_ble (by omega), c_ne (by omega)]
          rfl
  · rw [c_lt (by omega)]
    rfl
theorem w_FnExactIsMapOf_val (z : β) {N : Nat} (hN : 1048576 < N) (g : Int) (X O : Nat → Int) (aK : Int) (n l c hn : Nat) (h : Nat → Int) (e1 : n = l * 4) (e2 : c = l) (e3 : hn = l * 4) (hM : l ≤ 9223372036854775807) (hX : ∀ j, j < 8 → 0 ≤ X j ∧ X j ≤ 255) (hO : ∀ j, j < 8 → 0 ≤ O j ∧ O j ≤ 255) (hh : ∀ j, j < l * 4 → 0 ≤ h j ∧ h j ≤ 255) (k0 : Bool → β) :
    w_FnExactIsMapOf z N g X O aK n l c hn h k0 = k0 true := by
  rw [e1, e2, e3]
  exact w_FnExactIsMapOf_main z hN g X O aK _ h hM hX hO (fun j hj => hh j (by omega)) k0
end
end Go.AM
