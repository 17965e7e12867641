/- A part of a proof about the given program: an abstract machine, what the given functions come to, and plain laws. -/
import Derived.Test.YtijijnfmcmeioaaPEquations
import Derived.Test.YtijijnfmcmeioaaPPrime
import Derived.Test.YtijijnfmcmeioaaPIList
namespace Go.AM
section
variable {β : Type}
/-! sums -/
theorem tmod2 (j : Nat) : 1 - 2 * (j : Int).tmod 2 = sgn j := by
  have : (j : Int).tmod 2 = ((j % 2 : Nat) : Int) := rfl
  rw [this]
  unfold sgn
  split <;> omega
theorem tmod2_bd (j : Nat) : 0 ≤ (j : Int).tmod 2 ∧ (j : Int).tmod 2 ≤ 1 := by
  have : (j : Int).tmod 2 = ((j % 2 : Nat) : Int) := rfl
  omega
def goodF (C : Nat → Int) (xs : List Int) (j : Nat) (s : Int) : Int := s + C (xs[j]?.getD 0).toNat * sgn j
/-- What the colours of a relation come to. -/
def goodS (C : Nat → Int) (xs : List Int) : Int := iter (goodF C xs) xs.length 0 0
theorem goodS_app (C : Nat → Int) (xs : List Int) (x : Int) : goodS C (xs ++ [x]) = goodS C xs + C x.toNat * sgn xs.length := by
  unfold goodS
  rw [len1, iter_succ, iter_congr (g := goodF C xs)]
  · unfold goodF
    rw [Nat.zero_add, get_app_eq]
  · intro j s _ hj
    unfold goodF
    rw [get_app_lt (by omega)]
def dotF (f C : Nat → Int) (c : Nat) (s : Int) : Int := s + f c * C c
def dotS (f C : Nat → Int) (n : Nat) : Int := iter (dotF f C) n 0 0
theorem dotS_succ (f C : Nat → Int) (n : Nat) : dotS f C (n + 1) = dotS f C n + f n * C n := by
  unfold dotS
  rw [iter_succ, Nat.zero_add]
  rfl
theorem dotS_congr {f g C : Nat → Int} {n : Nat} (h : ∀ c, c < n → f c = g c) : dotS f C n = dotS g C n :=
  iter_congr n 0 0 fun j s _ hj => by unfold dotF; rw [h j (by omega)]
theorem line_good (n : Nat) (X O C : Nat → Int) (r : Int) : dotS (lineS (relL n X O r)) C n = goodS C (relL n X O r) := by
  have := iter_inv (f := relF X O r) (n := n) (I := fun i xs => (∀ c, i ≤ c → lineS xs c = 0) ∧ dotS (lineS xs) C i = goodS C xs) (fun i xs _ ⟨h1, h2⟩ => by
    unfold relF
    cases crossB X O r i with
    | true =>
      rw [c_true, lineS_app, goodS_app, dotS_succ, Int.toNat_natCast]
      refine ⟨fun c hc => ?_, ?_⟩
      · rw [upd_at, if_neg (by omega)]; exact h1 c (by omega)
      · rw [upd_at, if_pos rfl, dotS_congr (g := lineS xs) fun c hc => by rw [upd_at, if_neg (by omega)], h2, Int.mul_comm]
    | false =>
      rw [c_false, dotS_succ, h1 i (Nat.le_refl _), h2]
      exact ⟨fun c hc => h1 c (by omega), by omega⟩) n 0 [] (by omega) ⟨fun c _ => rfl, rfl⟩
  rw [Nat.zero_add] at this
  exact this.2
/-- Do the colours fit the relations? -/
def colFitB (n : Nat) (X O C : Nat → Int) (p : Int) : Bool := allFrom (fun r => !((goodS C (relL n X O r)).tmod p != 0)) (n - 1) 0
theorem mul_sgn_bd {c : Int} (h : 0 ≤ c ∧ c ≤ 96) (j : Nat) : -96 ≤ c * sgn j ∧ c * sgn j ≤ 96 := by
  rcases sgn_bd j with e | e <;> rw [e] <;> omega
theorem goodF_bd {C : Nat → Int} {n : Nat} (hC : ∀ c, c < n → 0 ≤ C c ∧ C c ≤ 96) {xs : List Int} {j : Nat} (hx : 0 ≤ xs[j]?.getD 0 ∧ xs[j]?.getD 0 < n) {s : Int} (hs : -(96 * (j : Int)) ≤ s ∧ s ≤ 96 * j) :
    -(96 * ((j + 1 : Nat) : Int)) ≤ goodF C xs j s ∧ goodF C xs j s ≤ 96 * ((j + 1 : Nat) : Int) := by
  have := mul_sgn_bd (hC (xs[j]?.getD 0).toNat (by omega)) j
  unfold goodF
  omega
theorem s_l08Good_l1_val (z : β) {N n c c' : Nat} {xs : List Int} {C : Nat → Int} (hN : xs.length < N) (hx : xs.length ≤ 1000) (hlt : ∀ j, j < xs.length → 0 ≤ xs[j]?.getD 0 ∧ xs[j]?.getD 0 < n) (hC : ∀ c, c < n → 0 ≤ C c ∧ C c ≤ 96)
    (p r n0 : Int) (X O : Nat → Int) (k : Int → β) : s_l08Good_l1 z p n n c r xs.length xs.length c' n C n0 X O xs N 0 0 k = k (goodS C xs) := by
  exact up_to (L := fun m j s => s_l08Good_l1 z p n n c r xs.length xs.length c' n C n0 X O xs m s (j : Int) k) (n := xs.length) (f := goodF C xs) (I := fun j s => -(96 * (j : Int)) ≤ s ∧ s ≤ 96 * j) (out := k)
    (fun m j s hj hs => ⟨by
      obtain ⟨l1, l2⟩ := hlt j hj
      have h2 := tmod2_bd j
      have h3 := sgn_bd j
      have h4 := goodF_bd hC (hlt j hj) hs
      have h5 := mul_sgn_bd (hC (xs[j]?.getD 0).toNat (by omega)) j
      unfold goodF at h4 ⊢
      simp only [s_l08Good_l1, s_l08Good_l1_s, c_and, Int.toNat_natCast, tmod2]
      simp (disch := omega) only [c_lt, c_le, c_blt, c_ble, c_beq, c_fits]
      rfl, goodF_bd hC (hlt j hj) hs⟩)
    (fun m s hs => by simp (disch := omega) only [s_l08Good_l1, s_l08Good_l1_s, c_nlt, c_ble]) xs.length N 0 0 (by omega) (by omega) (by simp)
theorem s_l08Good_val (z : β) {N n c : Nat} {C X O : Nat → Int} {p : Int} (hN : 100 < N) (hlo : 2 ≤ n) (hhi : n ≤ 8) (hp : 3 ≤ p ∧ p ≤ 97) (hC : ∀ c, c < n → 0 ≤ C c ∧ C c ≤ 96) (k : Bool → β) :
    s_l08Good z N n X O p n n c n C k = k (colFitB n X O C p) := by
  unfold s_l08Good
  have hp0 : (!p == 0) = true := by simp; omega
  refine (up_to_all (L := fun m i => s_l08Good_l0 z N p n n c n C n X O m (i : Int) (k false) (k true)) (n := n - 1) (kt := k true) (kf := k false) (p := fun r => !((goodS C (relL n X O r)).tmod p != 0))
    (fun m i hi => by
      have := relL_len n X O i
      simp only [s_l08Good_l0, s_l08Good_l0_s]
      simp (disch := omega) only [c_lt, c_fits]
      rw [s_l08Relation_val z (by omega) hhi, s_l08Good_l1_val z (by omega) (by omega) (relL_lt n X O i) hC, hp0, c_true, c_not]
      rfl)
    (fun m => by simp (disch := omega) only [s_l08Good_l0, s_l08Good_l0_s, c_nlt, c_fits]) (n - 1) N 0 (by omega) (by omega)).trans ?_
  unfold colFitB
  cases allFrom (fun r => !((goodS C (relL n X O r)).tmod p != 0)) (n - 1) 0 <;> rfl
theorem dotF_bd {f C : Nat → Int} {c : Nat} (hf : f c = 0 ∨ f c = 1 ∨ f c = -1) (hC : 0 ≤ C c ∧ C c ≤ 96) {s : Int} (hs : -(96 * (c : Int)) ≤ s ∧ s ≤ 96 * c) :
    (-96 ≤ f c * C c ∧ f c * C c ≤ 96) ∧ -(96 * ((c + 1 : Nat) : Int)) ≤ dotF f C c s ∧ dotF f C c s ≤ 96 * ((c + 1 : Nat) : Int) := by
  unfold dotF
  rcases hf with e | e | e <;> rw [e] <;> omega
theorem i_IsColouring_l1_val (z : β) {N n a : Nat} {f C : Nat → Int} {P : List (List Int)} {q : Nat} (hq : rowAt P q = (List.range n).map f) (hf : ∀ c, f c = 0 ∨ f c = 1 ∨ f c = -1) (hN : n < N) (hn : n ≤ 8) (hC : ∀ c, c < n → 0 ≤ C c ∧ C c ≤ 96)
    (b c d : Nat) (t35 t36 n0 p : Int) (X O : Nat → Int) (h3 : List (Nat × Nat)) (k : Int → β) : i_IsColouring_l1 z n n a b c d t35 t36 q 0 n n n n n C n0 X O p h3 P N 0 0 k = k (dotS f C n) := by
  unfold rowAt at hq
  exact up_to (L := fun m j s => i_IsColouring_l1 z n n a b c d t35 t36 q 0 n n n n n C n0 X O p h3 P m s (j : Int) k) (n := n) (f := dotF f C) (I := fun j s => -(96 * (j : Int)) ≤ s ∧ s ≤ 96 * j) (out := k)
    (fun m j s hj hs => ⟨by
      have hr : ((List.range n).map f)[j]?.getD 0 = f j := by simp [hj]
      have hl : ((List.range n).map f).length = n := by simp
      obtain ⟨h4, h5⟩ := dotF_bd (f := f) (hf j) (hC j hj) hs
      unfold dotF at h5 ⊢
      simp only [i_IsColouring_l1, i_IsColouring_l1_s, c_and, Int.toNat_natCast, addO_eq, Nat.zero_add, hq, hr, hl]
      simp (disch := omega) only [c_lt, c_le, c_blt, c_ble, c_beq, c_fits]
      rfl, (dotF_bd (f := f) (hf j) (hC j hj) hs).2⟩)
    (fun m s hs => by simp (disch := omega) only [i_IsColouring_l1, i_IsColouring_l1_s, c_nlt]) n N 0 0 (by omega) (by omega) (by simp)
/-- Are all colours numbers from 0 to p - 1? -/
def colB (n : Nat) (C : Nat → Int) (p : Int) : Bool := allFrom (fun i => decide (0 ≤ C i ∧ C i ≤ p - 1)) n 0
theorem s_IsColouring_l0_out (z : β) {N m n c : Nat} {C X O : Nat → Int} {p n0 : Int} {code : Int} (hc : code ≠ 0) (hn : n ≤ 2000000) (i : Int) (k : Int → β) : s_IsColouring_l0 z N p n n c n C n0 X O (m + 1) code i k = k code := by
  simp (disch := omega) only [s_IsColouring_l0, s_IsColouring_l0_s, c_ble, c_neq, c_same]
theorem s_IsColouring_l0_val (z : β) {N n c : Nat} {C X O : Nat → Int} {p n0 : Int} (hN : n + 1 < N) (hn : n ≤ 1000) (hp : 3 ≤ p ∧ p ≤ 97) (k : Int → β) : s_IsColouring_l0 z N p n n c n C n0 X O N 0 0 k = cond (colB n C p) (k 0) (k 2) := by
  have key : ∀ M, n < M → s_IsColouring_l0 z N p n n c n C n0 X O (M + 1) 0 0 k = cond (colB n C p) (k 0) (k 2) := fun M hM =>
    up_to_all (L := fun m i => s_IsColouring_l0 z N p n n c n C n0 X O (m + 1) 0 (i : Int) k) (n := n) (kt := k 0) (kf := k 2) (p := fun i => decide (0 ≤ C i ∧ C i ≤ p - 1))
      (fun m i hi => by
        have h2 := s_IsColouring_l0_out z (N := N) (m := m) (n := n) (c := c) (C := C) (X := X) (O := O) (p := p) (n0 := n0) (code := 2) (by decide) (by omega) ((i : Int) + 1) k
        rw [s_IsColouring_l0, s_IsColouring_l0_s]
        simp only [c_and, Int.toNat_natCast]
        simp (disch := omega) only [c_lt, c_le, c_blt, c_ble, c_beq, c_fits, c_eq]
        rw [s_l01In_val, c_not, h2]
        rfl)
      (fun m => by rw [s_IsColouring_l0, s_IsColouring_l0_s]; simp (disch := omega) only [c_nlt, c_ble]) n M 0 (by omega) (by omega)
  have := key (N - 1) (by omega)
  rwa [show N - 1 + 1 = N by omega] at this
theorem s_IsColouring_val (z : β) {N L n c : Nat} {C X O : Nat → Int} {p : Int} (hN : 2000000 < N) (hL : L ≤ 1048576) (g : GridP n X O) (hX : ∀ j, 0 ≤ X j) (hO : ∀ j, 0 ≤ O j) (k : Bool → Int → β) :
    s_IsColouring z N n X O p L L c L C k = cond (primeB p && (decide (L = n) && colB n C p)) (k (colFitB n X O C p) 0) (k false 2) := by
  have hlo := g.lo
  have hhi := g.hi
  obtain ⟨M, hM⟩ : ∃ M, N = M + 1 := ⟨N - 1, by omega⟩
  have out : ∀ k, s_IsColouring_l0 z N p L L c L C n X O N 2 0 k = k 2 := fun k => by
    have := s_IsColouring_l0_out z (N := N) (m := M) (n := L) (c := c) (C := C) (X := X) (O := O) (p := p) (n0 := n) (code := 2) (by decide) (by omega) 0 k
    rwa [← hM] at this
  unfold s_IsColouring s_l08Code
  rw [s_l01Is_val z (by omega) _ _ _ hX hO, gridB_iff.2 ⟨n, rfl, g⟩, Bool.not_true, c_false, s_l08Prime_val z (by omega)]
  cases hp : primeB p with
  | false =>
    simp only [Bool.not_false, c_true]
    rw [c_neq (by decide), out, c_ne (by decide)]
    rfl
  | true =>
    simp only [Bool.not_true, c_false]
    rw [c_eq rfl, c_ble (by omega), Bool.true_and]
    by_cases hl : L = n
    · subst hl
      rw [c_nne rfl, decide_eq_true rfl, Bool.true_and, s_IsColouring_l0_val z (by omega) (by omega) (primeB_bd hp)]
      cases hc : colB L C p with
      | true =>
        have hb := primeB_bd hp
        have hcc : ∀ c, c < L → 0 ≤ C c ∧ C c ≤ 96 := fun c hcl => by
          have := (allFrom_iff L 0).1 hc c (by omega) (by omega)
          rw [decide_eq_true_eq] at this
          omega
        rw [c_true, c_nne rfl, s_l08Good_val z (by omega) hlo hhi hb hcc]
        rfl
      | false => rw [c_false, c_ne (by decide)]; rfl
    · rw [c_ne (by omega), decide_eq_false hl, out, c_ne (by decide)]
      rfl
theorem contains_val (z : β) {N n c : Nat} {C : Nat → Int} {p : Int} (hN : n < N) (hn : n ≤ 1000) (hp : 3 ≤ p ∧ p ≤ 97) (k : Bool → β) : slices_ContainsFunc_int64_int64 z N n n c n C p k = k (!colB n C p) := by
  unfold slices_ContainsFunc_int64_int64 slices_IndexFunc_int64_int64
  rw [c_ble (by omega)]
  have key : ∀ (d m i : Nat), i + d = n → d < m → slices_IndexFunc_int64_int64_l0 z N n n c n n C p m i (fun q9 => k (decide (0 ≤ q9))) (k (decide ((0 : Int) ≤ -1))) = k (!allFrom (fun i => decide (0 ≤ C i ∧ C i ≤ p - 1)) d i) := by
    intro d
    induction d with
    | zero =>
      intro m i hi hm
      obtain ⟨m, rfl⟩ : ∃ m', m = m' + 1 := ⟨m - 1, by omega⟩
      rw [slices_IndexFunc_int64_int64_l0, slices_IndexFunc_int64_int64_l0_s, c_nlt (by omega)]
      rfl
    | succ d ih =>
      intro m i hi hm
      obtain ⟨m, rfl⟩ : ∃ m', m = m' + 1 := ⟨m - 1, by omega⟩
      have := ih m (i + 1) (by omega) (by omega)
      rw [slices_IndexFunc_int64_int64_l0, slices_IndexFunc_int64_int64_l0_s]
      simp only [c_and, Int.toNat_natCast, i_IsColouring_1, i_within_val]
      simp (disch := omega) only [c_lt, c_le, c_blt, c_beq, c_fits]
      rw [allFrom, c_not]
      cases hd : decide (0 ≤ C i ∧ C i ≤ p - 1) with
      | true => rw [c_true, Bool.true_and]; exact this
      | false => rw [c_false, Bool.false_and, decide_eq_true (by omega)]; rfl
  exact key n N 0 (by omega) hN
theorem i_IsColouring_val (z : β) {N L n c : Nat} {C X O : Nat → Int} {p : Int} (hN : 2000000 < N) (hL : L ≤ 1048576) (g : GridP n X O) (hX : ∀ j, 0 ≤ X j) (hO : ∀ j, 0 ≤ O j) (k : Bool → Int → β) :
    i_IsColouring z N n X O p L L c L C k = cond (primeB p && (decide (L = n) && colB n C p)) (k (colFitB n X O C p) 0) (k false 2) := by
  have hlo := g.lo
  have hhi := g.hi
  unfold i_IsColouring i_Grid_n
  rw [i_IsGrid_val z (by omega) _ _ _ hX hO, gridB_iff.2 ⟨n, rfl, g⟩, Bool.not_true, c_false, i_isPrime_val z (by omega)]
  cases hp : primeB p with
  | false => rfl
  | true =>
    have hb := primeB_bd hp
    rw [Bool.not_true, c_false, c_ble (by omega), Bool.true_and]
    by_cases hl : L = n
    · subst hl
      rw [c_nne rfl, decide_eq_true rfl, Bool.true_and, contains_val z (by omega) (by omega) hb, c_not]
      cases hc : colB L C p with
      | false => rfl
      | true =>
        have hcc : ∀ c, c < L → 0 ≤ C c ∧ C c ≤ 96 := fun c hcl => by
          have := (allFrom_iff L 0).1 hc c (by omega) (by omega)
          rw [decide_eq_true_eq] at this
          omega
        rw [c_true, c_true, i_Grid_equations_val z (by omega) hlo hhi]
        obtain ⟨hel, her⟩ := eqnsT_spec L X O
        have hP := TabP.of_app (eqnsT L X O)
        rw [c_ble (by omega)]
        have hp0 : (!p == 0) = true := by simp; omega
        refine (up_to_all (L := fun m i => i_IsColouring_l0 z N L L c (idsOf (eqnsT L X O)).length (eqnsT L X O).length (eqnsT L X O).length ((eqnsT L X O).length : Int) L C L X O p (idsOf (eqnsT L X O)) (eqnsT L X O) m (i : Int) (k false 0) (k true 0)) (n := L - 1) (kt := k true 0) (kf := k false 0) (p := fun r => !((goodS C (relL L X O r)).tmod p != 0))
          (fun m i hi => by
            have hi2 := idsOf_len (eqnsT L X O)
            have e1 := hP.sz i (by omega)
            have e2 := hP.row i (by omega)
            unfold idAt at e1 e2
            rw [her i hi, eqnR_len] at e1
            rw [her i hi] at e2
            have e3 := i_IsColouring_l1_val z (N := N) (a := c) e2 (fun c => lineS_bd _ c) (by omega) hhi hcc (idsOf (eqnsT L X O)).length (eqnsT L X O).length (eqnsT L X O).length ((eqnsT L X O).length : Int) (i : Int) L p X O (idsOf (eqnsT L X O))
            simp only [i_IsColouring_l0, i_IsColouring_l0_s, c_and, Int.toNat_natCast]
            simp (disch := omega) only [c_lt, c_le, c_blt, c_ble, c_beq, e1]
            rw [e3, hp0, c_true, c_not, line_good]
            simp (disch := omega) only [c_fits]
            rfl)
          (fun m => by simp (disch := omega) only [i_IsColouring_l0, i_IsColouring_l0_s, c_nlt]) (L - 1) N 0 (by omega) (by omega)).trans ?_
        unfold colFitB
        cases allFrom (fun r => !((goodS C (relL L X O r)).tmod p != 0)) (L - 1) 0 <;> rfl
    · rw [c_ne (by omega), decide_eq_false hl]
      rfl
def copyI (L : Nat) (h : Nat → Int) : Nat → Int := fun j => if 0 ≤ j ∧ j < 0 + L then h j else 0
theorem w_toInt64S_val (z : β) {N L c : Nat} (hN : 2000000 < N) (hL : L ≤ 1048576) (h : Nat → Int) (k : Nat → Nat → Nat → Nat → (Nat → Int) → β) : w_toInt64S z N L L c L h k = k L L L L (copyI L h) := by
  unfold w_toInt64S
  simp only [c_and, c_true, Int.toNat_natCast]
  simp (disch := omega) only [c_ble, c_le]
  have := up_to (L := fun m i s => w_toInt64S_l0 z L L c L L L L h L m (i : Int) s fun q8 => k L L L L q8) (n := L) (out := fun s => k L L L L s) (f := fun i s => upd s i (h i)) (I := fun _ _ => True)
    (fun m i s hi _ => ⟨by
      simp only [w_toInt64S_l0, w_toInt64S_l0_s, c_and, Int.toNat_natCast]
      simp (disch := omega) only [c_lt, c_le, c_blt, c_ble, c_beq, c_fits]
      rfl, trivial⟩)
    (fun m s _ => by simp (disch := omega) only [w_toInt64S_l0, w_toInt64S_l0_s, c_nlt, c_ble]) L N 0 (fun _ => 0) (by omega) (by omega) trivial
  rw [iter_set] at this
  exact this
theorem w_FnExactIsColouring_val (z : β) {N : Nat} (hN : 2000000 < N) (n : Int) (X O : Nat → Int) (p : Int) (nn L c hn : Nat) (h : Nat → Int) (e1 : nn = L * 1) (e2 : c = L) (e3 : hn = L * 1) (hX : ∀ j, j < 8 → 0 ≤ X j ∧ X j ≤ 255) (hO : ∀ j, j < 8 → 0 ≤ O j ∧ O j ≤ 255)
    (hL : L ≤ 9223372036854775807) (k0 : Bool → β) : w_FnExactIsColouring z N n X O p nn L c hn h k0 = k0 true := by
  rw [Nat.mul_one] at e1 e3
  rw [e1, e2, e3]
  unfold w_FnExactIsColouring
  rw [c_ble hL]
  by_cases hs : 1048576 < (L : Int)
  · rw [c_lt hs]
  rw [c_nlt (by omega)]
  have hN8 : 8 < N := by omega
  have hX0 := clip8_nn (a := X) fun j hj => (hX j hj).1
  have hO0 := clip8_nn (a := O) fun j hj => (hO j hj).1
  simp only [w_toGrid_val z hN8, w_toInt64S_val z hN (show L ≤ 1048576 by omega)]
  cases hg : gridB n (clip8 X) (clip8 O) with
  | false =>
    obtain ⟨M, hM⟩ : ∃ M, N = M + 1 := ⟨N - 1, by omega⟩
    have out : ∀ k, s_IsColouring_l0 z N p L L L L (copyI L h) n (clip8 X) (clip8 O) N 1 0 k = k 1 := fun k => by
      have := s_IsColouring_l0_out z (N := N) (m := M) (n := L) (c := L) (C := copyI L h) (X := clip8 X) (O := clip8 O) (p := p) (n0 := n) (code := 1) (by decide) (by omega) 0 k
      rwa [← hM] at this
    simp only [s_IsColouring, s_l08Code, i_IsColouring, s_l01Is_val z hN8 _ _ _ hX0 hO0, i_IsGrid_val z hN8 _ _ _ hX0 hO0, hg, Bool.not_false, c_true]
    rw [c_neq (by decide), out, c_ne (by decide), c_nne rfl, eqI_val z (by omega) (by omega) _ _ (fun _ _ => rfl)]
    rfl
  | true =>
    obtain ⟨m, rfl, g⟩ := gridB_iff.1 hg
    simp only [s_IsColouring_val z hN (show L ≤ 1048576 by omega) g hX0 hO0, i_IsColouring_val z hN (show L ≤ 1048576 by omega) g hX0 hO0, eqI_val z (show L < N by omega) (show L ≤ 2000000 by omega) _ _ (fun _ _ => rfl)]
    cases primeB p && (decide (L = m) && colB m (copyI L h) p) with
    | true => simp only [c_true, c_nne, Bool.not_true, c_false]; cases colFitB m (clip8 X) (clip8 O) (copyI L h) p <;> rfl
    | false => rfl
end
end Go.AM
