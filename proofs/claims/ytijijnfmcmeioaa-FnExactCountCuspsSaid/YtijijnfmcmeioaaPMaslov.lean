/- A part of a proof about the given program: an abstract machine, what the given functions come to, and plain laws. -/
import Derived.Test.YtijijnfmcmeioaaPGrid
import Derived.Test.YtijijnfmcmeioaaDAlexanderNumber
namespace Go.AM
section
variable {β : Type}
theorem w_toState_val (z : β) {N : Nat} (hN : 8 < N) (a : Nat → Int) (k0 : (Nat → Int) → β) : w_toState z N a k0 = k0 (clip8 a) := by
  unfold w_toState
  have := up_to (L := fun m i h => w_toState_l0 z a (fun _ => 0) m (i : Int) h k0) (n := 8) (out := k0) (f := fun i h => upd h i (a i)) (I := fun _ _ => True)
    (fun m i s hi _ => ⟨by
      simp only [w_toState_l0, w_toState_l0_s, c_and, Int.toNat_natCast]
      simp (disch := omega) only [c_lt, c_le, c_blt, c_fits]
      rfl, trivial⟩)
    (fun m s _ => by simp (disch := omega) only [w_toState_l0, w_toState_l0_s, c_nlt]) 8 N 0 (fun _ => 0) rfl hN trivial
  rw [iter_set] at this
  refine this.trans (congrArg k0 (funext fun j => ?_))
  simp [clip8]
/-- Is it a grid and a state of it? -/
noncomputable def stateB (n : Int) (X O x : Nat → Int) : Bool := gridB n X O && permB 8 n.toNat x
theorem s_l05Is_val (z : β) {N : Nat} (hN : 8 < N) (n : Int) (X O x : Nat → Int) (hX : ∀ j, 0 ≤ X j) (hO : ∀ j, 0 ≤ O j) (hx : ∀ j, 0 ≤ x j) (k : Bool → β) : s_l05Is z N n X O x k = k (stateB n X O x) := by
  unfold s_l05Is stateB
  rw [s_l01Is_val z hN _ _ _ hX hO]
  cases hg : gridB n X O with
  | false => rfl
  | true =>
    obtain ⟨m, rfl, g⟩ := gridB_iff.1 hg
    simp only [c_true, s_l01Perm_val z hN g.hi x hx, Bool.true_and, Int.toNat_natCast]
theorem isOrder_s4_ordL (z : β) (n : Int) (h : Nat → Int) : ∀ m s t k0 k1, i_isOrder_l0_s4 z n h m s t k0 k1 = ordL 8 z n h m s t k0 k1 := by
  intro m
  induction m with
  | zero => intros; rfl
  | succ m ih => intro s t k0 k1; simp only [i_isOrder_l0_s4, ordL, ih]; rfl
theorem i_IsState_val (z : β) {N : Nat} (hN : 8 < N) (n : Int) (X O x : Nat → Int) (hX : ∀ j, 0 ≤ X j) (hO : ∀ j, 0 ≤ O j) (hx : ∀ j, 0 ≤ x j) (k : Bool → β) : i_IsState z N n X O x k = k (stateB n X O x) := by
  unfold i_IsState stateB i_Grid_isState
  rw [i_IsGrid_val z hN _ _ _ hX hO]
  cases hg : gridB n X O with
  | false => rfl
  | true =>
    obtain ⟨m, rfl, g⟩ := gridB_iff.1 hg
    have hlo := g.lo
    simp only [c_true, i_Grid_n, Bool.true_and, Int.toNat_natCast]
    unfold i_isOrder_s4
    rw [isOrder_s4_ordL]
    exact ord_val 8 (by omega) z m (by omega) g.hi g.hi x hx k hN

/-- One pair counted. -/
def belF (p q : Nat → Int) (a b : Int) (i k : Nat) (c : Int) : Int := if 2 * (i : Int) + a < 2 * k + b ∧ 2 * p i + a < 2 * q k + b then c + 1 else c
def belR (n : Nat) (p q : Nat → Int) (a b : Int) (i : Nat) (c : Int) : Int := iter (belF p q a b i) n 0 c
/-- How many pairs there are. -/
def bel (n : Nat) (p q : Nat → Int) (a b : Int) : Int := iter (belR n p q a b) n 0 0
theorem belR_bd {n : Nat} {p q : Nat → Int} {a b : Int} {i : Nat} {c : Int} {m : Int} (hc : 0 ≤ c ∧ c ≤ m) : 0 ≤ belR n p q a b i c ∧ belR n p q a b i c ≤ m + n := by
  have := iter_inv (f := belF p q a b i) (I := fun k c => 0 ≤ c ∧ c ≤ m + k) (n := n) (fun k s _ h => by unfold belF; split <;> omega) n 0 c (by omega) (by omega)
  unfold belR
  simpa using this
theorem bel_bd (n : Nat) (h8 : n ≤ 8) (p q : Nat → Int) (a b : Int) : 0 ≤ bel n p q a b ∧ bel n p q a b ≤ 64 := by
  have := iter_inv (f := belR n p q a b) (I := fun i c => 0 ≤ c ∧ c ≤ 8 * (i : Int)) (n := n) (fun k s _ h => by
    have := belR_bd (n := n) (p := p) (q := q) (a := a) (b := b) (i := k) h
    omega) n 0 0 (by omega) (by omega)
  unfold bel
  simp only [Nat.zero_add] at this
  omega
theorem s_l05Below_val (z : β) {N : Nat} (hN : 8 < N) {n : Nat} (h8 : n ≤ 8) {p q : Nat → Int} (hp : ∀ j, 0 ≤ p j ∧ p j ≤ 255) (hq : ∀ j, 0 ≤ q j ∧ q j ≤ 255) {a b : Int} (ha : 0 ≤ a ∧ a ≤ 1) (hb : 0 ≤ b ∧ b ≤ 1) (k0 : Int → β) :
    s_l05Below z N n p q a b k0 = k0 (bel n p q a b) := by
  unfold s_l05Below
  refine up_to (L := fun m i c => s_l05Below_l0 z N n a b p q m c (i : Int) k0) (n := n) (out := k0) (f := belR n p q a b) (I := fun i c => 0 ≤ c ∧ c ≤ 8 * (i : Int))
    (fun m i s hi hs => ⟨?_, ?_⟩) (fun m s _ => by simp (disch := omega) only [s_l05Below_l0, s_l05Below_l0_s, c_nlt]) n N 0 0 (by omega) (by omega) (by omega)
  · have inner : ∀ kk : Int → β, s_l05Below_l1 z n a b i p q N s 0 kk = kk (belR n p q a b i s) := by
      intro kk
      refine up_to (L := fun m k c => s_l05Below_l1 z n a b i p q m c (k : Int) kk) (n := n) (out := kk) (f := belF p q a b i) (I := fun k c => 0 ≤ c ∧ c ≤ 8 * (i : Int) + k)
        (fun m k c hk hc => ⟨?_, ?_⟩) (fun m c _ => by simp (disch := omega) only [s_l05Below_l1, s_l05Below_l1_s, c_nlt]) n N 0 s (by omega) (by omega) (by omega)
      · have h1 := hp i
        have h2 := hq k
        simp only [s_l05Below_l1, s_l05Below_l1_s, c_and, Int.toNat_natCast, belF]
        by_cases e1 : 2 * (i : Int) + a < 2 * k + b
        · by_cases e2 : 2 * p i + a < 2 * q k + b
          · rw [if_pos ⟨e1, e2⟩]
            simp (disch := omega) only [c_lt, c_le, c_blt, c_fits]
            rfl
          · rw [if_neg (fun h => e2 h.2)]
            simp (disch := omega) only [c_lt, c_nlt, c_le, c_blt, c_fits]
            rfl
        · rw [if_neg (fun h => e1 h.1)]
          simp (disch := omega) only [c_lt, c_nlt, c_le, c_blt, c_fits]
          rfl
      · unfold belF; split <;> omega
    simp only [s_l05Below_l0, s_l05Below_l0_s, inner]
    simp (disch := omega) only [c_lt, c_fits]
    rfl
  · have := belR_bd (n := n) (p := p) (q := q) (a := a) (b := b) (i := i) hs
    omega
def halfI (b : Bool) : Int := cond b 1 0
theorem pairs_1 (z : β) (N : Nat) {k : Int} (hk : 0 ≤ k ∧ k ≤ 1000) (b : Bool) (k0 : Int → β) : i_pairsBelow_1 z N k b k0 = k0 (2 * k + halfI b) := by
  unfold i_pairsBelow_1 halfI
  cases b
  · simp (disch := omega) only [c_fits, c_false, Int.add_zero]
  · simp (disch := omega) only [c_fits, c_true]
theorem i_pairsBelow_val (z : β) {N : Nat} (hN : 8 < N) {n : Nat} (h8 : n ≤ 8) {p q : Nat → Int} (hp : ∀ j, 0 ≤ p j ∧ p j ≤ 255) (hq : ∀ j, 0 ≤ q j ∧ q j ≤ 255) (a b : Bool) (k0 : Int → β) :
    i_pairsBelow z N n p a q b k0 = k0 (bel n p q (halfI a) (halfI b)) := by
  unfold i_pairsBelow
  refine up_to (L := fun m i c => i_pairsBelow_l0 z N n a b n p q m c (i : Int) k0) (n := n) (out := k0) (f := belR n p q (halfI a) (halfI b)) (I := fun i c => 0 ≤ c ∧ c ≤ 8 * (i : Int))
    (fun m i s hi hs => ⟨?_, ?_⟩) (fun m s _ => by simp (disch := omega) only [i_pairsBelow_l0, i_pairsBelow_l0_s, c_nlt]) n N 0 0 (by omega) (by omega) (by omega)
  · have inner : ∀ kk : Int → β, i_pairsBelow_l1 z N n a b i n i n p q N s 0 kk = kk (belR n p q (halfI a) (halfI b) i s) := by
      intro kk
      refine up_to (L := fun m k c => i_pairsBelow_l1 z N n a b i n i n p q m c (k : Int) kk) (n := n) (out := kk) (f := belF p q (halfI a) (halfI b) i) (I := fun k c => 0 ≤ c ∧ c ≤ 8 * (i : Int) + k)
        (fun m k c hk hc => ⟨?_, ?_⟩) (fun m c _ => by simp (disch := omega) only [i_pairsBelow_l1, i_pairsBelow_l1_s, c_nlt]) n N 0 s (by omega) (by omega) (by omega)
      · have h1 := hp i
        have h2 := hq k
        simp only [i_pairsBelow_l1, i_pairsBelow_l1_s, c_and, Int.toNat_natCast, belF, pairs_1 z N (k := (i : Int)) (by omega), pairs_1 z N (k := (k : Int)) (by omega), pairs_1 z N (k := p i) (by omega), pairs_1 z N (k := q k) (by omega)]
        by_cases e1 : 2 * (i : Int) + halfI a < 2 * k + halfI b
        · by_cases e2 : 2 * p i + halfI a < 2 * q k + halfI b
          · rw [if_pos ⟨e1, e2⟩]
            simp (disch := omega) only [c_lt, c_le, c_blt, c_fits]
            rfl
          · rw [if_neg (fun h => e2 h.2)]
            simp (disch := omega) only [c_lt, c_nlt, c_le, c_blt, c_fits]
            rfl
        · rw [if_neg (fun h => e1 h.1)]
          simp (disch := omega) only [c_lt, c_nlt, c_le, c_blt, c_fits]
          rfl
      · unfold belF; split <;> omega
    simp only [i_pairsBelow_l0, i_pairsBelow_l0_s, inner]
    simp (disch := omega) only [c_lt, c_fits]
    rfl
  · have := belR_bd (n := n) (p := p) (q := q) (a := halfI a) (b := halfI b) (i := i) hs
    omega
/-- The Maslov grading. -/
def maslov (n : Nat) (x m : Nat → Int) : Int := bel n x x 0 0 - bel n x m 0 1 - bel n m x 1 0 + bel n m m 1 1 + 1
theorem maslov_bd (n : Nat) (h8 : n ≤ 8) (x m : Nat → Int) : -200 ≤ maslov n x m ∧ maslov n x m ≤ 200 := by
  unfold maslov
  have := bel_bd n h8 x x 0 0
  have := bel_bd n h8 x m 0 1
  have := bel_bd n h8 m x 1 0
  have := bel_bd n h8 m m 1 1
  omega
theorem s_l05Maslov_val (z : β) {N : Nat} (hN : 8 < N) {n : Nat} (h8 : n ≤ 8) (X O : Nat → Int) {x m : Nat → Int} (hp : ∀ j, 0 ≤ x j ∧ x j ≤ 255) (hq : ∀ j, 0 ≤ m j ∧ m j ≤ 255) (k0 : Int → β) :
    s_l05Maslov z N n X O x m k0 = k0 (maslov n x m) := by
  unfold s_l05Maslov maslov
  have := bel_bd n h8 x x 0 0
  have := bel_bd n h8 x m 0 1
  have := bel_bd n h8 m x 1 0
  have := bel_bd n h8 m m 1 1
  simp (disch := omega) only [s_l05Below_val z hN h8 hp hp, s_l05Below_val z hN h8 hp hq, s_l05Below_val z hN h8 hq hp, s_l05Below_val z hN h8 hq hq, c_fits]
theorem i_Grid_maslov_val (z : β) {N : Nat} (hN : 8 < N) {n : Nat} (h8 : n ≤ 8) (X O : Nat → Int) {x m : Nat → Int} (hp : ∀ j, 0 ≤ x j ∧ x j ≤ 255) (hq : ∀ j, 0 ≤ m j ∧ m j ≤ 255) (k0 : Int → β) :
    i_Grid_maslov z N n X O x m k0 = k0 (maslov n x m) := by
  unfold i_Grid_maslov maslov
  have := bel_bd n h8 x x 0 0
  have := bel_bd n h8 x m 0 1
  have := bel_bd n h8 m x 1 0
  have := bel_bd n h8 m m 1 1
  simp only [i_Grid_n, i_pairsBelow_val z hN h8 hp hp, i_pairsBelow_val z hN h8 hp hq, i_pairsBelow_val z hN h8 hq hp, i_pairsBelow_val z hN h8 hq hq, halfI, c_true, c_false]
  simp (disch := omega) only [c_fits]
end
end Go.AM
