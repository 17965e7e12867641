/- A part of a proof about the given program: an abstract machine, what the given functions come to, and plain laws. -/
import Derived.Test.YtkboldcnkkolkaaPTab
import Derived.Test.YtkboldcnkkolkaaPGrid
namespace Go.AM
section
variable {β : Type}
theorem app1 (x : Int) : fromTo ((List.replicate 1 (0 : Int)).set 0 x) 0 1 = [x] := rfl
theorem len1 {γ : Type} (s : List γ) (x : γ) : (s ++ [x]).length = s.length + 1 := by simp
/-- Does a column's line cross the level? -/
def crossB (X O : Nat → Int) (r : Int) (i : Nat) : Bool := decide (X i ≤ r) != decide (O i ≤ r)
def relF (X O : Nat → Int) (r : Int) (i : Nat) (s : List Int) : List Int := cond (crossB X O r i) (s ++ [(i : Int)]) s
/-- The columns that cross a level. -/
def relL (n : Nat) (X O : Nat → Int) (r : Int) : List Int := iter (relF X O r) n 0 []
theorem relF_len {X O : Nat → Int} {r : Int} {i : Nat} {s : List Int} (h : s.length ≤ i) : (relF X O r i s).length ≤ i + 1 := by
  unfold relF
  cases crossB X O r i with
  | true => rw [c_true, len1]; omega
  | false => rw [c_false]; omega
theorem relL_len (n : Nat) (X O : Nat → Int) (r : Int) : (relL n X O r).length ≤ n := by
  have := iter_inv (f := relF X O r) (n := n) (I := fun i s => s.length ≤ i) (fun i s _ h => relF_len h) n 0 [] (by omega) (Nat.le_refl _)
  rwa [Nat.zero_add] at this
theorem s_l08Relation_val (z : β) {N n : Nat} (hN : n < N) (hn : n ≤ 8) (X O : Nat → Int) (r : Int) (k : Nat → Nat → Nat → List Int → β) :
    s_l08Relation z N n X O r k = k (relL n X O r).length (relL n X O r).length (relL n X O r).length (relL n X O r) := by
  unfold s_l08Relation
  exact up_to (L := fun m i (s : List Int) => s_l08Relation_l0 z r n X O m s.length s.length s.length (i : Int) s fun q7 q8 q9 q10 => k q7 q8 q9 q10) (n := n) (out := fun s => k s.length s.length s.length s) (f := relF X O r) (I := fun i s => s.length ≤ i)
    (fun m i s hi hs => ⟨by
      unfold relF crossB
      simp only [s_l08Relation_l0, s_l08Relation_l0_s, c_and, Int.toNat_natCast, app1, c_true]
      simp (disch := omega) only [c_lt, c_le, c_blt, c_ble, c_nble, c_beq, c_fits]
      cases decide (X i ≤ r) != decide (O i ≤ r) with
      | true => simp only [c_true, len1]; rfl
      | false => rfl, relF_len hs⟩)
    (fun m s _ => by simp (disch := omega) only [s_l08Relation_l0, s_l08Relation_l0_s, c_nlt]) n N 0 [] (by omega) hN (by simp)
def relsF (n : Nat) (X O : Nat → Int) (r : Nat) (T : List (List Int)) : List (List Int) := T ++ [relL n X O r]
/-- All relations. -/
def relsT (n : Nat) (X O : Nat → Int) : List (List Int) := iter (relsF n X O) (n - 1) 0 []
theorem relsT_spec (n : Nat) (X O : Nat → Int) : (relsT n X O).length = n - 1 ∧ ∀ i, i < n - 1 → rowAt (relsT n X O) i = relL n X O i := by
  have := iter_inv (f := relsF n X O) (n := n - 1) (I := fun i T => T.length = i ∧ ∀ j, j < i → rowAt T j = relL n X O j) (fun i T _ ⟨h1, h2⟩ => by
    unfold relsF
    refine ⟨by rw [len1, h1], fun j hj => ?_⟩
    unfold rowAt
    by_cases e : j = i
    · subst e; rw [List.getElem?_append_right (by omega), h1, Nat.sub_self]; rfl
    · rw [List.getElem?_append_left (by omega)]; exact h2 j (by omega)) (n - 1) 0 [] (by omega) ⟨rfl, fun j hj => by omega⟩
  rwa [Nat.zero_add] at this
theorem relsT_small {N n : Nat} (hN : 16 < N) (hn : n ≤ 8) (X O : Nat → Int) : SmallT N (relsT n X O) := by
  obtain ⟨h1, h2⟩ := relsT_spec n X O
  refine ⟨⟨by omega, by omega⟩, fun i hi => ?_⟩
  rw [h2 i (by omega)]
  have := relL_len n X O i
  omega
theorem s_RelationsOf_val (z : β) {N n : Nat} (hN : 16 < N) {X O : Nat → Int} (g : GridP n X O) (hX : ∀ j, 0 ≤ X j) (hO : ∀ j, 0 ≤ O j) (k0 : Int → β) (k1 : Nat → Nat → Nat → Int → List (Nat × Nat) → List (List Int) → β) :
    s_RelationsOf z N n X O k0 k1 = k1 (idsOf (relsT n X O)).length (relsT n X O).length (relsT n X O).length 0 (idsOf (relsT n X O)) (relsT n X O) := by
  have hlo := g.lo
  have hhi := g.hi
  unfold s_RelationsOf
  rw [s_l01Is_val z (by omega) _ _ _ hX hO, gridB_iff.2 ⟨n, rfl, g⟩]
  simp only [Bool.not_true, c_false]
  refine (up_to (L := fun m i (T : List (List Int)) => s_RelationsOf_l0 z N n X O m (idsOf T).length T.length T.length (i : Int) T (idsOf T) fun q7 q8 q9 q10 q11 => k1 q7 q8 q9 0 q11 q10) (n := n - 1) (out := fun T => k1 (idsOf T).length T.length T.length 0 (idsOf T) T) (f := relsF n X O) (I := fun i T => T.length = i)
    (fun m i T hi hT => ⟨?_, by unfold relsF; rw [len1, hT]⟩) (fun m T _ => by simp (disch := omega) only [s_RelationsOf_l0, s_RelationsOf_l0_s, c_nlt, c_fits]) (n - 1) N 0 [] (by omega) (by omega) rfl)
  have hl := relL_len n X O i
  have hi2 := idsOf_len T
  unfold relsF
  simp only [s_RelationsOf_l0, s_RelationsOf_l0_s, c_and]
  simp (disch := omega) only [c_lt, c_fits]
  rw [s_l08Relation_val z (by omega) hhi]
  simp only [c_true]
  simp (disch := omega) only [c_lt, c_le, c_blt, c_ble, c_nble, c_beq, c_fits]
  rw [idsOf_app, len1, len1]
  rfl
theorem cross_min (a b r : Int) : (decide (a ≤ r) != decide (b ≤ r)) = (decide ((bif decide (b < a) then b else a) ≤ r) && decide (r < bif decide (a < b) then b else a)) := by
  by_cases h1 : a ≤ r <;> by_cases h2 : b ≤ r <;> by_cases h3 : a < b <;> by_cases h4 : b < a <;> simp [h1, h2, h3, h4] <;> omega
theorem i_Grid_relations_l1_val (z : β) {N n : Nat} (hN : n < N) (hn : n ≤ 8) (X O : Nat → Int) (r : Int) (a b c : Nat) (t10 t11 : Int) (h1 : List (List Int)) (h2 : List (Nat × Nat)) (k : Nat → Nat → Nat → List Int → β) :
    i_Grid_relations_l1 z a b c r t10 t11 n n X O h1 h2 N 0 0 0 0 (List.replicate 0 0) k = k (relL n X O r).length (relL n X O r).length (relL n X O r).length (relL n X O r) := by
  exact up_to (L := fun m i (s : List Int) => i_Grid_relations_l1 z a b c r t10 t11 n n X O h1 h2 m s.length s.length s.length (i : Int) s k) (n := n) (out := fun s => k s.length s.length s.length s) (f := relF X O r) (I := fun i s => s.length ≤ i)
    (fun m i s hi hs => ⟨by
      unfold relF crossB
      rw [cross_min, c_and]
      simp only [i_Grid_relations_l1, i_Grid_relations_l1_s, c_and, Int.toNat_natCast, app1, c_true]
      simp (disch := omega) only [c_lt, c_le, c_blt, c_ble, c_nble, c_beq, c_fits]
      cases decide ((bif decide (O i < X i) then O i else X i) ≤ r) with
      | true =>
        simp only [c_true]
        cases decide (r < bif decide (X i < O i) then O i else X i) with
        | true => simp only [c_true, len1]; rfl
        | false => rfl
      | false => rfl, relF_len hs⟩)
    (fun m s _ => by simp (disch := omega) only [i_Grid_relations_l1, i_Grid_relations_l1_s, c_nlt]) n N 0 [] (by omega) hN (by simp)
theorem i_Grid_relations_val (z : β) {N n : Nat} (hN : 16 < N) (hlo : 2 ≤ n) (hhi : n ≤ 8) (X O : Nat → Int) (k : Nat → Nat → Nat → List (Nat × Nat) → List (List Int) → β) :
    i_Grid_relations z N n X O k = k (idsOf (relsT n X O)).length (relsT n X O).length (relsT n X O).length (idsOf (relsT n X O)) (relsT n X O) := by
  unfold i_Grid_relations i_Grid_n
  rw [c_fits (by omega)]
  refine (up_to (L := fun m i (T : List (List Int)) => i_Grid_relations_l0 z N (n - 1 : Int) n X O m (idsOf T).length T.length T.length (i : Int) T (idsOf T) fun q6 q7 q8 q9 q10 => k q6 q7 q8 q10 q9) (n := n - 1) (out := fun T => k (idsOf T).length T.length T.length (idsOf T) T) (f := relsF n X O) (I := fun i T => T.length = i)
    (fun m i T hi hT => ⟨?_, by unfold relsF; rw [len1, hT]⟩) (fun m T _ => by simp (disch := omega) only [i_Grid_relations_l0, i_Grid_relations_l0_s, c_nlt]) (n - 1) N 0 [] (by omega) (by omega) rfl)
  have hl := relL_len n X O i
  have hi2 := idsOf_len T
  unfold relsF
  simp only [i_Grid_relations_l0, i_Grid_relations_l0_s, i_Grid_n, c_and]
  simp (disch := omega) only [c_lt]
  rw [i_Grid_relations_l1_val z (by omega) hhi]
  simp only [c_true]
  simp (disch := omega) only [c_lt, c_le, c_blt, c_ble, c_nble, c_beq, c_fits]
  rw [idsOf_app, len1, len1]
  rfl
/-- Copies of the rows of a table. -/
def rowCopyF (xs : List Int) (j : Nat) (s : List Int) : List Int := s ++ [xs[j]?.getD 0]
theorem copy_take (xs : List Int) : ∀ d, d ≤ xs.length → iter (rowCopyF xs) d 0 [] = xs.take d := by
  intro d
  induction d with
  | zero => intro _; rfl
  | succ d ih =>
    intro hd
    rw [iter_succ, ih (by omega), Nat.zero_add]
    unfold rowCopyF
    rw [List.take_add_one, List.getElem?_eq_getElem (by omega)]
    rfl
theorem i_RelationsOf_1_l1_val (z : β) {N : Nat} {xs : List Int} {P : List (List Int)} {q : Nat} (hq : rowAt P q = xs) (hN : xs.length < N) (hx : xs.length ≤ 1000) (a b c d e f : Nat) (t12 t13 : Int) (n : Int) (X O : Nat → Int) (h1 : List (List Int)) (h2 h3 : List (Nat × Nat)) (k : Nat → Nat → Nat → List Int → β) :
    i_RelationsOf_1_l1 z a b c d e f t12 t13 q 0 xs.length xs.length xs.length xs.length n X O h1 h2 h3 P N 0 0 0 0 (List.replicate 0 0) k = k xs.length xs.length xs.length xs := by
  unfold rowAt at hq
  have := up_to (L := fun m j (s : List Int) => i_RelationsOf_1_l1 z a b c d e f t12 t13 q 0 xs.length xs.length xs.length (xs.length : Int) n X O h1 h2 h3 P m s.length s.length s.length (j : Int) s k)
      (n := xs.length) (f := rowCopyF xs) (I := fun j s => s.length = j) (out := fun s => k s.length s.length s.length s)
    (fun m j s hj hs => ⟨by
      unfold rowCopyF
      simp only [i_RelationsOf_1_l1, i_RelationsOf_1_l1_s, c_and, Int.toNat_natCast, addO_eq, Nat.zero_add, app1, c_true, hq]
      simp (disch := omega) only [c_lt, c_le, c_blt, c_ble, c_nble, c_beq, c_fits]
      rw [len1]
      rfl, by unfold rowCopyF; rw [len1, hs]⟩)
    (fun m s hs => by simp (disch := omega) only [i_RelationsOf_1_l1, i_RelationsOf_1_l1_s, c_nlt]) xs.length N 0 [] (by omega) (by omega) rfl
  rw [copy_take xs xs.length (Nat.le_refl _), List.take_length] at this
  exact this
theorem i_RelationsOf_1_val (z : β) {N n : Nat} (hN : 16 < N) (hlo : 2 ≤ n) (hhi : n ≤ 8) (X O : Nat → Int) (k : Nat → Nat → Nat → List (Nat × Nat) → List (List Int) → β) :
    i_RelationsOf_1 z N n X O k = k (idsOf (relsT n X O)).length (relsT n X O).length (relsT n X O).length (idsOf (relsT n X O)) (relsT n X O) := by
  unfold i_RelationsOf_1
  rw [i_Grid_relations_val z hN hlo hhi]
  obtain ⟨hl, hr⟩ := relsT_spec n X O
  have hb := relsT_small hN hhi X O
  have hP := TabP.of_app (relsT n X O)
  have hi2 := idsOf_len (relsT n X O)
  rw [c_ble (by omega)]
  have he : relsT n X O = iter (relsF n X O) (n - 1) 0 [] := rfl
  generalize hT : relsT n X O = T at *
  refine Eq.trans (up_to (L := fun m i (S : List (List Int)) => i_RelationsOf_1_l0 z N (idsOf T).length T.length T.length (T.length : Int) n X O (idsOf T) T m (idsOf S).length S.length S.length (i : Int) S (idsOf S) fun q11 q12 q13 q14 q15 => k q11 q12 q13 q15 q14) (n := T.length) (out := fun T => k (idsOf T).length T.length T.length (idsOf T) T) (f := relsF n X O) (I := fun i T => T.length = i)
    (fun m i S hi hS => ⟨?_, by unfold relsF; rw [len1, hS]⟩) (fun m T _ => by simp (disch := omega) only [i_RelationsOf_1_l0, i_RelationsOf_1_l0_s, c_nlt]) T.length N 0 [] (by omega) (by omega) rfl) (by simp only [hl, ← he])
  have e1 := hP.sz i hi
  have e2 := hP.row i hi
  have e3 := hb.cols i hi
  have hi3 := idsOf_len S
  unfold idAt at e1 e2
  unfold relsF
  simp only [i_RelationsOf_1_l0, i_RelationsOf_1_l0_s, c_and, Int.toNat_natCast]
  simp (disch := omega) only [c_lt, c_le, c_blt, c_ble, c_beq, e1]
  rw [i_RelationsOf_1_l1_val z e2 (by omega) (by omega), hr i (by omega)]
  rw [hr i (by omega)] at e3
  simp only [c_true]
  simp (disch := omega) only [c_lt, c_le, c_blt, c_ble, c_nble, c_beq, c_fits]
  rw [idsOf_app, len1, len1]
  rfl
theorem i_RelationsOf_val (z : β) {N n : Nat} (hN : 16 < N) {X O : Nat → Int} (g : GridP n X O) (hX : ∀ j, 0 ≤ X j) (hO : ∀ j, 0 ≤ O j) (k0 : Int → β) (k1 : Nat → Nat → Nat → Int → List (Nat × Nat) → List (List Int) → β) :
    i_RelationsOf z N n X O k0 k1 = k1 (idsOf (relsT n X O)).length (relsT n X O).length (relsT n X O).length 0 (idsOf (relsT n X O)) (relsT n X O) := by
  unfold i_RelationsOf i_whole_int64_s2
  rw [i_IsGrid_val z (by omega) _ _ _ hX hO, gridB_iff.2 ⟨n, rfl, g⟩]
  simp only [Bool.not_true, c_false]
  rw [i_RelationsOf_1_val z hN g.lo g.hi]
theorem w_FnExactRelationsOf_val (z : β) {N : Nat} (hN : 100 < N) (n : Int) (X O : Nat → Int) (hX : ∀ j, j < 8 → 0 ≤ X j ∧ X j ≤ 255) (hO : ∀ j, j < 8 → 0 ≤ O j ∧ O j ≤ 255) (k0 : Bool → β) : w_FnExactRelationsOf z N n X O k0 = k0 true := by
  unfold w_FnExactRelationsOf
  have hN8 : 8 < N := by omega
  have hX0 := clip8_nn (a := X) fun j hj => (hX j hj).1
  have hO0 := clip8_nn (a := O) fun j hj => (hO j hj).1
  simp only [w_toGrid_val z hN8]
  cases hg : gridB n (clip8 X) (clip8 O) with
  | false =>
    simp (disch := omega) only [s_RelationsOf, i_RelationsOf, i_whole_int64_s2, s_l01Is_val z hN8 _ _ _ hX0 hO0, i_IsGrid_val z hN8 _ _ _ hX0 hO0, hg, Bool.not_false, c_true, eqNil, markNil, heldNil, Bool.not_true, c_false, c_nne]
  | true =>
    obtain ⟨m, rfl, g⟩ := gridB_iff.1 hg
    have h8 := g.hi
    have hs := relsT_small (N := N) (by omega) h8 (clip8 X) (clip8 O)
    have hP := TabP.of_app (relsT m (clip8 X) (clip8 O))
    have hM := markTab_spec hP
    have hn := relsT_spec m (clip8 X) (clip8 O)
    have hb := hs.total (relsT m (clip8 X) (clip8 O)).length (Nat.le_refl _)
    simp only [s_RelationsOf_val z (N := N) (by omega) g hX0 hO0, i_RelationsOf_val z (N := N) (by omega) g hX0 hO0, eqTab z hP hP hs, markTab z hP hs, heldTab z hM hs, Bool.not_true, c_false]
    simp (disch := omega) only [c_nne, c_nlt]
end
end Go.AM
