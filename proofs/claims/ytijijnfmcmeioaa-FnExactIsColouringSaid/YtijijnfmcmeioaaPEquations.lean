/- A part of a proof about the given program: an abstract machine, what the given functions come to, and plain laws. -/
import Derived.Test.YtijijnfmcmeioaaPRelations
import Derived.Test.YtijijnfmcmeioaaDIsColouring
namespace Go.AM
section
variable {β : Type}
/-- Steps that agree along the way. -/
theorem iter_congr {σ : Type} {f g : Nat → σ → σ} : ∀ (d i : Nat) (s : σ), (∀ j s, i ≤ j → j < i + d → f j s = g j s) → iter f d i s = iter g d i s := by
  intro d
  induction d with
  | zero => intro i s _; rfl
  | succ d ih =>
    intro i s h
    rw [iter, iter, h i s (Nat.le_refl _) (by omega)]
    exact ih (i + 1) _ fun j s h1 h2 => h j s (by omega) (by omega)
theorem get_app_lt {xs : List Int} {x : Int} {j : Nat} (h : j < xs.length) : (xs ++ [x])[j]?.getD 0 = xs[j]?.getD 0 := by rw [List.getElem?_append_left h]
theorem get_app_eq {xs : List Int} {x : Int} : (xs ++ [x])[xs.length]?.getD 0 = x := by simp
/-- One, minus one and so on. -/
def sgn (j : Nat) : Int := if j % 2 = 0 then 1 else -1
theorem sgn_bd (j : Nat) : sgn j = 1 ∨ sgn j = -1 := by unfold sgn; split <;> simp
theorem sgn_succ (j : Nat) : sgn (j + 1) = -sgn j := by unfold sgn; by_cases h : j % 2 = 0 <;> simp [h] <;> omega
def lineF (xs : List Int) (j : Nat) (f : Nat → Int) : Nat → Int := upd f (xs[j]?.getD 0).toNat (sgn j)
/-- The line of an equation. -/
def lineS (xs : List Int) : Nat → Int := iter (lineF xs) xs.length 0 fun _ => 0
theorem lineS_app (xs : List Int) (x : Int) : lineS (xs ++ [x]) = upd (lineS xs) x.toNat (sgn xs.length) := by
  unfold lineS
  rw [len1, iter_succ, iter_congr (g := lineF xs)]
  · unfold lineF
    rw [Nat.zero_add, get_app_eq]
  · intro j s _ hj
    unfold lineF
    rw [get_app_lt (by omega)]
theorem lineS_bd (xs : List Int) (c : Nat) : lineS xs c = 0 ∨ lineS xs c = 1 ∨ lineS xs c = -1 := by
  have := iter_inv (f := lineF xs) (n := xs.length) (I := fun _ f => f c = 0 ∨ f c = 1 ∨ f c = -1) (fun i s _ h => by
    unfold lineF
    rw [upd_at]
    split
    · exact .inr (sgn_bd i)
    · exact h) xs.length 0 (fun _ => 0) (by omega) (.inl rfl)
  exact this
theorem relL_lt (n : Nat) (X O : Nat → Int) (r : Int) : ∀ j, j < (relL n X O r).length → 0 ≤ (relL n X O r)[j]?.getD 0 ∧ (relL n X O r)[j]?.getD 0 < n := by
  have := iter_inv (f := relF X O r) (n := n) (I := fun i s => ∀ j, j < s.length → 0 ≤ s[j]?.getD 0 ∧ s[j]?.getD 0 < i) (fun i s _ h j hj => by
    unfold relF at hj ⊢
    cases hc : crossB X O r i with
    | true =>
      rw [hc, c_true, len1] at hj
      rw [c_true]
      by_cases e : j = s.length
      · subst e; rw [get_app_eq]; omega
      · rw [get_app_lt (by omega)]; have := h j (by omega); omega
    | false =>
      rw [hc, c_false] at hj
      rw [c_false]
      have := h j hj; omega) n 0 [] (by omega) (fun j hj => by simp at hj)
  rw [Nat.zero_add] at this
  exact this
def eqnR (n : Nat) (X O : Nat → Int) (r : Nat) : List Int := (List.range n).map (lineS (relL n X O r))
theorem eqnR_len (n : Nat) (X O : Nat → Int) (r : Nat) : (eqnR n X O r).length = n := by simp [eqnR]
theorem eqnR_at {n : Nat} (X O : Nat → Int) (r : Nat) {c : Nat} (hc : c < n) : (eqnR n X O r)[c]?.getD 0 = lineS (relL n X O r) c := by simp [eqnR, hc]
def eqnsF (n : Nat) (X O : Nat → Int) (r : Nat) (T : List (List Int)) : List (List Int) := T ++ [eqnR n X O r]
/-- The equations of a grid. -/
def eqnsT (n : Nat) (X O : Nat → Int) : List (List Int) := iter (eqnsF n X O) (n - 1) 0 []
theorem eqnsT_spec (n : Nat) (X O : Nat → Int) : (eqnsT n X O).length = n - 1 ∧ ∀ i, i < n - 1 → rowAt (eqnsT n X O) i = eqnR n X O i := by
  have := iter_inv (f := eqnsF n X O) (n := n - 1) (I := fun i T => T.length = i ∧ ∀ j, j < i → rowAt T j = eqnR n X O j) (fun i T _ ⟨h1, h2⟩ => by
    unfold eqnsF
    refine ⟨by rw [len1, h1], fun j hj => ?_⟩
    unfold rowAt
    by_cases e : j = i
    · subst e; rw [List.getElem?_append_right (by omega), h1, Nat.sub_self]; rfl
    · rw [List.getElem?_append_left (by omega)]; exact h2 j (by omega)) (n - 1) 0 [] (by omega) ⟨rfl, fun j hj => by omega⟩
  rwa [Nat.zero_add] at this
theorem i_Grid_equations_l1_val (z : β) {N n : Nat} {xs : List Int} {P : List (List Int)} {q : Nat} (hq : rowAt P q = xs) (hN : xs.length < N) (hx : xs.length ≤ 1000) (hlt : ∀ j, j < xs.length → 0 ≤ xs[j]?.getD 0 ∧ xs[j]?.getD 0 < n)
    (a b c d e f : Nat) (t12 t13 : Int) (n0 : Int) (X O : Nat → Int) (h1 : List (List Int)) (h2 h3 : List (Nat × Nat)) (k : (Nat → Int) → β) :
    i_Grid_equations_l1 z a b c n n n d e f t12 t13 q 0 xs.length xs.length xs.length xs.length n0 X O h1 h2 h3 P n N 1 0 (fun _ => 0) k = k (lineS xs) := by
  unfold rowAt at hq
  exact up_to (L := fun m j s => i_Grid_equations_l1 z a b c n n n d e f t12 t13 q 0 xs.length xs.length xs.length xs.length n0 X O h1 h2 h3 P n m (sgn j) (j : Int) s k)
      (n := xs.length) (f := lineF xs) (I := fun _ _ => True) (out := k)
    (fun m j s hj _ => ⟨by
      obtain ⟨l1, l2⟩ := hlt j hj
      have := sgn_bd j
      unfold lineF
      simp only [i_Grid_equations_l1, i_Grid_equations_l1_s, c_and, Int.toNat_natCast, addO_eq, Nat.zero_add, hq]
      simp (disch := omega) only [c_lt, c_le, c_blt, c_ble, c_nble, c_beq, c_fits]
      rw [sgn_succ]
      rfl, trivial⟩)
    (fun m s hs => by simp (disch := omega) only [i_Grid_equations_l1, i_Grid_equations_l1_s, c_nlt]) xs.length N 0 _ (by omega) (by omega) trivial
theorem i_Grid_equations_val (z : β) {N n : Nat} (hN : 16 < N) (hlo : 2 ≤ n) (hhi : n ≤ 8) (X O : Nat → Int) (k : Nat → Nat → Nat → List (Nat × Nat) → List (List Int) → β) :
    i_Grid_equations z N n X O k = k (idsOf (eqnsT n X O)).length (eqnsT n X O).length (eqnsT n X O).length (idsOf (eqnsT n X O)) (eqnsT n X O) := by
  unfold i_Grid_equations
  rw [i_Grid_relations_val z hN hlo hhi]
  obtain ⟨hl, hr⟩ := relsT_spec n X O
  have hb := relsT_small hN hhi X O
  have hP := TabP.of_app (relsT n X O)
  have hi2 := idsOf_len (relsT n X O)
  rw [c_ble (by omega)]
  generalize hT : relsT n X O = T at *
  have he : eqnsT n X O = iter (eqnsF n X O) (n - 1) 0 [] := rfl
  refine Eq.trans (up_to (L := fun m i (S : List (List Int)) => i_Grid_equations_l0 z N (idsOf T).length T.length T.length (T.length : Int) n X O (idsOf T) T m (idsOf S).length S.length S.length (i : Int) S (idsOf S) fun q11 q12 q13 q14 q15 => k q11 q12 q13 q15 q14) (n := T.length) (out := fun T => k (idsOf T).length T.length T.length (idsOf T) T) (f := eqnsF n X O) (I := fun i T => T.length = i)
    (fun m i S hi hS => ⟨?_, by unfold eqnsF; rw [len1, hS]⟩) (fun m T _ => by simp (disch := omega) only [i_Grid_equations_l0, i_Grid_equations_l0_s, c_nlt]) T.length N 0 [] (by omega) (by omega) rfl) (by simp only [hl, ← he])
  have e1 := hP.sz i hi
  have e2 := hP.row i hi
  have e3 := hb.cols i hi
  have hi3 := idsOf_len S
  unfold idAt at e1 e2
  unfold eqnsF
  simp only [i_Grid_equations_l0, i_Grid_equations_l0_s, i_Grid_n, c_and, c_true, Int.toNat_natCast]
  simp (disch := omega) only [c_lt, c_le, c_blt, c_ble, c_beq, e1]
  rw [i_Grid_equations_l1_val z e2 (by omega) (by omega) (by rw [hr i (by omega)]; exact relL_lt n X O i), hr i (by omega)]
  simp only [List.length_map, List.length_range]
  simp (disch := omega) only [c_lt, c_le, c_blt, c_ble, c_nble, c_beq, c_fits]
  rw [show (List.range n).map (lineS (relL n X O i)) = eqnR n X O i from rfl]
  simp only [idsOf_app, len1, eqnR_len]
  rfl
end
end Go.AM
