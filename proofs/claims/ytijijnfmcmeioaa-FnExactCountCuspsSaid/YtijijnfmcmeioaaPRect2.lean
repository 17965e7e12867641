/- A part of a proof about the given program: an abstract machine, what the given functions come to, and plain laws. -/
import Derived.Test.YtijijnfmcmeioaaPRect
namespace Go.AM
section
variable {β : Type}
/-- The corners of all rectangles: a column, and how wide. -/
def prs (n : Nat) : List (Nat × Nat) := (List.range n).flatMap fun l => (List.range' 1 (n - 1)).map fun w => (l, w)
theorem prs_mem {n : Nat} {p : Nat × Nat} (h : p ∈ prs n) : p.1 < n ∧ 1 ≤ p.2 ∧ p.2 < n := by
  unfold prs at h
  simp only [List.mem_flatMap, List.mem_range, List.mem_map, List.mem_range'_1] at h
  obtain ⟨l, h1, w, ⟨h2, h3⟩, rfl⟩ := h
  simp only
  omega
theorem prs_len (n : Nat) (h8 : n ≤ 8) : (prs n).length ≤ 64 := by
  unfold prs
  have : n = 0 ∨ n = 1 ∨ n = 2 ∨ n = 3 ∨ n = 4 ∨ n = 5 ∨ n = 6 ∨ n = 7 ∨ n = 8 := by omega
  rcases this with rfl | rfl | rfl | rfl | rfl | rfl | rfl | rfl | rfl <;> decide
/-- Rectangles as one list of numbers. -/
def recs (n : Nat) (X O x : Nat → Int) (ps : List (Nat × Nat)) : List Int := ps.flatMap fun p => rectL n X O x p.1 p.2
theorem recs_cons (n : Nat) (X O x : Nat → Int) (p : Nat × Nat) (ps : List (Nat × Nat)) : recs n X O x (p :: ps) = rectL n X O x p.1 p.2 ++ recs n X O x ps := rfl
theorem recs_append (n : Nat) (X O x : Nat → Int) (ps qs : List (Nat × Nat)) : recs n X O x (ps ++ qs) = recs n X O x ps ++ recs n X O x qs := by simp [recs]
theorem recs_len (n : Nat) (X O x : Nat → Int) (ps : List (Nat × Nat)) : (recs n X O x ps).length = 6 * ps.length := by
  induction ps with
  | nil => rfl
  | cons p ps ih => rw [recs_cons, List.length_append, rectL_len, ih, List.length_cons]; omega
theorem recs_get (n : Nat) (X O x : Nat → Int) : ∀ (ps : List (Nat × Nat)) (i : Nat) (p : Nat × Nat), ps[i]? = some p → ∀ j, j < 6 → (recs n X O x ps)[i * 6 + j]? = (rectL n X O x p.1 p.2)[j]? := by
  intro ps
  induction ps with
  | nil => intro i p h; simp at h
  | cons q ps ih =>
    intro i p h j hj
    rw [recs_cons]
    cases i with
    | zero =>
      simp only [List.getElem?_cons_zero, Option.some.injEq] at h
      subst h
      rw [List.getElem?_append_left (by rw [rectL_len]; omega), Nat.zero_mul, Nat.zero_add]
    | succ i =>
      rw [List.getElem?_append_right (by rw [rectL_len]; omega), rectL_len, show (i + 1) * 6 + j - 6 = i * 6 + j by omega]
      exact ih i p (by simpa using h) j hj
theorem iter_filter {γ : Type} (t : Nat → Bool) (r : Nat → List γ) : ∀ (d i : Nat) (l : List γ), iter (fun w l => if t w = true then l ++ r w else l) d i l = l ++ ((List.range' i d).filter t).flatMap r := by
  intro d
  induction d with
  | zero => intro i l; simp [iter]
  | succ d ih =>
    intro i l
    rw [iter, ih, List.range'_succ]
    by_cases h : t i = true
    · rw [if_pos h, List.filter_cons_of_pos h, List.flatMap_cons, List.append_assoc]
    · rw [if_neg h, List.filter_cons_of_neg h]
theorem iter_flat {γ : Type} (r : Nat → List γ) : ∀ (d i : Nat) (l : List γ), iter (fun w l => l ++ r w) d i l = l ++ (List.range' i d).flatMap r := by
  intro d
  induction d with
  | zero => intro i l; simp [iter]
  | succ d ih =>
    intro i l
    rw [iter, ih, List.range'_succ, List.flatMap_cons, List.append_assoc]
theorem rectsL_eq (n : Nat) (X O x : Nat → Int) (t : Nat → Nat → Bool) : rectsL n X O x t = recs n X O x ((prs n).filter fun p => t p.1 p.2) := by
  unfold rectsL
  have : (fun left (l : List Int) => iter (fun w l => if t left w = true then l ++ rectL n X O x left w else l) (n - 1) 1 l) = fun left l => l ++ ((List.range' 1 (n - 1)).filter (t left)).flatMap (rectL n X O x left) := by
    funext left l
    exact iter_filter (t left) (rectL n X O x left) (n - 1) 1 l
  rw [this, iter_flat, List.nil_append]
  unfold recs prs
  rw [List.filter_flatMap, List.flatMap_assoc, List.range_eq_range']
  congr 1
  funext l
  rw [List.filter_map, List.flatMap_map]
  rfl
theorem recs_6 (n : Nat) (X O x : Nat → Int) (ps : List (Nat × Nat)) : (recs n X O x ps).length / 6 = ps.length := by rw [recs_len]; omega
end
end Go.AM
