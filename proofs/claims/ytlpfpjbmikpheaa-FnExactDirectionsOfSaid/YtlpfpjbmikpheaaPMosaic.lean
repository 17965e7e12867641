/- A part of a proof about the given program: an abstract machine, what the given functions come to, and plain laws. -/
import Derived.Test.YtlpfpjbmikpheaaPBase
namespace Go.AM
section
variable {β : Type}
/-- Is it a mosaic? -/
def mosaicB (n : Int) (t : Nat → Int) : Bool := decide (2 ≤ n ∧ n ≤ 8) && allFrom (fun k => cond (decide (8 ≤ t k)) false (cond (decide (n * n ≤ (k : Int))) (t k == 0) true)) 64 0
theorem sq_bd {n : Int} (h : 2 ≤ n ∧ n ≤ 8) : 4 ≤ n * n ∧ n * n ≤ 64 := by
  have h3 : n = 2 ∨ n = 3 ∨ n = 4 ∨ n = 5 ∨ n = 6 ∨ n = 7 ∨ n = 8 := by omega
  rcases h3 with rfl | rfl | rfl | rfl | rfl | rfl | rfl <;> decide
theorem mosaicB_bd {n : Int} {t : Nat → Int} (h : mosaicB n t = true) : 2 ≤ n ∧ n ≤ 8 := by
  unfold mosaicB at h
  simp only [Bool.and_eq_true, decide_eq_true_eq] at h
  exact h.1
theorem mosaicB_tile {n : Int} {t : Nat → Int} (h : mosaicB n t = true) {k : Nat} (hk : k < 64) : t k < 8 := by
  unfold mosaicB at h
  simp only [Bool.and_eq_true, allFrom_iff] at h
  have := h.2 k (by omega) (by omega)
  by_cases h8 : 8 ≤ t k
  · rw [c_le h8] at this; cases this
  · omega
theorem s_l09Is_val (z : β) {N : Nat} (hN : 64 < N) (n : Int) (t : Nat → Int) (k0 : Bool → β) : s_l09Is z N n t k0 = k0 (mosaicB n t) := by
  unfold s_l09Is mosaicB
  rw [s_l01In_val]
  by_cases h : 2 ≤ n ∧ n ≤ 8
  · have hq := sq_bd h
    simp only [decide_eq_true h, Bool.not_true, c_false, Bool.true_and]
    have := up_to_all (L := fun j i => s_l09Is_l0 z n t j (i : Int) (k0 false) (k0 true)) (n := 64) (kt := k0 true) (kf := k0 false) (p := fun k => cond (decide (8 ≤ t k)) false (cond (decide (n * n ≤ (k : Int))) (t k == 0) true))
      (fun j i hi => by
        simp only [s_l09Is_l0, s_l09Is_l0_s, c_and, Int.toNat_natCast]
        generalize n * n = q at *
        by_cases h1 : 8 ≤ t i
        · simp (disch := omega) only [c_lt, c_le, c_blt, c_fits]
          rfl
        · by_cases h2 : q ≤ i
          · by_cases h3 : t i = 0
            · simp (disch := omega) only [c_lt, c_nlt, c_le, c_nle, c_blt, c_fits, c_nne, h3]
              rfl
            · simp (disch := omega) only [c_lt, c_nlt, c_le, c_nle, c_blt, c_fits, c_ne]
              rw [show (t i == 0) = false by simpa using h3]; rfl
          · simp (disch := omega) only [c_lt, c_nlt, c_le, c_nle, c_blt, c_fits]
            rfl)
      (fun j => by simp (disch := omega) only [s_l09Is_l0, s_l09Is_l0_s, c_nlt]) 64 N 0 (by omega) (by omega)
    refine this.trans ?_
    cases allFrom _ 64 0 <;> rfl
  · simp only [decide_eq_false h, Bool.not_false, c_true, Bool.false_and]
theorem i_IsMosaic_val (z : β) {N : Nat} (hN : 64 < N) (n : Int) (t : Nat → Int) (k0 : Bool → β) : i_IsMosaic z N n t k0 = k0 (mosaicB n t) := by
  unfold i_IsMosaic mosaicB
  rw [i_within_val]
  by_cases h : 2 ≤ n ∧ n ≤ 8
  · have hq := sq_bd h
    simp only [decide_eq_true h, Bool.not_true, c_false, Bool.true_and]
    have := up_to_all (L := fun j i => i_IsMosaic_l0 z t n t j (i : Int) (k0 false) (k0 true)) (n := 64) (kt := k0 true) (kf := k0 false) (p := fun k => cond (decide (8 ≤ t k)) false (cond (decide (n * n ≤ (k : Int))) (t k == 0) true))
      (fun j i hi => by
        simp only [i_IsMosaic_l0, i_IsMosaic_l0_s, c_and, Int.toNat_natCast]
        generalize n * n = q at *
        by_cases h1 : 8 ≤ t i
        · simp (disch := omega) only [c_lt, c_le, c_blt, c_fits]
          rfl
        · by_cases h2 : q ≤ i
          · by_cases h3 : t i = 0
            · simp (disch := omega) only [c_lt, c_nlt, c_le, c_nle, c_blt, c_fits, c_nne, h3]
              rfl
            · simp (disch := omega) only [c_lt, c_nlt, c_le, c_nle, c_blt, c_fits, c_ne]
              rw [show (t i == 0) = false by simpa using h3]; rfl
          · simp (disch := omega) only [c_lt, c_nlt, c_le, c_nle, c_blt, c_fits]
            rfl)
      (fun j => by simp (disch := omega) only [i_IsMosaic_l0, i_IsMosaic_l0_s, c_nlt]) 64 N 0 (by omega) (by omega)
    refine this.trans ?_
    cases allFrom _ 64 0 <;> rfl
  · simp only [decide_eq_false h, Bool.not_false, c_true, Bool.false_and]
theorem w_FnExactIsMosaic_val (z : β) {N : Nat} (hN : 64 < N) (n : Int) (t : Nat → Int) (k0 : Bool → β) : w_FnExactIsMosaic z N n t k0 = k0 true := by
  unfold w_FnExactIsMosaic w_toMosaic s_IsMosaic
  simp only [w_toByteA64_val z hN, s_l09Is_val z hN, i_IsMosaic_val z hN]
  cases mosaicB n _ <;> rfl
end
end Go.AM
