/- A part of a proof about the given program: an abstract machine, what the given functions come to, and plain laws. -/
import Derived.Test.YtijijnfmcmeioaaPLib
import Derived.Test.YtijijnfmcmeioaaPBase
import Derived.Test.YtijijnfmcmeioaaDIsColouring
namespace Go.AM
section
variable {β : Type}
/-! primes -/
def primeN (p : Nat) : Bool := allFrom (fun k => (p : Int).tmod ((k + 2 : Nat) : Int) != 0) (p - 2) 0
def rootN (p : Nat) : Nat := if p < 4 then 2 else if p < 9 then 3 else if p < 16 then 4 else if p < 25 then 5 else if p < 36 then 6 else if p < 49 then 7 else if p < 64 then 8 else if p < 81 then 9 else 10
theorem rootN_spec : ∀ p : Nat, p < 98 → 3 ≤ p → (∀ d, d < rootN p → d * d ≤ p) ∧ p < rootN p * rootN p ∧ 2 ≤ rootN p ∧ rootN p ≤ 10 := by decide +kernel
theorem prime_root : ∀ p : Nat, p < 98 → 3 ≤ p → allFrom (fun k => (p : Int).tmod ((k + 2 : Nat) : Int) != 0) (rootN p - 2) 0 = primeN p := by decide +kernel
def primeB (p : Int) : Bool := decide (3 ≤ p ∧ p ≤ 97) && primeN p.toNat
theorem primeB_bd {p : Int} (h : primeB p = true) : 3 ≤ p ∧ p ≤ 97 := by
  unfold primeB at h
  simp only [Bool.and_eq_true, decide_eq_true_eq] at h
  exact h.1
theorem s_l08Prime_val (z : β) {N : Nat} (hN : 100 < N) (p : Int) (k : Bool → β) : s_l08Prime z N p k = k (primeB p) := by
  unfold s_l08Prime primeB
  rw [s_l01In_val]
  by_cases h : 3 ≤ p ∧ p ≤ 97
  · obtain ⟨q, rfl⟩ : ∃ q : Nat, p = q := ⟨p.toNat, by omega⟩
    rw [decide_eq_true h, Bool.not_true, c_false, Bool.true_and, Int.toNat_natCast]
    refine (up_to_all (L := fun m i => s_l08Prime_l0 z q m ((i + 2 : Nat) : Int) (k false) (k true)) (n := q - 2) (kt := k true) (kf := k false) (p := fun k => (q : Int).tmod ((k + 2 : Nat) : Int) != 0)
      (fun m i hi => by
        have h0 : (!((i + 2 : Nat) : Int) == 0) = true := by simp; omega
        simp only [s_l08Prime_l0, s_l08Prime_l0_s]
        rw [c_lt (by omega), h0, c_true, c_fits (by omega), ← c_not]
        rfl)
      (fun m => by rw [s_l08Prime_l0, s_l08Prime_l0_s, c_nlt (by omega)]) (q - 2) N 0 (by omega) (by omega)).trans ?_
    unfold primeN
    cases allFrom (fun k => (q : Int).tmod ((k + 2 : Nat) : Int) != 0) (q - 2) 0 <;> rfl
  · rw [decide_eq_false h]; rfl
theorem i_isPrime_val (z : β) {N : Nat} (hN : 100 < N) (p : Int) (k : Bool → β) : i_isPrime z N p k = k (primeB p) := by
  unfold i_isPrime primeB
  rw [i_within_val]
  by_cases h : 3 ≤ p ∧ p ≤ 97
  · obtain ⟨q, rfl⟩ : ∃ q : Nat, p = q := ⟨p.toNat, by omega⟩
    rw [decide_eq_true h, Bool.not_true, c_false, Bool.true_and, Int.toNat_natCast]
    obtain ⟨r1, r2, r3, r4⟩ := rootN_spec q (by omega) (by omega)
    rw [← prime_root q (by omega) (by omega)]
    refine (up_to_all (L := fun m i => i_isPrime_l0 z q m ((i + 2 : Nat) : Int) (k false) (k true)) (n := rootN q - 2) (kt := k true) (kf := k false) (p := fun k => (q : Int).tmod ((k + 2 : Nat) : Int) != 0)
      (fun m i hi => by
        have h0 : (!((i + 2 : Nat) : Int) == 0) = true := by simp; omega
        have h1 := r1 (i + 2) (by omega)
        have h2 : ((i + 2 : Nat) : Int) * ((i + 2 : Nat) : Int) = (((i + 2) * (i + 2) : Nat) : Int) := (Int.natCast_mul _ _).symm
        simp only [i_isPrime_l0, i_isPrime_l0_s]
        rw [h2, c_fits (by omega), c_le (by omega), h0, c_true, c_fits (by omega), ← c_not]
        rfl)
      (fun m => by
        have h2 : ((rootN q - 2 + 2 : Nat) : Int) * ((rootN q - 2 + 2 : Nat) : Int) = ((rootN q * rootN q : Nat) : Int) := by rw [show rootN q - 2 + 2 = rootN q by omega]; exact (Int.natCast_mul _ _).symm
        have h3 : rootN q * rootN q ≤ 10 * 10 := Nat.mul_le_mul r4 r4
        rw [i_isPrime_l0, i_isPrime_l0_s, h2, c_fits (by omega), c_nle (by omega)]) (rootN q - 2) N 0 (by omega) (by omega)).trans ?_
    cases allFrom (fun k => (q : Int).tmod ((k + 2 : Nat) : Int) != 0) (rootN q - 2) 0 <;> rfl
  · rw [decide_eq_false h]; rfl
end
end Go.AM
