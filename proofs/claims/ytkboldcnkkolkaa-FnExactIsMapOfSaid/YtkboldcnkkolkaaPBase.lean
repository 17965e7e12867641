/- A part of a proof about the given program: an abstract machine, what the given functions come to, and plain laws. -/
import Derived.Test.YtkboldcnkkolkaaPOrder2
import Derived.Test.YtkboldcnkkolkaaDIsMosaic
namespace Go.AM
section
variable {β : Type}
theorem i_within_val (z : β) (N : Nat) (x lo hi : Int) (k : Bool → β) : i_within z N x lo hi k = k (decide (lo ≤ x ∧ x ≤ hi)) := by
  unfold i_within
  by_cases h : lo ≤ x
  · rw [c_le h]; congr 1; exact decide_eq_decide.2 ⟨fun h2 => ⟨h, h2⟩, fun h2 => h2.2⟩
  · rw [c_nle (by omega), decide_eq_false (fun h2 => h h2.1)]
theorem s_l01In_val (z : β) (N : Nat) (x lo hi : Int) (k : Bool → β) : s_l01In z N x lo hi k = k (decide (lo ≤ x ∧ x ≤ hi)) := by
  unfold s_l01In
  by_cases h : lo ≤ x
  · rw [c_le h]; congr 1; exact decide_eq_decide.2 ⟨fun h2 => ⟨h, h2⟩, fun h2 => h2.2⟩
  · rw [c_nle (by omega), decide_eq_false (fun h2 => h h2.1)]
theorem w_toByteA64_val (z : β) {N : Nat} (hN : 64 < N) (a : Nat → Int) (k0 : (Nat → Int) → β) : w_toByteA64 z N a k0 = k0 (fun j => if j < 64 then a j else 0) := by
  unfold w_toByteA64
  have := up_to (L := fun m i h => w_toByteA64_l0 z a (fun _ => 0) m (i : Int) h k0) (n := 64) (out := k0) (f := fun i h => upd h i (a i)) (I := fun _ _ => True)
    (fun m i s hi _ => ⟨by
      simp only [w_toByteA64_l0, w_toByteA64_l0_s, c_and, Int.toNat_natCast]
      simp (disch := omega) only [c_lt, c_le, c_blt, c_fits]
      rfl, trivial⟩)
    (fun m s _ => by simp (disch := omega) only [w_toByteA64_l0, w_toByteA64_l0_s, c_nlt]) 64 N 0 (fun _ => 0) rfl hN trivial
  rw [iter_set] at this
  refine this.trans (congrArg k0 (funext fun j => ?_))
  simp
end
end Go.AM
