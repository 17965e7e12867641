/- A part of a proof about the given program: an abstract machine, what the given functions come to, and plain laws. -/
import Derived.Test.YtapjbfjbimdmeaaSMulA
import Derived.Test.YtapjbfjbimdmeaaDallMultiplyLaurents2
import Derived.Test.YtapjbfjbimdmeaaPallMultiplyLaurents1
set_option linter.unusedVariables false
set_option linter.unusedSimpArgs false
set_option maxRecDepth 100000
namespace Go.AM
open Go.Proofs
theorem mulG_spec {N : Nat} {p_0 : Int} {p_1_n p_1_l p_1_c a1_1_n a1_1_l a1_1_c h0_n h1_n : Nat} (h : mulG N p_0 p_1_n p_1_l p_1_c a1_1_n a1_1_l a1_1_c h0_n h1_n = true) :
    5000 < N ∧ (-9223372036854775808 ≤ p_0 ∧ p_0 ≤ 9223372036854775807) ∧ p_1_n = h0_n ∧ p_1_l = h0_n ∧ p_1_c = h0_n ∧ a1_1_n = h1_n ∧ a1_1_l = h1_n ∧ a1_1_c = h1_n ∧ h0_n ≤ 1048576 ∧ h1_n ≤ 1048576 := by
  unfold mulG at h
  simp only [Bool.and_eq_true, Nat.ble_eq] at h
  obtain ⟨h1, h2, h3, h4, h5, h6, h7, h8, h9, h10⟩ := h
  rw [fits_iff] at h2
  exact ⟨by omega, h2, Nat.eq_of_beq_eq_true h3, Nat.eq_of_beq_eq_true h4, Nat.eq_of_beq_eq_true h5, Nat.eq_of_beq_eq_true h6, Nat.eq_of_beq_eq_true h7, Nat.eq_of_beq_eq_true h8, h9, h10⟩
theorem mulS_nil_mono {α : Type} {N : Nat} (p_0 : Int) (p_1_n : Nat) (p_1_l : Nat) (p_1_c : Nat) (a1_0 : Int) (a1_1_n : Nat) (a1_1_l : Nat) (a1_1_c : Nat) (h0_n : Nat) (h0 : Nat → Int) (h1_n : Nat) (h1 : Nat → Int) (k0 : Int → Int → Option α) (k1 : Int → Int → List Int → Option α) (k2 k3 : Int → Nat → Nat → Nat → Int → List Int → Option α) {r : α} (h : mulS_nil (none : Option α) N p_0 p_1_n p_1_l p_1_c a1_0 a1_1_n a1_1_l a1_1_c h0_n h0 h1_n h1 k0 = some r) : s_MultiplyLaurents none N p_0 p_1_n p_1_l p_1_c a1_0 a1_1_n a1_1_l a1_1_c h0_n h0 h1_n h1 k0 k1 k2 k3 = some r := by
  unfold mulS_nil at h
  cases hg : mulG N p_0 p_1_n p_1_l p_1_c a1_1_n a1_1_l a1_1_c h0_n h1_n with
  | false => rw [hg] at h; cases h
  | true =>
    rw [hg, cond_true] at h
    obtain ⟨g1, g2, g3, g4, g5, g6, g7, g8, g9, g10⟩ := mulG_spec hg
    subst g3 g4 g5 g6 g7 g8
    obtain ⟨R, r1, r2⟩ := mul_both (none : Option α) g1 g9 g10 h0 h1 p_0 a1_0 g2
    cases R with
    | inl c =>
      have e := (r1 c rfl).1
      rw [e] at h ⊢
      exact h
    | inr V =>
      have e := (r2 V rfl).2.1
      rw [e] at h ⊢
      cases h
theorem mulS_sl_mono {α : Type} {N : Nat} (p_0 : Int) (p_1_n : Nat) (p_1_l : Nat) (p_1_c : Nat) (a1_0 : Int) (a1_1_n : Nat) (a1_1_l : Nat) (a1_1_c : Nat) (h0_n : Nat) (h0 : Nat → Int) (h1_n : Nat) (h1 : Nat → Int) (k0 : Int → Int → Option α) (k1 : Int → Int → List Int → Option α) (k2 k3 : Int → Nat → Nat → Nat → Int → List Int → Option α) {r : α} (h : mulS_sl (none : Option α) N p_0 p_1_n p_1_l p_1_c a1_0 a1_1_n a1_1_l a1_1_c h0_n h0 h1_n h1 k3 = some r) : s_MultiplyLaurents none N p_0 p_1_n p_1_l p_1_c a1_0 a1_1_n a1_1_l a1_1_c h0_n h0 h1_n h1 k0 k1 k2 k3 = some r := by
  unfold mulS_sl at h
  cases hg : mulG N p_0 p_1_n p_1_l p_1_c a1_1_n a1_1_l a1_1_c h0_n h1_n with
  | false => rw [hg] at h; cases h
  | true =>
    rw [hg, cond_true] at h
    obtain ⟨g1, g2, g3, g4, g5, g6, g7, g8, g9, g10⟩ := mulG_spec hg
    subst g3 g4 g5 g6 g7 g8
    obtain ⟨R, r1, r2⟩ := mul_both (none : Option α) g1 g9 g10 h0 h1 p_0 a1_0 g2
    cases R with
    | inl c =>
      have e := (r1 c rfl).1
      rw [e] at h ⊢
      cases h
    | inr V =>
      have e := (r2 V rfl).2.1
      rw [e] at h ⊢
      exact h
theorem mulI_nil_mono {α : Type} {N : Nat} (p_0 : Int) (p_1_n : Nat) (p_1_l : Nat) (p_1_c : Nat) (a1_0 : Int) (a1_1_n : Nat) (a1_1_l : Nat) (a1_1_c : Nat) (h0_n : Nat) (h0 : Nat → Int) (h1_n : Nat) (h1 : Nat → Int) (k0 : Int → Int → Option α) (k1 : Int → Nat → Nat → Nat → Int → List Int → Option α) {r : α} (h : mulI_nil (none : Option α) N p_0 p_1_n p_1_l p_1_c a1_0 a1_1_n a1_1_l a1_1_c h0_n h0 h1_n h1 k0 = some r) : i_MultiplyLaurents none N p_0 p_1_n p_1_l p_1_c a1_0 a1_1_n a1_1_l a1_1_c h0_n h0 h1_n h1 k0 k1 = some r := by
  unfold mulI_nil at h
  cases hg : mulG N p_0 p_1_n p_1_l p_1_c a1_1_n a1_1_l a1_1_c h0_n h1_n with
  | false => rw [hg] at h; cases h
  | true =>
    rw [hg, cond_true] at h
    obtain ⟨g1, g2, g3, g4, g5, g6, g7, g8, g9, g10⟩ := mulG_spec hg
    subst g3 g4 g5 g6 g7 g8
    obtain ⟨R, r1, r2⟩ := mul_both (none : Option α) g1 g9 g10 h0 h1 p_0 a1_0 g2
    cases R with
    | inl c =>
      have e := (r1 c rfl).2
      rw [e] at h ⊢
      exact h
    | inr V =>
      have e := (r2 V rfl).2.2
      rw [e] at h ⊢
      cases h
theorem mulI_sl_mono {α : Type} {N : Nat} (p_0 : Int) (p_1_n : Nat) (p_1_l : Nat) (p_1_c : Nat) (a1_0 : Int) (a1_1_n : Nat) (a1_1_l : Nat) (a1_1_c : Nat) (h0_n : Nat) (h0 : Nat → Int) (h1_n : Nat) (h1 : Nat → Int) (k0 : Int → Int → Option α) (k1 : Int → Nat → Nat → Nat → Int → List Int → Option α) {r : α} (h : mulI_sl (none : Option α) N p_0 p_1_n p_1_l p_1_c a1_0 a1_1_n a1_1_l a1_1_c h0_n h0 h1_n h1 k1 = some r) : i_MultiplyLaurents none N p_0 p_1_n p_1_l p_1_c a1_0 a1_1_n a1_1_l a1_1_c h0_n h0 h1_n h1 k0 k1 = some r := by
  unfold mulI_sl at h
  cases hg : mulG N p_0 p_1_n p_1_l p_1_c a1_1_n a1_1_l a1_1_c h0_n h1_n with
  | false => rw [hg] at h; cases h
  | true =>
    rw [hg, cond_true] at h
    obtain ⟨g1, g2, g3, g4, g5, g6, g7, g8, g9, g10⟩ := mulG_spec hg
    subst g3 g4 g5 g6 g7 g8
    obtain ⟨R, r1, r2⟩ := mul_both (none : Option α) g1 g9 g10 h0 h1 p_0 a1_0 g2
    cases R with
    | inl c =>
      have e := (r1 c rfl).2
      rw [e] at h ⊢
      cases h
    | inr V =>
      have e := (r2 V rfl).2.2
      rw [e] at h ⊢
      exact h
def oldS (α : Type) (N : Nat) : Sum α := funOr 2 s_MultiplyLaurents_a (fun l K => match l with
    | [.i p_0, .n p_1_n, .n p_1_l, .n p_1_c, .i a1_0, .n a1_1_n, .n a1_1_l, .n a1_1_c, .n h0_n, .f h0, .n h1_n, .f h1] => s_MultiplyLaurents none N p_0 p_1_n p_1_l p_1_c a1_0 a1_1_n a1_1_l a1_1_c h0_n h0 h1_n h1 (fun r_0_0_ r_1_ => retK (buildS s_MultiplyLaurents_r0 [.i r_0_0_, .i r_1_, .n h0_n, .f h0, .n h1_n, .f h1]) K) (fun r_0_0_ r_1_ h2_ => retK (buildS s_MultiplyLaurents_r1 [.i r_0_0_, .i r_1_, .n h0_n, .f h0, .n h1_n, .f h1, .l h2_]) K) (fun r_0_0_ r_0_1_n_ r_0_1_l_ r_0_1_c_ r_1_ h2_ => retK (buildS s_MultiplyLaurents_r2 [.i r_0_0_, .n r_0_1_n_, .n r_0_1_l_, .n r_0_1_c_, .i r_1_, .n h0_n, .f h0, .n h1_n, .f h1, .l h2_]) K) (fun r_0_0_ r_0_1_n_ r_0_1_l_ r_0_1_c_ r_1_ h2_ => retK (buildS s_MultiplyLaurents_r3 [.i r_0_0_, .n r_0_1_n_, .n r_0_1_l_, .n r_0_1_c_, .i r_1_, .n h0_n, .f h0, .n h1_n, .f h1, .l h2_]) K)
    | _ => none) ((E_s_l04Told_s3 α N).sums 5)
def oldI (α : Type) (N : Nat) : Sum α := funOr 2 i_MultiplyLaurents_a (fun l K => match l with
    | [.i p_0, .n p_1_n, .n p_1_l, .n p_1_c, .i a1_0, .n a1_1_n, .n a1_1_l, .n a1_1_c, .n h0_n, .f h0, .n h1_n, .f h1] => i_MultiplyLaurents none N p_0 p_1_n p_1_l p_1_c a1_0 a1_1_n a1_1_l a1_1_c h0_n h0 h1_n h1 (fun r_0_0_ r_1_ => retK (buildS i_MultiplyLaurents_r0 [.i r_0_0_, .i r_1_, .n h0_n, .f h0, .n h1_n, .f h1]) K) (fun r_0_0_ r_0_1_n_ r_0_1_l_ r_0_1_c_ r_1_ h2_ => retK (buildS i_MultiplyLaurents_r1 [.i r_0_0_, .n r_0_1_n_, .n r_0_1_l_, .n r_0_1_c_, .i r_1_, .n h0_n, .f h0, .n h1_n, .f h1, .l h2_]) K)
    | _ => none) ((E_i_limited α N).sums 7)
theorem oldS_eq {α : Type} (N : Nat) : (E_w_eqLaurent_s7 α N).sums 5 = some (true, oldS α N) := by kernel_rfl
theorem oldI_eq {α : Type} (N : Nat) : (E_w_eqLaurent_s7 α N).sums 7 = some (true, oldI α N) := by kernel_rfl
def E_mulS_nil (α : Type) (N : Nat) : Env α := (E_w_eqLaurent_s7 α N).addSum 5 true (funOr 2 s_MultiplyLaurents_a (fun l K => match l with
    | [.i p_0, .n p_1_n, .n p_1_l, .n p_1_c, .i a1_0, .n a1_1_n, .n a1_1_l, .n a1_1_c, .n h0_n, .f h0, .n h1_n, .f h1] => mulS_nil none N p_0 p_1_n p_1_l p_1_c a1_0 a1_1_n a1_1_l a1_1_c h0_n h0 h1_n h1 (fun r_0_0_ r_1_ => retK (buildS s_MultiplyLaurents_r0 [.i r_0_0_, .i r_1_, .n h0_n, .f h0, .n h1_n, .f h1]) K)
    | _ => none) none)
theorem E_mulS_nil_ok {α : Type} (N : Nat) : EnvOk Try.prog (E_mulS_nil α N) := (E_w_eqLaurent_s7_ok N).addSum fun ro' args h K r he => by
  unfold funOr at he
  split at he
  · rename_i l hl
    refine (E_w_eqLaurent_s7_ok N).sums 5 true _ (oldS_eq N) ro' args h K r ?_
    unfold oldS funOr
    rw [hl]
    dsimp only at he
    split at he
    · exact mulS_nil_mono _ _ _ _ _ _ _ _ _ _ _ _ _ _ _ _ he
    · cases he
  · cases he
theorem oldI_nil {α : Type} (N : Nat) : (E_mulS_nil α N).sums 7 = some (true, oldI α N) := oldI_eq N
def E_mulI_nil (α : Type) (N : Nat) : Env α := (E_mulS_nil α N).addSum 7 true (funOr 2 i_MultiplyLaurents_a (fun l K => match l with
    | [.i p_0, .n p_1_n, .n p_1_l, .n p_1_c, .i a1_0, .n a1_1_n, .n a1_1_l, .n a1_1_c, .n h0_n, .f h0, .n h1_n, .f h1] => mulI_nil none N p_0 p_1_n p_1_l p_1_c a1_0 a1_1_n a1_1_l a1_1_c h0_n h0 h1_n h1 (fun r_0_0_ r_1_ => retK (buildS i_MultiplyLaurents_r0 [.i r_0_0_, .i r_1_, .n h0_n, .f h0, .n h1_n, .f h1]) K)
    | _ => none) none)
theorem E_mulI_nil_ok {α : Type} (N : Nat) : EnvOk Try.prog (E_mulI_nil α N) := (E_mulS_nil_ok N).addSum fun ro' args h K r he => by
  unfold funOr at he
  split at he
  · rename_i l hl
    refine (E_mulS_nil_ok N).sums 7 true _ (oldI_nil N) ro' args h K r ?_
    unfold oldI funOr
    rw [hl]
    dsimp only at he
    split at he
    · exact mulI_nil_mono _ _ _ _ _ _ _ _ _ _ _ _ _ _ he
    · cases he
  · cases he
def E_mulS_sl (α : Type) (N : Nat) : Env α := (E_w_eqLaurent_s7 α N).addSum 5 true (funOr 2 s_MultiplyLaurents_a (fun l K => match l with
    | [.i p_0, .n p_1_n, .n p_1_l, .n p_1_c, .i a1_0, .n a1_1_n, .n a1_1_l, .n a1_1_c, .n h0_n, .f h0, .n h1_n, .f h1] => mulS_sl none N p_0 p_1_n p_1_l p_1_c a1_0 a1_1_n a1_1_l a1_1_c h0_n h0 h1_n h1 (fun r_0_0_ r_0_1_n_ r_0_1_l_ r_0_1_c_ r_1_ h2_ => retK (buildS s_MultiplyLaurents_r3 [.i r_0_0_, .n r_0_1_n_, .n r_0_1_l_, .n r_0_1_c_, .i r_1_, .n h0_n, .f h0, .n h1_n, .f h1, .l h2_]) K)
    | _ => none) none)
theorem E_mulS_sl_ok {α : Type} (N : Nat) : EnvOk Try.prog (E_mulS_sl α N) := (E_w_eqLaurent_s7_ok N).addSum fun ro' args h K r he => by
  unfold funOr at he
  split at he
  · rename_i l hl
    refine (E_w_eqLaurent_s7_ok N).sums 5 true _ (oldS_eq N) ro' args h K r ?_
    unfold oldS funOr
    rw [hl]
    dsimp only at he
    split at he
    · exact mulS_sl_mono _ _ _ _ _ _ _ _ _ _ _ _ _ _ _ _ he
    · cases he
  · cases he
theorem oldI_sl {α : Type} (N : Nat) : (E_mulS_sl α N).sums 7 = some (true, oldI α N) := oldI_eq N
def E_mulI_sl (α : Type) (N : Nat) : Env α := (E_mulS_sl α N).addSum 7 true (funOr 2 i_MultiplyLaurents_a (fun l K => match l with
    | [.i p_0, .n p_1_n, .n p_1_l, .n p_1_c, .i a1_0, .n a1_1_n, .n a1_1_l, .n a1_1_c, .n h0_n, .f h0, .n h1_n, .f h1] => mulI_sl none N p_0 p_1_n p_1_l p_1_c a1_0 a1_1_n a1_1_l a1_1_c h0_n h0 h1_n h1 (fun r_0_0_ r_0_1_n_ r_0_1_l_ r_0_1_c_ r_1_ h2_ => retK (buildS i_MultiplyLaurents_r1 [.i r_0_0_, .n r_0_1_n_, .n r_0_1_l_, .n r_0_1_c_, .i r_1_, .n h0_n, .f h0, .n h1_n, .f h1, .l h2_]) K)
    | _ => none) none)
theorem E_mulI_sl_ok {α : Type} (N : Nat) : EnvOk Try.prog (E_mulI_sl α N) := (E_mulS_sl_ok N).addSum fun ro' args h K r he => by
  unfold funOr at he
  split at he
  · rename_i l hl
    refine (E_mulS_sl_ok N).sums 7 true _ (oldI_sl N) ro' args h K r ?_
    unfold oldI funOr
    rw [hl]
    dsimp only at he
    split at he
    · exact mulI_sl_mono _ _ _ _ _ _ _ _ _ _ _ _ _ _ he
    · cases he
  · cases he
/-- laws.FnExactMultiplyLaurents -/
def w_FnExactMultiplyLaurents_a : SPat := ⟨[.agg [.vals [.int .i64, .sliceV 0 0 0 1 false]], .agg [.vals [.int .i64, .sliceV 1 0 0 1 false]]], [[.intsV .i64], [.intsV .i64]]⟩
def w_FnExactMultiplyLaurents_r0 : SPat := ⟨[.bool], [[.intsV .i64], [.intsV .i64]]⟩
theorem w_MulNil_run {α : Type} (N : Nat) (aP_0 : Int) (aP_1_n : Nat) (aP_1_l : Nat) (aP_1_c : Nat) (a1_0 : Int) (a1_1_n : Nat) (a1_1_l : Nat) (a1_1_c : Nat) (h0_n : Nat) (h0 : Nat → Int) (h1_n : Nat) (h1 : Nat → Int) (K : AV → Heap → Option α) :
    callK Try.prog (E_mulI_nil α N) 1 3 2 (buildS w_FnExactMultiplyLaurents_a [.i aP_0, .n aP_1_n, .n aP_1_l, .n aP_1_c, .i a1_0, .n a1_1_n, .n a1_1_l, .n a1_1_c, .n h0_n, .f h0, .n h1_n, .f h1]).t (buildS w_FnExactMultiplyLaurents_a [.i aP_0, .n aP_1_n, .n aP_1_l, .n aP_1_c, .i a1_0, .n a1_1_n, .n a1_1_l, .n a1_1_c, .n h0_n, .f h0, .n h1_n, .f h1]).h K = w_MulNil none N aP_0 aP_1_n aP_1_l aP_1_c a1_0 a1_1_n a1_1_l a1_1_c h0_n h0 h1_n h1 (fun r__ => retK (buildS w_FnExactMultiplyLaurents_r0 [.b r__, .n h0_n, .f h0, .n h1_n, .f h1]) K) := by kernel_rfl
theorem w_MulSl_run {α : Type} (N : Nat) (aP_0 : Int) (aP_1_n : Nat) (aP_1_l : Nat) (aP_1_c : Nat) (a1_0 : Int) (a1_1_n : Nat) (a1_1_l : Nat) (a1_1_c : Nat) (h0_n : Nat) (h0 : Nat → Int) (h1_n : Nat) (h1 : Nat → Int) (K : AV → Heap → Option α) :
    callK Try.prog (E_mulI_sl α N) 1 3 2 (buildS w_FnExactMultiplyLaurents_a [.i aP_0, .n aP_1_n, .n aP_1_l, .n aP_1_c, .i a1_0, .n a1_1_n, .n a1_1_l, .n a1_1_c, .n h0_n, .f h0, .n h1_n, .f h1]).t (buildS w_FnExactMultiplyLaurents_a [.i aP_0, .n aP_1_n, .n aP_1_l, .n aP_1_c, .i a1_0, .n a1_1_n, .n a1_1_l, .n a1_1_c, .n h0_n, .f h0, .n h1_n, .f h1]).h K = w_MulSl none N aP_0 aP_1_n aP_1_l aP_1_c a1_0 a1_1_n a1_1_l a1_1_c h0_n h0 h1_n h1 (fun r__ => retK (buildS w_FnExactMultiplyLaurents_r0 [.b r__, .n h0_n, .f h0, .n h1_n, .f h1]) K) := by kernel_rfl
end Go.AM
