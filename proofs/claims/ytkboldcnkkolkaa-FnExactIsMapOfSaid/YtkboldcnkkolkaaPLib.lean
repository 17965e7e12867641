/- A part of a proof about the given program: an abstract machine, what the given functions come to, and plain laws. -/
import Derived.Test.YtkboldcnkkolkaaAMNum
namespace Go.AM
section guards
variable {β : Type} {x y : β}
theorem c_and (a b : Bool) : cond (a && b) x y = cond a (cond b x y) y := by cases a <;> rfl
theorem c_or (a b : Bool) : cond (a || b) x y = cond a x (cond b x y) := by cases a <;> rfl
theorem c_not (a : Bool) : cond (!a) x y = cond a y x := by cases a <;> rfl
theorem c_lt {a b : Int} (h : a < b) : cond (decide (a < b)) x y = x := by rw [decide_eq_true h]; rfl
theorem c_nlt {a b : Int} (h : b ≤ a) : cond (decide (a < b)) x y = y := by rw [decide_eq_false (by omega)]; rfl
theorem c_le {a b : Int} (h : a ≤ b) : cond (decide (a ≤ b)) x y = x := by rw [decide_eq_true h]; rfl
theorem c_nle {a b : Int} (h : b < a) : cond (decide (a ≤ b)) x y = y := by rw [decide_eq_false (by omega)]; rfl
theorem c_ne {a b : Int} (h : a ≠ b) : cond (a != b) x y = x := by rw [show (a != b) = true by simpa using h]; rfl
theorem c_nne {a b : Int} (h : a = b) : cond (a != b) x y = y := by rw [show (a != b) = false by simpa using h]; rfl
theorem c_eq {a b : Int} (h : a = b) : cond (a == b) x y = x := by rw [show (a == b) = true by simpa using h]; rfl
theorem c_neq {a b : Int} (h : a ≠ b) : cond (a == b) x y = y := by rw [show (a == b) = false by simpa using h]; rfl
theorem c_blt {a b : Nat} (h : a < b) : cond (a.blt b) x y = x := by rw [show a.blt b = true by rwa [Nat.blt_eq]]; rfl
theorem c_nblt {a b : Nat} (h : b ≤ a) : cond (a.blt b) x y = y := by rw [show a.blt b = false by rw [← Bool.not_eq_true, Nat.blt_eq]; omega]; rfl
theorem c_ble {a b : Nat} (h : a ≤ b) : cond (a.ble b) x y = x := by rw [show a.ble b = true by rwa [Nat.ble_eq]]; rfl
theorem c_nble {a b : Nat} (h : b < a) : cond (a.ble b) x y = y := by rw [show a.ble b = false by rw [← Bool.not_eq_true, Nat.ble_eq]; omega]; rfl
theorem c_beq {a b : Nat} (h : a = b) : cond (a.beq b) x y = x := by rw [show a.beq b = true by subst h; exact Nat.beq_refl a]; rfl
theorem c_nbeq {a b : Nat} (h : a ≠ b) : cond (a.beq b) x y = y := by rw [show a.beq b = false by rw [← Bool.not_eq_true]; exact fun e => h (Nat.eq_of_beq_eq_true e)]; rfl
theorem fits64 {x : Int} (h : -9223372036854775808 ≤ x ∧ x ≤ 9223372036854775807) : fits .i64 x = true := by rw [fits_iff]; exact h
theorem c_fits {a : Int} (h : -9223372036854775808 ≤ a ∧ a ≤ 9223372036854775807) : cond (fits .i64 a) x y = x := by rw [fits64 h]; rfl
theorem c_true : cond true x y = x := rfl
theorem c_false : cond false x y = y := rfl
theorem c_same (b : Bool) : cond b x x = x := by cases b <;> rfl
/-- A test with the same text in both arms. -/
theorem c_app {γ : Type} (f : β → γ) (b : Bool) : f (cond b x y) = cond b (f x) (f y) := by cases b <;> rfl
theorem c_if (b : Bool) : cond b x y = if b = true then x else y := by cases b <;> rfl
theorem c_dec (p : Prop) [Decidable p] : cond (decide p) x y = if p then x else y := by by_cases h : p <;> simp [h]
end guards

section upd
variable {β : Type}
theorem upd_at (f : Nat → β) (i : Nat) (v : β) (j : Nat) : upd f i v j = if j = i then v else f j := by
  unfold upd
  by_cases h : j = i
  · subst h; rw [Nat.beq_refl]; simp
  · rw [show Nat.beq j i = false by rw [← Bool.not_eq_true]; exact fun e => h (Nat.eq_of_beq_eq_true e), if_neg h]; rfl
theorem upd_eq (f : Nat → β) (i : Nat) (v : β) : upd f i v = fun j => if j = i then v else f j := funext (upd_at f i v)
end upd

section loops
variable {β σ ρ : Type}
/-- So many steps, from a number on. -/
def iter (f : Nat → σ → σ) : Nat → Nat → σ → σ
  | 0, _, s => s
  | d + 1, i, s => iter f d (i + 1) (f i s)

theorem iter_succ (f : Nat → σ → σ) : ∀ (d i : Nat) (s : σ), iter f (d + 1) i s = f (i + d) (iter f d i s) := by
  intro d
  induction d with
  | zero => intro i s; rfl
  | succ d ih => intro i s; rw [iter, ih, iter]; congr 1; omega

/-- What holds along the way. -/
theorem iter_inv {f : Nat → σ → σ} {I : Nat → σ → Prop} {n : Nat} (h : ∀ i s, i < n → I i s → I (i + 1) (f i s)) : ∀ (d i : Nat) (s : σ), i + d ≤ n → I i s → I (i + d) (iter f d i s) := by
  intro d
  induction d with
  | zero => intro i s _ h0; exact h0
  | succ d ih =>
    intro i s hn h0
    have := ih (i + 1) (f i s) (by omega) (h i s (by omega) h0)
    rw [show i + 1 + d = i + (d + 1) by omega] at this
    exact this

/-- A loop that counts up to a number and goes on. -/
theorem up_to {L : Nat → Nat → σ → β} {n : Nat} {out : σ → β} {f : Nat → σ → σ} {I : Nat → σ → Prop}
    (hs : ∀ m i s, i < n → I i s → L (m + 1) i s = L m (i + 1) (f i s) ∧ I (i + 1) (f i s)) (he : ∀ m s, I n s → L (m + 1) n s = out s) :
    ∀ (d m i : Nat) (s : σ), i + d = n → d < m → I i s → L m i s = out (iter f d i s) := by
  intro d
  induction d with
  | zero =>
    intro m i s hi hm h0
    obtain ⟨m, rfl⟩ : ∃ m', m = m' + 1 := ⟨m - 1, by omega⟩
    have : i = n := by omega
    subst this
    exact he m s h0
  | succ d ih =>
    intro m i s hi hm h0
    obtain ⟨m, rfl⟩ : ∃ m', m = m' + 1 := ⟨m - 1, by omega⟩
    obtain ⟨h1, h2⟩ := hs m i s (by omega) h0
    rw [h1]
    exact ih m (i + 1) (f i s) (by omega) (by omega) h2

/-- A loop that counts up to a number comes to an end. -/
theorem up_to_ex {L : Nat → Nat → σ → β} {n : Nat} {out : σ → β} {I : Nat → σ → Prop}
    (hs : ∀ i s, i < n → I i s → ∃ s', (∀ m, L (m + 1) i s = L m (i + 1) s') ∧ I (i + 1) s') (he : ∀ m s, I n s → L (m + 1) n s = out s) :
    ∀ (d m i : Nat) (s : σ), i + d = n → d < m → I i s → ∃ s', L m i s = out s' ∧ I n s' := by
  intro d
  induction d with
  | zero =>
    intro m i s hi hm h0
    obtain ⟨m, rfl⟩ : ∃ m', m = m' + 1 := ⟨m - 1, by omega⟩
    have : i = n := by omega
    subst this
    exact ⟨s, he m s h0, h0⟩
  | succ d ih =>
    intro m i s hi hm h0
    obtain ⟨m, rfl⟩ : ∃ m', m = m' + 1 := ⟨m - 1, by omega⟩
    obtain ⟨s', h1, h2⟩ := hs i s (by omega) h0
    rw [h1]
    exact ih m (i + 1) s' (by omega) (by omega) h2

/-- A loop that counts up to a number, or is left before. -/
def iterE (f : Nat → σ → σ ⊕ ρ) : Nat → Nat → σ → σ ⊕ ρ
  | 0, _, s => .inl s
  | d + 1, i, s => match f i s with
    | .inl s' => iterE f d (i + 1) s'
    | .inr r => .inr r
def orOut (out : σ → β) (ex : ρ → β) : σ ⊕ ρ → β
  | .inl s => out s
  | .inr r => ex r
theorem up_to_E {L : Nat → Nat → σ → β} {n : Nat} {out : σ → β} {ex : ρ → β} {f : Nat → σ → σ ⊕ ρ} {I : Nat → σ → Prop}
    (hs : ∀ m i s, i < n → I i s → (∃ s', f i s = .inl s' ∧ L (m + 1) i s = L m (i + 1) s' ∧ I (i + 1) s') ∨ ∃ r, f i s = .inr r ∧ L (m + 1) i s = ex r) (he : ∀ m s, I n s → L (m + 1) n s = out s) :
    ∀ (d m i : Nat) (s : σ), i + d = n → d < m → I i s → L m i s = orOut out ex (iterE f d i s) := by
  intro d
  induction d with
  | zero =>
    intro m i s hi hm h0
    obtain ⟨m, rfl⟩ : ∃ m', m = m' + 1 := ⟨m - 1, by omega⟩
    have : i = n := by omega
    subst this
    exact he m s h0
  | succ d ih =>
    intro m i s hi hm h0
    obtain ⟨m, rfl⟩ : ∃ m', m = m' + 1 := ⟨m - 1, by omega⟩
    rcases hs m i s (by omega) h0 with ⟨s', h1, h2, h3⟩ | ⟨r, h1, h2⟩
    · rw [h2, iterE, h1]
      exact ih m (i + 1) s' (by omega) (by omega) h3
    · rw [h2, iterE, h1]; rfl

/-- A test for all numbers of a range. -/
def allFrom (p : Nat → Bool) : Nat → Nat → Bool
  | 0, _ => true
  | d + 1, i => p i && allFrom p d (i + 1)
theorem allFrom_iff {p : Nat → Bool} : ∀ (d i : Nat), allFrom p d i = true ↔ ∀ j, i ≤ j → j < i + d → p j = true := by
  intro d
  induction d with
  | zero => intro i; exact ⟨fun _ j h1 h2 => by omega, fun _ => rfl⟩
  | succ d ih =>
    intro i
    rw [allFrom, Bool.and_eq_true, ih]
    refine ⟨fun ⟨h1, h2⟩ j h3 h4 => ?_, fun h => ⟨h i (by omega) (by omega), fun j h3 h4 => h j (by omega) (by omega)⟩⟩
    by_cases e : j = i
    · subst e; exact h1
    · exact h2 j (by omega) (by omega)
theorem up_to_all {L : Nat → Nat → β} {n : Nat} {kt kf : β} {p : Nat → Bool}
    (hs : ∀ m i, i < n → L (m + 1) i = cond (p i) (L m (i + 1)) kf) (he : ∀ m, L (m + 1) n = kt) :
    ∀ (d m i : Nat), i + d = n → d < m → L m i = cond (allFrom p d i) kt kf := by
  intro d
  induction d with
  | zero =>
    intro m i hi hm
    obtain ⟨m, rfl⟩ : ∃ m', m = m' + 1 := ⟨m - 1, by omega⟩
    have : i = n := by omega
    subst this
    exact he m
  | succ d ih =>
    intro m i hi hm
    obtain ⟨m, rfl⟩ : ∃ m', m = m' + 1 := ⟨m - 1, by omega⟩
    rw [hs m i (by omega), allFrom]
    cases p i with
    | false => rfl
    | true => exact ih m (i + 1) (by omega) (by omega)
/-- Cells that are set one after the other. -/
theorem iter_set {γ : Type} (g : Nat → γ) : ∀ (d i : Nat) (h : Nat → γ), iter (fun i h => upd h i (g i)) d i h = fun j => if i ≤ j ∧ j < i + d then g j else h j := by
  intro d
  induction d with
  | zero => intro i h; funext j; rw [if_neg (by omega)]; rfl
  | succ d ih =>
    intro i h
    rw [iter, ih]
    funext j
    simp only [upd_at]
    by_cases e : j = i
    · subst e; rw [if_neg (by omega), if_pos (by omega)]; simp
    · by_cases e2 : i + 1 ≤ j ∧ j < i + 1 + d
      · rw [if_pos e2, if_pos (by omega)]
      · rw [if_neg e2, if_neg e, if_neg (by omega)]
end loops
end Go.AM
