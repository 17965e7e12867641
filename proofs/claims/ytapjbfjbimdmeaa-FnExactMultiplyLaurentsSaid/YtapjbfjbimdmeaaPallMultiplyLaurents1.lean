/- A part of a proof about the given program: an abstract machine, what the given functions come to, and plain laws. -/
import Derived.Test.YtapjbfjbimdmeaaMachB
import Derived.Test.YtapjbfjbimdmeaaDallMultiplyLaurents1
import Derived.Test.YtapjbfjbimdmeaaDallMultiplyLaurents2
set_option linter.unusedVariables false
set_option linter.unusedSimpArgs false
namespace Go.AM
section guards
variable {β : Type} {x y : β}
theorem c_and (a b : Bool) : cond (a && b) x y = cond a (cond b x y) y := by cases a <;> rfl
theorem c_or (a b : Bool) : cond (a || b) x y = cond a x (cond b x y) := by cases a <;> rfl
theorem c_not (a : Bool) : cond (!a) x y = cond a y x := by cases a <;> rfl
theorem c_lt {a b : Int} (h : a < b) : cond (decide (a < b)) x y = x := by rw [decide_eq_true h]; rfl
theorem c_nlt {a b : Int} (h : b ≤ a) : cond (decide (a < b)) x y = y := by rw [decide_eq_false (by omega)]; rfl
theorem c_le {a b : Int} (h : a ≤ b) : cond (decide (a ≤ b)) x y = x := by rw [decide_eq_true h]; rfl
theorem c_nle {a b : Int} (h : b < a) : cond (decide (a ≤ b)) x y = y := by rw [decide_eq_false (by omega)]; rfl
theorem c_ne {a b : Int} (h : a ≠ b) : cond (a != b) x y = x := by rw [show (a != b) = true by simpa using h]; rfl
theorem c_nne {a b : Int} (h : a = b) : cond (a != b) x y = y := by rw [show (a != b) = false by simpa using h]; rfl
theorem c_eq {a b : Int} (h : a = b) : cond (a == b) x y = x := by rw [show (a == b) = true by simpa using h]; rfl
theorem c_neq {a b : Int} (h : a ≠ b) : cond (a == b) x y = y := by rw [show (a == b) = false by simpa using h]; rfl
theorem c_blt {a b : Nat} (h : a < b) : cond (a.blt b) x y = x := by rw [show a.blt b = true by rwa [Nat.blt_eq]]; rfl
theorem c_nblt {a b : Nat} (h : b ≤ a) : cond (a.blt b) x y = y := by rw [show a.blt b = false by rw [← Bool.not_eq_true, Nat.blt_eq]; omega]; rfl
theorem c_ble {a b : Nat} (h : a ≤ b) : cond (a.ble b) x y = x := by rw [show a.ble b = true by rwa [Nat.ble_eq]]; rfl
theorem c_nble {a b : Nat} (h : b < a) : cond (a.ble b) x y = y := by rw [show a.ble b = false by rw [← Bool.not_eq_true, Nat.ble_eq]; omega]; rfl
theorem c_beq {a b : Nat} (h : a = b) : cond (a.beq b) x y = x := by rw [show a.beq b = true by subst h; exact Nat.beq_refl a]; rfl
theorem c_nbeq {a b : Nat} (h : a ≠ b) : cond (a.beq b) x y = y := by rw [show a.beq b = false by rw [← Bool.not_eq_true]; exact fun e => h (Nat.eq_of_beq_eq_true e)]; rfl
theorem fits64 {x : Int} (h : -9223372036854775808 ≤ x ∧ x ≤ 9223372036854775807) : fits .i64 x = true := by rw [fits_iff]; exact h
theorem c_fits {a : Int} (h : -9223372036854775808 ≤ a ∧ a ≤ 9223372036854775807) : cond (fits .i64 a) x y = x := by rw [fits64 h]; rfl
theorem c_true : cond true x y = x := rfl
theorem c_false : cond false x y = y := rfl
theorem c_same (b : Bool) : cond b x x = x := by cases b <;> rfl
/-- A test with the same text in both arms. -/
theorem c_app {γ : Type} (f : β → γ) (b : Bool) : f (cond b x y) = cond b (f x) (f y) := by cases b <;> rfl
theorem c_if (b : Bool) : cond b x y = if b = true then x else y := by cases b <;> rfl
theorem c_dec (p : Prop) [Decidable p] : cond (decide p) x y = if p then x else y := by by_cases h : p <;> simp [h]
end guards

section upd
variable {β : Type}
theorem upd_at (f : Nat → β) (i : Nat) (v : β) (j : Nat) : upd f i v j = if j = i then v else f j := by
  unfold upd
  by_cases h : j = i
  · subst h; rw [Nat.beq_refl]; simp
  · rw [show Nat.beq j i = false by rw [← Bool.not_eq_true]; exact fun e => h (Nat.eq_of_beq_eq_true e), if_neg h]; rfl
theorem upd_eq (f : Nat → β) (i : Nat) (v : β) : upd f i v = fun j => if j = i then v else f j := funext (upd_at f i v)
end upd

section loops
variable {β σ ρ : Type}
/-- So many steps, from a number on. -/
def iter (f : Nat → σ → σ) : Nat → Nat → σ → σ
  | 0, _, s => s
  | d + 1, i, s => iter f d (i + 1) (f i s)

theorem iter_succ (f : Nat → σ → σ) : ∀ (d i : Nat) (s : σ), iter f (d + 1) i s = f (i + d) (iter f d i s) := by
  intro d
  induction d with
  | zero => intro i s; rfl
  | succ d ih => intro i s; rw [iter, ih, iter]; congr 1; omega

/-- What holds along the way. -/
theorem iter_inv {f : Nat → σ → σ} {I : Nat → σ → Prop} {n : Nat} (h : ∀ i s, i < n → I i s → I (i + 1) (f i s)) : ∀ (d i : Nat) (s : σ), i + d ≤ n → I i s → I (i + d) (iter f d i s) := by
  intro d
  induction d with
  | zero => intro i s _ h0; exact h0
  | succ d ih =>
    intro i s hn h0
    have := ih (i + 1) (f i s) (by omega) (h i s (by omega) h0)
    rw [show i + 1 + d = i + (d + 1) by omega] at this
    exact this

/-- A loop that counts up to a number and goes on. -/
theorem up_to {L : Nat → Nat → σ → β} {n : Nat} {out : σ → β} {f : Nat → σ → σ} {I : Nat → σ → Prop}
    (hs : ∀ m i s, i < n → I i s → L (m + 1) i s = L m (i + 1) (f i s) ∧ I (i + 1) (f i s)) (he : ∀ m s, I n s → L (m + 1) n s = out s) :
    ∀ (d m i : Nat) (s : σ), i + d = n → d < m → I i s → L m i s = out (iter f d i s) := by
  intro d
  induction d with
  | zero =>
    intro m i s hi hm h0
    obtain ⟨m, rfl⟩ : ∃ m', m = m' + 1 := ⟨m - 1, by omega⟩
    have : i = n := by omega
    subst this
    exact he m s h0
  | succ d ih =>
    intro m i s hi hm h0
    obtain ⟨m, rfl⟩ : ∃ m', m = m' + 1 := ⟨m - 1, by omega⟩
    obtain ⟨h1, h2⟩ := hs m i s (by omega) h0
    rw [h1]
    exact ih m (i + 1) (f i s) (by omega) (by omega) h2

/-- A loop that counts up to a number comes to an end. -/
theorem up_to_ex {L : Nat → Nat → σ → β} {n : Nat} {out : σ → β} {I : Nat → σ → Prop}
    (hs : ∀ i s, i < n → I i s → ∃ s', (∀ m, L (m + 1) i s = L m (i + 1) s') ∧ I (i + 1) s') (he : ∀ m s, I n s → L (m + 1) n s = out s) :
    ∀ (d m i : Nat) (s : σ), i + d = n → d < m → I i s → ∃ s', L m i s = out s' ∧ I n s' := by
  intro d
  induction d with
  | zero =>
    intro m i s hi hm h0
    obtain ⟨m, rfl⟩ : ∃ m', m = m' + 1 := ⟨m - 1, by omega⟩
    have : i = n := by omega
    subst this
    exact ⟨s, he m s h0, h0⟩
  | succ d ih =>
    intro m i s hi hm h0
    obtain ⟨m, rfl⟩ : ∃ m', m = m' + 1 := ⟨m - 1, by omega⟩
    obtain ⟨s', h1, h2⟩ := hs i s (by omega) h0
    rw [h1]
    exact ih m (i + 1) s' (by omega) (by omega) h2

/-- A loop that counts up to a number, or is left before. -/
def iterE (f : Nat → σ → σ ⊕ ρ) : Nat → Nat → σ → σ ⊕ ρ
  | 0, _, s => .inl s
  | d + 1, i, s => match f i s with
    | .inl s' => iterE f d (i + 1) s'
    | .inr r => .inr r
def orOut (out : σ → β) (ex : ρ → β) : σ ⊕ ρ → β
  | .inl s => out s
  | .inr r => ex r
theorem up_to_E {L : Nat → Nat → σ → β} {n : Nat} {out : σ → β} {ex : ρ → β} {f : Nat → σ → σ ⊕ ρ} {I : Nat → σ → Prop}
    (hs : ∀ m i s, i < n → I i s → (∃ s', f i s = .inl s' ∧ L (m + 1) i s = L m (i + 1) s' ∧ I (i + 1) s') ∨ ∃ r, f i s = .inr r ∧ L (m + 1) i s = ex r) (he : ∀ m s, I n s → L (m + 1) n s = out s) :
    ∀ (d m i : Nat) (s : σ), i + d = n → d < m → I i s → L m i s = orOut out ex (iterE f d i s) := by
  intro d
  induction d with
  | zero =>
    intro m i s hi hm h0
    obtain ⟨m, rfl⟩ : ∃ m', m = m' + 1 := ⟨m - 1, by omega⟩
    have : i = n := by omega
    subst this
    exact he m s h0
  | succ d ih =>
    intro m i s hi hm h0
    obtain ⟨m, rfl⟩ : ∃ m', m = m' + 1 := ⟨m - 1, by omega⟩
    rcases hs m i s (by omega) h0 with ⟨s', h1, h2, h3⟩ | ⟨r, h1, h2⟩
    · rw [h2, iterE, h1]
      exact ih m (i + 1) s' (by omega) (by omega) h3
    · rw [h2, iterE, h1]; rfl

/-- A test for all numbers of a range. -/
def allFrom (p : Nat → Bool) : Nat → Nat → Bool
  | 0, _ => true
  | d + 1, i => p i && allFrom p d (i + 1)
theorem allFrom_iff {p : Nat → Bool} : ∀ (d i : Nat), allFrom p d i = true ↔ ∀ j, i ≤ j → j < i + d → p j = true := by
  intro d
  induction d with
  | zero => intro i; exact ⟨fun _ j h1 h2 => by omega, fun _ => rfl⟩
  | succ d ih =>
    intro i
    rw [allFrom, Bool.and_eq_true, ih]
    refine ⟨fun ⟨h1, h2⟩ j h3 h4 => ?_, fun h => ⟨h i (by omega) (by omega), fun j h3 h4 => h j (by omega) (by omega)⟩⟩
    by_cases e : j = i
    · subst e; exact h1
    · exact h2 j (by omega) (by omega)
theorem up_to_all {L : Nat → Nat → β} {n : Nat} {kt kf : β} {p : Nat → Bool}
    (hs : ∀ m i, i < n → L (m + 1) i = cond (p i) (L m (i + 1)) kf) (he : ∀ m, L (m + 1) n = kt) :
    ∀ (d m i : Nat), i + d = n → d < m → L m i = cond (allFrom p d i) kt kf := by
  intro d
  induction d with
  | zero =>
    intro m i hi hm
    obtain ⟨m, rfl⟩ : ∃ m', m = m' + 1 := ⟨m - 1, by omega⟩
    have : i = n := by omega
    subst this
    exact he m
  | succ d ih =>
    intro m i hi hm
    obtain ⟨m, rfl⟩ : ∃ m', m = m' + 1 := ⟨m - 1, by omega⟩
    rw [hs m i (by omega), allFrom]
    cases p i with
    | false => rfl
    | true => exact ih m (i + 1) (by omega) (by omega)
/-- Cells that are set one after the other. -/
theorem iter_set {γ : Type} (g : Nat → γ) : ∀ (d i : Nat) (h : Nat → γ), iter (fun i h => upd h i (g i)) d i h = fun j => if i ≤ j ∧ j < i + d then g j else h j := by
  intro d
  induction d with
  | zero => intro i h; funext j; rw [if_neg (by omega)]; rfl
  | succ d ih =>
    intro i h
    rw [iter, ih]
    funext j
    simp only [upd_at]
    by_cases e : j = i
    · subst e; rw [if_neg (by omega), if_pos (by omega)]; simp
    · by_cases e2 : i + 1 ≤ j ∧ j < i + 1 + d
      · rw [if_pos e2, if_pos (by omega)]
      · rw [if_neg e2, if_neg e, if_neg (by omega)]
end loops
end Go.AM

namespace Go.AM
/-! sums of products in three parts -/
def hPart (a b : Int) : Int := a.tdiv 1000000 * b.tdiv 1000000
def mPart (a b : Int) : Int := a.tdiv 1000000 * b.tmod 1000000 + a.tmod 1000000 * b.tdiv 1000000
def lPart (a b : Int) : Int := a.tmod 1000000 * b.tmod 1000000
def valP (h m l : Int) : Int := h * 1000000000000 + m * 1000000 + l
theorem split_tdiv (a : Int) : a = a.tdiv 1000000 * 1000000 + a.tmod 1000000 := by
  have := Int.mul_tdiv_add_tmod a 1000000
  omega
theorem tmod_lim (a : Int) : -1000000 < a.tmod 1000000 ∧ a.tmod 1000000 < 1000000 := ⟨Int.lt_tmod_of_pos _ (by omega), Int.tmod_lt_of_pos _ (by omega)⟩
theorem parts_val (a b : Int) : valP (hPart a b) (mPart a b) (lPart a b) = a * b := by
  have h1 := split_tdiv a
  have h2 := split_tdiv b
  unfold valP hPart mPart lPart
  generalize a.tdiv 1000000 = x at *
  generalize a.tmod 1000000 = y at *
  generalize b.tdiv 1000000 = u at *
  generalize b.tmod 1000000 = v at *
  subst h1 h2
  rw [Int.mul_add (x * 1000000 + y), Int.add_mul _ _ (u * 1000000), Int.add_mul _ _ v]
  have e1 : x * 1000000 * (u * 1000000) = x * u * 1000000000000 := by
    rw [Int.mul_assoc, Int.mul_left_comm 1000000 u, ← Int.mul_assoc, ← Int.mul_assoc]; omega
  have e2 : x * 1000000 * v = x * v * 1000000 := by rw [Int.mul_assoc, Int.mul_comm 1000000 v, ← Int.mul_assoc]
  have e3 : y * (u * 1000000) = y * u * 1000000 := by rw [← Int.mul_assoc]
  rw [e1, e2, e3]
  omega
/-- The sum of three parts with their carries. -/
def cH (h m l : Int) : Int := h + (m + l.tdiv 1000000).tdiv 1000000
def cM (m l : Int) : Int := (m + l.tdiv 1000000).tmod 1000000
def cL (l : Int) : Int := l.tmod 1000000
theorem carry_val (h m l : Int) : valP (cH h m l) (cM m l) (cL l) = valP h m l := by
  have h1 := split_tdiv l
  have h2 := split_tdiv (m + l.tdiv 1000000)
  unfold valP cH cM cL
  omega
/-- Sums that are small enough have high parts from -2 to 2. -/
theorem carry_high (h m l : Int) (hv : -1000000000000 ≤ valP h m l ∧ valP h m l ≤ 1000000000000) : -2 ≤ cH h m l ∧ cH h m l ≤ 2 := by
  rw [← carry_val] at hv
  have h1 := tmod_lim l
  have h2 := tmod_lim (m + l.tdiv 1000000)
  unfold valP at hv
  unfold cM cL at hv
  omega
end Go.AM
namespace Go.AM
/-- A sum over a range. -/
def sumR (f : Nat → Int) (lo : Nat) : Nat → Int
  | 0 => 0
  | c + 1 => sumR f lo c + f (lo + c)
/-- The sum of those terms of a column that the first rows give. -/
def colS (f : Nat → Nat → Int) (nb k : Nat) : Nat → Int
  | 0 => 0
  | d + 1 => colS f nb k d + (if d ≤ k ∧ k < d + nb then f d (k - d) else 0)
theorem colS_sum (f : Nat → Nat → Int) (nb k : Nat) : ∀ d, colS f nb k d = sumR (fun i => f i (k - i)) (k + 1 - nb) (min d (k + 1) - (k + 1 - nb)) := by
  intro d
  induction d with
  | zero => rw [colS, show min 0 (k + 1) - (k + 1 - nb) = 0 by omega]; rfl
  | succ d ih =>
    rw [colS, ih]
    by_cases h : d ≤ k ∧ k < d + nb
    · rw [if_pos h, show min (d + 1) (k + 1) - (k + 1 - nb) = (min d (k + 1) - (k + 1 - nb)) + 1 by omega, sumR]
      have e : k + 1 - nb + (min d (k + 1) - (k + 1 - nb)) = d := by omega
      rw [e]
    · rw [if_neg h, Int.add_zero]
      congr 1
      omega
theorem sumR_lin (f g h : Nat → Int) (lo : Nat) : ∀ c, valP (sumR f lo c) (sumR g lo c) (sumR h lo c) = sumR (fun i => valP (f i) (g i) (h i)) lo c := by
  intro c
  induction c with
  | zero => rfl
  | succ c ih =>
    simp only [sumR]
    rw [← ih]
    unfold valP
    omega
theorem sumR_congr {f g : Nat → Int} (lo : Nat) : ∀ c, (∀ i, i < c → f (lo + i) = g (lo + i)) → sumR f lo c = sumR g lo c := by
  intro c
  induction c with
  | zero => intro _; rfl
  | succ c ih => intro h; rw [sumR, sumR, ih fun i hi => h i (by omega), h c (by omega)]
theorem sumR_bd {f : Nat → Int} {B : Int} (hB : 0 ≤ B) (lo : Nat) : ∀ c : Nat, (∀ i, -B ≤ f i ∧ f i ≤ B) → -(B * c) ≤ sumR f lo c ∧ sumR f lo c ≤ B * c := by
  intro c h
  induction c with
  | zero => simp [sumR]
  | succ c ih =>
    have := h (lo + c)
    rw [sumR, show ((c + 1 : Nat) : Int) = (c : Int) + 1 by omega, Int.mul_add, Int.mul_one]
    omega
end Go.AM

namespace Go.AM
/-- A map of the numbers below 'n' to themselves that leads no two to one leads to all. -/
theorem surj_of_inj : ∀ (n : Nat) (f : Nat → Nat), (∀ i, i < n → f i < n) → (∀ i j, i < n → j < n → f i = f j → i = j) → ∀ r, r < n → ∃ i, i < n ∧ f i = r := by
  intro n
  induction n with
  | zero => intro f _ _ r hr; omega
  | succ n ih =>
    intro f hf hi r hr
    have hg := ih (fun i => if f i = n then f n else f i) (fun i h => by
      try simp only
      split
      · rename_i e
        have h1 := hf n (by omega)
        have h2 : f n ≠ n := fun e2 => by have := hi i n (by omega) (by omega) (by omega); omega
        omega
      · have := hf i (by omega); omega) (fun i j h1 h2 e => by
      try simp only at e
      split at e <;> split at e
      · exact hi i j (by omega) (by omega) (by omega)
      · have := hi n j (by omega) (by omega) e; omega
      · have := hi i n (by omega) (by omega) e; omega
      · exact hi i j (by omega) (by omega) e)
    by_cases e : r = n
    · subst e
      by_cases e2 : f r = r
      · exact ⟨r, by omega, e2⟩
      · obtain ⟨i, h1, h2⟩ := hg (f r) (by have := hf r (by omega); omega)
        try simp only at h2
        split at h2
        · rename_i e3; exact ⟨i, by omega, e3⟩
        · have := hi i r (by omega) (by omega) h2; omega
    · obtain ⟨i, h1, h2⟩ := hg r (by omega)
      try simp only at h2
      split at h2
      · exact ⟨n, by omega, h2⟩
      · exact ⟨i, by omega, h2⟩
theorem inj_of_surj (n : Nat) (f : Nat → Nat) (hf : ∀ i, i < n → f i < n) (hs : ∀ r, r < n → ∃ i, i < n ∧ f i = r) : ∀ i j, i < n → j < n → f i = f j → i = j := by
  have hc : ∀ r, ∃ i, r < n → i < n ∧ f i = r := fun r => by
    by_cases h : r < n
    · obtain ⟨i, hi⟩ := hs r h; exact ⟨i, fun _ => hi⟩
    · exact ⟨0, fun h' => absurd h' h⟩
  obtain ⟨g, hg⟩ := Classical.axiomOfChoice hc
  have hgs := surj_of_inj n g (fun i h => (hg i h).1) (fun i j h1 h2 e => by have a := (hg i h1).2; have b := (hg j h2).2; rw [e] at a; omega)
  intro i j hi hj e
  obtain ⟨r, h1, h2⟩ := hgs i hi
  obtain ⟨s, h3, h4⟩ := hgs j hj
  have a := (hg r h1).2
  have b := (hg s h3).2
  rw [h2] at a
  rw [h4] at b
  have : r = s := by omega
  rw [← h2, ← h4, this]

theorem bitI_or_nat {a b : Nat} (ha : a < 2 ^ 63) (hb : b < 2 ^ 63) : bitI .or .i64 (a : Int) (b : Int) = ((a ||| b : Nat) : Int) := by
  have e : bitI .or .i64 (a : Int) (b : Int) = IntKind.wrap .i64 ((BitVec.ofInt 64 a ||| BitVec.ofInt 64 b).toNat : Int) := rfl
  rw [e, BitVec.ofInt_natCast, BitVec.ofInt_natCast, BitVec.toNat_or, BitVec.toNat_ofNat, BitVec.toNat_ofNat, Nat.mod_eq_of_lt (by omega), Nat.mod_eq_of_lt (by omega)]
  apply wrap_fits
  have := Nat.or_lt_two_pow ha hb
  exact fits64 (by omega)
theorem shlI_one (x : Nat) : shlI 1 (x : Int) = ((2 ^ x : Nat) : Int) := by
  unfold shlI
  simp

/-- The first 'n' of 'w' cells are the numbers below 'n' in some order; the others are 0. -/
def PermP (w n : Nat) (p : Nat → Int) : Prop := (∀ j, n ≤ j → j < w → p j = 0) ∧ (∀ j, j < n → p j < n) ∧ ∀ i j, i < n → j < n → p i = p j → i = j
noncomputable def permB (w n : Nat) (p : Nat → Int) : Bool := @decide (PermP w n p) (Classical.propDecidable _)
theorem permB_iff {w n : Nat} {p : Nat → Int} : permB w n p = true ↔ PermP w n p := by
  unfold permB; exact @decide_eq_true_iff _ (Classical.propDecidable _)
theorem permB_of {w n : Nat} {p : Nat → Int} {b : Bool} (h : b = true ↔ PermP w n p) : b = permB w n p := by
  cases b <;> cases hq : permB w n p <;> simp_all [permB_iff, ← permB_iff]

section order
variable {β : Type}
/-- The loop of the program that tests an order, for any width. -/
def ordS (w : Nat) (z : β) (n : Int) (h0 : Nat → Int) (seen : Int) (t10 : Int) (kn : Int → Int → β) (k0 : β) (k1 : Int → β) : β :=
  cond (decide (t10 < (w : Int))) (cond (decide (0 ≤ t10) && decide (t10 < (↑w : Int))) (cond (t10.toNat.blt w) (cond (decide (n ≤ t10)) (cond (h0 t10.toNat != 0) (k0) (cond (decide (n ≤ h0 t10.toNat)) (k0) (cond (decide (t10 < n)) (cond (decide (0 ≤ h0 t10.toNat) && decide (h0 t10.toNat < (↑64 : Int))) (cond (fits IntKind.i64 (shlI 1 (h0 t10.toNat))) (cond (fits IntKind.i64 (t10 + 1)) (kn (bitI BinOp.or IntKind.i64 seen (shlI 1 (h0 t10.toNat))) (t10 + 1)) (z)) (z)) (z)) (cond (fits IntKind.i64 (t10 + 1)) (kn seen (t10 + 1)) (z))))) (cond (decide (n ≤ h0 t10.toNat)) (k0) (cond (decide (t10 < n)) (cond (decide (0 ≤ h0 t10.toNat) && decide (h0 t10.toNat < (↑64 : Int))) (cond (fits IntKind.i64 (shlI 1 (h0 t10.toNat))) (cond (fits IntKind.i64 (t10 + 1)) (kn (bitI BinOp.or IntKind.i64 seen (shlI 1 (h0 t10.toNat))) (t10 + 1)) (z)) (z)) (z)) (cond (fits IntKind.i64 (t10 + 1)) (kn seen (t10 + 1)) (z))))) (z)) (z)) (k1 seen)
def ordL (w : Nat) (z : β) (n : Int) (h0 : Nat → Int) : Nat → Int → Int → β → (Int → β) → β
  | 0, _, _, _, _ => z
  | m + 1, seen, t10, k0, k1 => ordS w z n h0 seen t10 (fun seen t10 => ordL w z n h0 m seen t10 k0 k1) k0 k1

/-- A round of it. -/
def ordF (n : Nat) (p : Nat → Int) (i s : Nat) : Nat ⊕ Unit :=
  if n ≤ i then (if p i = 0 then .inl s else .inr ()) else if p i < n then .inl (s ||| 2 ^ (p i).toNat) else .inr ()
theorem ordF_inv {n i s s' : Nat} {p : Nat → Int} (hp : 0 ≤ p i) (hn : n ≤ 8) (hs : s < 256) (h : ordF n p i s = .inl s') : s' < 256 := by
  unfold ordF at h
  split at h
  · split at h
    · cases h; exact hs
    · cases h
  · split at h
    · cases h
      refine Nat.or_lt_two_pow (n := 8) hs ?_
      exact Nat.pow_lt_pow_right (by omega) (by omega)
    · cases h
theorem ordL_val (w : Nat) (hw : w ≤ 64) (z : β) (n : Nat) (hn : 1 ≤ n) (hn8 : n ≤ 8) (p : Nat → Int) (hp : ∀ j, 0 ≤ p j) (k0 : β) (k1 : Int → β) {N : Nat} (hN : w < N) :
    ordL w z n p N 0 0 k0 k1 = orOut (fun s : Nat => k1 (s : Int)) (fun _ => k0) (iterE (ordF n p) w 0 0) := by
  refine up_to_E (L := fun m i (s : Nat) => ordL w z n p m (s : Int) (i : Int) k0 k1) (n := w) (out := fun s : Nat => k1 (s : Int)) (ex := fun _ => k0) (f := ordF n p) (I := fun _ s => s < 256) ?_ ?_ w N 0 0 (by omega) hN (by omega)
  · intro m i s hi hs
    have h0 := hp i
    simp only [ordL, ordS, c_and, Int.toNat_natCast]
    by_cases h1 : n ≤ i
    · by_cases h2 : p i = 0
      · left
        refine ⟨s, by unfold ordF; rw [if_pos h1, if_pos h2], ?_, hs⟩
        simp (disch := omega) only [c_lt, c_nlt, c_le, c_nle, c_blt, c_nne, c_fits]
        rfl
      · right
        refine ⟨(), by unfold ordF; rw [if_pos h1, if_neg h2], ?_⟩
        simp (disch := omega) only [c_lt, c_nlt, c_le, c_nle, c_blt, c_ne, c_fits]
    · by_cases h2 : p i < n
      · left
        have hs2 : s ||| 2 ^ (p i).toNat < 256 := Nat.or_lt_two_pow (n := 8) hs (Nat.pow_lt_pow_right (by omega) (by omega))
        refine ⟨s ||| 2 ^ (p i).toNat, by unfold ordF; rw [if_neg h1, if_pos h2], ?_, hs2⟩
        obtain ⟨v, hv⟩ : ∃ v : Nat, p i = (v : Int) := ⟨(p i).toNat, by omega⟩
        have hv8 : v < 8 := by omega
        have hpow : 2 ^ v < 256 := Nat.pow_lt_pow_right (n := 8) (by omega) hv8
        simp only [hv, Int.toNat_natCast, shlI_one] at *
        generalize 2 ^ v = q at *
        simp (disch := omega) only [c_lt, c_nlt, c_le, c_nle, c_blt, c_ne, c_fits]
        rw [bitI_or_nat (by omega) (by omega)]
        rfl
      · right
        refine ⟨(), by unfold ordF; rw [if_neg h1, if_neg h2], ?_⟩
        simp (disch := omega) only [c_lt, c_nlt, c_le, c_nle, c_blt, c_ne, c_fits]
  · intro m s _
    simp (disch := omega) only [ordL, ordS, c_nlt]

/-- Are the cells from some on in bounds? -/
def OkFrom (w n : Nat) (p : Nat → Int) (i : Nat) : Prop := ∀ j, i ≤ j → j < w → (n ≤ j → p j = 0) ∧ (j < n → p j < n)
theorem OkFrom.step {w n i : Nat} {p : Nat → Int} (hi : i < w) : OkFrom w n p i ↔ ((n ≤ i → p i = 0) ∧ (i < n → p i < n)) ∧ OkFrom w n p (i + 1) := by
  refine ⟨fun h => ⟨h i (by omega) hi, fun j h1 h2 => h j (by omega) h2⟩, fun ⟨h1, h2⟩ j h3 h4 => ?_⟩
  by_cases e : j = i
  · subst e; exact h1
  · exact h2 j (by omega) h4
theorem ordF_run {w n : Nat} {p : Nat → Int} : ∀ (d i s : Nat), i + d = w →
    (∃ s', iterE (ordF n p) d i s = .inl s' ∧ OkFrom w n p i ∧ ∀ r, s'.testBit r = true ↔ s.testBit r = true ∨ ∃ j, i ≤ j ∧ j < n ∧ j < w ∧ (p j).toNat = r) ∨ (iterE (ordF n p) d i s = .inr () ∧ ¬ OkFrom w n p i) := by
  intro d
  induction d with
  | zero =>
    intro i s hi
    left
    refine ⟨s, rfl, fun j h1 h2 => by omega, fun r => ⟨.inl, fun h => ?_⟩⟩
    rcases h with h | ⟨j, h1, _, h2, _⟩
    · exact h
    · omega
  | succ d ih =>
    intro i s hi
    rw [OkFrom.step (by omega)]
    have key : ∀ s', ordF n p i s = .inl s' → ((n ≤ i → p i = 0) ∧ (i < n → p i < n)) → (∀ r, s'.testBit r = true ↔ s.testBit r = true ∨ (i < n ∧ (p i).toNat = r)) →
        (∃ s', iterE (ordF n p) (d + 1) i s = .inl s' ∧ (((n ≤ i → p i = 0) ∧ (i < n → p i < n)) ∧ OkFrom w n p (i + 1)) ∧ ∀ r, s'.testBit r = true ↔ s.testBit r = true ∨ ∃ j, i ≤ j ∧ j < n ∧ j < w ∧ (p j).toNat = r) ∨
        (iterE (ordF n p) (d + 1) i s = .inr () ∧ ¬ (((n ≤ i → p i = 0) ∧ (i < n → p i < n)) ∧ OkFrom w n p (i + 1))) := by
      intro s' h1 h2 h3
      rcases ih (i + 1) s' (by omega) with ⟨s2, h4, h5, h6⟩ | ⟨h4, h5⟩
      · left
        refine ⟨s2, by rw [iterE, h1]; exact h4, ⟨h2, h5⟩, fun r => ?_⟩
        rw [h6, h3]
        constructor
        · rintro ((h | ⟨h, h'⟩) | ⟨j, g1, g2, g3, g4⟩)
          · exact .inl h
          · exact .inr ⟨i, by omega, h, by omega, h'⟩
          · exact .inr ⟨j, by omega, g2, g3, g4⟩
        · rintro (h | ⟨j, g1, g2, g3, g4⟩)
          · exact .inl (.inl h)
          · by_cases e : j = i
            · subst e; exact .inl (.inr ⟨g2, g4⟩)
            · exact .inr ⟨j, by omega, g2, g3, g4⟩
      · right
        exact ⟨by rw [iterE, h1]; exact h4, fun h => h5 h.2⟩
    by_cases h1 : n ≤ i
    · by_cases h2 : p i = 0
      · exact key s (by unfold ordF; rw [if_pos h1, if_pos h2]) ⟨fun _ => h2, fun h => by omega⟩ fun r => ⟨.inl, fun h => h.elim id fun h => by omega⟩
      · right
        refine ⟨?_, fun h => h2 (h.1.1 h1)⟩
        rw [iterE]
        have : ordF n p i s = .inr () := by unfold ordF; rw [if_pos h1, if_neg h2]
        rw [this]
    · by_cases h2 : p i < n
      · refine key (s ||| 2 ^ (p i).toNat) (by unfold ordF; rw [if_neg h1, if_pos h2]) ⟨fun h => by omega, fun _ => h2⟩ fun r => ?_
        rw [Nat.testBit_or, Nat.testBit_two_pow, Bool.or_eq_true, decide_eq_true_eq]
        exact ⟨fun h => h.imp id fun h => ⟨by omega, h⟩, fun h => h.imp id fun h => h.2⟩
      · right
        refine ⟨?_, fun h => h2 (h.1.2 (by omega))⟩
        rw [iterE]
        have : ordF n p i s = .inr () := by unfold ordF; rw [if_neg h1, if_neg h2]
        rw [this]

/-- The program's test of an order. -/
theorem ord_val (w : Nat) (hw : w ≤ 64) (z : β) (n : Nat) (hn : 1 ≤ n) (hn8 : n ≤ 8) (hnw : n ≤ w) (p : Nat → Int) (hp : ∀ j, 0 ≤ p j) (k : Bool → β) {N : Nat} (hN : w < N) :
    ordL w z n p N 0 0 (k false) (fun q5 => cond (decide (0 ≤ (n : Int)) && decide ((n : Int) < (↑64 : Int))) (cond (fits IntKind.i64 (shlI 1 n)) (cond (fits IntKind.i64 (shlI 1 n - 1)) (k (q5 == shlI 1 n - 1)) (z)) (z)) (z)) = k (permB w n p) := by
  rw [ordL_val w hw z n hn hn8 p hp _ _ hN]
  have hpow : 2 ^ n ≤ 256 := Nat.pow_le_pow_right (n := 2) (by omega) hn8
  have hpos : 0 < 2 ^ n := Nat.two_pow_pos n
  rcases ordF_run (w := w) (n := n) (p := p) w 0 0 (by omega) with ⟨s, h1, h2, h3⟩ | ⟨h1, h2⟩
  · rw [h1]
    simp only [orOut, shlI_one, c_and]
    simp (disch := omega) only [c_lt, c_le, c_fits]
    refine congrArg k (permB_of ?_)
    have hb : ∀ r, s.testBit r = true ↔ ∃ j, j < n ∧ (p j).toNat = r := fun r => by
      rw [h3]
      simp only [Nat.zero_testBit, Bool.false_eq_true, false_or]
      exact ⟨fun ⟨j, _, a, _, b⟩ => ⟨j, a, b⟩, fun ⟨j, a, b⟩ => ⟨j, by omega, a, by omega, b⟩⟩
    have hf : ∀ i, i < n → (p i).toNat < n := fun i hi => by have := (h2 i (by omega) (by omega)).2 hi; omega
    have e1 : ((s : Int) == ((2 ^ n : Nat) : Int) - 1) = true ↔ ∀ r, r < n → ∃ j, j < n ∧ (p j).toNat = r := by
      constructor
      · intro h r hr
        have : s = 2 ^ n - 1 := by simp only [beq_iff_eq] at h; omega
        rw [← hb, this, Nat.testBit_two_pow_sub_one]
        exact decide_eq_true hr
      · intro h
        have : s = 2 ^ n - 1 := by
          apply Nat.eq_of_testBit_eq
          intro r
          rw [Nat.testBit_two_pow_sub_one]
          by_cases hr : r < n
          · rw [decide_eq_true hr, hb]; exact h r hr
          · rw [decide_eq_false hr, ← Bool.not_eq_true, hb]
            rintro ⟨j, a, b⟩
            have := hf j a
            omega
        simp only [beq_iff_eq]
        omega
    rw [e1]
    constructor
    · intro h
      refine ⟨fun j a b => (h2 j (by omega) b).1 a, fun j a => (h2 j (by omega) (by omega)).2 a, fun i j a b e => inj_of_surj n (fun i => (p i).toNat) hf h i j a b (by rw [e])⟩
    · rintro ⟨_, _, h⟩
      exact surj_of_inj n (fun i => (p i).toNat) hf fun i j a b e => h i j a b (by have := hp i; have := hp j; omega)
  · rw [h1]
    simp only [orOut]
    refine congrArg k (permB_of ⟨fun h => (by cases h), fun h => absurd (fun j _ b => ⟨fun a => h.1 j a b, fun a => h.2.1 j a⟩) h2⟩)
end order
end Go.AM

namespace Go.AM
section perm
variable {β : Type}
/-- The loop of the reference that tests a permutation, for any width. -/
def permS (w : Nat) (z : β) (n : Int) (h0 : Nat → Int) (i : Int) (h1 : Nat → Bool) (kn : Int → (Nat → Bool) → β) (k0 : (Nat → Bool) → β) (k1 : (Nat → Bool) → β) : β :=
  cond (decide (i < (w : Int))) (cond (decide (n ≤ i)) (cond (decide (0 ≤ i) && decide (i < (↑w : Int))) (cond (i.toNat.blt w) (cond (h0 i.toNat != 0) (k0 h1) (cond (fits IntKind.i64 (i + 1)) (kn (i + 1) h1) (z))) (z)) (z)) (cond (decide (0 ≤ i) && decide (i < (↑w : Int))) (cond (i.toNat.blt w) (cond (decide (n ≤ h0 i.toNat)) (k0 h1) (cond (decide (0 ≤ i) && decide (i < (↑w : Int))) (cond (i.toNat.blt w) (cond (decide (0 ≤ h0 i.toNat) && decide (h0 i.toNat < (↑w : Int))) (cond ((h0 i.toNat).toNat.blt w) (cond (h1 (h0 i.toNat).toNat) (k0 h1) (cond (decide (0 ≤ i) && decide (i < (↑w : Int))) (cond (i.toNat.blt w) (cond (decide (0 ≤ h0 i.toNat) && decide (h0 i.toNat < (↑w : Int))) (cond ((h0 i.toNat).toNat.blt w) (cond (fits IntKind.i64 (i + 1)) (kn (i + 1) (upd h1 (h0 i.toNat).toNat true)) (z)) (z)) (z)) (z)) (z))) (z)) (z)) (z)) (z))) (z)) (z))) (k1 h1)
def permL (w : Nat) (z : β) (n : Int) (h0 : Nat → Int) : Nat → Int → (Nat → Bool) → ((Nat → Bool) → β) → ((Nat → Bool) → β) → β
  | 0, _, _, _, _ => z
  | m + 1, i, h1, k0, k1 => permS w z n h0 i h1 (fun i h1 => permL w z n h0 m i h1 k0 k1) k0 k1

/-- A round of it. -/
def permF (n : Nat) (p : Nat → Int) (i : Nat) (met : Nat → Bool) : (Nat → Bool) ⊕ Unit :=
  if n ≤ i then (if p i = 0 then .inl met else .inr ()) else if p i < n then (if met (p i).toNat = true then .inr () else .inl (upd met (p i).toNat true)) else .inr ()
theorem permL_val (w : Nat) (hw : w ≤ 64) (z : β) (n : Nat) (hnw : n ≤ w) (p : Nat → Int) (hp : ∀ j, 0 ≤ p j) (kf kt : β) {N : Nat} (hN : w < N) (met : Nat → Bool) :
    permL w z n p N 0 met (fun _ => kf) (fun _ => kt) = orOut (fun _ => kt) (fun _ => kf) (iterE (permF n p) w 0 met) := by
  refine up_to_E (L := fun m i (s : Nat → Bool) => permL w z n p m (i : Int) s (fun _ => kf) (fun _ => kt)) (n := w) (out := fun _ => kt) (ex := fun _ => kf) (f := permF n p) (I := fun _ _ => True) ?_ ?_ w N 0 met (by omega) hN trivial
  · intro m i s hi _
    have h0 := hp i
    simp only [permL, permS, c_and, Int.toNat_natCast]
    by_cases h1 : n ≤ i
    · by_cases h2 : p i = 0
      · left
        refine ⟨s, by unfold permF; rw [if_pos h1, if_pos h2], ?_, trivial⟩
        simp (disch := omega) only [c_lt, c_nlt, c_le, c_nle, c_blt, c_nne, c_fits]
        rfl
      · right
        refine ⟨(), by unfold permF; rw [if_pos h1, if_neg h2], ?_⟩
        simp (disch := omega) only [c_lt, c_nlt, c_le, c_nle, c_blt, c_ne, c_fits]
    · by_cases h2 : p i < n
      · cases h3 : s (p i).toNat with
        | true =>
          right
          refine ⟨(), by unfold permF; rw [if_neg h1, if_pos h2, if_pos h3], ?_⟩
          simp (disch := omega) only [c_lt, c_nlt, c_le, c_nle, c_blt, c_ne, c_fits, h3, c_true]
        | false =>
          left
          refine ⟨upd s (p i).toNat true, by unfold permF; rw [if_neg h1, if_pos h2, if_neg (by simp [h3])], ?_, trivial⟩
          simp (disch := omega) only [c_lt, c_nlt, c_le, c_nle, c_blt, c_ne, c_fits, h3, c_false]
          rfl
      · right
        refine ⟨(), by unfold permF; rw [if_neg h1, if_neg h2], ?_⟩
        simp (disch := omega) only [c_lt, c_nlt, c_le, c_nle, c_blt, c_ne, c_fits]
  · intro m s _
    simp (disch := omega) only [permL, permS, c_nlt]

/-- From some cell on: in bounds, not met before, and no two alike. -/
def FreeFrom (w n : Nat) (p : Nat → Int) (i : Nat) (met : Nat → Bool) : Prop :=
  OkFrom w n p i ∧ (∀ j, i ≤ j → j < n → j < w → met (p j).toNat = false) ∧ ∀ a b, i ≤ a → a < b → b < n → b < w → (p a).toNat ≠ (p b).toNat
theorem permF_run {w n : Nat} {p : Nat → Int} : ∀ (d i : Nat) (met : Nat → Bool), i + d = w →
    ((∃ m, iterE (permF n p) d i met = .inl m) ∧ FreeFrom w n p i met) ∨ (iterE (permF n p) d i met = .inr () ∧ ¬ FreeFrom w n p i met) := by
  intro d
  induction d with
  | zero =>
    intro i met hi
    left
    exact ⟨⟨met, rfl⟩, fun j h1 h2 => by omega, fun j h1 _ h2 => by omega, fun a b h1 h2 _ h3 => by omega⟩
  | succ d ih =>
    intro i met hi
    have bad : permF n p i met = .inr () → ¬ FreeFrom w n p i met → ((∃ m, iterE (permF n p) (d + 1) i met = .inl m) ∧ FreeFrom w n p i met) ∨ (iterE (permF n p) (d + 1) i met = .inr () ∧ ¬ FreeFrom w n p i met) := by
      intro h1 h2
      right
      exact ⟨by rw [iterE, h1], h2⟩
    have good : ∀ met', permF n p i met = .inl met' → (FreeFrom w n p i met ↔ FreeFrom w n p (i + 1) met') → ((∃ m, iterE (permF n p) (d + 1) i met = .inl m) ∧ FreeFrom w n p i met) ∨ (iterE (permF n p) (d + 1) i met = .inr () ∧ ¬ FreeFrom w n p i met) := by
      intro met' h1 h2
      rw [h2, iterE, h1]
      exact ih (i + 1) met' (by omega)
    by_cases h1 : n ≤ i
    · by_cases h2 : p i = 0
      · refine good met (by unfold permF; rw [if_pos h1, if_pos h2]) ?_
        unfold FreeFrom
        rw [OkFrom.step (by omega)]
        exact ⟨fun ⟨⟨_, a⟩, b, c⟩ => ⟨a, fun j g1 g2 g3 => b j (by omega) g2 g3, fun x y g1 g2 g3 g4 => c x y (by omega) g2 g3 g4⟩,
          fun ⟨a, b, c⟩ => ⟨⟨⟨fun _ => h2, fun h => by omega⟩, a⟩, fun j g1 g2 g3 => by omega, fun x y g1 g2 g3 g4 => by omega⟩⟩
      · exact bad (by unfold permF; rw [if_pos h1, if_neg h2]) fun h => h2 ((h.1 i (by omega) (by omega)).1 h1)
    · by_cases h2 : p i < n
      · cases h3 : met (p i).toNat with
        | true => exact bad (by unfold permF; rw [if_neg h1, if_pos h2, if_pos h3]) fun h => by have := h.2.1 i (by omega) (by omega) (by omega); rw [h3] at this; cases this
        | false =>
          refine good (upd met (p i).toNat true) (by unfold permF; rw [if_neg h1, if_pos h2, if_neg (by simp [h3])]) ?_
          unfold FreeFrom
          rw [OkFrom.step (by omega)]
          constructor
          · rintro ⟨⟨_, a⟩, b, c⟩
            refine ⟨a, fun j g1 g2 g3 => ?_, fun x y g1 g2 g3 g4 => c x y (by omega) g2 g3 g4⟩
            rw [upd_at, if_neg (fun e => c i j (by omega) (by omega) g2 g3 e.symm)]
            exact b j (by omega) g2 g3
          · rintro ⟨a, b, c⟩
            have b' : ∀ j, i + 1 ≤ j → j < n → j < w → (p j).toNat ≠ (p i).toNat ∧ met (p j).toNat = false := by
              intro j g1 g2 g3
              have := b j g1 g2 g3
              rw [upd_at] at this
              split at this
              · cases this
              · rename_i e; exact ⟨e, this⟩
            refine ⟨⟨⟨fun h => by omega, fun _ => h2⟩, a⟩, fun j g1 g2 g3 => ?_, fun x y g1 g2 g3 g4 => ?_⟩
            · by_cases e : j = i
              · subst e; exact h3
              · exact (b' j (by omega) g2 g3).2
            · by_cases e : x = i
              · subst e; exact fun e => (b' y (by omega) g3 g4).1 e.symm
              · exact c x y (by omega) g2 g3 g4
      · exact bad (by unfold permF; rw [if_neg h1, if_neg h2]) fun h => h2 ((h.1 i (by omega) (by omega)).2 (by omega))

/-- The reference's test of a permutation. -/
theorem perm_val (w : Nat) (hw : w ≤ 64) (z : β) (n : Nat) (hnw : n ≤ w) (p : Nat → Int) (hp : ∀ j, 0 ≤ p j) (k : Bool → β) {N : Nat} (hN : w < N) :
    permL w z n p N 0 (fun _ => false) (fun _ => k false) (fun _ => k true) = k (permB w n p) := by
  rw [permL_val w hw z n hnw p hp _ _ hN]
  rcases permF_run (w := w) (n := n) (p := p) w 0 (fun _ => false) (by omega) with ⟨⟨m, h1⟩, h2, _, h3⟩ | ⟨h1, h2⟩
  · rw [h1]
    refine congrArg k (permB_of ⟨fun _ => ⟨fun j a b => (h2 j (by omega) b).1 a, fun j a => (h2 j (by omega) (by omega)).2 a, fun i j a b e => ?_⟩, fun _ => rfl⟩)
    rcases Nat.lt_trichotomy i j with g | g | g
    · exact absurd (by rw [e]) (h3 i j (by omega) g b (by omega))
    · exact g
    · exact absurd (by rw [e]) (h3 j i (by omega) g a (by omega))
  · rw [h1]
    refine congrArg k (permB_of ⟨fun h => (by cases h), fun h => absurd ⟨fun j _ b => ⟨fun a => h.1 j a b, fun a => h.2.1 j a⟩, fun _ _ _ _ => rfl, fun a b _ g1 g2 _ e => ?_⟩ h2⟩)
    have := h.2.2 a b (by omega) g2 (by have := hp a; have := hp b; omega)
    omega
end perm
end Go.AM

namespace Go.AM
section
variable {β : Type}
theorem i_within_val (z : β) (N : Nat) (x lo hi : Int) (k : Bool → β) : i_within z N x lo hi k = k (decide (lo ≤ x ∧ x ≤ hi)) := by
  unfold i_within
  by_cases h : lo ≤ x
  · rw [c_le h]; congr 1; exact decide_eq_decide.2 ⟨fun h2 => ⟨h, h2⟩, fun h2 => h2.2⟩
  · rw [c_nle (by omega), decide_eq_false (fun h2 => h h2.1)]
theorem s_l01In_val (z : β) (N : Nat) (x lo hi : Int) (k : Bool → β) : s_l01In z N x lo hi k = k (decide (lo ≤ x ∧ x ≤ hi)) := by
  unfold s_l01In
  by_cases h : lo ≤ x
  · rw [c_le h]; congr 1; exact decide_eq_decide.2 ⟨fun h2 => ⟨h, h2⟩, fun h2 => h2.2⟩
  · rw [c_nle (by omega), decide_eq_false (fun h2 => h h2.1)]
theorem w_toByteA64_val (z : β) {N : Nat} (hN : 64 < N) (a : Nat → Int) (k0 : (Nat → Int) → β) : w_toByteA64 z N a k0 = k0 (fun j => if j < 64 then a j else 0) := by
  unfold w_toByteA64
  have := up_to (L := fun m i h => w_toByteA64_l0 z a (fun _ => 0) m (i : Int) h k0) (n := 64) (out := k0) (f := fun i h => upd h i (a i)) (I := fun _ _ => True)
    (fun m i s hi _ => ⟨by
      simp only [w_toByteA64_l0, w_toByteA64_l0_s, c_and, Int.toNat_natCast]
      simp (disch := omega) only [c_lt, c_le, c_blt, c_fits]
      rfl, trivial⟩)
    (fun m s _ => by simp (disch := omega) only [w_toByteA64_l0, w_toByteA64_l0_s, c_nlt]) 64 N 0 (fun _ => 0) rfl hN trivial
  rw [iter_set] at this
  refine this.trans (congrArg k0 (funext fun j => ?_))
  simp
end
end Go.AM

namespace Go.AM
section
variable {β : Type}
/-- Are all coefficients small enough? -/
def coefB (n : Nat) (a : Nat → Int) : Bool := allFrom (fun i => decide (-1000000000000 ≤ a i ∧ a i ≤ 1000000000000)) n 0
def laurB (L : Int) (n : Nat) (a : Nat → Int) : Bool :=
  cond (Nat.beq n 0) (L == 0) (decide (n ≤ 2001) && (decide (-1000 ≤ L ∧ L ≤ 1000) && (decide (L + n - 1 ≤ 1000) && (!(a 0 == 0) && (!(a (n - 1) == 0) && coefB n a)))))
theorem coefB_iff {n : Nat} {a : Nat → Int} : coefB n a = true ↔ ∀ i, i < n → -1000000000000 ≤ a i ∧ a i ≤ 1000000000000 := by
  unfold coefB
  rw [allFrom_iff]
  simp only [decide_eq_true_eq, Nat.zero_add]
  exact ⟨fun h i hi => h i (by omega) hi, fun h i _ hi => h i hi⟩
theorem s_l04Is_l0_val (z : β) {N n c : Nat} (hN : n < N) (hn : n ≤ 5000) (a : Nat → Int) (L : Int) (k0 k1 : β) : s_l04Is_l0 z N n n a L n n c N 0 k0 k1 = cond (coefB n a) k1 k0 :=
  up_to_all (L := fun m i => s_l04Is_l0 z N n n a L n n c m (i : Int) k0 k1) (n := n) (kt := k1) (kf := k0) (p := fun i => decide (-1000000000000 ≤ a i ∧ a i ≤ 1000000000000))
    (fun m i hi => by
      rw [s_l04Is_l0, s_l04Is_l0_s]
      simp only [c_and, Int.toNat_natCast, s_l01In_val]
      simp (disch := omega) only [c_lt, c_le, c_blt, c_beq, c_fits, c_not]
      rfl)
    (fun m => by simp (disch := omega) only [s_l04Is_l0, s_l04Is_l0_s, c_nlt]) n N 0 (by omega) hN
theorem s_l04Is_val (z : β) {N n c : Nat} (hN : 5000 < N) (hs : n ≤ 9223372036854775807) (L : Int) (a : Nat → Int) (k : Bool → β) : s_l04Is z N L n n c n a k = k (laurB L n a) := by
  unfold s_l04Is laurB
  rw [c_ble hs]
  rcases Nat.eq_zero_or_pos n with h0 | h0
  · subst h0
    rw [c_eq (by omega), c_beq rfl]
  · rw [c_neq (by omega), c_nbeq (by omega)]
    by_cases h1 : n ≤ 2001
    · rw [c_nlt (by omega), decide_eq_true h1, Bool.true_and, s_l01In_val]
      by_cases h2 : -1000 ≤ L ∧ L ≤ 1000
      · rw [decide_eq_true h2, Bool.not_true, cond_false, Bool.true_and, c_fits (by omega), c_fits (by omega)]
        by_cases h3 : L + n - 1 ≤ 1000
        · rw [c_nlt (by omega), decide_eq_true h3, Bool.true_and]
          have e1 : ((n : Int) - 1).toNat = n - 1 := by omega
          simp only [c_and, e1]
          simp (disch := omega) only [c_lt, c_le, c_blt, c_beq, c_fits]
          by_cases h4 : a 0 = 0
          · rw [c_eq h4]; simp [h4]
          · rw [c_neq h4]
            by_cases h5 : a (n - 1) = 0
            · rw [c_eq h5]; simp [h5]
            · rw [c_neq h5, s_l04Is_l0_val z (by omega) (by omega)]
              have e2 : (a 0 == 0) = false := by simpa using h4
              have e3 : (a (n - 1) == 0) = false := by simpa using h5
              rw [e2, e3]
              cases coefB n a <;> rfl
        · rw [c_lt (by omega), decide_eq_false h3]; rfl
      · rw [decide_eq_false h2]; rfl
    · rw [c_lt (by omega), decide_eq_false h1]; rfl
/-! products -/
theorem tdiv_bd {a : Int} (h : -1000000000000 ≤ a ∧ a ≤ 1000000000000) : -1000000 ≤ a.tdiv 1000000 ∧ a.tdiv 1000000 ≤ 1000000 := by
  have h1 := split_tdiv a
  have h2 := tmod_lim a
  omega
theorem mul_lim {x y A B : Int} (hA : 0 ≤ A) (hx : -A ≤ x ∧ x ≤ A) (hy : -B ≤ y ∧ y ≤ B) : -(A * B) ≤ x * y ∧ x * y ≤ A * B := by
  have h := Int.natAbs_mul x y
  have h1 : x.natAbs ≤ A.toNat := by omega
  have h2 : y.natAbs ≤ B.toNat := by omega
  have h3 := Nat.mul_le_mul h1 h2
  have hB : 0 ≤ B := by omega
  have h4 : ((A.toNat * B.toNat : Nat) : Int) = A * B := by rw [Int.natCast_mul, Int.toNat_of_nonneg hA, Int.toNat_of_nonneg hB]
  omega
structure PartB (x y : Int) : Prop where
  p1 : -1000000000000 ≤ x.tdiv 1000000 * y.tdiv 1000000 ∧ x.tdiv 1000000 * y.tdiv 1000000 ≤ 1000000000000
  p2 : -1000000000000 ≤ x.tdiv 1000000 * y.tmod 1000000 ∧ x.tdiv 1000000 * y.tmod 1000000 ≤ 1000000000000
  p3 : -1000000000000 ≤ x.tmod 1000000 * y.tdiv 1000000 ∧ x.tmod 1000000 * y.tdiv 1000000 ≤ 1000000000000
  p4 : -1000000000000 ≤ x.tmod 1000000 * y.tmod 1000000 ∧ x.tmod 1000000 * y.tmod 1000000 ≤ 1000000000000
theorem part_bd {x y : Int} (hx : -1000000000000 ≤ x ∧ x ≤ 1000000000000) (hy : -1000000000000 ≤ y ∧ y ≤ 1000000000000) : PartB x y := by
  have a1 := tdiv_bd hx
  have a2 := tmod_lim x
  have b1 := tdiv_bd hy
  have b2 := tmod_lim y
  have m1 := mul_lim (A := 1000000) (B := 1000000) (by omega) a1 b1
  have m2 := mul_lim (A := 1000000) (B := 1000000) (by omega) a1 (⟨by omega, by omega⟩ : -1000000 ≤ y.tmod 1000000 ∧ y.tmod 1000000 ≤ 1000000)
  have m3 := mul_lim (A := 1000000) (B := 1000000) (by omega) (⟨by omega, by omega⟩ : -1000000 ≤ x.tmod 1000000 ∧ x.tmod 1000000 ≤ 1000000) b1
  have m4 := mul_lim (A := 1000000) (B := 1000000) (by omega) (⟨by omega, by omega⟩ : -1000000 ≤ x.tmod 1000000 ∧ x.tmod 1000000 ≤ 1000000) (⟨by omega, by omega⟩ : -1000000 ≤ y.tmod 1000000 ∧ y.tmod 1000000 ≤ 1000000)
  exact ⟨by omega, by omega, by omega, by omega⟩
theorem sumR_lim {f : Nat → Int} {lo : Nat} : ∀ c : Nat, (∀ i, i < c → -2000000000000 ≤ f (lo + i) ∧ f (lo + i) ≤ 2000000000000) → -(2000000000000 * c) ≤ sumR f lo c ∧ sumR f lo c ≤ 2000000000000 * c := by
  intro c
  induction c with
  | zero => intro _; simp [sumR]
  | succ c ih =>
    intro h
    have h1 := ih fun i hi => h i (by omega)
    have h2 := h c (by omega)
    rw [sumR]
    omega
theorem s_Exact_l0_val (z : β) {N n : Nat} (hN : n < N) (hn : n ≤ 2001) {xs ys : List Int} (hx : xs.length = n) (hy : ys.length = n) {a b : Nat → Int} {lo : Nat} (ha : ∀ j, j < n → xs[j]?.getD 0 = a (lo + j)) (hb : ∀ j, j < n → ys[j]?.getD 0 = b (lo + j))
    (ba : ∀ j, j < n → -1000000000000 ≤ a (lo + j) ∧ a (lo + j) ≤ 1000000000000) (bb : ∀ j, j < n → -1000000000000 ≤ b (lo + j) ∧ b (lo + j) ≤ 1000000000000) (c c' : Nat) (k : Int → Int → Int → β) :
    s_l04Exact_l0 z n n c n n c' xs ys N 0 0 0 0 k = k (sumR (fun i => hPart (a i) (b i)) lo n) (sumR (fun i => mPart (a i) (b i)) lo n) (sumR (fun i => lPart (a i) (b i)) lo n) := by
  refine (up_to_all (L := fun m j => s_l04Exact_l0 z n n c n n c' xs ys m (sumR (fun i => hPart (a i) (b i)) lo j) (sumR (fun i => mPart (a i) (b i)) lo j) (sumR (fun i => lPart (a i) (b i)) lo j) (j : Int) k) (n := n)
    (kt := k (sumR (fun i => hPart (a i) (b i)) lo n) (sumR (fun i => mPart (a i) (b i)) lo n) (sumR (fun i => lPart (a i) (b i)) lo n)) (kf := z) (p := fun _ => true)
    (fun m j hj => by
      have e1 := ha j hj
      have e2 := hb j hj
      have P := part_bd (ba j hj) (bb j hj)
      have P1 := P.p1
      have P2 := P.p2
      have P3 := P.p3
      have P4 := P.p4
      have d1 := tdiv_bd (ba j hj)
      have d2 := tdiv_bd (bb j hj)
      have s1 := sumR_lim (f := fun i => hPart (a i) (b i)) (lo := lo) j fun i hi => by
        have Q := part_bd (ba i (by omega)) (bb i (by omega)); have := Q.p1; unfold hPart; omega
      have s2 := sumR_lim (f := fun i => mPart (a i) (b i)) (lo := lo) j fun i hi => by
        have Q := part_bd (ba i (by omega)) (bb i (by omega)); have := Q.p2; have := Q.p3; unfold mPart; omega
      have s3 := sumR_lim (f := fun i => lPart (a i) (b i)) (lo := lo) j fun i hi => by
        have Q := part_bd (ba i (by omega)) (bb i (by omega)); have := Q.p4; unfold lPart; omega
      have n1 : sumR (fun i => hPart (a i) (b i)) lo (j + 1) = sumR (fun i => hPart (a i) (b i)) lo j + (a (lo + j)).tdiv 1000000 * (b (lo + j)).tdiv 1000000 := rfl
      have n2 : sumR (fun i => mPart (a i) (b i)) lo (j + 1) = sumR (fun i => mPart (a i) (b i)) lo j + (a (lo + j)).tdiv 1000000 * (b (lo + j)).tmod 1000000 + (a (lo + j)).tmod 1000000 * (b (lo + j)).tdiv 1000000 := by
        rw [sumR, Int.add_assoc]; rfl
      have n3 : sumR (fun i => lPart (a i) (b i)) lo (j + 1) = sumR (fun i => lPart (a i) (b i)) lo j + (a (lo + j)).tmod 1000000 * (b (lo + j)).tmod 1000000 := rfl
      rw [n1, n2, n3]
      rw [s_l04Exact_l0, s_l04Exact_l0_s]
      simp only [c_and, Int.toNat_natCast, hx, hy, e1, e2]
      simp (disch := omega) only [c_lt, c_le, c_ble, c_blt, c_beq, c_fits]
      rfl)
    (fun m => by simp (disch := omega) only [s_l04Exact_l0, s_l04Exact_l0_s, c_ble, c_nlt]) n N 0 (by omega) hN).trans (by rw [(allFrom_iff n 0).2 fun _ _ _ => rfl]; rfl)
/-- The value of three parts, and whether it is small enough. -/
def okP (h m l : Int) : Bool := decide (-1000000000000 ≤ valP h m l ∧ valP h m l ≤ 1000000000000)
theorem s_Exact_val (z : β) {N n : Nat} (hN : n < N) (hn : n ≤ 2001) {xs ys : List Int} (hx : xs.length = n) (hy : ys.length = n) {a b : Nat → Int} {lo : Nat} (ha : ∀ j, j < n → xs[j]?.getD 0 = a (lo + j)) (hb : ∀ j, j < n → ys[j]?.getD 0 = b (lo + j))
    (ba : ∀ j, j < n → -1000000000000 ≤ a (lo + j) ∧ a (lo + j) ≤ 1000000000000) (bb : ∀ j, j < n → -1000000000000 ≤ b (lo + j) ∧ b (lo + j) ≤ 1000000000000) (c c' : Nat) {h m l : Int}
    (eh : h = sumR (fun i => hPart (a i) (b i)) lo n) (em : m = sumR (fun i => mPart (a i) (b i)) lo n) (el : l = sumR (fun i => lPart (a i) (b i)) lo n) :
    ∃ v, (okP h m l = true → v = valP h m l) ∧ ∀ k : Int → Bool → β, s_l04Exact z N n n c n n c' xs ys k = k v (okP h m l) := by
  have s1 := sumR_lim (f := fun i => hPart (a i) (b i)) (lo := lo) n fun i hi => by
    have Q := part_bd (ba i (by omega)) (bb i (by omega)); have := Q.p1; unfold hPart; omega
  have s2 := sumR_lim (f := fun i => mPart (a i) (b i)) (lo := lo) n fun i hi => by
    have Q := part_bd (ba i (by omega)) (bb i (by omega)); have := Q.p2; have := Q.p3; unfold mPart; omega
  have s3 := sumR_lim (f := fun i => lPart (a i) (b i)) (lo := lo) n fun i hi => by
    have Q := part_bd (ba i (by omega)) (bb i (by omega)); have := Q.p4; unfold lPart; omega
  rw [← eh] at s1
  rw [← em] at s2
  rw [← el] at s3
  have q1 := split_tdiv l
  have q2 := tmod_lim l
  have q3 := split_tdiv (m + l.tdiv 1000000)
  have q4 := tmod_lim (m + l.tdiv 1000000)
  have cv := carry_val h m l
  have chh := carry_high h m l
  have base : ∀ k : Int → Bool → β, s_l04Exact z N n n c n n c' xs ys k = cond (decide (-3 ≤ cH h m l ∧ cH h m l ≤ 3)) (k (valP h m l) (okP h m l)) (k 0 false) := fun k => by
    unfold s_l04Exact
    rw [s_Exact_l0_val z hN hn hx hy ha hb ba bb, ← eh, ← em, ← el]
    rw [c_fits (by omega), c_fits (by omega), c_fits (by omega), c_fits (by omega), s_l01In_val]
    by_cases hc : -3 ≤ cH h m l ∧ cH h m l ≤ 3
    · have hc' := hc
      unfold cH at hc'
      rw [decide_eq_true hc, show decide (-3 ≤ h + (m + l.tdiv 1000000).tdiv 1000000 ∧ h + (m + l.tdiv 1000000).tdiv 1000000 ≤ 3) = true from decide_eq_true hc, Bool.not_true, cond_false, cond_true]
      rw [c_fits (by omega), c_fits (by omega), c_fits (by omega), c_fits (by omega), s_l01In_val]
      have e : (h + (m + l.tdiv 1000000).tdiv 1000000) * 1000000000000 + (m + l.tdiv 1000000).tmod 1000000 * 1000000 + l.tmod 1000000 = valP h m l := cv
      rw [e]
      rfl
    · rw [decide_eq_false hc, show decide (-3 ≤ h + (m + l.tdiv 1000000).tdiv 1000000 ∧ h + (m + l.tdiv 1000000).tdiv 1000000 ≤ 3) = false from decide_eq_false hc]
      rfl
  by_cases hc : -3 ≤ cH h m l ∧ cH h m l ≤ 3
  · exact ⟨valP h m l, fun _ => rfl, fun k => by rw [base, decide_eq_true hc]; rfl⟩
  · have : okP h m l = false := by
      unfold okP
      refine decide_eq_false fun hv => ?_
      have := chh hv
      omega
    exact ⟨0, fun h' => (by rw [this] at h'; cases h'), fun k => by rw [base, decide_eq_false hc, this]; rfl⟩
end
end Go.AM

namespace Go.AM
section
variable {β : Type}
theorem eq_none (z : β) {N : Nat} (hN : 0 < N) (k : Bool → β) : w_eqInt64S z N k = k true := by
  obtain ⟨N, rfl⟩ : ∃ m, N = m + 1 := ⟨N - 1, by omega⟩
  simp (disch := omega) only [w_eqInt64S, w_eqInt64S_l0, w_eqInt64S_l0_s, c_nlt]
theorem mark_none (z : β) {N : Nat} (hN : 0 < N) (i : Int) (k : β) : w_markInt64S z N i k = k := by
  obtain ⟨N, rfl⟩ : ∃ m, N = m + 1 := ⟨N - 1, by omega⟩
  simp (disch := omega) only [w_markInt64S, w_markInt64S_l0, w_markInt64S_l0_s, c_nlt]
theorem held_none (z : β) {N : Nat} (hN : 0 < N) (i : Int) (k : β) : w_heldInt64S z N i k = k := by
  obtain ⟨N, rfl⟩ : ∃ m, N = m + 1 := ⟨N - 1, by omega⟩
  simp (disch := omega) only [w_heldInt64S, w_heldInt64S_l0, w_heldInt64S_l0_s, c_nlt]
/-- Slices of numbers that lie in a row of their own. -/
theorem eqI_val (z : β) {N L c c' : Nat} (hN : L < N) (hl : L ≤ 2000000) (a b : Nat → Int) (hab : ∀ j, j < L → a j = b j) (k : Bool → β) : w_eqInt64S_s10 z N L L c L L c' L a L b k = k true := by
  unfold w_eqInt64S_s10
  simp (disch := omega) only [c_ble, c_nne]
  exact (up_to_all (L := fun m i => w_eqInt64S_l0_s8 z L L c L L c' L a L b m (i : Int) (k false) (k true)) (n := L) (kt := k true) (kf := k false) (p := fun _ => true)
    (fun m i hi => by
      have := hab i hi
      simp only [w_eqInt64S_l0_s8, w_eqInt64S_l0_s8_s, c_and, Int.toNat_natCast]
      simp (disch := omega) only [c_lt, c_le, c_blt, c_ble, c_beq, c_fits, c_nne]
      rfl)
    (fun m => by simp (disch := omega) only [w_eqInt64S_l0_s8, w_eqInt64S_l0_s8_s, c_ble, c_nlt]) L N 0 (by omega) hN).trans (by rw [(allFrom_iff L 0).2 fun _ _ _ => rfl]; rfl)
def marksI (L : Nat) (a : Nat → Int) : Nat → Int := iter (fun i h => upd h i ((i : Int) + 1)) L 0 a
theorem marksI_get (L : Nat) (a : Nat → Int) (j : Nat) (hj : j < L) : marksI L a j = j + 1 := by
  unfold marksI
  rw [iter_set (fun i : Nat => (i : Int) + 1)]
  simp
  omega
theorem markI_val (z : β) {N L c : Nat} (hN : L < N) (hl : L ≤ 2000000) (a : Nat → Int) (k : Int → (Nat → Int) → β) : w_markInt64S_s4 z N L L c 1 L a k = k (L + 1) (marksI L a) := by
  unfold w_markInt64S_s4
  refine (up_to (L := fun m i h => w_markInt64S_l0_s4 z L L c L m ((i : Int) + 1) (i : Int) h k) (n := L) (out := k (L + 1)) (f := fun i h => upd h i ((i : Int) + 1)) (I := fun _ _ => True)
      (fun m i s hi _ => ⟨by
        simp only [w_markInt64S_l0_s4, w_markInt64S_l0_s4_s, c_and, Int.toNat_natCast]
        simp (disch := omega) only [c_lt, c_le, c_blt, c_ble, c_beq, c_fits]
        rfl, trivial⟩)
      (fun m s _ => by simp (disch := omega) only [w_markInt64S_l0_s4, w_markInt64S_l0_s4_s, c_ble, c_nlt]) L N 0 a (by omega) hN trivial)
theorem heldI_val (z : β) {N L c : Nat} (hN : L < N) (hl : L ≤ 2000000) (a : Nat → Int) (ha : ∀ j, j < L → a j = j + 1) (k : Int → β) : w_heldInt64S_s4 z N L L c 1 L a k = k (L + 1) := by
  unfold w_heldInt64S_s4
  exact (up_to_all (L := fun m i => w_heldInt64S_l0_s4 z L L c L a m ((i : Int) + 1) (i : Int) (k (-1)) k) (n := L) (kt := k (L + 1)) (kf := k (-1)) (p := fun _ => true)
    (fun m i hi => by
      have := ha i hi
      simp only [w_heldInt64S_l0_s4, w_heldInt64S_l0_s4_s, c_and, Int.toNat_natCast]
      simp (disch := omega) only [c_lt, c_le, c_blt, c_ble, c_beq, c_fits, c_nne]
      rfl)
    (fun m => by simp (disch := omega) only [w_heldInt64S_l0_s4, w_heldInt64S_l0_s4_s, c_ble, c_nlt]) L N 0 (by omega) hN).trans (by rw [(allFrom_iff L 0).2 fun _ _ _ => rfl]; rfl)
end
end Go.AM

namespace Go.AM
section
variable {β : Type}
/-- The cells of a header. -/
abbrev idAt (ids : List (Nat × Nat)) (i : Nat) : Nat × Nat := ids[i]?.getD (0, 0)
abbrev rowAt (T : List (List Int)) (i : Nat) : List Int := T[i]?.getD []
/-- A table told by a header row and a pool of rows. -/
structure TabP (ids : List (Nat × Nat)) (pool T : List (List Int)) : Prop where
  len : T.length ≤ ids.length
  lt : ∀ i, i < T.length → (idAt ids i).1 < pool.length
  sz : ∀ i, i < T.length → (idAt ids i).2 = (rowAt T i).length
  row : ∀ i, i < T.length → rowAt pool (idAt ids i).1 = rowAt T i
  inj : ∀ i j, i < T.length → j < T.length → (idAt ids i).1 = (idAt ids j).1 → i = j
/-- How many cells the first rows have. -/
def total (T : List (List Int)) : Nat → Nat
  | 0 => 0
  | i + 1 => total T i + (rowAt T i).length
structure SmallT (N : Nat) (T : List (List Int)) : Prop where
  rows : T.length < N ∧ T.length ≤ 1000
  cols : ∀ i, i < T.length → (rowAt T i).length < N ∧ (rowAt T i).length ≤ 1000
theorem SmallT.total {N : Nat} {T : List (List Int)} (h : SmallT N T) : ∀ i, i ≤ T.length → total T i ≤ 1000 * i := by
  intro i
  induction i with
  | zero => intro _; exact Nat.le_refl _
  | succ i ih =>
    intro hi
    have := ih (by omega)
    have := (h.cols i (by omega)).2
    simp only [Go.AM.total]
    omega
theorem pair_beq {a b : Nat} (h : a = b) : (a.beq b) = true := by subst h; exact Nat.beq_refl a

/-! the law's functions on tables -/
theorem eqNil (z : β) {N : Nat} (hN : 0 < N) (k : Bool → β) : w_eqInt64SS z N k = k true := by
  obtain ⟨N, rfl⟩ : ∃ m, N = m + 1 := ⟨N - 1, by omega⟩
  simp (disch := omega) only [w_eqInt64SS, w_eqInt64SS_l0, w_eqInt64SS_l0_s, c_nlt]
theorem markNil (z : β) {N : Nat} (hN : 0 < N) (i : Int) (k : β) : w_markInt64SS z N i k = k := by
  obtain ⟨N, rfl⟩ : ∃ m, N = m + 1 := ⟨N - 1, by omega⟩
  simp (disch := omega) only [w_markInt64SS, w_markInt64SS_l0, w_markInt64SS_l0_s, c_nlt]
theorem heldNil (z : β) {N : Nat} (hN : 0 < N) (i : Int) (k : β) : w_heldInt64SS z N i k = k := by
  obtain ⟨N, rfl⟩ : ∃ m, N = m + 1 := ⟨N - 1, by omega⟩
  simp (disch := omega) only [w_heldInt64SS, w_heldInt64SS_l0, w_heldInt64SS_l0_s, c_nlt]

theorem eqRow (z : β) {N L c c' a b : Nat} (hN : L < N) (hl : L ≤ 1000) {P Q : List (List Int)} {xs : List Int} (ha : rowAt P a = xs) (hb : rowAt Q b = xs) (hx : xs.length = L) (k : Bool → β) :
    w_eqInt64S_s14 z N a 0 L L c b 0 L L c' P Q k = k true := by
  unfold w_eqInt64S_s14
  unfold rowAt at ha hb
  simp (disch := omega) only [c_ble, c_nne]
  exact (up_to_all (L := fun m i => w_eqInt64S_l0_s12 z a 0 L L c b 0 L L c' P Q m (i : Int) (k false) (k true)) (n := L) (kt := k true) (kf := k false) (p := fun _ => true)
    (fun m i hi => by
      simp only [w_eqInt64S_l0_s12, w_eqInt64S_l0_s12_s, c_and, Int.toNat_natCast, addO_eq, Nat.zero_add, ha, hb]
      simp (disch := omega) only [c_lt, c_le, c_blt, c_ble, c_beq, c_fits, c_nne]
      rfl)
    (fun m => by simp (disch := omega) only [w_eqInt64S_l0_s12, w_eqInt64S_l0_s12_s, c_ble, c_nlt]) L N 0 (by omega) hN).trans (by rw [(allFrom_iff L 0).2 fun _ _ _ => rfl]; rfl)
theorem eqTab (z : β) {N c c' : Nat} {ids ids' : List (Nat × Nat)} {P P' T : List (List Int)} (h : TabP ids P T) (h' : TabP ids' P' T) (s : SmallT N T) (k : Bool → β) :
    w_eqInt64SS_s4 z N ids.length T.length c ids'.length T.length c' ids ids' P P' k = k true := by
  have := s.rows
  have := h.len
  have := h'.len
  unfold w_eqInt64SS_s4
  simp (disch := omega) only [c_ble, c_nne]
  exact (up_to_all (L := fun m i => w_eqInt64SS_l0_s4 z N ids.length T.length c ids'.length T.length c' ids ids' P P' m (i : Int) (k false) (k true)) (n := T.length) (kt := k true) (kf := k false) (p := fun _ => true)
    (fun m i hi => by
      have e1 := h.sz i hi
      have e2 := h'.sz i hi
      have e3 := s.cols i hi
      have e4 := h.row i hi
      have e5 := h'.row i hi
      unfold idAt at e1 e2
      simp only [w_eqInt64SS_l0_s4, w_eqInt64SS_l0_s4_s, c_and, Int.toNat_natCast]
      simp (disch := omega) only [c_lt, c_le, c_blt, c_ble, c_beq, e1, e2]
      rw [eqRow z e3.1 e3.2 e4 e5 rfl]
      simp (disch := omega) only [Bool.not_true, cond_false, c_fits]
      rfl)
    (fun m => by simp (disch := omega) only [w_eqInt64SS_l0_s4, w_eqInt64SS_l0_s4_s, c_ble, c_nlt]) T.length N 0 (by omega) (by omega)).trans (by rw [(allFrom_iff T.length 0).2 fun _ _ _ => rfl]; rfl)

/-- A row that is marked from a number on. -/
def MarkR (k0 : Int) (L : Nat) (xs : List Int) : Prop := xs.length = L ∧ ∀ j, j < L → xs[j]?.getD 0 = k0 + j
theorem rowAt_set {P : List (List Int)} {a : Nat} {ys : List Int} (ha : a < P.length) (b : Nat) : rowAt (P.set a ys) b = if b = a then ys else rowAt P b := by
  unfold rowAt
  rw [List.getElem?_set]
  by_cases e : b = a
  · subst e; rw [if_pos rfl, if_pos ha, if_pos rfl]; rfl
  · rw [if_neg (Ne.symm e), if_neg e]
def markRowF (a : Nat) (k0 : Int) (i : Nat) (p : List (List Int)) : List (List Int) := p.set a ((rowAt p a).set i (k0 + i))
def markRowS (a : Nat) (k0 : Int) (L : Nat) (p : List (List Int)) : List (List Int) := iter (markRowF a k0) L 0 p
theorem markRowS_spec {a L : Nat} {k0 : Int} {P : List (List Int)} (ha : a < P.length) (hx : (rowAt P a).length = L) :
    (markRowS a k0 L P).length = P.length ∧ (∀ b, b ≠ a → rowAt (markRowS a k0 L P) b = rowAt P b) ∧ MarkR k0 L (rowAt (markRowS a k0 L P) a) := by
  have := iter_inv (f := markRowF a k0) (n := L) (I := fun i s => s.length = P.length ∧ (∀ b, b ≠ a → rowAt s b = rowAt P b) ∧ (rowAt s a).length = L ∧ ∀ j, j < i → (rowAt s a)[j]?.getD 0 = k0 + j)
    (fun i s hi ⟨i1, i2, i3, i4⟩ => by
      unfold markRowF
      refine ⟨by simp [i1], fun b hb => ?_, ?_, fun j hj => ?_⟩
      · rw [rowAt_set (by omega), if_neg hb]; exact i2 b hb
      · rw [rowAt_set (by omega), if_pos rfl, List.length_set]; exact i3
      · rw [rowAt_set (by omega), if_pos rfl, List.getElem?_set]
        by_cases e : i = j
        · subst e; rw [if_pos rfl, if_pos (by omega)]; rfl
        · rw [if_neg e]; exact i4 j (by omega)) L 0 P (by omega) ⟨rfl, fun _ _ => rfl, hx, fun j hj => by omega⟩
  rw [Nat.zero_add] at this
  exact this
theorem markRow (z : β) {N L c a : Nat} (hN : L < N) (hl : L ≤ 1000) {P : List (List Int)} {k0 : Int} (hk : 0 ≤ k0 ∧ k0 ≤ 1000000000) (ha : a < P.length) (hx : (rowAt P a).length = L) (k : Int → List (List Int) → β) :
    w_markInt64S_s6 z N a 0 L L c k0 P k = k (k0 + L) (markRowS a k0 L P) := by
  unfold w_markInt64S_s6
  have h1 := up_to (L := fun m i (s : List (List Int)) => w_markInt64S_l0_s6 z a 0 L L c m (k0 + i) (i : Int) s fun q10 q11 => k q10 q11) (n := L) (out := fun s => k (k0 + L) s) (f := markRowF a k0)
    (I := fun i s => s.length = P.length ∧ (rowAt s a).length = L)
    (fun m i s hi ⟨i1, i3⟩ => by
      unfold markRowF
      refine ⟨?_, by simp [i1], ?_⟩
      · have i3' := i3
        unfold rowAt at i3'
        simp only [w_markInt64S_l0_s6, w_markInt64S_l0_s6_s, c_and, Int.toNat_natCast, addO_eq, Nat.zero_add, i3']
        simp (disch := omega) only [c_lt, c_le, c_blt, c_ble, c_beq, c_fits]
        rw [show k0 + (i : Int) + 1 = k0 + ((i + 1 : Nat) : Int) by omega]
        rfl
      · rw [rowAt_set (by omega), if_pos rfl, List.length_set]; exact i3)
    (fun m s _ => by simp (disch := omega) only [w_markInt64S_l0_s6, w_markInt64S_l0_s6_s, c_ble, c_nlt]) L N 0 P (by omega) hN ⟨rfl, hx⟩
  refine Eq.trans ?_ h1
  simp
/-- A table that is marked. -/
structure TabM (ids : List (Nat × Nat)) (P T : List (List Int)) : Prop where
  len : T.length ≤ ids.length
  sz : ∀ i, i < T.length → (idAt ids i).2 = (rowAt T i).length
  row : ∀ i, i < T.length → MarkR (1 + total T i) (rowAt T i).length (rowAt P (idAt ids i).1)
def markTabF (ids : List (Nat × Nat)) (T : List (List Int)) (i : Nat) (p : List (List Int)) : List (List Int) := markRowS (idAt ids i).1 (1 + total T i) (rowAt T i).length p
def markTabS (ids : List (Nat × Nat)) (T P : List (List Int)) : List (List Int) := iter (markTabF ids T) T.length 0 P
theorem markTab (z : β) {N c : Nat} {ids : List (Nat × Nat)} {P T : List (List Int)} (h : TabP ids P T) (s : SmallT N T) (k : Int → List (List Int) → β) :
    w_markInt64SS_s2 z N ids.length T.length c 1 ids P k = k (1 + total T T.length) (markTabS ids T P) := by
  have hr := s.rows
  have hlen := h.len
  unfold w_markInt64SS_s2
  exact up_to (L := fun m i (p : List (List Int)) => w_markInt64SS_l0_s2 z N ids.length T.length c ids m (1 + total T i) (i : Int) p fun q9 q10 => k q9 q10) (n := T.length) (out := fun p => k (1 + total T T.length) p) (f := markTabF ids T)
    (I := fun i p => p.length = P.length ∧ ∀ j, i ≤ j → j < T.length → rowAt p (idAt ids j).1 = rowAt T j)
    (fun m i p hi ⟨i1, i2⟩ => by
      have e1 := h.sz i hi
      have e3 := s.cols i hi
      have e6 := s.total i (by omega)
      have hx : (rowAt p (idAt ids i).1).length = (rowAt T i).length := by rw [i2 i (Nat.le_refl _) hi]
      have hlt : (idAt ids i).1 < p.length := by rw [i1]; exact h.lt i hi
      obtain ⟨g2, g3, g4⟩ := markRowS_spec (k0 := 1 + total T i) hlt hx
      refine ⟨?_, by unfold markTabF; rw [g2, i1], fun j hj1 hj2 => ?_⟩
      · unfold idAt at e1
        simp only [w_markInt64SS_l0_s2, w_markInt64SS_l0_s2_s, c_and, Int.toNat_natCast]
        simp (disch := omega) only [c_lt, c_le, c_blt, c_ble, c_beq, e1]
        rw [markRow z e3.1 e3.2 (by omega) hlt hx]
        simp (disch := omega) only [c_fits]
        rw [show (1 : Int) + (total T i : Int) + ((rowAt T i).length : Int) = 1 + ((total T (i + 1) : Nat) : Int) by simp only [total]; omega]
        rfl
      · unfold markTabF
        rw [g3 _ (fun e => by have := h.inj j i hj2 hi e; omega)]; exact i2 j (by omega) hj2)
    (fun m p _ => by simp (disch := omega) only [w_markInt64SS_l0_s2, w_markInt64SS_l0_s2_s, c_ble, c_nlt]) T.length N 0 P (by omega) (by omega) ⟨rfl, fun j _ hj => h.row j hj⟩
theorem markTab_spec {ids : List (Nat × Nat)} {P T : List (List Int)} (h : TabP ids P T) : TabM ids (markTabS ids T P) T := by
  have := iter_inv (f := markTabF ids T) (n := T.length) (I := fun i p => p.length = P.length ∧ (∀ j, i ≤ j → j < T.length → rowAt p (idAt ids j).1 = rowAt T j) ∧ ∀ j, j < i → MarkR (1 + total T j) (rowAt T j).length (rowAt p (idAt ids j).1))
    (fun i p hi ⟨i1, i2, i3⟩ => by
      have hx : (rowAt p (idAt ids i).1).length = (rowAt T i).length := by rw [i2 i (Nat.le_refl _) hi]
      have hlt : (idAt ids i).1 < p.length := by rw [i1]; exact h.lt i hi
      obtain ⟨g2, g3, g4⟩ := markRowS_spec (k0 := 1 + total T i) hlt hx
      unfold markTabF
      refine ⟨by rw [g2, i1], fun j hj1 hj2 => ?_, fun j hj => ?_⟩
      · rw [g3 _ (fun e => by have := h.inj j i hj2 hi e; omega)]; exact i2 j (by omega) hj2
      · by_cases e : j = i
        · subst e; exact g4
        · rw [g3 _ (fun e' => e (h.inj j i (by omega) hi e'))]; exact i3 j (by omega)) T.length 0 P (by omega) ⟨rfl, fun j _ hj => h.row j hj, fun j hj => by omega⟩
  rw [Nat.zero_add] at this
  exact ⟨h.len, h.sz, this.2.2⟩
theorem heldRow (z : β) {N L c a : Nat} (hN : L < N) (hl : L ≤ 1000) {P : List (List Int)} {k0 : Int} (hk : 0 ≤ k0 ∧ k0 ≤ 1000000000) (hx : MarkR k0 L (rowAt P a)) (k : Int → β) :
    w_heldInt64S_s6 z N a 0 L L c k0 P k = k (k0 + L) := by
  obtain ⟨hx, hm⟩ := hx
  unfold rowAt at hx hm
  unfold w_heldInt64S_s6
  refine Eq.trans (b := w_heldInt64S_l0_s6 z a 0 L L c P N (k0 + (0 : Nat)) ((0 : Nat) : Int) (k (-1)) fun q10 => k q10) (by simp) ?_
  exact (up_to_all (L := fun m i => w_heldInt64S_l0_s6 z a 0 L L c P m (k0 + (i : Nat)) (i : Int) (k (-1)) fun q10 => k q10) (n := L) (kt := k (k0 + L)) (kf := k (-1)) (p := fun _ => true)
    (fun m i hi => by
      have := hm i hi
      simp only [w_heldInt64S_l0_s6, w_heldInt64S_l0_s6_s, c_and, Int.toNat_natCast, addO_eq, Nat.zero_add]
      simp (disch := omega) only [c_lt, c_le, c_blt, c_ble, c_beq, c_fits, c_nne]
      rw [show k0 + (i : Int) + 1 = k0 + ((i + 1 : Nat) : Int) by omega]
      rfl)
    (fun m => by simp (disch := omega) only [w_heldInt64S_l0_s6, w_heldInt64S_l0_s6_s, c_ble, c_nlt]) L N 0 (by omega) hN).trans (by rw [(allFrom_iff L 0).2 fun _ _ _ => rfl]; rfl)
theorem heldTab (z : β) {N c : Nat} {ids : List (Nat × Nat)} {P T : List (List Int)} (h : TabM ids P T) (s : SmallT N T) (k : Int → β) :
    w_heldInt64SS_s2 z N ids.length T.length c 1 ids P k = k (1 + total T T.length) := by
  have hr := s.rows
  have hlen := h.len
  unfold w_heldInt64SS_s2
  exact (up_to_all (L := fun m i => w_heldInt64SS_l0_s2 z N ids.length T.length c ids P m (1 + (total T i : Nat)) (i : Int) (k (-1)) fun q9 => k q9) (n := T.length) (kt := k (1 + total T T.length)) (kf := k (-1)) (p := fun _ => true)
    (fun m i hi => by
      have e1 := h.sz i hi
      have e3 := s.cols i hi
      have e6 := s.total i (by omega)
      unfold idAt at e1
      simp only [w_heldInt64SS_l0_s2, w_heldInt64SS_l0_s2_s, c_and, Int.toNat_natCast]
      simp (disch := omega) only [c_lt, c_le, c_blt, c_ble, c_beq, e1]
      rw [heldRow z e3.1 e3.2 (by omega) (h.row i hi)]
      simp (disch := omega) only [c_fits, c_nlt]
      rw [show (1 : Int) + (total T i : Int) + ((rowAt T i).length : Int) = 1 + ((total T (i + 1) : Nat) : Int) by simp only [total]; omega]
      rfl)
    (fun m => by simp (disch := omega) only [w_heldInt64SS_l0_s2, w_heldInt64SS_l0_s2_s, c_ble, c_nlt]) T.length N 0 (by omega) (by omega)).trans (by rw [(allFrom_iff T.length 0).2 fun _ _ _ => rfl]; rfl)

/-! tables that are built by appends -/
def idsOf (T : List (List Int)) : List (Nat × Nat) := (List.range T.length).map fun i => (i, (rowAt T i).length)
theorem idsOf_len (T : List (List Int)) : (idsOf T).length = T.length := by simp [idsOf]
theorem idsOf_at (T : List (List Int)) {i : Nat} (hi : i < T.length) : idAt (idsOf T) i = (i, (rowAt T i).length) := by
  simp [idAt, idsOf, hi]
theorem idsOf_app (T : List (List Int)) (x : List Int) : idsOf (T ++ [x]) = idsOf T ++ [(T.length, x.length)] := by
  unfold idsOf
  rw [List.length_append, List.length_singleton, List.range_succ, List.map_append]
  congr 1
  · refine List.map_congr_left fun i hi => ?_
    rw [List.mem_range] at hi
    unfold rowAt
    rw [List.getElem?_append_left hi]
  · simp [rowAt]
theorem TabP.of_app (T : List (List Int)) : TabP (idsOf T) T T where
  len := by rw [idsOf_len]; exact Nat.le_refl _
  lt i hi := by rw [idsOf_at T hi]; exact hi
  sz i hi := by rw [idsOf_at T hi]
  row i hi := by rw [idsOf_at T hi]
  inj i j hi hj e := by rw [idsOf_at T hi, idsOf_at T hj] at e; exact e
end
end Go.AM

namespace Go.AM
section
variable {β : Type}
theorem isOrder_s2_ordL (z : β) (n a : Int) (h g : Nat → Int) : ∀ m s t k0 k1, i_isOrder_l0_s2 z n a h g m s t k0 k1 = ordL 8 z n h m s t k0 k1 := by
  intro m
  induction m with
  | zero => intros; rfl
  | succ m ih => intro s t k0 k1; simp only [i_isOrder_l0_s2, ordL, ih]; rfl
theorem isOrder_s3_ordL (z : β) (n a : Int) (h g : Nat → Int) : ∀ m s t k0 k1, i_isOrder_l0_s3 z n a h g m s t k0 k1 = ordL 8 z n g m s t k0 k1 := by
  intro m
  induction m with
  | zero => intros; rfl
  | succ m ih => intro s t k0 k1; simp only [i_isOrder_l0_s3, ordL, ih]; rfl
theorem l01Perm_permL (z : β) (n : Int) (h : Nat → Int) : ∀ m i s k0 k1, s_l01Perm_l0 z n h m i s k0 k1 = permL 8 z n h m i s k0 k1 := by
  intro m
  induction m with
  | zero => intros; rfl
  | succ m ih => intro s t k0 k1; simp only [s_l01Perm_l0, permL, ih]; rfl

theorem s_l01Perm_val (z : β) {N : Nat} (hN : 8 < N) {m : Nat} (hm : m ≤ 8) (X : Nat → Int) (hX : ∀ j, 0 ≤ X j) (k : Bool → β) : s_l01Perm z N X m k = k (permB 8 m X) := by
  unfold s_l01Perm
  rw [l01Perm_permL]
  exact perm_val 8 (by omega) z m hm X hX k hN
theorem i_isOrder_s2_val (z : β) {N : Nat} (hN : 8 < N) {m : Nat} (h1 : 1 ≤ m) (hm : m ≤ 8) (a : Int) (X O : Nat → Int) (hX : ∀ j, 0 ≤ X j) (k : Bool → β) : i_isOrder_s2 z N m a X O k = k (permB 8 m X) := by
  unfold i_isOrder_s2
  rw [isOrder_s2_ordL]
  exact ord_val 8 (by omega) z m h1 hm hm X hX k hN
theorem i_isOrder_s3_val (z : β) {N : Nat} (hN : 8 < N) {m : Nat} (h1 : 1 ≤ m) (hm : m ≤ 8) (a : Int) (X O : Nat → Int) (hO : ∀ j, 0 ≤ O j) (k : Bool → β) : i_isOrder_s3 z N m a X O k = k (permB 8 m O) := by
  unfold i_isOrder_s3
  rw [isOrder_s3_ordL]
  exact ord_val 8 (by omega) z m h1 hm hm O hO k hN

/-- Cells of eight bytes. -/
def clip8 (a : Nat → Int) : Nat → Int := fun j => if j < 8 then a j else 0
theorem clip8_lt {a : Nat → Int} {j : Nat} (h : j < 8) : clip8 a j = a j := if_pos h
theorem clip8_nn {a : Nat → Int} (h : ∀ j, j < 8 → 0 ≤ a j) : ∀ j, 0 ≤ clip8 a j := fun j => by unfold clip8; split; exact h j ‹_›; omega
theorem clip8_le {a : Nat → Int} (h : ∀ j, j < 8 → a j ≤ 255) : ∀ j, clip8 a j ≤ 255 := fun j => by unfold clip8; split; exact h j ‹_›; omega
theorem w_toByteA8_val (z : β) {N : Nat} (hN : 8 < N) (a : Nat → Int) (k0 : (Nat → Int) → β) : w_toByteA8 z N a k0 = k0 (clip8 a) := by
  unfold w_toByteA8
  have := up_to (L := fun m i h => w_toByteA8_l0 z a (fun _ => 0) m (i : Int) h k0) (n := 8) (out := k0) (f := fun i h => upd h i (a i)) (I := fun _ _ => True)
    (fun m i s hi _ => ⟨by
      simp only [w_toByteA8_l0, w_toByteA8_l0_s, c_and, Int.toNat_natCast]
      simp (disch := omega) only [c_lt, c_le, c_blt, c_fits]
      rfl, trivial⟩)
    (fun m s _ => by simp (disch := omega) only [w_toByteA8_l0, w_toByteA8_l0_s, c_nlt]) 8 N 0 (fun _ => 0) rfl hN trivial
  rw [iter_set] at this
  refine this.trans (congrArg k0 (funext fun j => ?_))
  simp [clip8]
theorem w_toGrid_val (z : β) {N : Nat} (hN : 8 < N) (n : Int) (a b : Nat → Int) (k0 : (Nat → Int) → (Nat → Int) → β) : w_toGrid z N n a b k0 = k0 (clip8 a) (clip8 b) := by
  unfold w_toGrid
  rw [w_toByteA8_val z hN, w_toByteA8_val z hN]

/-- No column with both marks in one cell. -/
def apartB (n : Nat) (X O : Nat → Int) : Bool := allFrom (fun i => !(X i == O i)) n 0
/-- Is it a grid? -/
noncomputable def gridB (n : Int) (X O : Nat → Int) : Bool := decide (2 ≤ n ∧ n ≤ 8) && (permB 8 n.toNat X && (permB 8 n.toNat O && apartB n.toNat X O))
/-- A grid: its size is between 2 and 8, both lists are permutations, no column with both marks in one cell. -/
structure GridP (n : Nat) (X O : Nat → Int) : Prop where
  lo : 2 ≤ n
  hi : n ≤ 8
  px : PermP 8 n X
  po : PermP 8 n O
  ne : ∀ i, i < n → X i ≠ O i
theorem gridB_iff {n : Int} {X O : Nat → Int} : gridB n X O = true ↔ ∃ m : Nat, n = m ∧ GridP m X O := by
  unfold gridB
  simp only [Bool.and_eq_true, decide_eq_true_eq, permB_iff, apartB, allFrom_iff]
  constructor
  · rintro ⟨⟨h1, h2⟩, h3, h4, h5⟩
    refine ⟨n.toNat, by omega, by omega, by omega, h3, h4, fun i hi => ?_⟩
    have := h5 i (by omega) (by omega)
    simpa using this
  · rintro ⟨m, rfl, g⟩
    have := g.lo
    have := g.hi
    refine ⟨by omega, g.px, g.po, fun j _ h => ?_⟩
    have := g.ne j (by simpa using h)
    simpa using this
theorem gridB_false {n : Int} {X O : Nat → Int} (h : ¬ (2 ≤ n ∧ n ≤ 8)) : gridB n X O = false := by unfold gridB; rw [decide_eq_false h]; rfl

theorem s_l01Is_val (z : β) {N : Nat} (hN : 8 < N) (n : Int) (X O : Nat → Int) (hX : ∀ j, 0 ≤ X j) (hO : ∀ j, 0 ≤ O j) (k : Bool → β) : s_l01Is z N n X O k = k (gridB n X O) := by
  unfold s_l01Is
  rw [s_l01In_val]
  by_cases h : 2 ≤ n ∧ n ≤ 8
  · obtain ⟨m, rfl⟩ : ∃ m : Nat, n = (m : Int) := ⟨n.toNat, by omega⟩
    simp only [decide_eq_true h, Bool.not_true, c_false]
    rw [s_l01Perm_val z hN (by omega) X hX]
    unfold gridB
    rw [decide_eq_true h, Int.toNat_natCast]
    cases permB 8 m X with
    | false => rfl
    | true =>
      simp only [Bool.not_true, c_false, Bool.true_and]
      rw [s_l01Perm_val z hN (by omega) O hO]
      cases permB 8 m O with
      | false => rfl
      | true =>
        simp only [Bool.not_true, c_false, Bool.true_and]
        have := up_to_all (L := fun j i => s_l01Is_l0 z m X O j (i : Int) (k false) (k true)) (n := m) (kt := k true) (kf := k false) (p := fun i => !(X i == O i))
          (fun j i hi => by
            simp only [s_l01Is_l0, s_l01Is_l0_s, c_and, Int.toNat_natCast]
            simp (disch := omega) only [c_lt, c_le, c_blt, c_fits, c_not]
            rfl)
          (fun j => by simp (disch := omega) only [s_l01Is_l0, s_l01Is_l0_s, c_nlt]) m N 0 (by omega) (by omega)
        refine this.trans ?_
        unfold apartB
        cases allFrom (fun i => !(X i == O i)) m 0 <;> rfl
  · simp only [decide_eq_false h, Bool.not_false, c_true]
    rw [gridB_false h]

theorem i_IsGrid_val (z : β) {N : Nat} (hN : 8 < N) (n : Int) (X O : Nat → Int) (hX : ∀ j, 0 ≤ X j) (hO : ∀ j, 0 ≤ O j) (k : Bool → β) : i_IsGrid z N n X O k = k (gridB n X O) := by
  unfold i_IsGrid
  rw [i_within_val]
  by_cases h : 2 ≤ n ∧ n ≤ 8
  · obtain ⟨m, rfl⟩ : ∃ m : Nat, n = (m : Int) := ⟨n.toNat, by omega⟩
    simp only [decide_eq_true h, Bool.not_true, c_false, i_Grid_n]
    rw [i_isOrder_s2_val z hN (by omega) (by omega) _ X O hX]
    unfold gridB
    rw [decide_eq_true h, Int.toNat_natCast]
    cases permB 8 m X with
    | false => rfl
    | true =>
      simp only [Bool.not_true, c_false, Bool.true_and]
      rw [i_isOrder_s3_val z hN (by omega) (by omega) _ X O hO]
      cases permB 8 m O with
      | false => rfl
      | true =>
        simp only [Bool.not_true, c_false, Bool.true_and]
        have := up_to_all (L := fun j i => i_IsGrid_l0 z m m X O j (i : Int) (k false) (k true)) (n := m) (kt := k true) (kf := k false) (p := fun i => !(X i == O i))
          (fun j i hi => by
            simp only [i_IsGrid_l0, i_IsGrid_l0_s, c_and, Int.toNat_natCast]
            simp (disch := omega) only [c_lt, c_le, c_blt, c_fits, c_not]
            rfl)
          (fun j => by simp (disch := omega) only [i_IsGrid_l0, i_IsGrid_l0_s, c_nlt]) m N 0 (by omega) (by omega)
        refine this.trans ?_
        unfold apartB
        cases allFrom (fun i => !(X i == O i)) m 0 <;> rfl
  · simp only [decide_eq_false h, Bool.not_false, c_true]
    rw [gridB_false h]
/-- Equal states are equal. -/
theorem w_eqState_refl (z : β) {N : Nat} (hN : 8 < N) (a : Nat → Int) (k0 : Bool → β) : w_eqState z N a a k0 = k0 true := by
  unfold w_eqState
  have := up_to_all (L := fun k i => w_eqState_l0 z a a k (i : Int) (k0 false) (k0 true)) (n := 8) (kt := k0 true) (kf := k0 false) (p := fun _ => true)
    (fun j i hi => by
      simp only [w_eqState_l0, w_eqState_l0_s, c_and, Int.toNat_natCast]
      simp (disch := omega) only [c_lt, c_le, c_blt, c_fits, c_nne]
      rfl)
    (fun k => by simp (disch := omega) only [w_eqState_l0, w_eqState_l0_s, c_nlt]) 8 N 0 (by omega) (by omega)
  refine this.trans ?_
  rfl
end
end Go.AM

namespace Go.AM
section
variable {β : Type}
theorem app1 (x : Int) : fromTo ((List.replicate 1 (0 : Int)).set 0 x) 0 1 = [x] := rfl
theorem len1 {γ : Type} (s : List γ) (x : γ) : (s ++ [x]).length = s.length + 1 := by simp
/-- Does a column's line cross the level? -/
def crossB (X O : Nat → Int) (r : Int) (i : Nat) : Bool := decide (X i ≤ r) != decide (O i ≤ r)
def relF (X O : Nat → Int) (r : Int) (i : Nat) (s : List Int) : List Int := cond (crossB X O r i) (s ++ [(i : Int)]) s
/-- The columns that cross a level. -/
def relL (n : Nat) (X O : Nat → Int) (r : Int) : List Int := iter (relF X O r) n 0 []
theorem relF_len {X O : Nat → Int} {r : Int} {i : Nat} {s : List Int} (h : s.length ≤ i) : (relF X O r i s).length ≤ i + 1 := by
  unfold relF
  cases crossB X O r i with
  | true => rw [c_true, len1]; omega
  | false => rw [c_false]; omega
theorem relL_len (n : Nat) (X O : Nat → Int) (r : Int) : (relL n X O r).length ≤ n := by
  have := iter_inv (f := relF X O r) (n := n) (I := fun i s => s.length ≤ i) (fun i s _ h => relF_len h) n 0 [] (by omega) (Nat.le_refl _)
  rwa [Nat.zero_add] at this
theorem s_l08Relation_val (z : β) {N n : Nat} (hN : n < N) (hn : n ≤ 8) (X O : Nat → Int) (r : Int) (k : Nat → Nat → Nat → List Int → β) :
    s_l08Relation z N n X O r k = k (relL n X O r).length (relL n X O r).length (relL n X O r).length (relL n X O r) := by
  unfold s_l08Relation
  exact up_to (L := fun m i (s : List Int) => s_l08Relation_l0 z r n X O m s.length s.length s.length (i : Int) s fun q7 q8 q9 q10 => k q7 q8 q9 q10) (n := n) (out := fun s => k s.length s.length s.length s) (f := relF X O r) (I := fun i s => s.length ≤ i)
    (fun m i s hi hs => ⟨by
      unfold relF crossB
      simp only [s_l08Relation_l0, s_l08Relation_l0_s, c_and, Int.toNat_natCast, app1, c_true]
      simp (disch := omega) only [c_lt, c_le, c_blt, c_ble, c_nble, c_beq, c_fits]
      cases decide (X i ≤ r) != decide (O i ≤ r) with
      | true => simp only [c_true, len1]; rfl
      | false => rfl, relF_len hs⟩)
    (fun m s _ => by simp (disch := omega) only [s_l08Relation_l0, s_l08Relation_l0_s, c_nlt]) n N 0 [] (by omega) hN (by simp)
def relsF (n : Nat) (X O : Nat → Int) (r : Nat) (T : List (List Int)) : List (List Int) := T ++ [relL n X O r]
/-- All relations. -/
def relsT (n : Nat) (X O : Nat → Int) : List (List Int) := iter (relsF n X O) (n - 1) 0 []
theorem relsT_spec (n : Nat) (X O : Nat → Int) : (relsT n X O).length = n - 1 ∧ ∀ i, i < n - 1 → rowAt (relsT n X O) i = relL n X O i := by
  have := iter_inv (f := relsF n X O) (n := n - 1) (I := fun i T => T.length = i ∧ ∀ j, j < i → rowAt T j = relL n X O j) (fun i T _ ⟨h1, h2⟩ => by
    unfold relsF
    refine ⟨by rw [len1, h1], fun j hj => ?_⟩
    unfold rowAt
    by_cases e : j = i
    · subst e; rw [List.getElem?_append_right (by omega), h1, Nat.sub_self]; rfl
    · rw [List.getElem?_append_left (by omega)]; exact h2 j (by omega)) (n - 1) 0 [] (by omega) ⟨rfl, fun j hj => by omega⟩
  rwa [Nat.zero_add] at this
theorem relsT_small {N n : Nat} (hN : 16 < N) (hn : n ≤ 8) (X O : Nat → Int) : SmallT N (relsT n X O) := by
  obtain ⟨h1, h2⟩ := relsT_spec n X O
  refine ⟨⟨by omega, by omega⟩, fun i hi => ?_⟩
  rw [h2 i (by omega)]
  have := relL_len n X O i
  omega
theorem s_RelationsOf_val (z : β) {N n : Nat} (hN : 16 < N) {X O : Nat → Int} (g : GridP n X O) (hX : ∀ j, 0 ≤ X j) (hO : ∀ j, 0 ≤ O j) (k0 : Int → β) (k1 : Nat → Nat → Nat → Int → List (Nat × Nat) → List (List Int) → β) :
    s_RelationsOf z N n X O k0 k1 = k1 (idsOf (relsT n X O)).length (relsT n X O).length (relsT n X O).length 0 (idsOf (relsT n X O)) (relsT n X O) := by
  have hlo := g.lo
  have hhi := g.hi
  unfold s_RelationsOf
  rw [s_l01Is_val z (by omega) _ _ _ hX hO, gridB_iff.2 ⟨n, rfl, g⟩]
  simp only [Bool.not_true, c_false]
  refine (up_to (L := fun m i (T : List (List Int)) => s_RelationsOf_l0 z N n X O m (idsOf T).length T.length T.length (i : Int) T (idsOf T) fun q7 q8 q9 q10 q11 => k1 q7 q8 q9 0 q11 q10) (n := n - 1) (out := fun T => k1 (idsOf T).length T.length T.length 0 (idsOf T) T) (f := relsF n X O) (I := fun i T => T.length = i)
    (fun m i T hi hT => ⟨?_, by unfold relsF; rw [len1, hT]⟩) (fun m T _ => by simp (disch := omega) only [s_RelationsOf_l0, s_RelationsOf_l0_s, c_nlt, c_fits]) (n - 1) N 0 [] (by omega) (by omega) rfl)
  have hl := relL_len n X O i
  have hi2 := idsOf_len T
  unfold relsF
  simp only [s_RelationsOf_l0, s_RelationsOf_l0_s, c_and]
  simp (disch := omega) only [c_lt, c_fits]
  rw [s_l08Relation_val z (by omega) hhi]
  simp only [c_true]
  simp (disch := omega) only [c_lt, c_le, c_blt, c_ble, c_nble, c_beq, c_fits]
  rw [idsOf_app, len1, len1]
  rfl
theorem cross_min (a b r : Int) : (decide (a ≤ r) != decide (b ≤ r)) = (decide ((bif decide (b < a) then b else a) ≤ r) && decide (r < bif decide (a < b) then b else a)) := by
  by_cases h1 : a ≤ r <;> by_cases h2 : b ≤ r <;> by_cases h3 : a < b <;> by_cases h4 : b < a <;> simp [h1, h2, h3, h4] <;> omega
theorem i_Grid_relations_l1_val (z : β) {N n : Nat} (hN : n < N) (hn : n ≤ 8) (X O : Nat → Int) (r : Int) (a b c : Nat) (t10 t11 : Int) (h1 : List (List Int)) (h2 : List (Nat × Nat)) (k : Nat → Nat → Nat → List Int → β) :
    i_Grid_relations_l1 z a b c r t10 t11 n n X O h1 h2 N 0 0 0 0 (List.replicate 0 0) k = k (relL n X O r).length (relL n X O r).length (relL n X O r).length (relL n X O r) := by
  exact up_to (L := fun m i (s : List Int) => i_Grid_relations_l1 z a b c r t10 t11 n n X O h1 h2 m s.length s.length s.length (i : Int) s k) (n := n) (out := fun s => k s.length s.length s.length s) (f := relF X O r) (I := fun i s => s.length ≤ i)
    (fun m i s hi hs => ⟨by
      unfold relF crossB
      rw [cross_min, c_and]
      simp only [i_Grid_relations_l1, i_Grid_relations_l1_s, c_and, Int.toNat_natCast, app1, c_true]
      simp (disch := omega) only [c_lt, c_le, c_blt, c_ble, c_nble, c_beq, c_fits]
      cases decide ((bif decide (O i < X i) then O i else X i) ≤ r) with
      | true =>
        simp only [c_true]
        cases decide (r < bif decide (X i < O i) then O i else X i) with
        | true => simp only [c_true, len1]; rfl
        | false => rfl
      | false => rfl, relF_len hs⟩)
    (fun m s _ => by simp (disch := omega) only [i_Grid_relations_l1, i_Grid_relations_l1_s, c_nlt]) n N 0 [] (by omega) hN (by simp)
theorem i_Grid_relations_val (z : β) {N n : Nat} (hN : 16 < N) (hlo : 2 ≤ n) (hhi : n ≤ 8) (X O : Nat → Int) (k : Nat → Nat → Nat → List (Nat × Nat) → List (List Int) → β) :
    i_Grid_relations z N n X O k = k (idsOf (relsT n X O)).length (relsT n X O).length (relsT n X O).length (idsOf (relsT n X O)) (relsT n X O) := by
  unfold i_Grid_relations i_Grid_n
  rw [c_fits (by omega)]
  refine (up_to (L := fun m i (T : List (List Int)) => i_Grid_relations_l0 z N (n - 1 : Int) n X O m (idsOf T).length T.length T.length (i : Int) T (idsOf T) fun q6 q7 q8 q9 q10 => k q6 q7 q8 q10 q9) (n := n - 1) (out := fun T => k (idsOf T).length T.length T.length (idsOf T) T) (f := relsF n X O) (I := fun i T => T.length = i)
    (fun m i T hi hT => ⟨?_, by unfold relsF; rw [len1, hT]⟩) (fun m T _ => by simp (disch := omega) only [i_Grid_relations_l0, i_Grid_relations_l0_s, c_nlt]) (n - 1) N 0 [] (by omega) (by omega) rfl)
  have hl := relL_len n X O i
  have hi2 := idsOf_len T
  unfold relsF
  simp only [i_Grid_relations_l0, i_Grid_relations_l0_s, i_Grid_n, c_and]
  simp (disch := omega) only [c_lt]
  rw [i_Grid_relations_l1_val z (by omega) hhi]
  simp only [c_true]
  simp (disch := omega) only [c_lt, c_le, c_blt, c_ble, c_nble, c_beq, c_fits]
  rw [idsOf_app, len1, len1]
  rfl
/-- Copies of the rows of a table. -/
def rowCopyF (xs : List Int) (j : Nat) (s : List Int) : List Int := s ++ [xs[j]?.getD 0]
theorem copy_take (xs : List Int) : ∀ d, d ≤ xs.length → iter (rowCopyF xs) d 0 [] = xs.take d := by
  intro d
  induction d with
  | zero => intro _; rfl
  | succ d ih =>
    intro hd
    rw [iter_succ, ih (by omega), Nat.zero_add]
    unfold rowCopyF
    rw [List.take_add_one, List.getElem?_eq_getElem (by omega)]
    rfl
theorem i_RelationsOf_1_l1_val (z : β) {N : Nat} {xs : List Int} {P : List (List Int)} {q : Nat} (hq : rowAt P q = xs) (hN : xs.length < N) (hx : xs.length ≤ 1000) (a b c d e f : Nat) (t12 t13 : Int) (n : Int) (X O : Nat → Int) (h1 : List (List Int)) (h2 h3 : List (Nat × Nat)) (k : Nat → Nat → Nat → List Int → β) :
    i_RelationsOf_1_l1 z a b c d e f t12 t13 q 0 xs.length xs.length xs.length xs.length n X O h1 h2 h3 P N 0 0 0 0 (List.replicate 0 0) k = k xs.length xs.length xs.length xs := by
  unfold rowAt at hq
  have := up_to (L := fun m j (s : List Int) => i_RelationsOf_1_l1 z a b c d e f t12 t13 q 0 xs.length xs.length xs.length (xs.length : Int) n X O h1 h2 h3 P m s.length s.length s.length (j : Int) s k)
      (n := xs.length) (f := rowCopyF xs) (I := fun j s => s.length = j) (out := fun s => k s.length s.length s.length s)
    (fun m j s hj hs => ⟨by
      unfold rowCopyF
      simp only [i_RelationsOf_1_l1, i_RelationsOf_1_l1_s, c_and, Int.toNat_natCast, addO_eq, Nat.zero_add, app1, c_true, hq]
      simp (disch := omega) only [c_lt, c_le, c_blt, c_ble, c_nble, c_beq, c_fits]
      rw [len1]
      rfl, by unfold rowCopyF; rw [len1, hs]⟩)
    (fun m s hs => by simp (disch := omega) only [i_RelationsOf_1_l1, i_RelationsOf_1_l1_s, c_nlt]) xs.length N 0 [] (by omega) (by omega) rfl
  rw [copy_take xs xs.length (Nat.le_refl _), List.take_length] at this
  exact this
theorem i_RelationsOf_1_val (z : β) {N n : Nat} (hN : 16 < N) (hlo : 2 ≤ n) (hhi : n ≤ 8) (X O : Nat → Int) (k : Nat → Nat → Nat → List (Nat × Nat) → List (List Int) → β) :
    i_RelationsOf_1 z N n X O k = k (idsOf (relsT n X O)).length (relsT n X O).length (relsT n X O).length (idsOf (relsT n X O)) (relsT n X O) := by
  unfold i_RelationsOf_1
  rw [i_Grid_relations_val z hN hlo hhi]
  obtain ⟨hl, hr⟩ := relsT_spec n X O
  have hb := relsT_small hN hhi X O
  have hP := TabP.of_app (relsT n X O)
  have hi2 := idsOf_len (relsT n X O)
  rw [c_ble (by omega)]
  have he : relsT n X O = iter (relsF n X O) (n - 1) 0 [] := rfl
  generalize hT : relsT n X O = T at *
  refine Eq.trans (up_to (L := fun m i (S : List (List Int)) => i_RelationsOf_1_l0 z N (idsOf T).length T.length T.length (T.length : Int) n X O (idsOf T) T m (idsOf S).length S.length S.length (i : Int) S (idsOf S) fun q11 q12 q13 q14 q15 => k q11 q12 q13 q15 q14) (n := T.length) (out := fun T => k (idsOf T).length T.length T.length (idsOf T) T) (f := relsF n X O) (I := fun i T => T.length = i)
    (fun m i S hi hS => ⟨?_, by unfold relsF; rw [len1, hS]⟩) (fun m T _ => by simp (disch := omega) only [i_RelationsOf_1_l0, i_RelationsOf_1_l0_s, c_nlt]) T.length N 0 [] (by omega) (by omega) rfl) (by simp only [hl, ← he])
  have e1 := hP.sz i hi
  have e2 := hP.row i hi
  have e3 := hb.cols i hi
  have hi3 := idsOf_len S
  unfold idAt at e1 e2
  unfold relsF
  simp only [i_RelationsOf_1_l0, i_RelationsOf_1_l0_s, c_and, Int.toNat_natCast]
  simp (disch := omega) only [c_lt, c_le, c_blt, c_ble, c_beq, e1]
  rw [i_RelationsOf_1_l1_val z e2 (by omega) (by omega), hr i (by omega)]
  rw [hr i (by omega)] at e3
  simp only [c_true]
  simp (disch := omega) only [c_lt, c_le, c_blt, c_ble, c_nble, c_beq, c_fits]
  rw [idsOf_app, len1, len1]
  rfl
theorem i_RelationsOf_val (z : β) {N n : Nat} (hN : 16 < N) {X O : Nat → Int} (g : GridP n X O) (hX : ∀ j, 0 ≤ X j) (hO : ∀ j, 0 ≤ O j) (k0 : Int → β) (k1 : Nat → Nat → Nat → Int → List (Nat × Nat) → List (List Int) → β) :
    i_RelationsOf z N n X O k0 k1 = k1 (idsOf (relsT n X O)).length (relsT n X O).length (relsT n X O).length 0 (idsOf (relsT n X O)) (relsT n X O) := by
  unfold i_RelationsOf i_whole_int64_s2
  rw [i_IsGrid_val z (by omega) _ _ _ hX hO, gridB_iff.2 ⟨n, rfl, g⟩]
  simp only [Bool.not_true, c_false]
  rw [i_RelationsOf_1_val z hN g.lo g.hi]
theorem w_FnExactRelationsOf_val (z : β) {N : Nat} (hN : 100 < N) (n : Int) (X O : Nat → Int) (hX : ∀ j, j < 8 → 0 ≤ X j ∧ X j ≤ 255) (hO : ∀ j, j < 8 → 0 ≤ O j ∧ O j ≤ 255) (k0 : Bool → β) : w_FnExactRelationsOf z N n X O k0 = k0 true := by
  unfold w_FnExactRelationsOf
  have hN8 : 8 < N := by omega
  have hX0 := clip8_nn (a := X) fun j hj => (hX j hj).1
  have hO0 := clip8_nn (a := O) fun j hj => (hO j hj).1
  simp only [w_toGrid_val z hN8]
  cases hg : gridB n (clip8 X) (clip8 O) with
  | false =>
    simp (disch := omega) only [s_RelationsOf, i_RelationsOf, i_whole_int64_s2, s_l01Is_val z hN8 _ _ _ hX0 hO0, i_IsGrid_val z hN8 _ _ _ hX0 hO0, hg, Bool.not_false, c_true, eqNil, markNil, heldNil, Bool.not_true, c_false, c_nne]
  | true =>
    obtain ⟨m, rfl, g⟩ := gridB_iff.1 hg
    have h8 := g.hi
    have hs := relsT_small (N := N) (by omega) h8 (clip8 X) (clip8 O)
    have hP := TabP.of_app (relsT m (clip8 X) (clip8 O))
    have hM := markTab_spec hP
    have hn := relsT_spec m (clip8 X) (clip8 O)
    have hb := hs.total (relsT m (clip8 X) (clip8 O)).length (Nat.le_refl _)
    simp only [s_RelationsOf_val z (N := N) (by omega) g hX0 hO0, i_RelationsOf_val z (N := N) (by omega) g hX0 hO0, eqTab z hP hP hs, markTab z hP hs, heldTab z hM hs, Bool.not_true, c_false]
    simp (disch := omega) only [c_nne, c_nlt]
end
end Go.AM

namespace Go.AM
section
variable {β : Type}
/-- Steps that agree along the way. -/
theorem iter_congr {σ : Type} {f g : Nat → σ → σ} : ∀ (d i : Nat) (s : σ), (∀ j s, i ≤ j → j < i + d → f j s = g j s) → iter f d i s = iter g d i s := by
  intro d
  induction d with
  | zero => intro i s _; rfl
  | succ d ih =>
    intro i s h
    rw [iter, iter, h i s (Nat.le_refl _) (by omega)]
    exact ih (i + 1) _ fun j s h1 h2 => h j s (by omega) (by omega)
theorem get_app_lt {xs : List Int} {x : Int} {j : Nat} (h : j < xs.length) : (xs ++ [x])[j]?.getD 0 = xs[j]?.getD 0 := by rw [List.getElem?_append_left h]
theorem get_app_eq {xs : List Int} {x : Int} : (xs ++ [x])[xs.length]?.getD 0 = x := by simp
/-- One, minus one and so on. -/
def sgn (j : Nat) : Int := if j % 2 = 0 then 1 else -1
theorem sgn_bd (j : Nat) : sgn j = 1 ∨ sgn j = -1 := by unfold sgn; split <;> simp
theorem sgn_succ (j : Nat) : sgn (j + 1) = -sgn j := by unfold sgn; by_cases h : j % 2 = 0 <;> simp [h] <;> omega
def lineF (xs : List Int) (j : Nat) (f : Nat → Int) : Nat → Int := upd f (xs[j]?.getD 0).toNat (sgn j)
/-- The line of an equation. -/
def lineS (xs : List Int) : Nat → Int := iter (lineF xs) xs.length 0 fun _ => 0
theorem lineS_app (xs : List Int) (x : Int) : lineS (xs ++ [x]) = upd (lineS xs) x.toNat (sgn xs.length) := by
  unfold lineS
  rw [len1, iter_succ, iter_congr (g := lineF xs)]
  · unfold lineF
    rw [Nat.zero_add, get_app_eq]
  · intro j s _ hj
    unfold lineF
    rw [get_app_lt (by omega)]
theorem lineS_bd (xs : List Int) (c : Nat) : lineS xs c = 0 ∨ lineS xs c = 1 ∨ lineS xs c = -1 := by
  have := iter_inv (f := lineF xs) (n := xs.length) (I := fun _ f => f c = 0 ∨ f c = 1 ∨ f c = -1) (fun i s _ h => by
    unfold lineF
    rw [upd_at]
    split
    · exact .inr (sgn_bd i)
    · exact h) xs.length 0 (fun _ => 0) (by omega) (.inl rfl)
  exact this
theorem relL_lt (n : Nat) (X O : Nat → Int) (r : Int) : ∀ j, j < (relL n X O r).length → 0 ≤ (relL n X O r)[j]?.getD 0 ∧ (relL n X O r)[j]?.getD 0 < n := by
  have := iter_inv (f := relF X O r) (n := n) (I := fun i s => ∀ j, j < s.length → 0 ≤ s[j]?.getD 0 ∧ s[j]?.getD 0 < i) (fun i s _ h j hj => by
    unfold relF at hj ⊢
    cases hc : crossB X O r i with
    | true =>
      rw [hc, c_true, len1] at hj
      rw [c_true]
      by_cases e : j = s.length
      · subst e; rw [get_app_eq]; omega
      · rw [get_app_lt (by omega)]; have := h j (by omega); omega
    | false =>
      rw [hc, c_false] at hj
      rw [c_false]
      have := h j hj; omega) n 0 [] (by omega) (fun j hj => by simp at hj)
  rw [Nat.zero_add] at this
  exact this
def eqnR (n : Nat) (X O : Nat → Int) (r : Nat) : List Int := (List.range n).map (lineS (relL n X O r))
theorem eqnR_len (n : Nat) (X O : Nat → Int) (r : Nat) : (eqnR n X O r).length = n := by simp [eqnR]
theorem eqnR_at {n : Nat} (X O : Nat → Int) (r : Nat) {c : Nat} (hc : c < n) : (eqnR n X O r)[c]?.getD 0 = lineS (relL n X O r) c := by simp [eqnR, hc]
def eqnsF (n : Nat) (X O : Nat → Int) (r : Nat) (T : List (List Int)) : List (List Int) := T ++ [eqnR n X O r]
/-- The equations of a grid. -/
def eqnsT (n : Nat) (X O : Nat → Int) : List (List Int) := iter (eqnsF n X O) (n - 1) 0 []
theorem eqnsT_spec (n : Nat) (X O : Nat → Int) : (eqnsT n X O).length = n - 1 ∧ ∀ i, i < n - 1 → rowAt (eqnsT n X O) i = eqnR n X O i := by
  have := iter_inv (f := eqnsF n X O) (n := n - 1) (I := fun i T => T.length = i ∧ ∀ j, j < i → rowAt T j = eqnR n X O j) (fun i T _ ⟨h1, h2⟩ => by
    unfold eqnsF
    refine ⟨by rw [len1, h1], fun j hj => ?_⟩
    unfold rowAt
    by_cases e : j = i
    · subst e; rw [List.getElem?_append_right (by omega), h1, Nat.sub_self]; rfl
    · rw [List.getElem?_append_left (by omega)]; exact h2 j (by omega)) (n - 1) 0 [] (by omega) ⟨rfl, fun j hj => by omega⟩
  rwa [Nat.zero_add] at this
theorem i_Grid_equations_l1_val (z : β) {N n : Nat} {xs : List Int} {P : List (List Int)} {q : Nat} (hq : rowAt P q = xs) (hN : xs.length < N) (hx : xs.length ≤ 1000) (hlt : ∀ j, j < xs.length → 0 ≤ xs[j]?.getD 0 ∧ xs[j]?.getD 0 < n)
    (a b c d e f : Nat) (t12 t13 : Int) (n0 : Int) (X O : Nat → Int) (h1 : List (List Int)) (h2 h3 : List (Nat × Nat)) (k : (Nat → Int) → β) :
    i_Grid_equations_l1 z a b c n n n d e f t12 t13 q 0 xs.length xs.length xs.length xs.length n0 X O h1 h2 h3 P n N 1 0 (fun _ => 0) k = k (lineS xs) := by
  unfold rowAt at hq
  exact up_to (L := fun m j s => i_Grid_equations_l1 z a b c n n n d e f t12 t13 q 0 xs.length xs.length xs.length xs.length n0 X O h1 h2 h3 P n m (sgn j) (j : Int) s k)
      (n := xs.length) (f := lineF xs) (I := fun _ _ => True) (out := k)
    (fun m j s hj _ => ⟨by
      obtain ⟨l1, l2⟩ := hlt j hj
      have := sgn_bd j
      unfold lineF
      simp only [i_Grid_equations_l1, i_Grid_equations_l1_s, c_and, Int.toNat_natCast, addO_eq, Nat.zero_add, hq]
      simp (disch := omega) only [c_lt, c_le, c_blt, c_ble, c_nble, c_beq, c_fits]
      rw [sgn_succ]
      rfl, trivial⟩)
    (fun m s hs => by simp (disch := omega) only [i_Grid_equations_l1, i_Grid_equations_l1_s, c_nlt]) xs.length N 0 _ (by omega) (by omega) trivial
theorem i_Grid_equations_val (z : β) {N n : Nat} (hN : 16 < N) (hlo : 2 ≤ n) (hhi : n ≤ 8) (X O : Nat → Int) (k : Nat → Nat → Nat → List (Nat × Nat) → List (List Int) → β) :
    i_Grid_equations z N n X O k = k (idsOf (eqnsT n X O)).length (eqnsT n X O).length (eqnsT n X O).length (idsOf (eqnsT n X O)) (eqnsT n X O) := by
  unfold i_Grid_equations
  rw [i_Grid_relations_val z hN hlo hhi]
  obtain ⟨hl, hr⟩ := relsT_spec n X O
  have hb := relsT_small hN hhi X O
  have hP := TabP.of_app (relsT n X O)
  have hi2 := idsOf_len (relsT n X O)
  rw [c_ble (by omega)]
  generalize hT : relsT n X O = T at *
  have he : eqnsT n X O = iter (eqnsF n X O) (n - 1) 0 [] := rfl
  refine Eq.trans (up_to (L := fun m i (S : List (List Int)) => i_Grid_equations_l0 z N (idsOf T).length T.length T.length (T.length : Int) n X O (idsOf T) T m (idsOf S).length S.length S.length (i : Int) S (idsOf S) fun q11 q12 q13 q14 q15 => k q11 q12 q13 q15 q14) (n := T.length) (out := fun T => k (idsOf T).length T.length T.length (idsOf T) T) (f := eqnsF n X O) (I := fun i T => T.length = i)
    (fun m i S hi hS => ⟨?_, by unfold eqnsF; rw [len1, hS]⟩) (fun m T _ => by simp (disch := omega) only [i_Grid_equations_l0, i_Grid_equations_l0_s, c_nlt]) T.length N 0 [] (by omega) (by omega) rfl) (by simp only [hl, ← he])
  have e1 := hP.sz i hi
  have e2 := hP.row i hi
  have e3 := hb.cols i hi
  have hi3 := idsOf_len S
  unfold idAt at e1 e2
  unfold eqnsF
  simp only [i_Grid_equations_l0, i_Grid_equations_l0_s, i_Grid_n, c_and, c_true, Int.toNat_natCast]
  simp (disch := omega) only [c_lt, c_le, c_blt, c_ble, c_beq, e1]
  rw [i_Grid_equations_l1_val z e2 (by omega) (by omega) (by rw [hr i (by omega)]; exact relL_lt n X O i), hr i (by omega)]
  simp only [List.length_map, List.length_range]
  simp (disch := omega) only [c_lt, c_le, c_blt, c_ble, c_nble, c_beq, c_fits]
  rw [show (List.range n).map (lineS (relL n X O i)) = eqnR n X O i from rfl]
  simp only [idsOf_app, len1, eqnR_len]
  rfl
end
end Go.AM

namespace Go.AM
section
variable {β : Type}
/-- A loop that comes to an end, whatever comes behind it. -/
theorem up_to_exK {σ κ : Type} {L : κ → Nat → Nat → σ → β} {n : Nat} {out : κ → σ → β} {I : Nat → σ → Prop}
    (hs : ∀ i s, i < n → I i s → ∃ s', (∀ k m, L k (m + 1) i s = L k m (i + 1) s') ∧ I (i + 1) s') (he : ∀ k m s, I n s → L k (m + 1) n s = out k s) :
    ∀ (d i : Nat) (s : σ), i + d = n → I i s → ∃ s', I n s' ∧ ∀ k m, d < m → L k m i s = out k s' := by
  intro d
  induction d with
  | zero =>
    intro i s hi h0
    have : i = n := by omega
    subst this
    refine ⟨s, h0, fun k m hm => ?_⟩
    obtain ⟨m, rfl⟩ : ∃ m', m = m' + 1 := ⟨m - 1, by omega⟩
    exact he k m s h0
  | succ d ih =>
    intro i s hi h0
    obtain ⟨s', h1, h2⟩ := hs i s (by omega) h0
    obtain ⟨s'', h3, h4⟩ := ih (i + 1) s' (by omega) h2
    refine ⟨s'', h3, fun k m hm => ?_⟩
    obtain ⟨m, rfl⟩ : ∃ m', m = m' + 1 := ⟨m - 1, by omega⟩
    rw [h1]
    exact h4 k m (by omega)
/-! the program's checks -/
theorem i_idx_coef (z : β) {N n c : Nat} (hN : n < N) (hn : n ≤ 9223372036854775800) (a : Nat → Int) (k : Bool → β) : i_areCoefficients z N n n c n a k = k (coefB n a) := by
  unfold i_areCoefficients slices_ContainsFunc_int64_int64_s2 slices_IndexFunc_int64_int64_s3
  rw [c_ble (by omega)]
  refine (up_to_all (L := fun m i => slices_IndexFunc_int64_int64_l0_s3 z N 0 n n c n n a m (i : Int) (fun q9 => k (!decide (0 ≤ q9))) (k (!decide (0 ≤ (-1 : Int))))) (n := n) (kt := k true) (kf := k false) (p := fun i => decide (-1000000000000 ≤ a i ∧ a i ≤ 1000000000000))
    (fun m i hi => ?_) (fun m => ?_) n N 0 (by omega) (by omega)).trans (by unfold coefB; cases allFrom (fun i => decide (-1000000000000 ≤ a i ∧ a i ≤ 1000000000000)) n 0 <;> rfl)
  · rw [slices_IndexFunc_int64_int64_l0_s3, slices_IndexFunc_int64_int64_l0_s3_s]
    simp only [c_and, Int.toNat_natCast, i_areCoefficients_1, i_isCoefficient, i_within_val, addO_eq, Nat.zero_add]
    simp (disch := omega) only [c_lt, c_le, c_blt, c_beq, c_fits, c_not]
    rw [decide_eq_true (show (0 : Int) ≤ i by omega)]
    rfl
  · simp (disch := omega) only [slices_IndexFunc_int64_int64_l0_s3, slices_IndexFunc_int64_int64_l0_s3_s, c_nlt]
    rfl
theorem i_IsLaurent_val (z : β) {N n c : Nat} (hN : 5000 < N) (hs : n ≤ 9223372036854775800) (L : Int) (a : Nat → Int) (k : Bool → β) : i_IsLaurent z N L n n c n a k = k (laurB L n a) := by
  unfold i_IsLaurent i_Laurent_isZero laurB
  rw [c_ble (by omega)]
  rcases Nat.eq_zero_or_pos n with h0 | h0
  · subst h0
    rw [c_beq rfl]
    rfl
  · have e0 : ((n : Int) == 0) = false := by simp; omega
    rw [c_nbeq (by omega), e0]
    simp only [cond_false]
    rw [i_within_val]
    by_cases h2 : -1000 ≤ L ∧ L ≤ 1000
    · rw [decide_eq_true h2, cond_true]
      by_cases h1 : n ≤ 2001
      · rw [c_ble (by omega), c_le (by omega), decide_eq_true h1, Bool.true_and, Bool.true_and]
        unfold i_Laurent_high
        rw [c_ble (by omega), c_fits (by omega), c_fits (by omega)]
        show cond (decide (L + (n : Int) - 1 ≤ 1000)) _ _ = _
        by_cases h3 : L + n - 1 ≤ 1000
        · rw [c_le h3, decide_eq_true h3, Bool.true_and]
          have e1 : ((n : Int) - 1).toNat = n - 1 := by omega
          simp only [c_and, e1]
          simp (disch := omega) only [c_lt, c_le, c_ble, c_blt, c_beq, c_fits]
          by_cases h4 : a 0 = 0
          · rw [c_nne h4]; simp [h4]
          · rw [c_ne h4]
            by_cases h5 : a (n - 1) = 0
            · rw [c_nne h5]; simp [h5]
            · rw [c_ne h5, i_idx_coef z (by omega) (by omega)]
              have e2 : (a 0 == 0) = false := by simpa using h4
              have e3 : (a (n - 1) == 0) = false := by simpa using h5
              rw [e2, e3]
              cases coefB n a <;> rfl
        · rw [c_nle (by omega), decide_eq_false h3]; rfl
      · rw [c_ble (by omega), c_nle (by omega), decide_eq_false h1]; rfl
    · rw [decide_eq_false h2, cond_false]
      simp
/-! sums of products -/
def pf (e : Nat) (a b : Int) : Int := if e = 0 then hPart a b else if e = 1 then mPart a b else lPart a b
theorem pf_lim {e : Nat} {x y : Int} (hx : -1000000000000 ≤ x ∧ x ≤ 1000000000000) (hy : -1000000000000 ≤ y ∧ y ≤ 1000000000000) : -2000000000000 ≤ pf e x y ∧ pf e x y ≤ 2000000000000 := by
  have P := part_bd hx hy
  have P1 := P.p1
  have P2 := P.p2
  have P3 := P.p3
  have P4 := P.p4
  unfold pf
  split
  · unfold hPart; omega
  · split
    · unfold mPart; omega
    · unfold lPart; omega
def add3 (t : Nat) (a b : Int) (s : Nat → Int) : Nat → Int := fun x => if x / 3 = t then s x + pf (x % 3) a b else s x
theorem add3_eq (t : Nat) (a b : Int) (s : Nat → Int) :
    upd (upd (upd s (t * 3) (s (t * 3) + hPart a b)) (t * 3 + 1) (s (t * 3 + 1) + mPart a b)) (t * 3 + 2) (s (t * 3 + 2) + lPart a b) = add3 t a b s := by
  funext x
  unfold add3
  rw [upd_at, upd_at, upd_at]
  by_cases h2 : x = t * 3 + 2
  · rw [if_pos h2, if_pos (by omega), h2, show (t * 3 + 2) % 3 = 2 by omega]; rfl
  · rw [if_neg h2]
    by_cases h1 : x = t * 3 + 1
    · rw [if_pos h1, if_pos (by omega), h1, show (t * 3 + 1) % 3 = 1 by omega]; rfl
    · rw [if_neg h1]
      by_cases h0 : x = t * 3
      · rw [if_pos h0, if_pos (by omega), h0, show (t * 3) % 3 = 0 by omega]; rfl
      · rw [if_neg h0, if_neg (by omega)]
theorem wide_add_val (z : β) {N n t : Nat} (ht : t * 3 + 2 < n) {a b : Int} (ha : -1000000000000 ≤ a ∧ a ≤ 1000000000000) (hb : -1000000000000 ≤ b ∧ b ≤ 1000000000000) {s : Nat → Int} (hs : ∀ x, -10000000000000000 ≤ s x ∧ s x ≤ 10000000000000000) (k : (Nat → Int) → β) :
    i_wide_add z N (t * 3) n a b n s k = k (add3 t a b s) := by
  have P := part_bd ha hb
  have P1 := P.p1
  have P2 := P.p2
  have P3 := P.p3
  have P4 := P.p4
  have d1 := tdiv_bd ha
  have d2 := tdiv_bd hb
  have s0 := hs (t * 3)
  have s1 := hs (t * 3 + 1)
  have s2 := hs (t * 3 + 2)
  have u1 : upd s (t * 3) (s (t * 3) + a.tdiv 1000000 * b.tdiv 1000000) (t * 3 + 1) = s (t * 3 + 1) := by rw [upd_at, if_neg (by omega)]
  have u2 : ∀ v, upd (upd s (t * 3) (s (t * 3) + a.tdiv 1000000 * b.tdiv 1000000)) (t * 3 + 1) v (t * 3 + 2) = s (t * 3 + 2) := fun v => by rw [upd_at, if_neg (by omega), upd_at, if_neg (by omega)]
  unfold i_wide_add
  simp only [addO_eq, Nat.add_zero, u1, u2, c_and]
  simp (disch := omega) only [c_fits, c_beq, c_blt]
  rw [← add3_eq]
  rfl
/-- What a column has come to. -/
def colE (A B : Nat → Int) (nb x i : Nat) : Int := colS (fun i j => pf (x % 3) (A i) (B j)) nb (x / 3) i
theorem colS_lim {f : Nat → Nat → Int} {na nb k : Nat} (h : ∀ i j, i < na → j < nb → -2000000000000 ≤ f i j ∧ f i j ≤ 2000000000000) : ∀ d : Nat, d ≤ na → -(2000000000000 * d) ≤ colS f nb k d ∧ colS f nb k d ≤ 2000000000000 * d := by
  intro d
  induction d with
  | zero => intro _; simp [colS]
  | succ d ih =>
    intro hd
    have h1 := ih (by omega)
    rw [colS]
    by_cases hc : d ≤ k ∧ k < d + nb
    · have := h d (k - d) (by omega) (by omega)
      rw [if_pos hc]; omega
    · rw [if_neg hc]; omega
structure Coefs (n : Nat) (a : Nat → Int) : Prop where
  pos : 1 ≤ n
  le : n ≤ 2001
  bd : ∀ i, i < n → -1000000000000 ≤ a i ∧ a i ≤ 1000000000000
theorem i_l1_val (z : β) {N na nb i : Nat} (hN : 5000 < N) {A B : Nat → Int} (hA : Coefs na A) (hB : Coefs nb B) (hi : i < na) (c1 c2 c3 c4 c5 : Nat) (t59 t60 L0 L1 m0 : Int) (k : (Nat → Int) → β) :
    ∀ s : Nat → Int, (∀ x, s x = colE A B nb x i) → ∃ s' : Nat → Int, (∀ x, s' x = colE A B nb x (i + 1)) ∧ ∀ k : (Nat → Int) → β,
      i_MultiplyLaurents_l1 z N ((na + nb - 1) * 3) (na + nb - 1) c1 i (A i) na na c2 t59 t60 nb nb c3 nb na A nb B L0 na na c4 L1 nb nb c5 m0 ((na + nb - 1) * 3) N 0 s k = k s' := by
  intro s hs
  have p1 := hA.le
  have p2 := hB.le
  have q1 := hB.pos
  have := up_to_exK (κ := (Nat → Int) → β) (L := fun k M j (s : Nat → Int) => i_MultiplyLaurents_l1 z N ((na + nb - 1) * 3) (na + nb - 1) c1 i (A i) na na c2 t59 t60 nb nb c3 nb na A nb B L0 na na c4 L1 nb nb c5 m0 ((na + nb - 1) * 3) M (j : Int) s k) (n := nb) (out := fun k s => k s)
    (I := fun j s => ∀ x, s x = colE A B nb x i + (if i ≤ x / 3 ∧ x / 3 < i + j then pf (x % 3) (A i) (B (x / 3 - i)) else 0))
    (fun j s hj hI => ⟨add3 (i + j) (A i) (B j) s, fun k M => by
      have hsb : ∀ x, -10000000000000000 ≤ s x ∧ s x ≤ 10000000000000000 := fun x => by
        have h1 := colS_lim (f := fun i j => pf (x % 3) (A i) (B j)) (na := na) (nb := nb) (k := x / 3) (fun i j hi hj => pf_lim (hA.bd i hi) (hB.bd j hj)) i (by omega)
        rw [hI x]
        unfold colE
        by_cases hc : i ≤ x / 3 ∧ x / 3 < i + j
        · have h2 := pf_lim (e := x % 3) (hA.bd i hi) (hB.bd (x / 3 - i) (by omega))
          rw [if_pos hc]; omega
        · rw [if_neg hc]; omega
      have e1 : ((i : Int) + (j : Int)).toNat = i + j := by omega
      rw [i_MultiplyLaurents_l1, i_MultiplyLaurents_l1_s]
      simp only [c_and, Int.toNat_natCast, e1]
      simp (disch := omega) only [c_lt, c_le, c_blt, c_beq, c_fits]
      rw [wide_add_val z (by omega) (hA.bd i hi) (hB.bd j hj) hsb]
      rfl, fun x => by
      unfold add3
      by_cases e : x / 3 = i + j
      · rw [if_pos e, hI x, if_neg (by omega), if_pos (by omega), show x / 3 - i = j by omega]; omega
      · rw [if_neg e, hI x]
        by_cases hc : i ≤ x / 3 ∧ x / 3 < i + j
        · rw [if_pos hc, if_pos (by omega)]
        · rw [if_neg hc, if_neg (by omega)]⟩)
    (fun k M s _ => by simp (disch := omega) only [i_MultiplyLaurents_l1, i_MultiplyLaurents_l1_s, c_nlt]) nb 0 s (by omega) (fun x => by rw [hs x, if_neg (by omega)]; omega)
  obtain ⟨s', h1, h2⟩ := this
  exact ⟨s', fun x => by rw [h1 x]; rfl, fun k => h2 k N (by omega)⟩
theorem i_l0_val (z : β) {N na nb : Nat} (hN : 5000 < N) {A B : Nat → Int} (hA : Coefs na A) (hB : Coefs nb B) (c1 c2 c4 c5 : Nat) (L0 L1 m0 : Int) (k : (Nat → Int) → β) :
    ∃ s' : Nat → Int, (∀ x, s' x = colE A B nb x na) ∧ 
      i_MultiplyLaurents_l0 z N ((na + nb - 1) * 3) (na + nb - 1) c1 na na c2 na na A nb B L0 na na c4 L1 nb nb c5 m0 ((na + nb - 1) * 3) N 0 (fun _ => 0) k = k s' := by
  have p1 := hA.le
  have p2 := hB.le
  have := up_to_ex (L := fun M i (s : Nat → Int) => i_MultiplyLaurents_l0 z N ((na + nb - 1) * 3) (na + nb - 1) c1 na na c2 na na A nb B L0 na na c4 L1 nb nb c5 m0 ((na + nb - 1) * 3) M (i : Int) s k) (n := na) (out := k)
    (I := fun i s => ∀ x, s x = colE A B nb x i)
    (fun i s hi hI => by
      obtain ⟨s', h1, h2⟩ := i_l1_val z hN hA hB hi c1 c2 c5 c4 c5 (na : Int) (i : Int) L0 L1 m0 k s hI
      refine ⟨s', fun M => ?_, h1⟩
      rw [i_MultiplyLaurents_l0, i_MultiplyLaurents_l0_s]
      simp only [c_and, Int.toNat_natCast]
      simp (disch := omega) only [c_lt, c_le, c_ble, c_blt, c_beq]
      rw [h2, c_fits (by omega)]
      rfl)
    (fun M s _ => by simp (disch := omega) only [i_MultiplyLaurents_l0, i_MultiplyLaurents_l0_s, c_nlt]) na N 0 (fun _ => 0) (by omega) (by omega) (fun x => rfl)
  obtain ⟨s', h1, h2⟩ := this
  exact ⟨s', h2, h1⟩
/-- The value of a sum in parts. -/
theorem wide_value_val (z : β) (N : Nat) (w : Nat → Int) (hw : ∀ x, x < 3 → -10000000000000000 ≤ w x ∧ w x ≤ 10000000000000000) : ∃ v, (okP (w 0) (w 1) (w 2) = true → v = valP (w 0) (w 1) (w 2)) ∧ ∀ k : Int → Bool → β, i_wide_value z N w k = k v (okP (w 0) (w 1) (w 2)) := by
  have w0 := hw 0 (by omega)
  have w1 := hw 1 (by omega)
  have w2 := hw 2 (by omega)
  have clean : ∀ k : Int → Bool → β, i_wide_value z N w k = cond (fits IntKind.i64 ((w 2).tdiv 1000000)) (cond (fits IntKind.i64 (w 1 + (w 2).tdiv 1000000)) (cond (fits IntKind.i64 ((w 1 + (w 2).tdiv 1000000).tdiv 1000000)) (cond (fits IntKind.i64 (cH (w 0) (w 1) (w 2)))
      (i_within z N (cH (w 0) (w 1) (w 2)) (-2) 2 (fun q4 => cond (!q4) (k 0 false) (cond (fits IntKind.i64 (cH (w 0) (w 1) (w 2) * 1000000)) (cond (fits IntKind.i64 (cH (w 0) (w 1) (w 2) * 1000000 * 1000000)) (cond (fits IntKind.i64 (cM (w 1) (w 2) * 1000000)) (cond (fits IntKind.i64 (cH (w 0) (w 1) (w 2) * 1000000 * 1000000 + cM (w 1) (w 2) * 1000000)) (cond (fits IntKind.i64 (cH (w 0) (w 1) (w 2) * 1000000 * 1000000 + cM (w 1) (w 2) * 1000000 + cL (w 2)))
        (i_isCoefficient z N (cH (w 0) (w 1) (w 2) * 1000000 * 1000000 + cM (w 1) (w 2) * 1000000 + cL (w 2)) (fun q5 => k (cH (w 0) (w 1) (w 2) * 1000000 * 1000000 + cM (w 1) (w 2) * 1000000 + cL (w 2)) q5)) z) z) z) z) z))) z) z) z) z := fun k => rfl
  have q1 := split_tdiv (w 2)
  have q2 := tmod_lim (w 2)
  have q3 := split_tdiv (w 1 + (w 2).tdiv 1000000)
  have q4 := tmod_lim (w 1 + (w 2).tdiv 1000000)
  have cv := carry_val (w 0) (w 1) (w 2)
  have chh := carry_high (w 0) (w 1) (w 2)
  have cm : -1000000 < cM (w 1) (w 2) ∧ cM (w 1) (w 2) < 1000000 := q4
  have cl : -1000000 < cL (w 2) ∧ cL (w 2) < 1000000 := q2
  have ch : -100000000000000000 ≤ cH (w 0) (w 1) (w 2) ∧ cH (w 0) (w 1) (w 2) ≤ 100000000000000000 := by unfold cH; omega
  have base : ∀ k : Int → Bool → β, i_wide_value z N w k = cond (decide (-2 ≤ cH (w 0) (w 1) (w 2) ∧ cH (w 0) (w 1) (w 2) ≤ 2)) (k (valP (w 0) (w 1) (w 2)) (okP (w 0) (w 1) (w 2))) (k 0 false) := fun k => by
    rw [clean, c_fits (by omega), c_fits (by omega), c_fits (by omega), c_fits (by omega), i_within_val]
    by_cases hc : -2 ≤ cH (w 0) (w 1) (w 2) ∧ cH (w 0) (w 1) (w 2) ≤ 2
    · rw [decide_eq_true hc, Bool.not_true, cond_false, cond_true]
      have e : cH (w 0) (w 1) (w 2) * 1000000 * 1000000 + cM (w 1) (w 2) * 1000000 + cL (w 2) = valP (w 0) (w 1) (w 2) := by
        rw [← cv]; unfold valP; omega
      rw [c_fits (by omega), c_fits (by omega), c_fits (by omega), c_fits (by omega), e]
      have hv : -100000000000000000 ≤ valP (w 0) (w 1) (w 2) ∧ valP (w 0) (w 1) (w 2) ≤ 100000000000000000 := by rw [← e]; omega
      rw [c_fits (by omega)]
      unfold i_isCoefficient
      rw [i_within_val]
      rfl
    · rw [decide_eq_false hc]; rfl
  by_cases hc : -2 ≤ cH (w 0) (w 1) (w 2) ∧ cH (w 0) (w 1) (w 2) ≤ 2
  · exact ⟨valP (w 0) (w 1) (w 2), fun _ => rfl, fun k => by rw [base, decide_eq_true hc]; rfl⟩
  · have : okP (w 0) (w 1) (w 2) = false := by
      unfold okP
      refine decide_eq_false fun hv => ?_
      have := chh hv
      omega
    exact ⟨0, fun h' => (by rw [this] at h'; cases h'), fun k => by rw [base, decide_eq_false hc, this]; rfl⟩
end
end Go.AM

namespace Go.AM
section
variable {β : Type}
/-- The parts of a column of products. -/
def colP (e : Nat) (A B : Nat → Int) (na nb t : Nat) : Int := colS (fun i j => pf e (A i) (B j)) nb t na
def okC (A B : Nat → Int) (na nb t : Nat) : Bool := okP (colP 0 A B na nb t) (colP 1 A B na nb t) (colP 2 A B na nb t)
def valC (A B : Nat → Int) (na nb t : Nat) : Int := valP (colP 0 A B na nb t) (colP 1 A B na nb t) (colP 2 A B na nb t)
/-- The products of a column, one after the other. -/
theorem s_l1_val (z : β) {N na nb t : Nat} (hN : 5000 < N) {A B : Nat → Int} (hA : Coefs na A) (hB : Coefs nb B) (ht : t < na + nb - 1) (c1 c2 c3 c4 c5 : Nat) (L0 L1 m0 : Int) (h5 : List Int) (k : Nat → Nat → Nat → Nat → Nat → Nat → List Int → List Int → β) :
    ∃ xs ys : List Int, xs.length = min na (t + 1) - (t + 1 - nb) ∧ ys.length = min na (t + 1) - (t + 1 - nb) ∧ (∀ j, j < min na (t + 1) - (t + 1 - nb) → xs[j]?.getD 0 = A (t + 1 - nb + j)) ∧ (∀ j, j < min na (t + 1) - (t + 1 - nb) → ys[j]?.getD 0 = B (t - (t + 1 - nb + j))) ∧
      s_MultiplyLaurents_l1 z c1 c2 c3 t na A nb B L0 na na c4 L1 nb nb c5 m0 h5 N 0 0 0 0 0 0 ((t + 1 - nb : Nat) : Int) (List.replicate 0 0) (List.replicate 0 0) k = k xs.length xs.length xs.length ys.length ys.length ys.length xs ys := by
  have p1 := hA.le
  have p2 := hB.le
  have q1 := hA.pos
  have q2 := hB.pos
  have := up_to_ex (L := fun M i (s : List Int × List Int) => s_MultiplyLaurents_l1 z c1 c2 c3 t na A nb B L0 na na c4 L1 nb nb c5 m0 h5 M s.1.length s.1.length s.1.length s.2.length s.2.length s.2.length (i : Int) s.1 s.2 k) (n := min na (t + 1)) (out := fun s => k s.1.length s.1.length s.1.length s.2.length s.2.length s.2.length s.1 s.2)
    (I := fun i s => t + 1 - nb ≤ i ∧ s.1.length = i - (t + 1 - nb) ∧ s.2.length = i - (t + 1 - nb) ∧ (∀ j, j < i - (t + 1 - nb) → s.1[j]?.getD 0 = A (t + 1 - nb + j)) ∧ (∀ j, j < i - (t + 1 - nb) → s.2[j]?.getD 0 = B (t - (t + 1 - nb + j))))
    (fun i s hi ⟨i0, i1, i2, i3, i4⟩ => ⟨(s.1 ++ [A i], s.2 ++ [B (t - i)]), fun M => by
      obtain ⟨xs, ys⟩ := s
      simp only at i1 i2 i3 i4 ⊢
      have e1 : ((t : Int) - (i : Int)).toNat = t - i := by omega
      have f1 : fromTo ((List.replicate 1 (0 : Int)).set 0 (A i)) 0 1 = [A i] := rfl
      have f2 : fromTo ((List.replicate 1 (0 : Int)).set 0 (B (t - i))) 0 1 = [B (t - i)] := rfl
      rw [s_MultiplyLaurents_l1, s_MultiplyLaurents_l1_s]
      simp only [c_and, c_true, Int.toNat_natCast, e1, f1, f2]
      simp (disch := omega) only [c_lt, c_le, c_ble, c_nble, c_blt, c_beq, c_fits]
      rw [len1, len1]
      rfl, by omega, by simp only [len1]; omega, by simp only [len1]; omega, fun j hj => by
        simp only
        by_cases e : j = i - (t + 1 - nb)
        · have := get_app_eq (xs := s.1) (x := A i)
          rw [i1, ← e] at this
          rw [this]; congr 1; omega
        · rw [get_app_lt (by omega)]; exact i3 j (by omega), fun j hj => by
        simp only
        by_cases e : j = i - (t + 1 - nb)
        · have := get_app_eq (xs := s.2) (x := B (t - i))
          rw [i2, ← e] at this
          rw [this]; congr 1; omega
        · rw [get_app_lt (by omega)]; exact i4 j (by omega)⟩)
    (fun M s _ => by
      rw [s_MultiplyLaurents_l1, s_MultiplyLaurents_l1_s]
      rcases Nat.lt_or_ge t na with h | h
      · have : min na (t + 1) = t + 1 := by omega
        rw [this, c_nle (by omega)]
      · have : min na (t + 1) = na := by omega
        rw [this, c_le (by omega), c_ble (by omega), c_nlt (by omega)]) (min na (t + 1) - (t + 1 - nb)) N (t + 1 - nb) ([], []) (by omega) (by omega) ⟨Nat.le_refl _, by simp, by simp, fun j hj => by omega, fun j hj => by omega⟩
  obtain ⟨s, h1, _, h2, h3, h4, h5'⟩ := this
  exact ⟨s.1, s.2, h2, h3, h4, h5', h1⟩
/-- The list of the sums, or nothing if one is too great. -/
def sumsL (A B : Nat → Int) (na nb : Nat) : Nat → List Int
  | 0 => []
  | t + 1 => sumsL A B na nb t ++ [valC A B na nb t]
theorem sumsL_len (A B : Nat → Int) (na nb : Nat) : ∀ t, (sumsL A B na nb t).length = t := by
  intro t
  induction t with
  | zero => rfl
  | succ t ih => rw [sumsL, len1, ih]
theorem sumsL_get (A B : Nat → Int) (na nb : Nat) : ∀ t j, j < t → (sumsL A B na nb t)[j]?.getD 0 = valC A B na nb j := by
  intro t
  induction t with
  | zero => intro j hj; omega
  | succ t ih =>
    intro j hj
    have hl := sumsL_len A B na nb t
    rw [sumsL]
    by_cases e : j = t
    · have := get_app_eq (xs := sumsL A B na nb t) (x := valC A B na nb t)
      rw [hl] at this
      rw [e, this]
    · rw [get_app_lt (by omega)]; exact ih j (by omega)
theorem colP_sum (e : Nat) {A B : Nat → Int} {na nb : Nat} (t : Nat) : colP e A B na nb t = sumR (fun i => pf e (A i) (B (t - i))) (t + 1 - nb) (min na (t + 1) - (t + 1 - nb)) := colS_sum _ _ _ _
/-- The spec's loop. -/
theorem s_l0_val (z : β) {N na nb : Nat} (hN : 5000 < N) {A B : Nat → Int} (hA : Coefs na A) (hB : Coefs nb B) (c4 c5 : Nat) (L0 L1 m0 : Int) (k0 : β) (k1 : Nat → Nat → Nat → List Int → β) :
    ∀ d M t, t + d = na + nb - 1 → d < M → s_MultiplyLaurents_l0 z N na A nb B L0 na na c4 L1 nb nb c5 m0 M t t t (t : Int) (sumsL A B na nb t) (fun _ => k0) k1 =
      cond (allFrom (okC A B na nb) d t) (k1 (na + nb - 1) (na + nb - 1) (na + nb - 1) (sumsL A B na nb (na + nb - 1))) k0 := by
  have p1 := hA.le
  have p2 := hB.le
  have q1 := hA.pos
  have q2 := hB.pos
  intro d
  induction d with
  | zero =>
    intro M t ht hM
    obtain ⟨M, rfl⟩ : ∃ M', M = M' + 1 := ⟨M - 1, by omega⟩
    have : t = na + nb - 1 := by omega
    subst this
    rw [s_MultiplyLaurents_l0, s_MultiplyLaurents_l0_s]
    simp (disch := omega) only [c_ble, c_fits, c_nlt]
    rfl
  | succ d ih =>
    intro M t ht hM
    obtain ⟨M, rfl⟩ : ∃ M', M = M' + 1 := ⟨M - 1, by omega⟩
    have hl := sumsL_len A B na nb t
    have eb : (bif decide (0 < (t : Int) - (nb : Int) + 1) then (t : Int) - (nb : Int) + 1 else 0) = ((t + 1 - nb : Nat) : Int) := by
      by_cases h : 0 < (t : Int) - (nb : Int) + 1
      · rw [decide_eq_true h, cond_true]; omega
      · rw [decide_eq_false h, cond_false]; omega
    rw [s_MultiplyLaurents_l0, s_MultiplyLaurents_l0_s]
    simp (disch := omega) only [c_ble, c_fits, c_lt]
    rw [eb]
    obtain ⟨xs, ys, x1, y1, x2, y2, e1⟩ := s_l1_val z hN hA hB (t := t) (by omega) t t t c4 c5 L0 L1 m0 (sumsL A B na nb t) (fun q22 q23 q24 q25 q26 q27 q28 q29 => s_l04Exact z N q22 q23 q24 q25 q26 q27 q28 q29 (fun q30 q31 => cond (!q31) k0 (s_MultiplyLaurents_l0 z N na A nb B L0 na na c4 L1 nb nb c5 m0 M (t + 1) (t + 1) (t + 1) ((t + 1 : Nat) : Int) (sumsL A B na nb t ++ [q30]) (fun _ => k0) k1)))
    have ba : ∀ j, j < min na (t + 1) - (t + 1 - nb) → -1000000000000 ≤ A (t + 1 - nb + j) ∧ A (t + 1 - nb + j) ≤ 1000000000000 := fun j hj => hA.bd _ (by omega)
    have bb : ∀ j, j < min na (t + 1) - (t + 1 - nb) → -1000000000000 ≤ B (t - (t + 1 - nb + j)) ∧ B (t - (t + 1 - nb + j)) ≤ 1000000000000 := fun j hj => hB.bd _ (by omega)
    obtain ⟨v, v1, v2⟩ := s_Exact_val z (N := N) (n := min na (t + 1) - (t + 1 - nb)) (by omega) (by omega) x1 y1 (a := A) (b := fun i => B (t - i)) (lo := t + 1 - nb) x2 y2 ba bb (min na (t + 1) - (t + 1 - nb)) (min na (t + 1) - (t + 1 - nb))
      (h := colP 0 A B na nb t) (m := colP 1 A B na nb t) (l := colP 2 A B na nb t) (colP_sum 0 t) (colP_sum 1 t) (colP_sum 2 t)
    refine Eq.trans (Eq.trans ?_ e1) ?_
    · congr 1
      funext q22 q23 q24 q25 q26 q27 q28 q29
      congr 1
      funext q30 q31
      have f1 : fromTo ((List.replicate 1 (0 : Int)).set 0 q30) 0 1 = [q30] := rfl
      simp only [c_and, c_true, f1, hl, len1]
      simp (disch := omega) only [c_ble, c_nble, c_beq, c_fits]
      rfl
    · rw [x1, y1, v2]
      rw [allFrom]
      show cond (!okC A B na nb t) _ _ = _
      cases ho : okC A B na nb t with
      | false => rfl
      | true =>
        rw [v1 ho]
        simp only [Bool.not_true, cond_false, Bool.true_and]
        exact ih M (t + 1) (by omega) (by omega)
/-- The program's loop. -/
theorem i_l2_val (z : β) {N na nb : Nat} (hN : 5000 < N) {A B : Nat → Int} (hA : Coefs na A) (hB : Coefs nb B) (c4 c5 c : Nat) (L0 L1 m0 : Int) {s : Nat → Int} (hs : ∀ x, s x = colE A B nb x na) (k0 : β) (k1 : Nat → Nat → Nat → List Int → β) :
    ∀ d M t, t + d = na + nb - 1 → d < M → i_MultiplyLaurents_l2 z N ((na + nb - 1) * 3) (na + nb - 1) c (na + nb - 1 : Nat) na A nb B L0 na na c4 L1 nb nb c5 m0 ((na + nb - 1) * 3) s M t t t (t : Int) (sumsL A B na nb t) (fun _ => k0) k1 =
      cond (allFrom (okC A B na nb) d t) (k1 (na + nb - 1) (na + nb - 1) (na + nb - 1) (sumsL A B na nb (na + nb - 1))) k0 := by
  have p1 := hA.le
  have p2 := hB.le
  have q1 := hA.pos
  have q2 := hB.pos
  intro d
  induction d with
  | zero =>
    intro M t ht hM
    obtain ⟨M, rfl⟩ : ∃ M', M = M' + 1 := ⟨M - 1, by omega⟩
    have : t = na + nb - 1 := by omega
    subst this
    rw [i_MultiplyLaurents_l2, i_MultiplyLaurents_l2_s, c_nlt (by omega)]
    rfl
  | succ d ih =>
    intro M t ht hM
    obtain ⟨M, rfl⟩ : ∃ M', M = M' + 1 := ⟨M - 1, by omega⟩
    have hl := sumsL_len A B na nb t
    have w : ∀ e, e < 3 → shiftF s (t * 3) e = colP e A B na nb t := fun e he => by
      rw [shiftF_eq, hs]
      unfold colE colP
      rw [show (t * 3 + e) % 3 = e by omega, show (t * 3 + e) / 3 = t by omega]
    have wb : ∀ e, e < 3 → -10000000000000000 ≤ shiftF s (t * 3) e ∧ shiftF s (t * 3) e ≤ 10000000000000000 := fun e he => by
      have h1 := colS_lim (f := fun i j => pf e (A i) (B j)) (na := na) (nb := nb) (k := t) (fun i j hi hj => pf_lim (hA.bd i hi) (hB.bd j hj)) na (Nat.le_refl _)
      rw [w e he]
      unfold colP
      omega
    obtain ⟨v, v1, v2⟩ := wide_value_val z N (shiftF s (t * 3)) wb
    rw [w 0 (by omega), w 1 (by omega), w 2 (by omega)] at v1 v2
    rw [i_MultiplyLaurents_l2, i_MultiplyLaurents_l2_s]
    simp only [c_and, Int.toNat_natCast]
    simp (disch := omega) only [c_lt, c_le, c_ble, c_beq]
    rw [v2, allFrom]
    show cond (!okC A B na nb t) _ _ = _
    cases ho : okC A B na nb t with
    | false => rfl
    | true =>
      have f1 : fromTo ((List.replicate 1 (0 : Int)).set 0 v) 0 1 = [v] := rfl
      simp only [c_true, f1, hl, len1, Bool.not_true, cond_false, Bool.true_and]
      simp (disch := omega) only [c_ble, c_nble, c_beq, c_fits]
      rw [v1 ho]
      exact ih M (t + 1) (by omega) (by omega)
end
end Go.AM

namespace Go.AM
section
variable {β : Type}
theorem s_l04Is_l0_s3_val (z : β) {N n c : Nat} (hN : n < N) (hn : n ≤ 5000) {V : List Int} (hV : V.length = n) {a : Nat → Int} (ha : ∀ i, i < n → V[i]?.getD 0 = a i) (L : Int) (k0 k1 : β) : s_l04Is_l0_s3 z N n V L n n c N 0 k0 k1 = cond (coefB n a) k1 k0 :=
  up_to_all (L := fun m i => s_l04Is_l0_s3 z N n V L n n c m (i : Int) k0 k1) (n := n) (kt := k1) (kf := k0) (p := fun i => decide (-1000000000000 ≤ a i ∧ a i ≤ 1000000000000))
    (fun m i hi => by
      have e := ha i hi
      rw [s_l04Is_l0_s3, s_l04Is_l0_s3_s]
      simp only [c_and, Int.toNat_natCast, s_l01In_val, hV, e]
      simp (disch := omega) only [c_lt, c_le, c_blt, c_beq, c_fits, c_not]
      rfl)
    (fun m => by simp (disch := omega) only [s_l04Is_l0_s3, s_l04Is_l0_s3_s, c_nlt]) n N 0 (by omega) hN
theorem s_l04Is_s4_val (z : β) {N n c : Nat} (hN : 5000 < N) (hs : n ≤ 9223372036854775807) (L : Int) {V : List Int} (hV : V.length = n) {a : Nat → Int} (ha : ∀ i, i < n → V[i]?.getD 0 = a i) (k : Bool → β) : s_l04Is_s4 z N L n n c V k = k (laurB L n a) := by
  unfold s_l04Is_s4 laurB
  rw [c_ble hs]
  rcases Nat.eq_zero_or_pos n with h0 | h0
  · subst h0
    rw [c_eq (by omega), c_beq rfl]
  · rw [c_neq (by omega), c_nbeq (by omega)]
    by_cases h1 : n ≤ 2001
    · rw [c_nlt (by omega), decide_eq_true h1, Bool.true_and, s_l01In_val]
      by_cases h2 : -1000 ≤ L ∧ L ≤ 1000
      · rw [decide_eq_true h2, Bool.not_true, cond_false, Bool.true_and, c_fits (by omega), c_fits (by omega)]
        by_cases h3 : L + n - 1 ≤ 1000
        · rw [c_nlt (by omega), decide_eq_true h3, Bool.true_and]
          have e1 : ((n : Int) - 1).toNat = n - 1 := by omega
          have v0 := ha 0 (by omega)
          have v1 := ha (n - 1) (by omega)
          simp only [c_and, e1, hV, v0, v1]
          simp (disch := omega) only [c_lt, c_le, c_blt, c_beq, c_fits]
          by_cases h4 : a 0 = 0
          · rw [c_eq h4]; simp [h4]
          · rw [c_neq h4]
            by_cases h5 : a (n - 1) = 0
            · rw [c_eq h5]; simp [h5]
            · rw [c_neq h5, s_l04Is_l0_s3_val z (by omega) (by omega) hV ha]
              have e2 : (a 0 == 0) = false := by simpa using h4
              have e3 : (a (n - 1) == 0) = false := by simpa using h5
              rw [e2, e3]
              cases coefB n a <;> rfl
        · rw [c_lt (by omega), decide_eq_false h3]; rfl
      · rw [decide_eq_false h2]; rfl
    · rw [c_lt (by omega), decide_eq_false h1]; rfl
theorem i_idx_coef2 (z : β) {N n c : Nat} (hN : n < N) (hn : n ≤ 9223372036854775800) {V : List Int} (hV : V.length = n) {a : Nat → Int} (ha : ∀ i, i < n → V[i]?.getD 0 = a i) (k : Bool → β) : i_areCoefficients_s2 z N n n c V k = k (coefB n a) := by
  unfold i_areCoefficients_s2 slices_ContainsFunc_int64_int64_s3 slices_IndexFunc_int64_int64_s4
  rw [c_ble (by omega)]
  refine (up_to_all (L := fun m i => slices_IndexFunc_int64_int64_l0_s4 z N 0 n n c n V m (i : Int) (fun q9 => k (!decide (0 ≤ q9))) (k (!decide (0 ≤ (-1 : Int))))) (n := n) (kt := k true) (kf := k false) (p := fun i => decide (-1000000000000 ≤ a i ∧ a i ≤ 1000000000000))
    (fun m i hi => ?_) (fun m => ?_) n N 0 (by omega) (by omega)).trans (by unfold coefB; cases allFrom (fun i => decide (-1000000000000 ≤ a i ∧ a i ≤ 1000000000000)) n 0 <;> rfl)
  · have e := ha i hi
    rw [slices_IndexFunc_int64_int64_l0_s4, slices_IndexFunc_int64_int64_l0_s4_s]
    simp only [c_and, Int.toNat_natCast, i_areCoefficients_1, i_isCoefficient, i_within_val, addO_eq, Nat.zero_add, hV, e]
    simp (disch := omega) only [c_lt, c_le, c_blt, c_beq, c_fits, c_not]
    rw [decide_eq_true (show (0 : Int) ≤ i by omega)]
    rfl
  · simp (disch := omega) only [slices_IndexFunc_int64_int64_l0_s4, slices_IndexFunc_int64_int64_l0_s4_s, c_nlt]
    rfl
theorem i_IsLaurent_s2_val (z : β) {N n c : Nat} (hN : 5000 < N) (hs : n ≤ 9223372036854775800) (L : Int) {V : List Int} (hV : V.length = n) {a : Nat → Int} (ha : ∀ i, i < n → V[i]?.getD 0 = a i) (k : Bool → β) : i_IsLaurent_s2 z N L n n c V k = k (laurB L n a) := by
  unfold i_IsLaurent_s2 i_Laurent_isZero_s2 laurB
  rw [c_ble (by omega)]
  rcases Nat.eq_zero_or_pos n with h0 | h0
  · subst h0
    rw [c_beq rfl]
    rfl
  · have e0 : ((n : Int) == 0) = false := by simp; omega
    rw [c_nbeq (by omega), e0]
    simp only [cond_false]
    rw [i_within_val]
    by_cases h2 : -1000 ≤ L ∧ L ≤ 1000
    · rw [decide_eq_true h2, cond_true]
      by_cases h1 : n ≤ 2001
      · rw [c_ble (by omega), c_le (by omega), decide_eq_true h1, Bool.true_and, Bool.true_and]
        unfold i_Laurent_high_s2
        rw [c_ble (by omega), c_fits (by omega), c_fits (by omega)]
        show cond (decide (L + (n : Int) - 1 ≤ 1000)) _ _ = _
        by_cases h3 : L + n - 1 ≤ 1000
        · rw [c_le h3, decide_eq_true h3, Bool.true_and]
          have e1 : ((n : Int) - 1).toNat = n - 1 := by omega
          have v0 := ha 0 (by omega)
          have v1 := ha (n - 1) (by omega)
          simp only [c_and, e1, hV, v0, v1]
          simp (disch := omega) only [c_lt, c_le, c_ble, c_blt, c_beq, c_fits]
          by_cases h4 : a 0 = 0
          · rw [c_nne h4]; simp [h4]
          · rw [c_ne h4]
            by_cases h5 : a (n - 1) = 0
            · rw [c_nne h5]; simp [h5]
            · rw [c_ne h5, i_idx_coef2 z (by omega) (by omega) hV ha]
              have e2 : (a 0 == 0) = false := by simpa using h4
              have e3 : (a (n - 1) == 0) = false := by simpa using h5
              rw [e2, e3]
              cases coefB n a <;> rfl
        · rw [c_nle (by omega), decide_eq_false h3]; rfl
      · rw [c_ble (by omega), c_nle (by omega), decide_eq_false h1]; rfl
    · rw [decide_eq_false h2, cond_false]
      simp
end
end Go.AM

namespace Go.AM
section
variable {β : Type}
theorem s_Trim_val (z : β) {N n : Nat} (hN : n + 1 < N) (hn : 1 ≤ n ∧ n ≤ 5000) {V : List Int} (hV : V.length = n) (h0 : V[0]?.getD 0 ≠ 0) (h1 : V[n - 1]?.getD 0 ≠ 0) (low : Int) (hlow : -5000 ≤ low ∧ low ≤ 5000) (k0 : Int → β) (k1 : Int → List Int → β) (k2 k3 : Int → Nat → Nat → Nat → List Int → β) :
    s_l04Trim z N low n n n V k0 k1 k2 k3 = k3 low n n n V := by
  obtain ⟨N, rfl⟩ : ∃ M, N = M + 1 := ⟨N - 1, by omega⟩
  have e1 : ((n : Int) - 1).toNat = n - 1 := by omega
  unfold s_l04Trim
  rw [c_ble (by omega), s_l04Trim_l0, s_l04Trim_l0_s]
  simp only [c_and, e1, hV]
  simp (disch := omega) only [c_lt, c_le, c_blt, c_beq, c_fits]
  rw [c_neq h1, s_l04Trim_l1, s_l04Trim_l1_s]
  simp only [c_and, hV, show (0 : Int).toNat = 0 from rfl]
  simp (disch := omega) only [c_lt, c_le, c_blt, c_beq]
  rw [c_neq h0]
  simp only [Int.toNat_natCast, c_true, show Nat.beq 0 0 = true from rfl, Nat.sub_zero, Int.add_zero]
  simp (disch := omega) only [c_le, c_neq, c_fits]
  unfold s_l01Own_s2
  have f1 : fromTo (List.replicate 0 (0 : Int)) 0 0 ++ fromTo V 0 n = V := by
    have : fromTo V 0 n = V := by subst hV; simp [fromTo]
    rw [this]; rfl
  rw [f1]
  simp only [c_and, hV, Nat.zero_add]
  simp (disch := omega) only [c_beq, c_nbeq, c_ble, c_nble]
theorem valC_exact {A B : Nat → Int} (na nb t : Nat) : valC A B na nb t = sumR (fun i => A i * B (t - i)) (t + 1 - nb) (min na (t + 1) - (t + 1 - nb)) := by
  unfold valC
  rw [colP_sum, colP_sum, colP_sum, sumR_lin]
  refine sumR_congr _ _ fun i _ => ?_
  exact parts_val _ _
theorem valC_first {A B : Nat → Int} {na nb : Nat} (ha : 1 ≤ na) (hb : 1 ≤ nb) : valC A B na nb 0 = A 0 * B 0 := by
  rw [valC_exact, show 0 + 1 - nb = 0 by omega, show min na (0 + 1) - 0 = 1 by omega]
  simp [sumR]
theorem valC_last {A B : Nat → Int} {na nb : Nat} (ha : 1 ≤ na) (hb : 1 ≤ nb) : valC A B na nb (na + nb - 1 - 1) = A (na - 1) * B (nb - 1) := by
  rw [valC_exact, show na + nb - 1 - 1 + 1 - nb = na - 1 by omega, show min na (na + nb - 1 - 1 + 1) - (na - 1) = 1 by omega]
  simp only [sumR, Nat.add_zero, Int.zero_add]
  congr 2
  omega
theorem laurB_coefs {L : Int} {n : Nat} {a : Nat → Int} (h : laurB L n a = true) (hn : n ≠ 0) : Coefs n a ∧ a 0 ≠ 0 ∧ a (n - 1) ≠ 0 ∧ (-1000 ≤ L ∧ L ≤ 1000) ∧ L + n - 1 ≤ 1000 := by
  unfold laurB at h
  rw [c_nbeq hn] at h
  simp only [Bool.and_eq_true, decide_eq_true_eq, Bool.not_eq_true', beq_eq_false_iff_ne] at h
  obtain ⟨h1, h2, h3, h4, h5, h6⟩ := h
  exact ⟨⟨by omega, h1, coefB_iff.1 h6⟩, h4, h5, h2, h3⟩
/-- Both sides multiply alike: a code, or the low power and the coefficients. -/
theorem mul_both (z : β) {N na nb : Nat} (hN : 5000 < N) (hna : na ≤ 1048576) (hnb : nb ≤ 1048576) (A B : Nat → Int) (L0 L1 : Int) (hL : -9223372036854775808 ≤ L0 ∧ L0 ≤ 9223372036854775807) :
    ∃ R : Int ⊕ List Int, (∀ c, R = .inl c → (∀ k0 k1 k2 k3, s_MultiplyLaurents z N L0 na na na L1 nb nb nb na A nb B k0 k1 k2 k3 = k0 0 c) ∧ ∀ k0 k1, i_MultiplyLaurents z N L0 na na na L1 nb nb nb na A nb B k0 k1 = k0 0 c) ∧
      (∀ V, R = .inr V → V.length ≤ 5000 ∧ (∀ k0 k1 k2 k3, s_MultiplyLaurents z N L0 na na na L1 nb nb nb na A nb B k0 k1 k2 k3 = k3 (L0 + L1) V.length V.length V.length 0 V) ∧ ∀ k0 k1, i_MultiplyLaurents z N L0 na na na L1 nb nb nb na A nb B k0 k1 = k1 (L0 + L1) V.length V.length V.length 0 V) := by
  have both0 : ∀ c : Int, (∀ k0 k1 k2 k3, s_MultiplyLaurents z N L0 na na na L1 nb nb nb na A nb B k0 k1 k2 k3 = k0 0 c) → (∀ k0 k1, i_MultiplyLaurents z N L0 na na na L1 nb nb nb na A nb B k0 k1 = k0 0 c) →
      ∃ R : Int ⊕ List Int, (∀ c, R = .inl c → (∀ k0 k1 k2 k3, s_MultiplyLaurents z N L0 na na na L1 nb nb nb na A nb B k0 k1 k2 k3 = k0 0 c) ∧ ∀ k0 k1, i_MultiplyLaurents z N L0 na na na L1 nb nb nb na A nb B k0 k1 = k0 0 c) ∧
      (∀ V, R = .inr V → V.length ≤ 5000 ∧ (∀ k0 k1 k2 k3, s_MultiplyLaurents z N L0 na na na L1 nb nb nb na A nb B k0 k1 k2 k3 = k3 (L0 + L1) V.length V.length V.length 0 V) ∧ ∀ k0 k1, i_MultiplyLaurents z N L0 na na na L1 nb nb nb na A nb B k0 k1 = k1 (L0 + L1) V.length V.length V.length 0 V) := fun c h1 h2 =>
    ⟨.inl c, fun c' e => by cases e; exact ⟨h1, h2⟩, fun V e => by cases e⟩
  cases hA : laurB L0 na A with
  | false =>
    refine both0 1 (fun k0 k1 k2 k3 => ?_) (fun k0 k1 => ?_)
    · unfold s_MultiplyLaurents s_l04Both; rw [s_l04Is_val z hN (by omega), hA]; rfl
    · unfold i_MultiplyLaurents; rw [i_IsLaurent_val z hN (by omega), hA]; rfl
  | true =>
    cases hB : laurB L1 nb B with
    | false =>
      refine both0 1 (fun k0 k1 k2 k3 => ?_) (fun k0 k1 => ?_)
      · unfold s_MultiplyLaurents s_l04Both; rw [s_l04Is_val z hN (by omega), hA, Bool.not_true, cond_false, s_l04Is_val z hN (by omega), hB]; rfl
      · unfold i_MultiplyLaurents; rw [i_IsLaurent_val z hN (by omega), hA, Bool.not_true, cond_false, i_IsLaurent_val z hN (by omega), hB]; rfl
    | true =>
      have sOpen : ∀ k0 k1 k2 k3, s_MultiplyLaurents z N L0 na na na L1 nb nb nb na A nb B k0 k1 k2 k3 = cond ((na : Int) == 0) (k0 0 0) (cond ((nb : Int) == 0) (k0 0 0)
          (s_MultiplyLaurents_l0 z N na A nb B L0 na na na L1 nb nb nb 0 N 0 0 0 0 (List.replicate 0 0) (fun q16 => k0 0 3) (fun q16 q17 q18 q19 => cond (fits IntKind.i64 (L0 + L1)) (s_l04Trim z N (L0 + L1) q16 q17 q18 q19 (fun q20 => s_l04Told z N q20 (fun q21 q22 => k0 q21 q22)) (fun q20 q21 => s_l04Told_s2 z N q20 0 0 0 q21 (fun q22 q23 => k0 q22 q23) (fun q22 => k1 q20 q22 q21)) (fun q20 q21 q22 q23 q24 => s_l04Told_s2 z N q20 q21 q22 q23 q24 (fun q25 q26 => k0 q25 q26) (fun q25 => k2 q20 q21 q22 q23 q25 q24)) (fun q20 q21 q22 q23 q24 => s_l04Told_s3 z N q20 q21 q22 q23 q24 (fun q25 q26 => k0 q25 q26) (fun q25 => k3 q20 q21 q22 q23 q25 q24))) z))) := fun k0 k1 k2 k3 => by
        unfold s_MultiplyLaurents s_l04Both
        rw [s_l04Is_val z hN (by omega), hA, Bool.not_true, cond_false, s_l04Is_val z hN (by omega), hB, Bool.not_true, cond_false]
        show cond ((0 : Int) != 0) _ _ = _
        rw [c_nne rfl, c_ble (by omega), c_ble (by omega)]
      by_cases ea : na = 0
      · refine both0 0 (fun k0 k1 k2 k3 => ?_) (fun k0 k1 => ?_)
        · rw [sOpen, c_eq (by omega)]
        · unfold i_MultiplyLaurents i_Laurent_isZero; rw [i_IsLaurent_val z hN (by omega), hA, Bool.not_true, cond_false, i_IsLaurent_val z hN (by omega), hB, Bool.not_true, cond_false, c_ble (by omega)]
          exact c_eq (by omega)
      by_cases eb : nb = 0
      · refine both0 0 (fun k0 k1 k2 k3 => ?_) (fun k0 k1 => ?_)
        · rw [sOpen, c_neq (by omega), c_eq (by omega)]
        · unfold i_MultiplyLaurents i_Laurent_isZero; rw [i_IsLaurent_val z hN (by omega), hA, Bool.not_true, cond_false, i_IsLaurent_val z hN (by omega), hB, Bool.not_true, cond_false, c_ble (by omega)]
          show cond ((na : Int) == 0) _ _ = _
          rw [c_neq (by omega), c_ble (by omega)]
          exact c_eq (by omega)
      obtain ⟨cA, a0, a1, aL, aH⟩ := laurB_coefs hA ea
      obtain ⟨cB, b0, b1, bL, bH⟩ := laurB_coefs hB eb
      have pA := cA.le
      have pB := cB.le
      have hsl := sumsL_len A B na nb (na + nb - 1)
      have hget := fun i (hi : i < na + nb - 1) => sumsL_get A B na nb (na + nb - 1) i hi
      have z0 : (sumsL A B na nb (na + nb - 1))[0]?.getD 0 ≠ 0 := by
        rw [hget 0 (by omega), valC_first (by omega) (by omega)]
        exact Int.mul_ne_zero a0 b0
      have z1 : (sumsL A B na nb (na + nb - 1))[na + nb - 1 - 1]?.getD 0 ≠ 0 := by
        rw [hget _ (by omega), valC_last (by omega) (by omega)]
        exact Int.mul_ne_zero a1 b1
      have sMain : ∀ k0 k1 k2 k3, s_MultiplyLaurents z N L0 na na na L1 nb nb nb na A nb B k0 k1 k2 k3 = cond (allFrom (okC A B na nb) (na + nb - 1) 0) (cond (laurB (L0 + L1) (na + nb - 1) (valC A B na nb)) (k3 (L0 + L1) (na + nb - 1) (na + nb - 1) (na + nb - 1) 0 (sumsL A B na nb (na + nb - 1))) (k0 0 3)) (k0 0 3) := fun k0 k1 k2 k3 => by
        rw [sOpen, c_neq (by omega), c_neq (by omega)]
        refine Eq.trans (s_l0_val z hN cA cB na nb L0 L1 0 (k0 0 3) _ (na + nb - 1) N 0 (by omega) (by omega)) ?_
        rw [c_fits (by omega), s_Trim_val z (by omega) (by omega) hsl z0 z1 (L0 + L1) (by omega)]
        unfold s_l04Told_s3
        rw [s_l04Is_s4_val z hN (by omega) (L0 + L1) hsl hget]
        cases laurB (L0 + L1) (na + nb - 1) (valC A B na nb) <;> rfl
      have iMain : ∀ k0 k1, i_MultiplyLaurents z N L0 na na na L1 nb nb nb na A nb B k0 k1 = cond (decide (-1000 ≤ L0 + L1 ∧ L0 + L1 ≤ 1000)) (cond (decide (1000 < L0 + na - 1 + (L1 + nb - 1))) (k0 0 3)
          (cond (allFrom (okC A B na nb) (na + nb - 1) 0) (cond (laurB (L0 + L1) (na + nb - 1) (valC A B na nb)) (k1 (L0 + L1) (na + nb - 1) (na + nb - 1) (na + nb - 1) 0 (sumsL A B na nb (na + nb - 1))) (k0 0 3)) (k0 0 3))) (k0 0 3) := fun k0 k1 => by
        unfold i_MultiplyLaurents i_Laurent_isZero
        rw [i_IsLaurent_val z hN (by omega), hA, Bool.not_true, cond_false, i_IsLaurent_val z hN (by omega), hB, Bool.not_true, cond_false, c_ble (by omega)]
        show cond ((na : Int) == 0) _ _ = _
        rw [c_neq (by omega), c_ble (by omega)]
        show cond ((nb : Int) == 0) _ _ = _
        rw [c_neq (by omega), c_fits (by omega), i_within_val]
        by_cases h1 : -1000 ≤ L0 + L1 ∧ L0 + L1 ≤ 1000
        · rw [decide_eq_true h1, Bool.not_true, cond_false, cond_true]
          unfold i_Laurent_high
          rw [c_ble (by omega), c_fits (by omega), c_fits (by omega)]
          show cond (nb.ble 9223372036854775807) _ _ = _
          rw [c_ble (by omega), c_fits (by omega), c_fits (by omega)]
          show cond (fits IntKind.i64 (L0 + (na : Int) - 1 + (L1 + (nb : Int) - 1))) _ _ = _
          rw [c_fits (by omega)]
          by_cases h2 : 1000 < L0 + na - 1 + (L1 + nb - 1)
          · rw [c_lt h2]
            exact (c_lt h2).symm
          · rw [c_nlt (by omega)]
            refine Eq.trans ?_ (c_nlt (by omega)).symm
            have eN : ((na : Int) + (nb : Int) - 1).toNat = na + nb - 1 := by omega
            simp only [c_and, c_true, eN]
            simp (disch := omega) only [c_ble, c_fits, c_le]
            obtain ⟨s, hs, e1⟩ := i_l0_val z (N := N) hN cA cB (na + nb - 1) na na nb L0 L1 0 (fun q22 => i_MultiplyLaurents_l2 z N ((na + nb - 1) * 3) (na + nb - 1) (na + nb - 1) (na + nb - 1 : Nat) na A nb B L0 na na na L1 nb nb nb 0 ((na + nb - 1) * 3) q22 N 0 0 0 0 (List.replicate 0 0) (fun q23 => k0 0 3) (fun q23 q24 q25 q26 => i_limited z N (L0 + L1) q23 q24 q25 q26 (fun q27 q28 => k0 q27 q28) (fun q27 => k1 (L0 + L1) q23 q24 q25 q27 q26)))
            refine Eq.trans e1 ?_
            refine Eq.trans (i_l2_val z hN cA cB na nb (na + nb - 1) L0 L1 0 hs (k0 0 3) _ (na + nb - 1) N 0 (by omega) (by omega)) ?_
            unfold i_limited
            rw [i_IsLaurent_s2_val z hN (by omega) (L0 + L1) hsl hget]
            cases laurB (L0 + L1) (na + nb - 1) (valC A B na nb) <;> rfl
        · rw [decide_eq_false h1]; rfl
      by_cases hw : (-1000 ≤ L0 + L1 ∧ L0 + L1 ≤ 1000) ∧ ¬ 1000 < L0 + na - 1 + (L1 + nb - 1)
      · cases h1 : allFrom (okC A B na nb) (na + nb - 1) 0 with
        | false =>
          refine both0 3 (fun k0 k1 k2 k3 => ?_) (fun k0 k1 => ?_)
          · rw [sMain, h1]; rfl
          · rw [iMain, h1, decide_eq_true hw.1, decide_eq_false hw.2]; rfl
        | true =>
          cases h2 : laurB (L0 + L1) (na + nb - 1) (valC A B na nb) with
          | false =>
            refine both0 3 (fun k0 k1 k2 k3 => ?_) (fun k0 k1 => ?_)
            · rw [sMain, h1, h2]; rfl
            · rw [iMain, h1, h2, decide_eq_true hw.1, decide_eq_false hw.2]; rfl
          | true =>
            refine ⟨.inr (sumsL A B na nb (na + nb - 1)), fun c e => (by cases e), fun V e => ?_⟩
            cases e
            refine ⟨by omega, fun k0 k1 k2 k3 => ?_, fun k0 k1 => ?_⟩
            · rw [sMain, h1, h2, hsl]; rfl
            · rw [iMain, h1, h2, hsl, decide_eq_true hw.1, decide_eq_false hw.2]; rfl
      · have hl : laurB (L0 + L1) (na + nb - 1) (valC A B na nb) = false := by
          rw [← Bool.not_eq_true]
          intro h
          obtain ⟨_, _, _, q1, q2⟩ := laurB_coefs h (by omega)
          exact hw ⟨q1, by omega⟩
        refine both0 3 (fun k0 k1 k2 k3 => ?_) (fun k0 k1 => ?_)
        · rw [sMain, hl]; cases allFrom (okC A B na nb) (na + nb - 1) 0 <;> rfl
        · rw [iMain, hl]
          by_cases h1 : -1000 ≤ L0 + L1 ∧ L0 + L1 ≤ 1000
          · by_cases h2 : 1000 < L0 + na - 1 + (L1 + nb - 1)
            · rw [decide_eq_true h1, decide_eq_true h2]; rfl
            · exact absurd ⟨h1, h2⟩ hw
          · rw [decide_eq_false h1]; rfl
end
end Go.AM

namespace Go.AM
section
variable {β : Type}
theorem eqL_refl (z : β) {N : Nat} (xs : List Int) (hl : xs.length ≤ 1000000) (hN : xs.length < N) (k : Bool → β) :
    w_eqInt64S_s7 z N xs.length xs.length xs.length xs.length xs.length xs.length xs xs k = k true := by
  unfold w_eqInt64S_s7
  rw [c_ble (by omega), c_ble (by omega), c_nne rfl]
  exact (up_to_all (L := fun m i => w_eqInt64S_l0_s5 z xs.length xs.length xs.length xs.length xs.length xs.length xs xs m (i : Int) (k false) (k true)) (n := xs.length) (kt := k true) (kf := k false) (p := fun _ => true)
    (fun m i hi => by
      simp only [w_eqInt64S_l0_s5, w_eqInt64S_l0_s5_s, c_and, Int.toNat_natCast]
      simp (disch := omega) only [c_lt, c_le, c_blt, c_ble, c_beq, c_fits, c_nne]
      rfl)
    (fun m => by simp (disch := omega) only [w_eqInt64S_l0_s5, w_eqInt64S_l0_s5_s, c_nlt, c_ble]) xs.length N 0 (by omega) hN).trans (by
      cases hq : allFrom (fun _ => true) xs.length 0
      · rw [← hq]
        have := (allFrom_iff (p := fun _ => true) xs.length 0).2 fun _ _ _ => rfl
        rw [this]; rfl
      · rfl)
/-- The list of marks. -/
def marksL (xs : List Int) : List Int := iter (fun i h => h.set i ((i : Int) + 1)) xs.length 0 xs
theorem marksL_spec (xs : List Int) : (marksL xs).length = xs.length ∧ ∀ j, j < xs.length → (marksL xs)[j]?.getD 0 = (j : Int) + 1 := by
  have := iter_inv (f := fun i (h : List Int) => h.set i ((i : Int) + 1)) (I := fun i h => h.length = xs.length ∧ ∀ j, j < i → h[j]?.getD 0 = (j : Int) + 1) (n := xs.length)
    (fun i s hi hs => ⟨by simp [hs.1], fun j hj => by
      rw [List.getElem?_set]
      by_cases e : i = j
      · subst e; rw [if_pos rfl, if_pos (by omega)]; rfl
      · rw [if_neg e]; exact hs.2 j (by omega)⟩) xs.length 0 xs (by omega) ⟨rfl, fun j hj => by omega⟩
  rw [Nat.zero_add] at this
  exact this
theorem markL_val (z : β) {N : Nat} (xs : List Int) (hl : xs.length ≤ 1000000) (hN : xs.length < N) (k : Int → List Int → β) :
    w_markInt64S_s3 z N xs.length xs.length xs.length 1 xs k = k ((xs.length : Int) + 1) (marksL xs) := by
  unfold w_markInt64S_s3 marksL
  exact up_to (L := fun m i h => w_markInt64S_l0_s3 z xs.length xs.length xs.length m ((i : Int) + 1) (i : Int) h k) (n := xs.length) (out := k ((xs.length : Int) + 1)) (f := fun i h => h.set i ((i : Int) + 1)) (I := fun _ h => h.length = xs.length)
    (fun m i s hi hs => ⟨by
      simp only [w_markInt64S_l0_s3, w_markInt64S_l0_s3_s, c_and, Int.toNat_natCast]
      simp (disch := omega) only [c_lt, c_le, c_blt, c_ble, c_beq, c_fits]
      rfl, by simp [hs]⟩)
    (fun m s _ => by simp (disch := omega) only [w_markInt64S_l0_s3, w_markInt64S_l0_s3_s, c_nlt, c_ble]) xs.length N 0 xs (by omega) hN rfl
theorem heldL_val (z : β) {N : Nat} (n : Nat) (xs : List Int) (hx : xs.length = n) (hm : ∀ j, j < n → xs[j]?.getD 0 = (j : Int) + 1) (hl : n ≤ 1000000) (hN : n < N) (k : Int → β) :
    w_heldInt64S_s3 z N n n n 1 xs k = k ((n : Int) + 1) := by
  unfold w_heldInt64S_s3
  exact (up_to_all (L := fun m i => w_heldInt64S_l0_s3 z n n n xs m ((i : Int) + 1) (i : Int) (k (-1)) k) (n := n) (kt := k ((n : Int) + 1)) (kf := k (-1)) (p := fun _ => true)
    (fun m i hi => by
      have := hm i hi
      simp only [w_heldInt64S_l0_s3, w_heldInt64S_l0_s3_s, c_and, Int.toNat_natCast]
      simp (disch := omega) only [c_lt, c_le, c_blt, c_ble, c_beq, c_fits, c_nne]
      rfl)
    (fun m => by simp (disch := omega) only [w_heldInt64S_l0_s3, w_heldInt64S_l0_s3_s, c_nlt, c_ble]) n N 0 (by omega) hN).trans (by
      have := (allFrom_iff (p := fun _ => true) n 0).2 fun _ _ _ => rfl
      rw [this]; rfl)
theorem iter_append {γ : Type} (g : Nat → γ) : ∀ (d i : Nat) (xs : List γ), (iter (fun i h => h ++ [g i]) d i xs).length = xs.length + d := by
  intro d
  induction d with
  | zero => intro i xs; rfl
  | succ d ih => intro i xs; rw [iter, ih]; simp; omega
end
end Go.AM

namespace Go.AM
section
variable {β : Type}
def copyJ (L : Nat) (h : Nat → Int) : Nat → Int := fun j => if 0 ≤ j ∧ j < 0 + L then h j else 0
theorem w_toI_val (z : β) {N L c : Nat} (hN : 2000000 < N) (hL : L ≤ 1048576) (h : Nat → Int) (k : Nat → Nat → Nat → Nat → (Nat → Int) → β) : w_toInt64S z N L L c L h k = k L L L L (copyJ L h) := by
  unfold w_toInt64S
  simp only [c_and, c_true, Int.toNat_natCast]
  simp (disch := omega) only [c_ble, c_le]
  have := up_to (L := fun m i s => w_toInt64S_l0 z L L c L L L L h L m (i : Int) s fun q8 => k L L L L q8) (n := L) (out := fun s => k L L L L s) (f := fun i s => upd s i (h i)) (I := fun _ _ => True)
    (fun m i s hi _ => ⟨by
      simp only [w_toInt64S_l0, w_toInt64S_l0_s, c_and, Int.toNat_natCast]
      simp (disch := omega) only [c_lt, c_le, c_blt, c_ble, c_beq, c_fits]
      rfl, trivial⟩)
    (fun m s _ => by simp (disch := omega) only [w_toInt64S_l0, w_toInt64S_l0_s, c_nlt, c_ble]) L N 0 (fun _ => 0) (by omega) (by omega) trivial
  rw [iter_set] at this
  exact this
/-- Marks from a number on. -/
def marksQ (q : Int) (L : Nat) (a : Nat → Int) : Nat → Int := iter (fun i h => upd h i (q + (i : Int))) L 0 a
theorem markQ_val (z : β) {N L c : Nat} (hN : L < N) (hl : L ≤ 2000000) (q : Int) (hq : 0 ≤ q ∧ q ≤ 4000000) (a : Nat → Int) (k : Int → (Nat → Int) → β) : w_markInt64S_s4 z N L L c q L a k = k (q + L) (marksQ q L a) := by
  unfold w_markInt64S_s4
  have h1 := up_to (L := fun m i h => w_markInt64S_l0_s4 z L L c L m (q + (i : Int)) (i : Int) h k) (n := L) (out := k (q + L)) (f := fun i h => upd h i (q + (i : Int))) (I := fun _ _ => True)
      (fun m i s hi _ => ⟨by
        simp only [w_markInt64S_l0_s4, w_markInt64S_l0_s4_s, c_and, Int.toNat_natCast]
        simp (disch := omega) only [c_lt, c_le, c_blt, c_ble, c_beq, c_fits]
        rw [show q + (i : Int) + 1 = q + ((i + 1 : Nat) : Int) by omega]
        rfl, trivial⟩)
      (fun m s _ => by simp (disch := omega) only [w_markInt64S_l0_s4, w_markInt64S_l0_s4_s, c_ble, c_nlt]) L N 0 a (by omega) hN trivial
  refine Eq.trans ?_ h1
  simp
theorem w_Mul_or (z : β) {N : Nat} (hN : 2000000 < N) (L0 : Int) (n0 l0 c0 : Nat) (L1 : Int) (n1 l1 c1 hn0 : Nat) (A : Nat → Int) (hn1 : Nat) (B : Nat → Int) (hL : -9223372036854775808 ≤ L0 ∧ L0 ≤ 9223372036854775807) (s0 : l0 ≤ 9223372036854775807) (s1 : l1 ≤ 9223372036854775807)
    (e1 : n0 = l0 * 1) (e2 : c0 = l0) (e3 : hn0 = l0 * 1) (f1 : n1 = l1 * 1) (f2 : c1 = l1) (f3 : hn1 = l1 * 1) :
    (∀ k0 : Bool → β, w_MulNil z N L0 n0 l0 c0 L1 n1 l1 c1 hn0 A hn1 B k0 = k0 true) ∨ (∀ k0 : Bool → β, w_MulSl z N L0 n0 l0 c0 L1 n1 l1 c1 hn0 A hn1 B k0 = k0 true) := by
  rw [Nat.mul_one] at e1 e3 f1 f3
  rw [e1, e2, e3, f1, f2, f3]
  clear e1 e2 e3 f1 f2 f3
  have sz : ∀ (L : Int) (l : Nat) (A : Nat → Int) (left : Int) (k : Int → β), l ≤ 9223372036854775807 → 0 ≤ left ∧ left ≤ 1048576 → w_szLaurent z N L l l l left l A k = cond (decide (left - l < 0)) (k (-1)) (k (left - l)) := fun L l A left k hs hl => by
    unfold w_szLaurent w_szInt64S
    rw [c_ble hs, c_fits (by omega)]
    by_cases h : left - (l : Int) < 0
    · rw [c_lt h, c_lt h]; exact c_lt (by omega)
    · rw [c_nlt (by omega), c_nlt (by omega)]; exact c_nlt (by omega)
  by_cases h0 : (1048576 : Int) - l0 < 0
  · refine .inl fun k0 => ?_
    unfold w_MulNil
    rw [sz _ _ _ _ _ s0 (by omega), c_lt h0]
    exact c_lt (by omega)
  by_cases h1 : (1048576 : Int) - l0 - l1 < 0
  · refine .inl fun k0 => ?_
    unfold w_MulNil
    rw [sz _ _ _ _ _ s0 (by omega), c_nlt (by omega)]
    refine (c_nlt (by omega)).trans ?_
    rw [sz _ _ _ _ _ s1 (by omega), c_lt h1]
    exact c_lt (by omega)
  have b0 : l0 ≤ 1048576 := by omega
  have b1 : l1 ≤ 1048576 := by omega
  have tl : ∀ (L : Int) (l : Nat) (A : Nat → Int) (k : Nat → Nat → Nat → Nat → (Nat → Int) → β), l ≤ 1048576 → w_toLaurent z N L l l l l A k = k l l l l (copyJ l A) := fun L l A k hl => by
    unfold w_toLaurent; exact w_toI_val z hN hl A k
  have hG : mulG N L0 l0 l0 l0 l1 l1 l1 l0 l1 = true := by
    unfold mulG
    simp only [Bool.and_eq_true, Nat.ble_eq, fits64 hL, Nat.beq_refl, true_and]
    omega
  have eqn : ∀ (a b : Int) (k : Bool → β), a = b → w_eqLaurent z N a b k = k true := fun a b k e => by
    unfold w_eqLaurent; rw [c_nne e, eq_none z (by omega)]; rfl
  have eqs : ∀ (L : Int) (l : Nat) (A : Nat → Int) (k : Bool → β), l ≤ 1048576 → w_eqLaurent_s2 z N L l l l L l l l l A l A k = k true := fun L l A k hl => by
    unfold w_eqLaurent_s2; rw [c_nne rfl, eqI_val z (by omega) (by omega) _ _ (fun _ _ => rfl)]; rfl
  have mk : ∀ (L : Int) (l : Nat) (q : Int) (A : Nat → Int) (k : Int → (Nat → Int) → β), l ≤ 1048576 → 0 ≤ q ∧ q ≤ 4000000 → w_markLaurent z N L l l l q l A k = k (q + l) (marksQ q l A) := fun L l q A k hl hq => by
    unfold w_markLaurent; exact markQ_val z (by omega) (by omega) q hq A k
  obtain ⟨R, r1, r2⟩ := mul_both z (N := N) (by omega) b0 b1 (copyJ l0 A) (copyJ l1 B) L0 L1 hL
  cases R with
  | inl c =>
    obtain ⟨g1, g2⟩ := r1 c rfl
    refine .inl fun k0 => ?_
    have ms : ∀ k : Int → Int → β, mulS_nil z N L0 l0 l0 l0 L1 l1 l1 l1 l0 (copyJ l0 A) l1 (copyJ l1 B) k = k 0 c := fun k => by
      unfold mulS_nil; rw [hG, cond_true]; exact g1 _ _ _ _
    have mi : ∀ k : Int → Int → β, mulI_nil z N L0 l0 l0 l0 L1 l1 l1 l1 l0 (copyJ l0 A) l1 (copyJ l1 B) k = k 0 c := fun k => by
      unfold mulI_nil; rw [hG, cond_true]; exact g2 _ _
    have mn : ∀ (a q : Int) (k : β), w_markLaurent_s2 z N a q k = k := fun a q k => by unfold w_markLaurent_s2; exact mark_none z (by omega) q k
    have hn : ∀ (a : Int) (k : Int → β), w_heldLaurent z N a 1 k = k 1 := fun a k => by
      unfold w_heldLaurent; rw [held_none z (by omega)]; exact c_nlt (by omega)
    unfold w_MulNil
    rw [sz _ _ _ _ _ s0 (by omega), c_nlt (by omega)]
    refine (c_nlt (by omega)).trans ?_
    rw [sz _ _ _ _ _ s1 (by omega), c_nlt (by omega)]
    refine (c_nlt (by omega)).trans ?_
    simp only [tl _ _ _ _ b0, tl _ _ _ _ b1, ms, mi, eqn _ _ _ rfl, eqs _ _ _ _ b0, eqs _ _ _ _ b1, Bool.not_true, cond_false, bne_self_eq_false]
    rw [mk _ _ _ _ _ b0 (by omega), mk _ _ _ _ _ b1 (by omega), c_nlt (by omega)]
    simp only [mn, hn, bne_self_eq_false, cond_false]
    simp (disch := omega) only [c_nlt]
  | inr V =>
    obtain ⟨hV, g1, g2⟩ := r2 V rfl
    refine .inr fun k0 => ?_
    have ms : ∀ k : Int → Nat → Nat → Nat → Int → List Int → β, mulS_sl z N L0 l0 l0 l0 L1 l1 l1 l1 l0 (copyJ l0 A) l1 (copyJ l1 B) k = k (L0 + L1) V.length V.length V.length 0 V := fun k => by
      unfold mulS_sl; rw [hG, cond_true]; exact g1 _ _ _ _
    have mi : ∀ k : Int → Nat → Nat → Nat → Int → List Int → β, mulI_sl z N L0 l0 l0 l0 L1 l1 l1 l1 l0 (copyJ l0 A) l1 (copyJ l1 B) k = k (L0 + L1) V.length V.length V.length 0 V := fun k => by
      unfold mulI_sl; rw [hG, cond_true]; exact g2 _ _
    have e7 : ∀ (a : Int) (k : Bool → β), w_eqLaurent_s7 z N a V.length V.length V.length a V.length V.length V.length V V k = k true := fun a k => by
      unfold w_eqLaurent_s7; rw [c_nne rfl, eqL_refl z V (by omega) (by omega)]; rfl
    have m3 : ∀ (a : Int) (k : Int → List Int → β), w_markLaurent_s3 z N a V.length V.length V.length 1 V k = k ((V.length : Int) + 1) (marksL V) := fun a k => by
      unfold w_markLaurent_s3; exact markL_val z V (by omega) (by omega) k
    have h2 : ∀ (a : Int) (k : Int → β), w_heldLaurent_s2 z N a V.length V.length V.length 1 (marksL V) k = k ((V.length : Int) + 1) := fun a k => by
      obtain ⟨q1, q2⟩ := marksL_spec V
      unfold w_heldLaurent_s2; rw [heldL_val z V.length (marksL V) q1 q2 (by omega) (by omega)]; exact c_nlt (by omega)
    unfold w_MulSl
    rw [sz _ _ _ _ _ s0 (by omega), c_nlt (by omega)]
    refine (c_nlt (by omega)).trans ?_
    rw [sz _ _ _ _ _ s1 (by omega), c_nlt (by omega)]
    refine (c_nlt (by omega)).trans ?_
    simp only [tl _ _ _ _ b0, tl _ _ _ _ b1, ms, mi, e7, eqs _ _ _ _ b0, eqs _ _ _ _ b1, Bool.not_true, cond_false, bne_self_eq_false]
    rw [mk _ _ _ _ _ b0 (by omega), mk _ _ _ _ _ b1 (by omega), c_nlt (by omega)]
    simp only [m3, h2, bne_self_eq_false, cond_false]
    simp (disch := omega) only [c_nlt]
end
end Go.AM
