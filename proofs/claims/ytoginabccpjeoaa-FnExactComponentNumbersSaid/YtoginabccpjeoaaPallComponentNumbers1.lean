/- A part of a proof about the given program: an abstract machine, what the given functions come to, and plain laws. -/
import Derived.Test.YtoginabccpjeoaaMachB
import Derived.Test.YtoginabccpjeoaaDallComponentNumbers1
import Derived.Test.YtoginabccpjeoaaDallComponentNumbers2
set_option linter.unusedVariables false
set_option linter.unusedSimpArgs false
namespace Go.AM
section guards
variable {β : Type} {x y : β}
theorem c_and (a b : Bool) : cond (a && b) x y = cond a (cond b x y) y := by cases a <;> rfl
theorem c_or (a b : Bool) : cond (a || b) x y = cond a x (cond b x y) := by cases a <;> rfl
theorem c_not (a : Bool) : cond (!a) x y = cond a y x := by cases a <;> rfl
theorem c_lt {a b : Int} (h : a < b) : cond (decide (a < b)) x y = x := by rw [decide_eq_true h]; rfl
theorem c_nlt {a b : Int} (h : b ≤ a) : cond (decide (a < b)) x y = y := by rw [decide_eq_false (by omega)]; rfl
theorem c_le {a b : Int} (h : a ≤ b) : cond (decide (a ≤ b)) x y = x := by rw [decide_eq_true h]; rfl
theorem c_nle {a b : Int} (h : b < a) : cond (decide (a ≤ b)) x y = y := by rw [decide_eq_false (by omega)]; rfl
theorem c_ne {a b : Int} (h : a ≠ b) : cond (a != b) x y = x := by rw [show (a != b) = true by simpa using h]; rfl
theorem c_nne {a b : Int} (h : a = b) : cond (a != b) x y = y := by rw [show (a != b) = false by simpa using h]; rfl
theorem c_eq {a b : Int} (h : a = b) : cond (a == b) x y = x := by rw [show (a == b) = true by simpa using h]; rfl
theorem c_neq {a b : Int} (h : a ≠ b) : cond (a == b) x y = y := by rw [show (a == b) = false by simpa using h]; rfl
theorem c_blt {a b : Nat} (h : a < b) : cond (a.blt b) x y = x := by rw [show a.blt b = true by rwa [Nat.blt_eq]]; rfl
theorem c_nblt {a b : Nat} (h : b ≤ a) : cond (a.blt b) x y = y := by rw [show a.blt b = false by rw [← Bool.not_eq_true, Nat.blt_eq]; omega]; rfl
theorem c_ble {a b : Nat} (h : a ≤ b) : cond (a.ble b) x y = x := by rw [show a.ble b = true by rwa [Nat.ble_eq]]; rfl
theorem c_nble {a b : Nat} (h : b < a) : cond (a.ble b) x y = y := by rw [show a.ble b = false by rw [← Bool.not_eq_true, Nat.ble_eq]; omega]; rfl
theorem c_beq {a b : Nat} (h : a = b) : cond (a.beq b) x y = x := by rw [show a.beq b = true by subst h; exact Nat.beq_refl a]; rfl
theorem c_nbeq {a b : Nat} (h : a ≠ b) : cond (a.beq b) x y = y := by rw [show a.beq b = false by rw [← Bool.not_eq_true]; exact fun e => h (Nat.eq_of_beq_eq_true e)]; rfl
theorem fits64 {x : Int} (h : -9223372036854775808 ≤ x ∧ x ≤ 9223372036854775807) : fits .i64 x = true := by rw [fits_iff]; exact h
theorem c_fits {a : Int} (h : -9223372036854775808 ≤ a ∧ a ≤ 9223372036854775807) : cond (fits .i64 a) x y = x := by rw [fits64 h]; rfl
theorem c_true : cond true x y = x := rfl
theorem c_false : cond false x y = y := rfl
theorem c_same (b : Bool) : cond b x x = x := by cases b <;> rfl
/-- A test with the same text in both arms. -/
theorem c_app {γ : Type} (f : β → γ) (b : Bool) : f (cond b x y) = cond b (f x) (f y) := by cases b <;> rfl
theorem c_if (b : Bool) : cond b x y = if b = true then x else y := by cases b <;> rfl
theorem c_dec (p : Prop) [Decidable p] : cond (decide p) x y = if p then x else y := by by_cases h : p <;> simp [h]
end guards

section upd
variable {β : Type}
theorem upd_at (f : Nat → β) (i : Nat) (v : β) (j : Nat) : upd f i v j = if j = i then v else f j := by
  unfold upd
  by_cases h : j = i
  · subst h; rw [Nat.beq_refl]; simp
  · rw [show Nat.beq j i = false by rw [← Bool.not_eq_true]; exact fun e => h (Nat.eq_of_beq_eq_true e), if_neg h]; rfl
theorem upd_eq (f : Nat → β) (i : Nat) (v : β) : upd f i v = fun j => if j = i then v else f j := funext (upd_at f i v)
end upd

section loops
variable {β σ ρ : Type}
/-- So many steps, from a number on. -/
def iter (f : Nat → σ → σ) : Nat → Nat → σ → σ
  | 0, _, s => s
  | d + 1, i, s => iter f d (i + 1) (f i s)

theorem iter_succ (f : Nat → σ → σ) : ∀ (d i : Nat) (s : σ), iter f (d + 1) i s = f (i + d) (iter f d i s) := by
  intro d
  induction d with
  | zero => intro i s; rfl
  | succ d ih => intro i s; rw [iter, ih, iter]; congr 1; omega

/-- What holds along the way. -/
theorem iter_inv {f : Nat → σ → σ} {I : Nat → σ → Prop} {n : Nat} (h : ∀ i s, i < n → I i s → I (i + 1) (f i s)) : ∀ (d i : Nat) (s : σ), i + d ≤ n → I i s → I (i + d) (iter f d i s) := by
  intro d
  induction d with
  | zero => intro i s _ h0; exact h0
  | succ d ih =>
    intro i s hn h0
    have := ih (i + 1) (f i s) (by omega) (h i s (by omega) h0)
    rw [show i + 1 + d = i + (d + 1) by omega] at this
    exact this

/-- A loop that counts up to a number and goes on. -/
theorem up_to {L : Nat → Nat → σ → β} {n : Nat} {out : σ → β} {f : Nat → σ → σ} {I : Nat → σ → Prop}
    (hs : ∀ m i s, i < n → I i s → L (m + 1) i s = L m (i + 1) (f i s) ∧ I (i + 1) (f i s)) (he : ∀ m s, I n s → L (m + 1) n s = out s) :
    ∀ (d m i : Nat) (s : σ), i + d = n → d < m → I i s → L m i s = out (iter f d i s) := by
  intro d
  induction d with
  | zero =>
    intro m i s hi hm h0
    obtain ⟨m, rfl⟩ : ∃ m', m = m' + 1 := ⟨m - 1, by omega⟩
    have : i = n := by omega
    subst this
    exact he m s h0
  | succ d ih =>
    intro m i s hi hm h0
    obtain ⟨m, rfl⟩ : ∃ m', m = m' + 1 := ⟨m - 1, by omega⟩
    obtain ⟨h1, h2⟩ := hs m i s (by omega) h0
    rw [h1]
    exact ih m (i + 1) (f i s) (by omega) (by omega) h2

/-- A loop that counts up to a number comes to an end. -/
theorem up_to_ex {L : Nat → Nat → σ → β} {n : Nat} {out : σ → β} {I : Nat → σ → Prop}
    (hs : ∀ i s, i < n → I i s → ∃ s', (∀ m, L (m + 1) i s = L m (i + 1) s') ∧ I (i + 1) s') (he : ∀ m s, I n s → L (m + 1) n s = out s) :
    ∀ (d m i : Nat) (s : σ), i + d = n → d < m → I i s → ∃ s', L m i s = out s' ∧ I n s' := by
  intro d
  induction d with
  | zero =>
    intro m i s hi hm h0
    obtain ⟨m, rfl⟩ : ∃ m', m = m' + 1 := ⟨m - 1, by omega⟩
    have : i = n := by omega
    subst this
    exact ⟨s, he m s h0, h0⟩
  | succ d ih =>
    intro m i s hi hm h0
    obtain ⟨m, rfl⟩ : ∃ m', m = m' + 1 := ⟨m - 1, by omega⟩
    obtain ⟨s', h1, h2⟩ := hs i s (by omega) h0
    rw [h1]
    exact ih m (i + 1) s' (by omega) (by omega) h2

/-- A loop that counts up to a number, or is left before. -/
def iterE (f : Nat → σ → σ ⊕ ρ) : Nat → Nat → σ → σ ⊕ ρ
  | 0, _, s => .inl s
  | d + 1, i, s => match f i s with
    | .inl s' => iterE f d (i + 1) s'
    | .inr r => .inr r
def orOut (out : σ → β) (ex : ρ → β) : σ ⊕ ρ → β
  | .inl s => out s
  | .inr r => ex r
theorem up_to_E {L : Nat → Nat → σ → β} {n : Nat} {out : σ → β} {ex : ρ → β} {f : Nat → σ → σ ⊕ ρ} {I : Nat → σ → Prop}
    (hs : ∀ m i s, i < n → I i s → (∃ s', f i s = .inl s' ∧ L (m + 1) i s = L m (i + 1) s' ∧ I (i + 1) s') ∨ ∃ r, f i s = .inr r ∧ L (m + 1) i s = ex r) (he : ∀ m s, I n s → L (m + 1) n s = out s) :
    ∀ (d m i : Nat) (s : σ), i + d = n → d < m → I i s → L m i s = orOut out ex (iterE f d i s) := by
  intro d
  induction d with
  | zero =>
    intro m i s hi hm h0
    obtain ⟨m, rfl⟩ : ∃ m', m = m' + 1 := ⟨m - 1, by omega⟩
    have : i = n := by omega
    subst this
    exact he m s h0
  | succ d ih =>
    intro m i s hi hm h0
    obtain ⟨m, rfl⟩ : ∃ m', m = m' + 1 := ⟨m - 1, by omega⟩
    rcases hs m i s (by omega) h0 with ⟨s', h1, h2, h3⟩ | ⟨r, h1, h2⟩
    · rw [h2, iterE, h1]
      exact ih m (i + 1) s' (by omega) (by omega) h3
    · rw [h2, iterE, h1]; rfl

/-- A test for all numbers of a range. -/
def allFrom (p : Nat → Bool) : Nat → Nat → Bool
  | 0, _ => true
  | d + 1, i => p i && allFrom p d (i + 1)
theorem allFrom_iff {p : Nat → Bool} : ∀ (d i : Nat), allFrom p d i = true ↔ ∀ j, i ≤ j → j < i + d → p j = true := by
  intro d
  induction d with
  | zero => intro i; exact ⟨fun _ j h1 h2 => by omega, fun _ => rfl⟩
  | succ d ih =>
    intro i
    rw [allFrom, Bool.and_eq_true, ih]
    refine ⟨fun ⟨h1, h2⟩ j h3 h4 => ?_, fun h => ⟨h i (by omega) (by omega), fun j h3 h4 => h j (by omega) (by omega)⟩⟩
    by_cases e : j = i
    · subst e; exact h1
    · exact h2 j (by omega) (by omega)
theorem up_to_all {L : Nat → Nat → β} {n : Nat} {kt kf : β} {p : Nat → Bool}
    (hs : ∀ m i, i < n → L (m + 1) i = cond (p i) (L m (i + 1)) kf) (he : ∀ m, L (m + 1) n = kt) :
    ∀ (d m i : Nat), i + d = n → d < m → L m i = cond (allFrom p d i) kt kf := by
  intro d
  induction d with
  | zero =>
    intro m i hi hm
    obtain ⟨m, rfl⟩ : ∃ m', m = m' + 1 := ⟨m - 1, by omega⟩
    have : i = n := by omega
    subst this
    exact he m
  | succ d ih =>
    intro m i hi hm
    obtain ⟨m, rfl⟩ : ∃ m', m = m' + 1 := ⟨m - 1, by omega⟩
    rw [hs m i (by omega), allFrom]
    cases p i with
    | false => rfl
    | true => exact ih m (i + 1) (by omega) (by omega)
/-- Cells that are set one after the other. -/
theorem iter_set {γ : Type} (g : Nat → γ) : ∀ (d i : Nat) (h : Nat → γ), iter (fun i h => upd h i (g i)) d i h = fun j => if i ≤ j ∧ j < i + d then g j else h j := by
  intro d
  induction d with
  | zero => intro i h; funext j; rw [if_neg (by omega)]; rfl
  | succ d ih =>
    intro i h
    rw [iter, ih]
    funext j
    simp only [upd_at]
    by_cases e : j = i
    · subst e; rw [if_neg (by omega), if_pos (by omega)]; simp
    · by_cases e2 : i + 1 ≤ j ∧ j < i + 1 + d
      · rw [if_pos e2, if_pos (by omega)]
      · rw [if_neg e2, if_neg e, if_neg (by omega)]
end loops
end Go.AM

namespace Go.AM
/-- A map of the numbers below 'n' to themselves that leads no two to one leads to all. -/
theorem surj_of_inj : ∀ (n : Nat) (f : Nat → Nat), (∀ i, i < n → f i < n) → (∀ i j, i < n → j < n → f i = f j → i = j) → ∀ r, r < n → ∃ i, i < n ∧ f i = r := by
  intro n
  induction n with
  | zero => intro f _ _ r hr; omega
  | succ n ih =>
    intro f hf hi r hr
    have hg := ih (fun i => if f i = n then f n else f i) (fun i h => by
      try simp only
      split
      · rename_i e
        have h1 := hf n (by omega)
        have h2 : f n ≠ n := fun e2 => by have := hi i n (by omega) (by omega) (by omega); omega
        omega
      · have := hf i (by omega); omega) (fun i j h1 h2 e => by
      try simp only at e
      split at e <;> split at e
      · exact hi i j (by omega) (by omega) (by omega)
      · have := hi n j (by omega) (by omega) e; omega
      · have := hi i n (by omega) (by omega) e; omega
      · exact hi i j (by omega) (by omega) e)
    by_cases e : r = n
    · subst e
      by_cases e2 : f r = r
      · exact ⟨r, by omega, e2⟩
      · obtain ⟨i, h1, h2⟩ := hg (f r) (by have := hf r (by omega); omega)
        try simp only at h2
        split at h2
        · rename_i e3; exact ⟨i, by omega, e3⟩
        · have := hi i r (by omega) (by omega) h2; omega
    · obtain ⟨i, h1, h2⟩ := hg r (by omega)
      try simp only at h2
      split at h2
      · exact ⟨n, by omega, h2⟩
      · exact ⟨i, by omega, h2⟩
theorem inj_of_surj (n : Nat) (f : Nat → Nat) (hf : ∀ i, i < n → f i < n) (hs : ∀ r, r < n → ∃ i, i < n ∧ f i = r) : ∀ i j, i < n → j < n → f i = f j → i = j := by
  have hc : ∀ r, ∃ i, r < n → i < n ∧ f i = r := fun r => by
    by_cases h : r < n
    · obtain ⟨i, hi⟩ := hs r h; exact ⟨i, fun _ => hi⟩
    · exact ⟨0, fun h' => absurd h' h⟩
  obtain ⟨g, hg⟩ := Classical.axiomOfChoice hc
  have hgs := surj_of_inj n g (fun i h => (hg i h).1) (fun i j h1 h2 e => by have a := (hg i h1).2; have b := (hg j h2).2; rw [e] at a; omega)
  intro i j hi hj e
  obtain ⟨r, h1, h2⟩ := hgs i hi
  obtain ⟨s, h3, h4⟩ := hgs j hj
  have a := (hg r h1).2
  have b := (hg s h3).2
  rw [h2] at a
  rw [h4] at b
  have : r = s := by omega
  rw [← h2, ← h4, this]

theorem bitI_or_nat {a b : Nat} (ha : a < 2 ^ 63) (hb : b < 2 ^ 63) : bitI .or .i64 (a : Int) (b : Int) = ((a ||| b : Nat) : Int) := by
  have e : bitI .or .i64 (a : Int) (b : Int) = IntKind.wrap .i64 ((BitVec.ofInt 64 a ||| BitVec.ofInt 64 b).toNat : Int) := rfl
  rw [e, BitVec.ofInt_natCast, BitVec.ofInt_natCast, BitVec.toNat_or, BitVec.toNat_ofNat, BitVec.toNat_ofNat, Nat.mod_eq_of_lt (by omega), Nat.mod_eq_of_lt (by omega)]
  apply wrap_fits
  have := Nat.or_lt_two_pow ha hb
  exact fits64 (by omega)
theorem shlI_one (x : Nat) : shlI 1 (x : Int) = ((2 ^ x : Nat) : Int) := by
  unfold shlI
  simp

/-- The first 'n' of 'w' cells are the numbers below 'n' in some order; the others are 0. -/
def PermP (w n : Nat) (p : Nat → Int) : Prop := (∀ j, n ≤ j → j < w → p j = 0) ∧ (∀ j, j < n → p j < n) ∧ ∀ i j, i < n → j < n → p i = p j → i = j
noncomputable def permB (w n : Nat) (p : Nat → Int) : Bool := @decide (PermP w n p) (Classical.propDecidable _)
theorem permB_iff {w n : Nat} {p : Nat → Int} : permB w n p = true ↔ PermP w n p := by
  unfold permB; exact @decide_eq_true_iff _ (Classical.propDecidable _)
theorem permB_of {w n : Nat} {p : Nat → Int} {b : Bool} (h : b = true ↔ PermP w n p) : b = permB w n p := by
  cases b <;> cases hq : permB w n p <;> simp_all [permB_iff, ← permB_iff]

section order
variable {β : Type}
/-- The loop of the program that tests an order, for any width. -/
def ordS (w : Nat) (z : β) (n : Int) (h0 : Nat → Int) (seen : Int) (t10 : Int) (kn : Int → Int → β) (k0 : β) (k1 : Int → β) : β :=
  cond (decide (t10 < (w : Int))) (cond (decide (0 ≤ t10) && decide (t10 < (↑w : Int))) (cond (t10.toNat.blt w) (cond (decide (n ≤ t10)) (cond (h0 t10.toNat != 0) (k0) (cond (decide (n ≤ h0 t10.toNat)) (k0) (cond (decide (t10 < n)) (cond (decide (0 ≤ h0 t10.toNat) && decide (h0 t10.toNat < (↑64 : Int))) (cond (fits IntKind.i64 (shlI 1 (h0 t10.toNat))) (cond (fits IntKind.i64 (t10 + 1)) (kn (bitI BinOp.or IntKind.i64 seen (shlI 1 (h0 t10.toNat))) (t10 + 1)) (z)) (z)) (z)) (cond (fits IntKind.i64 (t10 + 1)) (kn seen (t10 + 1)) (z))))) (cond (decide (n ≤ h0 t10.toNat)) (k0) (cond (decide (t10 < n)) (cond (decide (0 ≤ h0 t10.toNat) && decide (h0 t10.toNat < (↑64 : Int))) (cond (fits IntKind.i64 (shlI 1 (h0 t10.toNat))) (cond (fits IntKind.i64 (t10 + 1)) (kn (bitI BinOp.or IntKind.i64 seen (shlI 1 (h0 t10.toNat))) (t10 + 1)) (z)) (z)) (z)) (cond (fits IntKind.i64 (t10 + 1)) (kn seen (t10 + 1)) (z))))) (z)) (z)) (k1 seen)
def ordL (w : Nat) (z : β) (n : Int) (h0 : Nat → Int) : Nat → Int → Int → β → (Int → β) → β
  | 0, _, _, _, _ => z
  | m + 1, seen, t10, k0, k1 => ordS w z n h0 seen t10 (fun seen t10 => ordL w z n h0 m seen t10 k0 k1) k0 k1

/-- A round of it. -/
def ordF (n : Nat) (p : Nat → Int) (i s : Nat) : Nat ⊕ Unit :=
  if n ≤ i then (if p i = 0 then .inl s else .inr ()) else if p i < n then .inl (s ||| 2 ^ (p i).toNat) else .inr ()
theorem ordF_inv {n i s s' : Nat} {p : Nat → Int} (hp : 0 ≤ p i) (hn : n ≤ 8) (hs : s < 256) (h : ordF n p i s = .inl s') : s' < 256 := by
  unfold ordF at h
  split at h
  · split at h
    · cases h; exact hs
    · cases h
  · split at h
    · cases h
      refine Nat.or_lt_two_pow (n := 8) hs ?_
      exact Nat.pow_lt_pow_right (by omega) (by omega)
    · cases h
theorem ordL_val (w : Nat) (hw : w ≤ 64) (z : β) (n : Nat) (hn : 1 ≤ n) (hn8 : n ≤ 8) (p : Nat → Int) (hp : ∀ j, 0 ≤ p j) (k0 : β) (k1 : Int → β) {N : Nat} (hN : w < N) :
    ordL w z n p N 0 0 k0 k1 = orOut (fun s : Nat => k1 (s : Int)) (fun _ => k0) (iterE (ordF n p) w 0 0) := by
  refine up_to_E (L := fun m i (s : Nat) => ordL w z n p m (s : Int) (i : Int) k0 k1) (n := w) (out := fun s : Nat => k1 (s : Int)) (ex := fun _ => k0) (f := ordF n p) (I := fun _ s => s < 256) ?_ ?_ w N 0 0 (by omega) hN (by omega)
  · intro m i s hi hs
    have h0 := hp i
    simp only [ordL, ordS, c_and, Int.toNat_natCast]
    by_cases h1 : n ≤ i
    · by_cases h2 : p i = 0
      · left
        refine ⟨s, by unfold ordF; rw [if_pos h1, if_pos h2], ?_, hs⟩
        simp (disch := omega) only [c_lt, c_nlt, c_le, c_nle, c_blt, c_nne, c_fits]
        rfl
      · right
        refine ⟨(), by unfold ordF; rw [if_pos h1, if_neg h2], ?_⟩
        simp (disch := omega) only [c_lt, c_nlt, c_le, c_nle, c_blt, c_ne, c_fits]
    · by_cases h2 : p i < n
      · left
        have hs2 : s ||| 2 ^ (p i).toNat < 256 := Nat.or_lt_two_pow (n := 8) hs (Nat.pow_lt_pow_right (by omega) (by omega))
        refine ⟨s ||| 2 ^ (p i).toNat, by unfold ordF; rw [if_neg h1, if_pos h2], ?_, hs2⟩
        obtain ⟨v, hv⟩ : ∃ v : Nat, p i = (v : Int) := ⟨(p i).toNat, by omega⟩
        have hv8 : v < 8 := by omega
        have hpow : 2 ^ v < 256 := Nat.pow_lt_pow_right (n := 8) (by omega) hv8
        simp only [hv, Int.toNat_natCast, shlI_one] at *
        generalize 2 ^ v = q at *
        simp (disch := omega) only [c_lt, c_nlt, c_le, c_nle, c_blt, c_ne, c_fits]
        rw [bitI_or_nat (by omega) (by omega)]
        rfl
      · right
        refine ⟨(), by unfold ordF; rw [if_neg h1, if_neg h2], ?_⟩
        simp (disch := omega) only [c_lt, c_nlt, c_le, c_nle, c_blt, c_ne, c_fits]
  · intro m s _
    simp (disch := omega) only [ordL, ordS, c_nlt]

/-- Are the cells from some on in bounds? -/
def OkFrom (w n : Nat) (p : Nat → Int) (i : Nat) : Prop := ∀ j, i ≤ j → j < w → (n ≤ j → p j = 0) ∧ (j < n → p j < n)
theorem OkFrom.step {w n i : Nat} {p : Nat → Int} (hi : i < w) : OkFrom w n p i ↔ ((n ≤ i → p i = 0) ∧ (i < n → p i < n)) ∧ OkFrom w n p (i + 1) := by
  refine ⟨fun h => ⟨h i (by omega) hi, fun j h1 h2 => h j (by omega) h2⟩, fun ⟨h1, h2⟩ j h3 h4 => ?_⟩
  by_cases e : j = i
  · subst e; exact h1
  · exact h2 j (by omega) h4
theorem ordF_run {w n : Nat} {p : Nat → Int} : ∀ (d i s : Nat), i + d = w →
    (∃ s', iterE (ordF n p) d i s = .inl s' ∧ OkFrom w n p i ∧ ∀ r, s'.testBit r = true ↔ s.testBit r = true ∨ ∃ j, i ≤ j ∧ j < n ∧ j < w ∧ (p j).toNat = r) ∨ (iterE (ordF n p) d i s = .inr () ∧ ¬ OkFrom w n p i) := by
  intro d
  induction d with
  | zero =>
    intro i s hi
    left
    refine ⟨s, rfl, fun j h1 h2 => by omega, fun r => ⟨.inl, fun h => ?_⟩⟩
    rcases h with h | ⟨j, h1, _, h2, _⟩
    · exact h
    · omega
  | succ d ih =>
    intro i s hi
    rw [OkFrom.step (by omega)]
    have key : ∀ s', ordF n p i s = .inl s' → ((n ≤ i → p i = 0) ∧ (i < n → p i < n)) → (∀ r, s'.testBit r = true ↔ s.testBit r = true ∨ (i < n ∧ (p i).toNat = r)) →
        (∃ s', iterE (ordF n p) (d + 1) i s = .inl s' ∧ (((n ≤ i → p i = 0) ∧ (i < n → p i < n)) ∧ OkFrom w n p (i + 1)) ∧ ∀ r, s'.testBit r = true ↔ s.testBit r = true ∨ ∃ j, i ≤ j ∧ j < n ∧ j < w ∧ (p j).toNat = r) ∨
        (iterE (ordF n p) (d + 1) i s = .inr () ∧ ¬ (((n ≤ i → p i = 0) ∧ (i < n → p i < n)) ∧ OkFrom w n p (i + 1))) := by
      intro s' h1 h2 h3
      rcases ih (i + 1) s' (by omega) with ⟨s2, h4, h5, h6⟩ | ⟨h4, h5⟩
      · left
        refine ⟨s2, by rw [iterE, h1]; exact h4, ⟨h2, h5⟩, fun r => ?_⟩
        rw [h6, h3]
        constructor
        · rintro ((h | ⟨h, h'⟩) | ⟨j, g1, g2, g3, g4⟩)
          · exact .inl h
          · exact .inr ⟨i, by omega, h, by omega, h'⟩
          · exact .inr ⟨j, by omega, g2, g3, g4⟩
        · rintro (h | ⟨j, g1, g2, g3, g4⟩)
          · exact .inl (.inl h)
          · by_cases e : j = i
            · subst e; exact .inl (.inr ⟨g2, g4⟩)
            · exact .inr ⟨j, by omega, g2, g3, g4⟩
      · right
        exact ⟨by rw [iterE, h1]; exact h4, fun h => h5 h.2⟩
    by_cases h1 : n ≤ i
    · by_cases h2 : p i = 0
      · exact key s (by unfold ordF; rw [if_pos h1, if_pos h2]) ⟨fun _ => h2, fun h => by omega⟩ fun r => ⟨.inl, fun h => h.elim id fun h => by omega⟩
      · right
        refine ⟨?_, fun h => h2 (h.1.1 h1)⟩
        rw [iterE]
        have : ordF n p i s = .inr () := by unfold ordF; rw [if_pos h1, if_neg h2]
        rw [this]
    · by_cases h2 : p i < n
      · refine key (s ||| 2 ^ (p i).toNat) (by unfold ordF; rw [if_neg h1, if_pos h2]) ⟨fun h => by omega, fun _ => h2⟩ fun r => ?_
        rw [Nat.testBit_or, Nat.testBit_two_pow, Bool.or_eq_true, decide_eq_true_eq]
        exact ⟨fun h => h.imp id fun h => ⟨by omega, h⟩, fun h => h.imp id fun h => h.2⟩
      · right
        refine ⟨?_, fun h => h2 (h.1.2 (by omega))⟩
        rw [iterE]
        have : ordF n p i s = .inr () := by unfold ordF; rw [if_neg h1, if_neg h2]
        rw [this]

/-- The program's test of an order. -/
theorem ord_val (w : Nat) (hw : w ≤ 64) (z : β) (n : Nat) (hn : 1 ≤ n) (hn8 : n ≤ 8) (hnw : n ≤ w) (p : Nat → Int) (hp : ∀ j, 0 ≤ p j) (k : Bool → β) {N : Nat} (hN : w < N) :
    ordL w z n p N 0 0 (k false) (fun q5 => cond (decide (0 ≤ (n : Int)) && decide ((n : Int) < (↑64 : Int))) (cond (fits IntKind.i64 (shlI 1 n)) (cond (fits IntKind.i64 (shlI 1 n - 1)) (k (q5 == shlI 1 n - 1)) (z)) (z)) (z)) = k (permB w n p) := by
  rw [ordL_val w hw z n hn hn8 p hp _ _ hN]
  have hpow : 2 ^ n ≤ 256 := Nat.pow_le_pow_right (n := 2) (by omega) hn8
  have hpos : 0 < 2 ^ n := Nat.two_pow_pos n
  rcases ordF_run (w := w) (n := n) (p := p) w 0 0 (by omega) with ⟨s, h1, h2, h3⟩ | ⟨h1, h2⟩
  · rw [h1]
    simp only [orOut, shlI_one, c_and]
    simp (disch := omega) only [c_lt, c_le, c_fits]
    refine congrArg k (permB_of ?_)
    have hb : ∀ r, s.testBit r = true ↔ ∃ j, j < n ∧ (p j).toNat = r := fun r => by
      rw [h3]
      simp only [Nat.zero_testBit, Bool.false_eq_true, false_or]
      exact ⟨fun ⟨j, _, a, _, b⟩ => ⟨j, a, b⟩, fun ⟨j, a, b⟩ => ⟨j, by omega, a, by omega, b⟩⟩
    have hf : ∀ i, i < n → (p i).toNat < n := fun i hi => by have := (h2 i (by omega) (by omega)).2 hi; omega
    have e1 : ((s : Int) == ((2 ^ n : Nat) : Int) - 1) = true ↔ ∀ r, r < n → ∃ j, j < n ∧ (p j).toNat = r := by
      constructor
      · intro h r hr
        have : s = 2 ^ n - 1 := by simp only [beq_iff_eq] at h; omega
        rw [← hb, this, Nat.testBit_two_pow_sub_one]
        exact decide_eq_true hr
      · intro h
        have : s = 2 ^ n - 1 := by
          apply Nat.eq_of_testBit_eq
          intro r
          rw [Nat.testBit_two_pow_sub_one]
          by_cases hr : r < n
          · rw [decide_eq_true hr, hb]; exact h r hr
          · rw [decide_eq_false hr, ← Bool.not_eq_true, hb]
            rintro ⟨j, a, b⟩
            have := hf j a
            omega
        simp only [beq_iff_eq]
        omega
    rw [e1]
    constructor
    · intro h
      refine ⟨fun j a b => (h2 j (by omega) b).1 a, fun j a => (h2 j (by omega) (by omega)).2 a, fun i j a b e => inj_of_surj n (fun i => (p i).toNat) hf h i j a b (by rw [e])⟩
    · rintro ⟨_, _, h⟩
      exact surj_of_inj n (fun i => (p i).toNat) hf fun i j a b e => h i j a b (by have := hp i; have := hp j; omega)
  · rw [h1]
    simp only [orOut]
    refine congrArg k (permB_of ⟨fun h => (by cases h), fun h => absurd (fun j _ b => ⟨fun a => h.1 j a b, fun a => h.2.1 j a⟩) h2⟩)
end order
end Go.AM

namespace Go.AM
section perm
variable {β : Type}
/-- The loop of the reference that tests a permutation, for any width. -/
def permS (w : Nat) (z : β) (n : Int) (h0 : Nat → Int) (i : Int) (h1 : Nat → Bool) (kn : Int → (Nat → Bool) → β) (k0 : (Nat → Bool) → β) (k1 : (Nat → Bool) → β) : β :=
  cond (decide (i < (w : Int))) (cond (decide (n ≤ i)) (cond (decide (0 ≤ i) && decide (i < (↑w : Int))) (cond (i.toNat.blt w) (cond (h0 i.toNat != 0) (k0 h1) (cond (fits IntKind.i64 (i + 1)) (kn (i + 1) h1) (z))) (z)) (z)) (cond (decide (0 ≤ i) && decide (i < (↑w : Int))) (cond (i.toNat.blt w) (cond (decide (n ≤ h0 i.toNat)) (k0 h1) (cond (decide (0 ≤ i) && decide (i < (↑w : Int))) (cond (i.toNat.blt w) (cond (decide (0 ≤ h0 i.toNat) && decide (h0 i.toNat < (↑w : Int))) (cond ((h0 i.toNat).toNat.blt w) (cond (h1 (h0 i.toNat).toNat) (k0 h1) (cond (decide (0 ≤ i) && decide (i < (↑w : Int))) (cond (i.toNat.blt w) (cond (decide (0 ≤ h0 i.toNat) && decide (h0 i.toNat < (↑w : Int))) (cond ((h0 i.toNat).toNat.blt w) (cond (fits IntKind.i64 (i + 1)) (kn (i + 1) (upd h1 (h0 i.toNat).toNat true)) (z)) (z)) (z)) (z)) (z))) (z)) (z)) (z)) (z))) (z)) (z))) (k1 h1)
def permL (w : Nat) (z : β) (n : Int) (h0 : Nat → Int) : Nat → Int → (Nat → Bool) → ((Nat → Bool) → β) → ((Nat → Bool) → β) → β
  | 0, _, _, _, _ => z
  | m + 1, i, h1, k0, k1 => permS w z n h0 i h1 (fun i h1 => permL w z n h0 m i h1 k0 k1) k0 k1

/-- A round of it. -/
def permF (n : Nat) (p : Nat → Int) (i : Nat) (met : Nat → Bool) : (Nat → Bool) ⊕ Unit :=
  if n ≤ i then (if p i = 0 then .inl met else .inr ()) else if p i < n then (if met (p i).toNat = true then .inr () else .inl (upd met (p i).toNat true)) else .inr ()
theorem permL_val (w : Nat) (hw : w ≤ 64) (z : β) (n : Nat) (hnw : n ≤ w) (p : Nat → Int) (hp : ∀ j, 0 ≤ p j) (kf kt : β) {N : Nat} (hN : w < N) (met : Nat → Bool) :
    permL w z n p N 0 met (fun _ => kf) (fun _ => kt) = orOut (fun _ => kt) (fun _ => kf) (iterE (permF n p) w 0 met) := by
  refine up_to_E (L := fun m i (s : Nat → Bool) => permL w z n p m (i : Int) s (fun _ => kf) (fun _ => kt)) (n := w) (out := fun _ => kt) (ex := fun _ => kf) (f := permF n p) (I := fun _ _ => True) ?_ ?_ w N 0 met (by omega) hN trivial
  · intro m i s hi _
    have h0 := hp i
    simp only [permL, permS, c_and, Int.toNat_natCast]
    by_cases h1 : n ≤ i
    · by_cases h2 : p i = 0
      · left
        refine ⟨s, by unfold permF; rw [if_pos h1, if_pos h2], ?_, trivial⟩
        simp (disch := omega) only [c_lt, c_nlt, c_le, c_nle, c_blt, c_nne, c_fits]
        rfl
      · right
        refine ⟨(), by unfold permF; rw [if_pos h1, if_neg h2], ?_⟩
        simp (disch := omega) only [c_lt, c_nlt, c_le, c_nle, c_blt, c_ne, c_fits]
    · by_cases h2 : p i < n
      · cases h3 : s (p i).toNat with
        | true =>
          right
          refine ⟨(), by unfold permF; rw [if_neg h1, if_pos h2, if_pos h3], ?_⟩
          simp (disch := omega) only [c_lt, c_nlt, c_le, c_nle, c_blt, c_ne, c_fits, h3, c_true]
        | false =>
          left
          refine ⟨upd s (p i).toNat true, by unfold permF; rw [if_neg h1, if_pos h2, if_neg (by simp [h3])], ?_, trivial⟩
          simp (disch := omega) only [c_lt, c_nlt, c_le, c_nle, c_blt, c_ne, c_fits, h3, c_false]
          rfl
      · right
        refine ⟨(), by unfold permF; rw [if_neg h1, if_neg h2], ?_⟩
        simp (disch := omega) only [c_lt, c_nlt, c_le, c_nle, c_blt, c_ne, c_fits]
  · intro m s _
    simp (disch := omega) only [permL, permS, c_nlt]

/-- From some cell on: in bounds, not met before, and no two alike. -/
def FreeFrom (w n : Nat) (p : Nat → Int) (i : Nat) (met : Nat → Bool) : Prop :=
  OkFrom w n p i ∧ (∀ j, i ≤ j → j < n → j < w → met (p j).toNat = false) ∧ ∀ a b, i ≤ a → a < b → b < n → b < w → (p a).toNat ≠ (p b).toNat
theorem permF_run {w n : Nat} {p : Nat → Int} : ∀ (d i : Nat) (met : Nat → Bool), i + d = w →
    ((∃ m, iterE (permF n p) d i met = .inl m) ∧ FreeFrom w n p i met) ∨ (iterE (permF n p) d i met = .inr () ∧ ¬ FreeFrom w n p i met) := by
  intro d
  induction d with
  | zero =>
    intro i met hi
    left
    exact ⟨⟨met, rfl⟩, fun j h1 h2 => by omega, fun j h1 _ h2 => by omega, fun a b h1 h2 _ h3 => by omega⟩
  | succ d ih =>
    intro i met hi
    have bad : permF n p i met = .inr () → ¬ FreeFrom w n p i met → ((∃ m, iterE (permF n p) (d + 1) i met = .inl m) ∧ FreeFrom w n p i met) ∨ (iterE (permF n p) (d + 1) i met = .inr () ∧ ¬ FreeFrom w n p i met) := by
      intro h1 h2
      right
      exact ⟨by rw [iterE, h1], h2⟩
    have good : ∀ met', permF n p i met = .inl met' → (FreeFrom w n p i met ↔ FreeFrom w n p (i + 1) met') → ((∃ m, iterE (permF n p) (d + 1) i met = .inl m) ∧ FreeFrom w n p i met) ∨ (iterE (permF n p) (d + 1) i met = .inr () ∧ ¬ FreeFrom w n p i met) := by
      intro met' h1 h2
      rw [h2, iterE, h1]
      exact ih (i + 1) met' (by omega)
    by_cases h1 : n ≤ i
    · by_cases h2 : p i = 0
      · refine good met (by unfold permF; rw [if_pos h1, if_pos h2]) ?_
        unfold FreeFrom
        rw [OkFrom.step (by omega)]
        exact ⟨fun ⟨⟨_, a⟩, b, c⟩ => ⟨a, fun j g1 g2 g3 => b j (by omega) g2 g3, fun x y g1 g2 g3 g4 => c x y (by omega) g2 g3 g4⟩,
          fun ⟨a, b, c⟩ => ⟨⟨⟨fun _ => h2, fun h => by omega⟩, a⟩, fun j g1 g2 g3 => by omega, fun x y g1 g2 g3 g4 => by omega⟩⟩
      · exact bad (by unfold permF; rw [if_pos h1, if_neg h2]) fun h => h2 ((h.1 i (by omega) (by omega)).1 h1)
    · by_cases h2 : p i < n
      · cases h3 : met (p i).toNat with
        | true => exact bad (by unfold permF; rw [if_neg h1, if_pos h2, if_pos h3]) fun h => by have := h.2.1 i (by omega) (by omega) (by omega); rw [h3] at this; cases this
        | false =>
          refine good (upd met (p i).toNat true) (by unfold permF; rw [if_neg h1, if_pos h2, if_neg (by simp [h3])]) ?_
          unfold FreeFrom
          rw [OkFrom.step (by omega)]
          constructor
          · rintro ⟨⟨_, a⟩, b, c⟩
            refine ⟨a, fun j g1 g2 g3 => ?_, fun x y g1 g2 g3 g4 => c x y (by omega) g2 g3 g4⟩
            rw [upd_at, if_neg (fun e => c i j (by omega) (by omega) g2 g3 e.symm)]
            exact b j (by omega) g2 g3
          · rintro ⟨a, b, c⟩
            have b' : ∀ j, i + 1 ≤ j → j < n → j < w → (p j).toNat ≠ (p i).toNat ∧ met (p j).toNat = false := by
              intro j g1 g2 g3
              have := b j g1 g2 g3
              rw [upd_at] at this
              split at this
              · cases this
              · rename_i e; exact ⟨e, this⟩
            refine ⟨⟨⟨fun h => by omega, fun _ => h2⟩, a⟩, fun j g1 g2 g3 => ?_, fun x y g1 g2 g3 g4 => ?_⟩
            · by_cases e : j = i
              · subst e; exact h3
              · exact (b' j (by omega) g2 g3).2
            · by_cases e : x = i
              · subst e; exact fun e => (b' y (by omega) g3 g4).1 e.symm
              · exact c x y (by omega) g2 g3 g4
      · exact bad (by unfold permF; rw [if_neg h1, if_neg h2]) fun h => h2 ((h.1 i (by omega) (by omega)).2 (by omega))

/-- The reference's test of a permutation. -/
theorem perm_val (w : Nat) (hw : w ≤ 64) (z : β) (n : Nat) (hnw : n ≤ w) (p : Nat → Int) (hp : ∀ j, 0 ≤ p j) (k : Bool → β) {N : Nat} (hN : w < N) :
    permL w z n p N 0 (fun _ => false) (fun _ => k false) (fun _ => k true) = k (permB w n p) := by
  rw [permL_val w hw z n hnw p hp _ _ hN]
  rcases permF_run (w := w) (n := n) (p := p) w 0 (fun _ => false) (by omega) with ⟨⟨m, h1⟩, h2, _, h3⟩ | ⟨h1, h2⟩
  · rw [h1]
    refine congrArg k (permB_of ⟨fun _ => ⟨fun j a b => (h2 j (by omega) b).1 a, fun j a => (h2 j (by omega) (by omega)).2 a, fun i j a b e => ?_⟩, fun _ => rfl⟩)
    rcases Nat.lt_trichotomy i j with g | g | g
    · exact absurd (by rw [e]) (h3 i j (by omega) g b (by omega))
    · exact g
    · exact absurd (by rw [e]) (h3 j i (by omega) g a (by omega))
  · rw [h1]
    refine congrArg k (permB_of ⟨fun h => (by cases h), fun h => absurd ⟨fun j _ b => ⟨fun a => h.1 j a b, fun a => h.2.1 j a⟩, fun _ _ _ _ => rfl, fun a b _ g1 g2 _ e => ?_⟩ h2⟩)
    have := h.2.2 a b (by omega) g2 (by have := hp a; have := hp b; omega)
    omega
end perm
end Go.AM

namespace Go.AM
section
variable {β : Type}
theorem i_within_val (z : β) (N : Nat) (x lo hi : Int) (k : Bool → β) : i_within z N x lo hi k = k (decide (lo ≤ x ∧ x ≤ hi)) := by
  unfold i_within
  by_cases h : lo ≤ x
  · rw [c_le h]; congr 1; exact decide_eq_decide.2 ⟨fun h2 => ⟨h, h2⟩, fun h2 => h2.2⟩
  · rw [c_nle (by omega), decide_eq_false (fun h2 => h h2.1)]
theorem s_l01In_val (z : β) (N : Nat) (x lo hi : Int) (k : Bool → β) : s_l01In z N x lo hi k = k (decide (lo ≤ x ∧ x ≤ hi)) := by
  unfold s_l01In
  by_cases h : lo ≤ x
  · rw [c_le h]; congr 1; exact decide_eq_decide.2 ⟨fun h2 => ⟨h, h2⟩, fun h2 => h2.2⟩
  · rw [c_nle (by omega), decide_eq_false (fun h2 => h h2.1)]
theorem w_toByteA64_val (z : β) {N : Nat} (hN : 64 < N) (a : Nat → Int) (k0 : (Nat → Int) → β) : w_toByteA64 z N a k0 = k0 (fun j => if j < 64 then a j else 0) := by
  unfold w_toByteA64
  have := up_to (L := fun m i h => w_toByteA64_l0 z a (fun _ => 0) m (i : Int) h k0) (n := 64) (out := k0) (f := fun i h => upd h i (a i)) (I := fun _ _ => True)
    (fun m i s hi _ => ⟨by
      simp only [w_toByteA64_l0, w_toByteA64_l0_s, c_and, Int.toNat_natCast]
      simp (disch := omega) only [c_lt, c_le, c_blt, c_fits]
      rfl, trivial⟩)
    (fun m s _ => by simp (disch := omega) only [w_toByteA64_l0, w_toByteA64_l0_s, c_nlt]) 64 N 0 (fun _ => 0) rfl hN trivial
  rw [iter_set] at this
  refine this.trans (congrArg k0 (funext fun j => ?_))
  simp
end
end Go.AM

namespace Go.AM
section
variable {β : Type}
theorem isOrder_s2_ordL (z : β) (n a : Int) (h g : Nat → Int) : ∀ m s t k0 k1, i_isOrder_l0_s2 z n a h g m s t k0 k1 = ordL 8 z n h m s t k0 k1 := by
  intro m
  induction m with
  | zero => intros; rfl
  | succ m ih => intro s t k0 k1; simp only [i_isOrder_l0_s2, ordL, ih]; rfl
theorem isOrder_s3_ordL (z : β) (n a : Int) (h g : Nat → Int) : ∀ m s t k0 k1, i_isOrder_l0_s3 z n a h g m s t k0 k1 = ordL 8 z n g m s t k0 k1 := by
  intro m
  induction m with
  | zero => intros; rfl
  | succ m ih => intro s t k0 k1; simp only [i_isOrder_l0_s3, ordL, ih]; rfl
theorem l01Perm_permL (z : β) (n : Int) (h : Nat → Int) : ∀ m i s k0 k1, s_l01Perm_l0 z n h m i s k0 k1 = permL 8 z n h m i s k0 k1 := by
  intro m
  induction m with
  | zero => intros; rfl
  | succ m ih => intro s t k0 k1; simp only [s_l01Perm_l0, permL, ih]; rfl

theorem s_l01Perm_val (z : β) {N : Nat} (hN : 8 < N) {m : Nat} (hm : m ≤ 8) (X : Nat → Int) (hX : ∀ j, 0 ≤ X j) (k : Bool → β) : s_l01Perm z N X m k = k (permB 8 m X) := by
  unfold s_l01Perm
  rw [l01Perm_permL]
  exact perm_val 8 (by omega) z m hm X hX k hN
theorem i_isOrder_s2_val (z : β) {N : Nat} (hN : 8 < N) {m : Nat} (h1 : 1 ≤ m) (hm : m ≤ 8) (a : Int) (X O : Nat → Int) (hX : ∀ j, 0 ≤ X j) (k : Bool → β) : i_isOrder_s2 z N m a X O k = k (permB 8 m X) := by
  unfold i_isOrder_s2
  rw [isOrder_s2_ordL]
  exact ord_val 8 (by omega) z m h1 hm hm X hX k hN
theorem i_isOrder_s3_val (z : β) {N : Nat} (hN : 8 < N) {m : Nat} (h1 : 1 ≤ m) (hm : m ≤ 8) (a : Int) (X O : Nat → Int) (hO : ∀ j, 0 ≤ O j) (k : Bool → β) : i_isOrder_s3 z N m a X O k = k (permB 8 m O) := by
  unfold i_isOrder_s3
  rw [isOrder_s3_ordL]
  exact ord_val 8 (by omega) z m h1 hm hm O hO k hN

/-- Cells of eight bytes. -/
def clip8 (a : Nat → Int) : Nat → Int := fun j => if j < 8 then a j else 0
theorem clip8_lt {a : Nat → Int} {j : Nat} (h : j < 8) : clip8 a j = a j := if_pos h
theorem clip8_nn {a : Nat → Int} (h : ∀ j, j < 8 → 0 ≤ a j) : ∀ j, 0 ≤ clip8 a j := fun j => by unfold clip8; split; exact h j ‹_›; omega
theorem clip8_le {a : Nat → Int} (h : ∀ j, j < 8 → a j ≤ 255) : ∀ j, clip8 a j ≤ 255 := fun j => by unfold clip8; split; exact h j ‹_›; omega
theorem w_toByteA8_val (z : β) {N : Nat} (hN : 8 < N) (a : Nat → Int) (k0 : (Nat → Int) → β) : w_toByteA8 z N a k0 = k0 (clip8 a) := by
  unfold w_toByteA8
  have := up_to (L := fun m i h => w_toByteA8_l0 z a (fun _ => 0) m (i : Int) h k0) (n := 8) (out := k0) (f := fun i h => upd h i (a i)) (I := fun _ _ => True)
    (fun m i s hi _ => ⟨by
      simp only [w_toByteA8_l0, w_toByteA8_l0_s, c_and, Int.toNat_natCast]
      simp (disch := omega) only [c_lt, c_le, c_blt, c_fits]
      rfl, trivial⟩)
    (fun m s _ => by simp (disch := omega) only [w_toByteA8_l0, w_toByteA8_l0_s, c_nlt]) 8 N 0 (fun _ => 0) rfl hN trivial
  rw [iter_set] at this
  refine this.trans (congrArg k0 (funext fun j => ?_))
  simp [clip8]
theorem w_toGrid_val (z : β) {N : Nat} (hN : 8 < N) (n : Int) (a b : Nat → Int) (k0 : (Nat → Int) → (Nat → Int) → β) : w_toGrid z N n a b k0 = k0 (clip8 a) (clip8 b) := by
  unfold w_toGrid
  rw [w_toByteA8_val z hN, w_toByteA8_val z hN]

/-- No column with both marks in one cell. -/
def apartB (n : Nat) (X O : Nat → Int) : Bool := allFrom (fun i => !(X i == O i)) n 0
/-- Is it a grid? -/
noncomputable def gridB (n : Int) (X O : Nat → Int) : Bool := decide (2 ≤ n ∧ n ≤ 8) && (permB 8 n.toNat X && (permB 8 n.toNat O && apartB n.toNat X O))
/-- A grid: its size is between 2 and 8, both lists are permutations, no column with both marks in one cell. -/
structure GridP (n : Nat) (X O : Nat → Int) : Prop where
  lo : 2 ≤ n
  hi : n ≤ 8
  px : PermP 8 n X
  po : PermP 8 n O
  ne : ∀ i, i < n → X i ≠ O i
theorem gridB_iff {n : Int} {X O : Nat → Int} : gridB n X O = true ↔ ∃ m : Nat, n = m ∧ GridP m X O := by
  unfold gridB
  simp only [Bool.and_eq_true, decide_eq_true_eq, permB_iff, apartB, allFrom_iff]
  constructor
  · rintro ⟨⟨h1, h2⟩, h3, h4, h5⟩
    refine ⟨n.toNat, by omega, by omega, by omega, h3, h4, fun i hi => ?_⟩
    have := h5 i (by omega) (by omega)
    simpa using this
  · rintro ⟨m, rfl, g⟩
    have := g.lo
    have := g.hi
    refine ⟨by omega, g.px, g.po, fun j _ h => ?_⟩
    have := g.ne j (by simpa using h)
    simpa using this
theorem gridB_false {n : Int} {X O : Nat → Int} (h : ¬ (2 ≤ n ∧ n ≤ 8)) : gridB n X O = false := by unfold gridB; rw [decide_eq_false h]; rfl

theorem s_l01Is_val (z : β) {N : Nat} (hN : 8 < N) (n : Int) (X O : Nat → Int) (hX : ∀ j, 0 ≤ X j) (hO : ∀ j, 0 ≤ O j) (k : Bool → β) : s_l01Is z N n X O k = k (gridB n X O) := by
  unfold s_l01Is
  rw [s_l01In_val]
  by_cases h : 2 ≤ n ∧ n ≤ 8
  · obtain ⟨m, rfl⟩ : ∃ m : Nat, n = (m : Int) := ⟨n.toNat, by omega⟩
    simp only [decide_eq_true h, Bool.not_true, c_false]
    rw [s_l01Perm_val z hN (by omega) X hX]
    unfold gridB
    rw [decide_eq_true h, Int.toNat_natCast]
    cases permB 8 m X with
    | false => rfl
    | true =>
      simp only [Bool.not_true, c_false, Bool.true_and]
      rw [s_l01Perm_val z hN (by omega) O hO]
      cases permB 8 m O with
      | false => rfl
      | true =>
        simp only [Bool.not_true, c_false, Bool.true_and]
        have := up_to_all (L := fun j i => s_l01Is_l0 z m X O j (i : Int) (k false) (k true)) (n := m) (kt := k true) (kf := k false) (p := fun i => !(X i == O i))
          (fun j i hi => by
            simp only [s_l01Is_l0, s_l01Is_l0_s, c_and, Int.toNat_natCast]
            simp (disch := omega) only [c_lt, c_le, c_blt, c_fits, c_not]
            rfl)
          (fun j => by simp (disch := omega) only [s_l01Is_l0, s_l01Is_l0_s, c_nlt]) m N 0 (by omega) (by omega)
        refine this.trans ?_
        unfold apartB
        cases allFrom (fun i => !(X i == O i)) m 0 <;> rfl
  · simp only [decide_eq_false h, Bool.not_false, c_true]
    rw [gridB_false h]

theorem i_IsGrid_val (z : β) {N : Nat} (hN : 8 < N) (n : Int) (X O : Nat → Int) (hX : ∀ j, 0 ≤ X j) (hO : ∀ j, 0 ≤ O j) (k : Bool → β) : i_IsGrid z N n X O k = k (gridB n X O) := by
  unfold i_IsGrid
  rw [i_within_val]
  by_cases h : 2 ≤ n ∧ n ≤ 8
  · obtain ⟨m, rfl⟩ : ∃ m : Nat, n = (m : Int) := ⟨n.toNat, by omega⟩
    simp only [decide_eq_true h, Bool.not_true, c_false, i_Grid_n]
    rw [i_isOrder_s2_val z hN (by omega) (by omega) _ X O hX]
    unfold gridB
    rw [decide_eq_true h, Int.toNat_natCast]
    cases permB 8 m X with
    | false => rfl
    | true =>
      simp only [Bool.not_true, c_false, Bool.true_and]
      rw [i_isOrder_s3_val z hN (by omega) (by omega) _ X O hO]
      cases permB 8 m O with
      | false => rfl
      | true =>
        simp only [Bool.not_true, c_false, Bool.true_and]
        have := up_to_all (L := fun j i => i_IsGrid_l0 z m m X O j (i : Int) (k false) (k true)) (n := m) (kt := k true) (kf := k false) (p := fun i => !(X i == O i))
          (fun j i hi => by
            simp only [i_IsGrid_l0, i_IsGrid_l0_s, c_and, Int.toNat_natCast]
            simp (disch := omega) only [c_lt, c_le, c_blt, c_fits, c_not]
            rfl)
          (fun j => by simp (disch := omega) only [i_IsGrid_l0, i_IsGrid_l0_s, c_nlt]) m N 0 (by omega) (by omega)
        refine this.trans ?_
        unfold apartB
        cases allFrom (fun i => !(X i == O i)) m 0 <;> rfl
  · simp only [decide_eq_false h, Bool.not_false, c_true]
    rw [gridB_false h]
/-- Equal states are equal. -/
theorem w_eqState_refl (z : β) {N : Nat} (hN : 8 < N) (a : Nat → Int) (k0 : Bool → β) : w_eqState z N a a k0 = k0 true := by
  unfold w_eqState
  have := up_to_all (L := fun k i => w_eqState_l0 z a a k (i : Int) (k0 false) (k0 true)) (n := 8) (kt := k0 true) (kf := k0 false) (p := fun _ => true)
    (fun j i hi => by
      simp only [w_eqState_l0, w_eqState_l0_s, c_and, Int.toNat_natCast]
      simp (disch := omega) only [c_lt, c_le, c_blt, c_fits, c_nne]
      rfl)
    (fun k => by simp (disch := omega) only [w_eqState_l0, w_eqState_l0_s, c_nlt]) 8 N 0 (by omega) (by omega)
  refine this.trans ?_
  rfl
end
end Go.AM

namespace Go.AM
section
variable {β : Type}
theorem w_eqByteA8_refl (z : β) {N : Nat} (hN : 8 < N) (a : Nat → Int) (k0 : Bool → β) : w_eqByteA8 z N a a k0 = k0 true := by
  unfold w_eqByteA8
  have := up_to_all (L := fun k i => w_eqByteA8_l0 z a a k (i : Int) (k0 false) (k0 true)) (n := 8) (kt := k0 true) (kf := k0 false) (p := fun _ => true)
    (fun k i hi => by
      simp only [w_eqByteA8_l0, w_eqByteA8_l0_s, c_and, Int.toNat_natCast]
      simp (disch := omega) only [c_lt, c_le, c_blt, c_fits, c_nne]
      rfl)
    (fun k => by simp (disch := omega) only [w_eqByteA8_l0, w_eqByteA8_l0_s, c_nlt]) 8 N 0 (by omega) (by omega)
  refine this.trans ?_
  rfl
theorem w_eqGrid_refl (z : β) {N : Nat} (hN : 8 < N) (n : Int) (a b : Nat → Int) (k0 : Bool → β) : w_eqGrid z N n a b n a b k0 = k0 true := by
  unfold w_eqGrid
  simp only [bne_self_eq_false, c_false, w_eqByteA8_refl z hN, Bool.not_true]
/-- Both lists after a round of the transpose. -/
def transF (X O : Nat → Int) (i : Nat) (h : (Nat → Int) × (Nat → Int)) : (Nat → Int) × (Nat → Int) :=
  (upd h.1 (O i).toNat (wrapU IntKind.u8 i), upd h.2 (X i).toNat (wrapU IntKind.u8 i))
def transP (n : Nat) (X O : Nat → Int) : (Nat → Int) × (Nat → Int) := iter (transF X O) n 0 (fun _ => 0, fun _ => 0)
theorem s_TransposeOf_loop (z : β) {N : Nat} (hN : 8 < N) {n : Nat} {X O : Nat → Int} (g : GridP n X O) (hX : ∀ j, 0 ≤ X j) (hO : ∀ j, 0 ≤ O j) (a c : Int) (f1 f2 : Nat → Int) (k0 : (Nat → Int) → (Nat → Int) → β) :
    s_TransposeOf_l0 z n X O a f1 f2 c N 0 (fun _ => 0) (fun _ => 0) k0 = k0 (transP n X O).1 (transP n X O).2 := by
  have hhi := g.hi
  refine up_to (L := fun m i (h : (Nat → Int) × (Nat → Int)) => s_TransposeOf_l0 z n X O a f1 f2 c m (i : Int) h.1 h.2 k0) (n := n) (out := fun h => k0 h.1 h.2) (f := transF X O) (I := fun _ _ => True)
    (fun m i s hi _ => ⟨?_, trivial⟩) (fun m s _ => by simp (disch := omega) only [s_TransposeOf_l0, s_TransposeOf_l0_s, c_nlt]) n N 0 (fun _ => 0, fun _ => 0) (by omega) (by omega) trivial
  have h1 := hX i
  have h2 := hO i
  have h3 := g.px.2.1 i hi
  have h4 := g.po.2.1 i hi
  simp only [s_TransposeOf_l0, s_TransposeOf_l0_s, c_and, Int.toNat_natCast]
  simp (disch := omega) only [c_lt, c_le, c_blt, c_fits]
  rfl
theorem i_led_trans (z : β) {N : Nat} (hN : 8 < N) {n : Nat} {X O : Nat → Int} (g : GridP n X O) (hX : ∀ j, 0 ≤ X j) (hO : ∀ j, 0 ≤ O j) (b a c : Int) (f1 f2 : Nat → Int) (k0 : (Nat → Int) → (Nat → Int) → β) :
    i_Grid_led_l0 z N n b X O a f1 f2 c N 0 (fun _ => 0) (fun _ => 0) k0 = k0 (transP n X O).1 (transP n X O).2 := by
  have hhi := g.hi
  refine up_to (L := fun m i (h : (Nat → Int) × (Nat → Int)) => i_Grid_led_l0 z N n b X O a f1 f2 c m (i : Int) h.1 h.2 k0) (n := n) (out := fun h => k0 h.1 h.2) (f := transF X O) (I := fun _ _ => True)
    (fun m i s hi _ => ⟨?_, trivial⟩) (fun m s _ => by simp (disch := omega) only [i_Grid_led_l0, i_Grid_led_l0_s, c_nlt]) n N 0 (fun _ => 0, fun _ => 0) (by omega) (by omega) trivial
  have h1 := hX i
  have h2 := hO i
  have h3 := g.px.2.1 i hi
  have h4 := g.po.2.1 i hi
  simp only [i_Grid_led_l0, i_Grid_led_l0_s, i_Grid_transpose_1, c_and, Int.toNat_natCast]
  simp (disch := omega) only [c_lt, c_le, c_blt, c_fits]
  rfl
theorem w_FnExactTransposeOf_val (z : β) {N : Nat} (hN : 8 < N) (n : Int) (X O : Nat → Int) (hX : ∀ j, j < 8 → 0 ≤ X j ∧ X j ≤ 255) (hO : ∀ j, j < 8 → 0 ≤ O j ∧ O j ≤ 255) (k0 : Bool → β) : w_FnExactTransposeOf z N n X O k0 = k0 true := by
  unfold w_FnExactTransposeOf
  have hX0 := clip8_nn fun j h => (hX j h).1
  have hO0 := clip8_nn fun j h => (hO j h).1
  simp only [w_toGrid_val z hN, s_TransposeOf, i_TransposeOf, i_whole_i_Grid, i_Grid_transpose, i_Grid_led, i_Grid_n, c_true, s_l01Is_val z hN _ _ _ hX0 hO0, i_IsGrid_val z hN _ _ _ hX0 hO0]
  cases hg : gridB n (clip8 X) (clip8 O) with
  | false => simp only [Bool.not_false, c_true, w_eqGrid_refl z hN, Bool.not_true, c_false, bne_self_eq_false]
  | true =>
    obtain ⟨m, rfl, g⟩ := gridB_iff.1 hg
    simp only [Bool.not_true, c_false, s_TransposeOf_loop z hN g hX0 hO0, i_led_trans z hN g hX0 hO0, w_eqGrid_refl z hN, bne_self_eq_false]
end
end Go.AM

namespace Go.AM
section
variable {β : Type}
theorem perm_surj {n : Nat} {X : Nat → Int} (h : PermP 8 n X) (hX : ∀ j, 0 ≤ X j) {r : Nat} (hr : r < n) : ∃ i, i < n ∧ X i = r := by
  obtain ⟨i, h1, h2⟩ := surj_of_inj n (fun i => (X i).toNat) (fun i hi => by have := h.2.1 i hi; have := hX i; omega) (fun i j hi hj e => h.2.2 i j hi hj (by have := hX i; have := hX j; omega)) r hr
  exact ⟨i, h1, by have := hX i; omega⟩
/-- The column of a row. -/
noncomputable def rowOf (n : Nat) (X : Nat → Int) (r : Nat) : Nat := @dite _ (∃ i, i < n ∧ X i = r) (Classical.propDecidable _) (fun h => Classical.choose h) (fun _ => 0)
theorem rowOf_spec {n : Nat} {X : Nat → Int} (h : PermP 8 n X) (hX : ∀ j, 0 ≤ X j) {r : Nat} (hr : r < n) : rowOf n X r < n ∧ X (rowOf n X r) = r := by
  have hx := perm_surj h hX hr
  unfold rowOf
  rw [dif_pos hx]
  exact Classical.choose_spec hx
theorem rowOf_eq {n : Nat} {X : Nat → Int} (h : PermP 8 n X) (hX : ∀ j, 0 ≤ X j) {r i : Nat} (hi : i < n) (hr : X i = r) : rowOf n X r = i := by
  have := h.2.1 i hi
  have h2 := rowOf_spec h hX (r := r) (by omega)
  exact h.2.2 _ _ h2.1 hi (by omega)
theorem s_l01Row_val (z : β) {N : Nat} (hN : 8 < N) {n : Nat} (h8 : n ≤ 8) {X : Nat → Int} (h : PermP 8 n X) (hX : ∀ j, 0 ≤ X j) {r : Nat} (hr : r < n) (k : Int → β) : s_l01Row z N X n r k = k (rowOf n X r) := by
  unfold s_l01Row
  obtain ⟨h1, h2⟩ := rowOf_spec h hX hr
  have key : ∀ (d i m : Nat), i + d = rowOf n X r → d < m → s_l01Row_l0 z n r X m (i : Int) k (k 0) = k (rowOf n X r) := by
    intro d
    induction d with
    | zero =>
      intro i m hi hm
      obtain ⟨m, rfl⟩ : ∃ m', m = m' + 1 := ⟨m - 1, by omega⟩
      have e : i = rowOf n X r := by omega
      subst e
      simp only [s_l01Row_l0, s_l01Row_l0_s, c_and, Int.toNat_natCast]
      simp (disch := omega) only [c_lt, c_le, c_blt, c_eq]
    | succ d ih =>
      intro i m hi hm
      obtain ⟨m, rfl⟩ : ∃ m', m = m' + 1 := ⟨m - 1, by omega⟩
      have hne : X i ≠ (r : Int) := fun e => by have := rowOf_eq h hX (by omega) e; omega
      simp only [s_l01Row_l0, s_l01Row_l0_s, c_and, Int.toNat_natCast]
      simp (disch := omega) only [c_lt, c_le, c_blt, c_neq, c_fits]
      exact ih (i + 1) m (by omega) (by omega)
  exact key (rowOf n X r) 0 N (by omega) (by omega)
/-- The columns of all rows. -/
def plc (n : Nat) (X : Nat → Int) : Nat → Int := iter (fun i h => upd h (X i).toNat (i : Int)) n 0 (fun _ => 0)
theorem plc_spec {n : Nat} {X : Nat → Int} (h : PermP 8 n X) (hX : ∀ j, 0 ≤ X j) {r : Nat} (hr : r < n) : plc n X r = rowOf n X r := by
  have := iter_inv (f := fun i (h : Nat → Int) => upd h (X i).toNat (i : Int)) (I := fun i h => ∀ j, j < i → h (X j).toNat = j) (n := n)
    (fun i s hi hs j hj => by
      simp only [upd_at]
      by_cases e : (X j).toNat = (X i).toNat
      · rw [if_pos e]
        have := h.2.2 j i (by omega) hi (by have := hX i; have := hX j; omega)
        omega
      · rw [if_neg e]
        exact hs j (by by_cases e2 : j = i; (· subst e2; exact absurd rfl e); omega)) n 0 (fun _ => 0) (by omega) (fun j hj => by omega)
  rw [Nat.zero_add] at this
  obtain ⟨h1, h2⟩ := rowOf_spec h hX hr
  have h3 := this _ h1
  rw [h2, Int.toNat_natCast] at h3
  exact h3
theorem i_Grid_places_val (z : β) {N : Nat} (hN : 8 < N) {n : Nat} (h8 : n ≤ 8) {Y : Nat → Int} (h : PermP 8 n Y) (hY : ∀ j, 0 ≤ Y j) (X O : Nat → Int) (k : (Nat → Int) → β) : i_Grid_places z N n X O Y k = k (plc n Y) := by
  unfold i_Grid_places i_Grid_n
  refine up_to (L := fun m i h => i_Grid_places_l0 z n n X O Y (fun _ => 0) m (i : Int) h k) (n := n) (out := k) (f := fun i h => upd h (Y i).toNat (i : Int)) (I := fun _ _ => True)
    (fun m i s hi _ => ⟨?_, trivial⟩) (fun m s _ => by simp (disch := omega) only [i_Grid_places_l0, i_Grid_places_l0_s, c_nlt]) n N 0 (fun _ => 0) (by omega) (by omega) trivial
  have h1 := hY i
  have h3 := h.2.1 i hi
  simp only [i_Grid_places_l0, i_Grid_places_l0_s, c_and, Int.toNat_natCast]
  simp (disch := omega) only [c_lt, c_le, c_blt, c_fits]
  rfl
end
end Go.AM

namespace Go.AM
section
variable {β : Type}
theorem w_toState_val (z : β) {N : Nat} (hN : 8 < N) (a : Nat → Int) (k0 : (Nat → Int) → β) : w_toState z N a k0 = k0 (clip8 a) := by
  unfold w_toState
  have := up_to (L := fun m i h => w_toState_l0 z a (fun _ => 0) m (i : Int) h k0) (n := 8) (out := k0) (f := fun i h => upd h i (a i)) (I := fun _ _ => True)
    (fun m i s hi _ => ⟨by
      simp only [w_toState_l0, w_toState_l0_s, c_and, Int.toNat_natCast]
      simp (disch := omega) only [c_lt, c_le, c_blt, c_fits]
      rfl, trivial⟩)
    (fun m s _ => by simp (disch := omega) only [w_toState_l0, w_toState_l0_s, c_nlt]) 8 N 0 (fun _ => 0) rfl hN trivial
  rw [iter_set] at this
  refine this.trans (congrArg k0 (funext fun j => ?_))
  simp [clip8]
/-- Is it a grid and a state of it? -/
noncomputable def stateB (n : Int) (X O x : Nat → Int) : Bool := gridB n X O && permB 8 n.toNat x
theorem s_l05Is_val (z : β) {N : Nat} (hN : 8 < N) (n : Int) (X O x : Nat → Int) (hX : ∀ j, 0 ≤ X j) (hO : ∀ j, 0 ≤ O j) (hx : ∀ j, 0 ≤ x j) (k : Bool → β) : s_l05Is z N n X O x k = k (stateB n X O x) := by
  unfold s_l05Is stateB
  rw [s_l01Is_val z hN _ _ _ hX hO]
  cases hg : gridB n X O with
  | false => rfl
  | true =>
    obtain ⟨m, rfl, g⟩ := gridB_iff.1 hg
    simp only [c_true, s_l01Perm_val z hN g.hi x hx, Bool.true_and, Int.toNat_natCast]
theorem isOrder_s4_ordL (z : β) (n : Int) (h : Nat → Int) : ∀ m s t k0 k1, i_isOrder_l0_s4 z n h m s t k0 k1 = ordL 8 z n h m s t k0 k1 := by
  intro m
  induction m with
  | zero => intros; rfl
  | succ m ih => intro s t k0 k1; simp only [i_isOrder_l0_s4, ordL, ih]; rfl
theorem i_IsState_val (z : β) {N : Nat} (hN : 8 < N) (n : Int) (X O x : Nat → Int) (hX : ∀ j, 0 ≤ X j) (hO : ∀ j, 0 ≤ O j) (hx : ∀ j, 0 ≤ x j) (k : Bool → β) : i_IsState z N n X O x k = k (stateB n X O x) := by
  unfold i_IsState stateB i_Grid_isState
  rw [i_IsGrid_val z hN _ _ _ hX hO]
  cases hg : gridB n X O with
  | false => rfl
  | true =>
    obtain ⟨m, rfl, g⟩ := gridB_iff.1 hg
    have hlo := g.lo
    simp only [c_true, i_Grid_n, Bool.true_and, Int.toNat_natCast]
    unfold i_isOrder_s4
    rw [isOrder_s4_ordL]
    exact ord_val 8 (by omega) z m (by omega) g.hi g.hi x hx k hN

/-- One pair counted. -/
def belF (p q : Nat → Int) (a b : Int) (i k : Nat) (c : Int) : Int := if 2 * (i : Int) + a < 2 * k + b ∧ 2 * p i + a < 2 * q k + b then c + 1 else c
def belR (n : Nat) (p q : Nat → Int) (a b : Int) (i : Nat) (c : Int) : Int := iter (belF p q a b i) n 0 c
/-- How many pairs there are. -/
def bel (n : Nat) (p q : Nat → Int) (a b : Int) : Int := iter (belR n p q a b) n 0 0
theorem belR_bd {n : Nat} {p q : Nat → Int} {a b : Int} {i : Nat} {c : Int} {m : Int} (hc : 0 ≤ c ∧ c ≤ m) : 0 ≤ belR n p q a b i c ∧ belR n p q a b i c ≤ m + n := by
  have := iter_inv (f := belF p q a b i) (I := fun k c => 0 ≤ c ∧ c ≤ m + k) (n := n) (fun k s _ h => by unfold belF; split <;> omega) n 0 c (by omega) (by omega)
  unfold belR
  simpa using this
theorem bel_bd (n : Nat) (h8 : n ≤ 8) (p q : Nat → Int) (a b : Int) : 0 ≤ bel n p q a b ∧ bel n p q a b ≤ 64 := by
  have := iter_inv (f := belR n p q a b) (I := fun i c => 0 ≤ c ∧ c ≤ 8 * (i : Int)) (n := n) (fun k s _ h => by
    have := belR_bd (n := n) (p := p) (q := q) (a := a) (b := b) (i := k) h
    omega) n 0 0 (by omega) (by omega)
  unfold bel
  simp only [Nat.zero_add] at this
  omega
theorem s_l05Below_val (z : β) {N : Nat} (hN : 8 < N) {n : Nat} (h8 : n ≤ 8) {p q : Nat → Int} (hp : ∀ j, 0 ≤ p j ∧ p j ≤ 255) (hq : ∀ j, 0 ≤ q j ∧ q j ≤ 255) {a b : Int} (ha : 0 ≤ a ∧ a ≤ 1) (hb : 0 ≤ b ∧ b ≤ 1) (k0 : Int → β) :
    s_l05Below z N n p q a b k0 = k0 (bel n p q a b) := by
  unfold s_l05Below
  refine up_to (L := fun m i c => s_l05Below_l0 z N n a b p q m c (i : Int) k0) (n := n) (out := k0) (f := belR n p q a b) (I := fun i c => 0 ≤ c ∧ c ≤ 8 * (i : Int))
    (fun m i s hi hs => ⟨?_, ?_⟩) (fun m s _ => by simp (disch := omega) only [s_l05Below_l0, s_l05Below_l0_s, c_nlt]) n N 0 0 (by omega) (by omega) (by omega)
  · have inner : ∀ kk : Int → β, s_l05Below_l1 z n a b i p q N s 0 kk = kk (belR n p q a b i s) := by
      intro kk
      refine up_to (L := fun m k c => s_l05Below_l1 z n a b i p q m c (k : Int) kk) (n := n) (out := kk) (f := belF p q a b i) (I := fun k c => 0 ≤ c ∧ c ≤ 8 * (i : Int) + k)
        (fun m k c hk hc => ⟨?_, ?_⟩) (fun m c _ => by simp (disch := omega) only [s_l05Below_l1, s_l05Below_l1_s, c_nlt]) n N 0 s (by omega) (by omega) (by omega)
      · have h1 := hp i
        have h2 := hq k
        simp only [s_l05Below_l1, s_l05Below_l1_s, c_and, Int.toNat_natCast, belF]
        by_cases e1 : 2 * (i : Int) + a < 2 * k + b
        · by_cases e2 : 2 * p i + a < 2 * q k + b
          · rw [if_pos ⟨e1, e2⟩]
            simp (disch := omega) only [c_lt, c_le, c_blt, c_fits]
            rfl
          · rw [if_neg (fun h => e2 h.2)]
            simp (disch := omega) only [c_lt, c_nlt, c_le, c_blt, c_fits]
            rfl
        · rw [if_neg (fun h => e1 h.1)]
          simp (disch := omega) only [c_lt, c_nlt, c_le, c_blt, c_fits]
          rfl
      · unfold belF; split <;> omega
    simp only [s_l05Below_l0, s_l05Below_l0_s, inner]
    simp (disch := omega) only [c_lt, c_fits]
    rfl
  · have := belR_bd (n := n) (p := p) (q := q) (a := a) (b := b) (i := i) hs
    omega
def halfI (b : Bool) : Int := cond b 1 0
theorem pairs_1 (z : β) (N : Nat) {k : Int} (hk : 0 ≤ k ∧ k ≤ 1000) (b : Bool) (k0 : Int → β) : i_pairsBelow_1 z N k b k0 = k0 (2 * k + halfI b) := by
  unfold i_pairsBelow_1 halfI
  cases b
  · simp (disch := omega) only [c_fits, c_false, Int.add_zero]
  · simp (disch := omega) only [c_fits, c_true]
theorem i_pairsBelow_val (z : β) {N : Nat} (hN : 8 < N) {n : Nat} (h8 : n ≤ 8) {p q : Nat → Int} (hp : ∀ j, 0 ≤ p j ∧ p j ≤ 255) (hq : ∀ j, 0 ≤ q j ∧ q j ≤ 255) (a b : Bool) (k0 : Int → β) :
    i_pairsBelow z N n p a q b k0 = k0 (bel n p q (halfI a) (halfI b)) := by
  unfold i_pairsBelow
  refine up_to (L := fun m i c => i_pairsBelow_l0 z N n a b n p q m c (i : Int) k0) (n := n) (out := k0) (f := belR n p q (halfI a) (halfI b)) (I := fun i c => 0 ≤ c ∧ c ≤ 8 * (i : Int))
    (fun m i s hi hs => ⟨?_, ?_⟩) (fun m s _ => by simp (disch := omega) only [i_pairsBelow_l0, i_pairsBelow_l0_s, c_nlt]) n N 0 0 (by omega) (by omega) (by omega)
  · have inner : ∀ kk : Int → β, i_pairsBelow_l1 z N n a b i n i n p q N s 0 kk = kk (belR n p q (halfI a) (halfI b) i s) := by
      intro kk
      refine up_to (L := fun m k c => i_pairsBelow_l1 z N n a b i n i n p q m c (k : Int) kk) (n := n) (out := kk) (f := belF p q (halfI a) (halfI b) i) (I := fun k c => 0 ≤ c ∧ c ≤ 8 * (i : Int) + k)
        (fun m k c hk hc => ⟨?_, ?_⟩) (fun m c _ => by simp (disch := omega) only [i_pairsBelow_l1, i_pairsBelow_l1_s, c_nlt]) n N 0 s (by omega) (by omega) (by omega)
      · have h1 := hp i
        have h2 := hq k
        simp only [i_pairsBelow_l1, i_pairsBelow_l1_s, c_and, Int.toNat_natCast, belF, pairs_1 z N (k := (i : Int)) (by omega), pairs_1 z N (k := (k : Int)) (by omega), pairs_1 z N (k := p i) (by omega), pairs_1 z N (k := q k) (by omega)]
        by_cases e1 : 2 * (i : Int) + halfI a < 2 * k + halfI b
        · by_cases e2 : 2 * p i + halfI a < 2 * q k + halfI b
          · rw [if_pos ⟨e1, e2⟩]
            simp (disch := omega) only [c_lt, c_le, c_blt, c_fits]
            rfl
          · rw [if_neg (fun h => e2 h.2)]
            simp (disch := omega) only [c_lt, c_nlt, c_le, c_blt, c_fits]
            rfl
        · rw [if_neg (fun h => e1 h.1)]
          simp (disch := omega) only [c_lt, c_nlt, c_le, c_blt, c_fits]
          rfl
      · unfold belF; split <;> omega
    simp only [i_pairsBelow_l0, i_pairsBelow_l0_s, inner]
    simp (disch := omega) only [c_lt, c_fits]
    rfl
  · have := belR_bd (n := n) (p := p) (q := q) (a := halfI a) (b := halfI b) (i := i) hs
    omega
/-- The Maslov grading. -/
def maslov (n : Nat) (x m : Nat → Int) : Int := bel n x x 0 0 - bel n x m 0 1 - bel n m x 1 0 + bel n m m 1 1 + 1
theorem maslov_bd (n : Nat) (h8 : n ≤ 8) (x m : Nat → Int) : -200 ≤ maslov n x m ∧ maslov n x m ≤ 200 := by
  unfold maslov
  have := bel_bd n h8 x x 0 0
  have := bel_bd n h8 x m 0 1
  have := bel_bd n h8 m x 1 0
  have := bel_bd n h8 m m 1 1
  omega
theorem s_l05Maslov_val (z : β) {N : Nat} (hN : 8 < N) {n : Nat} (h8 : n ≤ 8) (X O : Nat → Int) {x m : Nat → Int} (hp : ∀ j, 0 ≤ x j ∧ x j ≤ 255) (hq : ∀ j, 0 ≤ m j ∧ m j ≤ 255) (k0 : Int → β) :
    s_l05Maslov z N n X O x m k0 = k0 (maslov n x m) := by
  unfold s_l05Maslov maslov
  have := bel_bd n h8 x x 0 0
  have := bel_bd n h8 x m 0 1
  have := bel_bd n h8 m x 1 0
  have := bel_bd n h8 m m 1 1
  simp (disch := omega) only [s_l05Below_val z hN h8 hp hp, s_l05Below_val z hN h8 hp hq, s_l05Below_val z hN h8 hq hp, s_l05Below_val z hN h8 hq hq, c_fits]
theorem i_Grid_maslov_val (z : β) {N : Nat} (hN : 8 < N) {n : Nat} (h8 : n ≤ 8) (X O : Nat → Int) {x m : Nat → Int} (hp : ∀ j, 0 ≤ x j ∧ x j ≤ 255) (hq : ∀ j, 0 ≤ m j ∧ m j ≤ 255) (k0 : Int → β) :
    i_Grid_maslov z N n X O x m k0 = k0 (maslov n x m) := by
  unfold i_Grid_maslov maslov
  have := bel_bd n h8 x x 0 0
  have := bel_bd n h8 x m 0 1
  have := bel_bd n h8 m x 1 0
  have := bel_bd n h8 m m 1 1
  simp only [i_Grid_n, i_pairsBelow_val z hN h8 hp hp, i_pairsBelow_val z hN h8 hp hq, i_pairsBelow_val z hN h8 hq hp, i_pairsBelow_val z hN h8 hq hq, halfI, c_true, c_false]
  simp (disch := omega) only [c_fits]
end
end Go.AM

namespace Go.AM
section
variable {β : Type}
theorem tmod_pos {a b : Int} (ha : 0 ≤ a) : a.tmod b = a % b := Int.tmod_eq_emod_of_nonneg ha
theorem tmod_bnd {a b : Int} (hb : 0 < b) : -b < a.tmod b ∧ a.tmod b < b := by
  refine ⟨?_, Int.tmod_lt_of_pos a hb⟩
  have := Int.tmod_lt_of_pos (-a) hb
  rw [Int.neg_tmod] at this
  omega
/-- A number modulo another one, as the reference reckons it. -/
theorem tmod_twice (a : Int) {n : Int} (hn : 0 < n) : (a.tmod n + n).tmod n = a % n := by
  have h := tmod_bnd (a := a) hn
  rw [tmod_pos (by omega), Int.add_emod_right]
  have h1 : a.tmod n = a - n * a.tdiv n := by have := Int.mul_tdiv_add_tmod a n; omega
  rw [h1]
  have : a - n * a.tdiv n = a + n * (-(a.tdiv n)) := by rw [Int.mul_neg]; omega
  rw [this, Int.add_mul_emod_self_left]
theorem tmod_more (a i : Int) {n : Int} (hn : 0 < n) (hi : 0 ≤ i) (ha : -100 ≤ a) : (i + (a + 100 * n).tmod n).tmod n = (i + a) % n := by
  have h0 : 0 ≤ a + 100 * n := by omega
  rw [tmod_pos h0]
  have h1 := Int.emod_nonneg (a + 100 * n) (show n ≠ 0 by omega)
  rw [tmod_pos (by omega), show a + 100 * n = a + n * 100 by omega, Int.add_mul_emod_self_left, Int.add_emod_emod]
theorem emod_bd (a : Int) {n : Int} (hn : 0 < n) : 0 ≤ a % n ∧ a % n < n := ⟨Int.emod_nonneg a (by omega), Int.emod_lt_of_pos a hn⟩

def rollF (n : Nat) (X O : Nat → Int) (v u : Int) (i : Nat) (h : (Nat → Int) × (Nat → Int)) : (Nat → Int) × (Nat → Int) :=
  (upd h.1 ((i + u) % (n : Int)).toNat (wrapU IntKind.u8 ((X i + v) % (n : Int))), upd h.2 ((i + u) % (n : Int)).toNat (wrapU IntKind.u8 ((O i + v) % (n : Int))))
def rollP (n : Nat) (X O : Nat → Int) (v u : Int) : (Nat → Int) × (Nat → Int) := iter (rollF n X O v u) n 0 (fun _ => 0, fun _ => 0)
theorem s_l01Rolled_val (z : β) {N : Nat} (hN : 8 < N) {n : Nat} {X O : Nat → Int} (h2 : 2 ≤ n) (h8 : n ≤ 8) (hX : ∀ j, 0 ≤ X j ∧ X j ≤ 255) (hO : ∀ j, 0 ≤ O j ∧ O j ≤ 255) {v u : Int} (hv : -1000 ≤ v ∧ v ≤ 1000) (hu : -1000 ≤ u ∧ u ≤ 1000) (k0 : (Nat → Int) → (Nat → Int) → β) :
    s_l01Rolled z N n X O v u k0 = k0 (rollP n X O v u).1 (rollP n X O v u).2 := by
  unfold s_l01Rolled
  refine up_to (L := fun m i (h : (Nat → Int) × (Nat → Int)) => s_l01Rolled_l0 z v u n n X O 0 (fun _ => 0) (fun _ => 0) n m (i : Int) h.1 h.2 k0) (n := n) (out := fun h => k0 h.1 h.2) (f := rollF n X O v u) (I := fun _ _ => True)
    (fun m i s hi _ => ⟨?_, trivial⟩) (fun m s _ => by simp (disch := omega) only [s_l01Rolled_l0, s_l01Rolled_l0_s, c_nlt]) n N 0 (fun _ => 0, fun _ => 0) (by omega) (by omega) trivial
  have h1 := hX i
  have h3 := hO i
  have hn : (0 : Int) < n := by omega
  have b1 := tmod_bnd (a := (i : Int) + u) hn
  have b2 := tmod_bnd (a := X i + v) hn
  have b3 := tmod_bnd (a := O i + v) hn
  have b4 := emod_bd ((i : Int) + u) hn
  simp only [s_l01Rolled_l0, s_l01Rolled_l0_s, c_and, c_not, Int.toNat_natCast, tmod_twice _ hn]
  simp (disch := omega) only [c_lt, c_le, c_blt, c_fits, c_neq]
  rfl
theorem i_Grid_shift_val (z : β) {N : Nat} (hN : 8 < N) {n : Nat} {X O : Nat → Int} (h2 : 2 ≤ n) (h8 : n ≤ 8) (hX : ∀ j, 0 ≤ X j ∧ X j ≤ 255) (hO : ∀ j, 0 ≤ O j ∧ O j ≤ 255) {v u : Int} (hv : -100 ≤ v ∧ v ≤ 100) (hu : -100 ≤ u ∧ u ≤ 100) (k0 : (Nat → Int) → (Nat → Int) → β) :
    i_Grid_shift z N n X O ((v + 100 * n).tmod n) ((u + 100 * n).tmod n) k0 = k0 (rollP n X O v u).1 (rollP n X O v u).2 := by
  unfold i_Grid_shift i_Grid_led_s2
  simp only [c_false, i_Grid_n]
  refine up_to (L := fun m i (h : (Nat → Int) × (Nat → Int)) => i_Grid_led_l0_s4 z N n ((u + 100 * n).tmod n) n X O ((v + 100 * n).tmod n) n X O 0 (fun _ => 0) (fun _ => 0) n m (i : Int) h.1 h.2 k0) (n := n) (out := fun h => k0 h.1 h.2) (f := rollF n X O v u) (I := fun _ _ => True)
    (fun m i s hi _ => ⟨?_, trivial⟩) (fun m s _ => by simp (disch := omega) only [i_Grid_led_l0_s4, i_Grid_led_l0_s4_s, c_nlt]) n N 0 (fun _ => 0, fun _ => 0) (by omega) (by omega) trivial
  have h1 := hX i
  have h3 := hO i
  have hn : (0 : Int) < n := by omega
  have a1 := tmod_more u i hn (by omega) hu.1
  have a2 := tmod_more v (X i) hn h1.1 hv.1
  have a3 := tmod_more v (O i) hn h3.1 hv.1
  have b4 := emod_bd ((i : Int) + u) hn
  have b5 := tmod_bnd (a := v + 100 * n) hn
  have b6 := tmod_bnd (a := u + 100 * n) hn
  simp only [i_Grid_led_l0_s4, i_Grid_led_l0_s4_s, i_Grid_shift_1, i_Grid_n, c_and, c_not, Int.toNat_natCast, a1, a2, a3]
  simp (disch := omega) only [c_lt, c_le, c_blt, c_fits, c_neq]
  rfl
theorem w_FnExactShiftGrid_val (z : β) {N : Nat} (hN : 8 < N) (n : Int) (X O : Nat → Int) (v u : Int) (hX : ∀ j, j < 8 → 0 ≤ X j ∧ X j ≤ 255) (hO : ∀ j, j < 8 → 0 ≤ O j ∧ O j ≤ 255) (k0 : Bool → β) : w_FnExactShiftGrid z N n X O v u k0 = k0 true := by
  unfold w_FnExactShiftGrid
  have hX0 := clip8_nn fun j h => (hX j h).1
  have hO0 := clip8_nn fun j h => (hO j h).1
  have hX1 := clip8_le fun j h => (hX j h).2
  have hO1 := clip8_le fun j h => (hO j h).2
  simp only [w_toGrid_val z hN, s_ShiftGrid, i_ShiftGrid, s_l01Is_val z hN _ _ _ hX0 hO0, i_IsGrid_val z hN _ _ _ hX0 hO0, s_l01In_val, i_within_val]
  cases hg : gridB n (clip8 X) (clip8 O) with
  | false => simp only [Bool.not_false, c_true, w_eqGrid_refl z hN, Bool.not_true, c_false, bne_self_eq_false]
  | true =>
    obtain ⟨m, rfl, g⟩ := gridB_iff.1 hg
    have hlo := g.lo
    have hhi := g.hi
    simp only [Bool.not_true, c_false]
    by_cases hv : -100 ≤ v ∧ v ≤ 100
    · simp only [decide_eq_true hv, Bool.not_true, c_false]
      by_cases hu : -100 ≤ u ∧ u ≤ 100
      · simp only [decide_eq_true hu, Bool.not_true, c_false, c_not]
        have hX2 : ∀ j, 0 ≤ clip8 X j ∧ clip8 X j ≤ 255 := fun j => ⟨hX0 j, hX1 j⟩
        have hO2 : ∀ j, 0 ≤ clip8 O j ∧ clip8 O j ≤ 255 := fun j => ⟨hO0 j, hO1 j⟩
        simp (disch := omega) only [s_l01Rolled_val z hN hlo hhi hX2 hO2 (v := v) (u := u) (by omega) (by omega), c_fits, c_neq, i_Grid_shift_val z hN hlo hhi hX2 hO2 hv hu, w_eqGrid_refl z hN, bne_self_eq_false, c_false, c_true]
      · simp only [decide_eq_false hu, Bool.not_false, c_true, w_eqGrid_refl z hN, Bool.not_true, c_false, bne_self_eq_false]
    · simp only [decide_eq_false hv, Bool.not_false, c_true, w_eqGrid_refl z hN, Bool.not_true, c_false, bne_self_eq_false]
end
end Go.AM

namespace Go.AM
section
variable {β : Type}
/-- How far a point of a column lies above a row, around the grid. -/
def upm (n : Nat) (p : Nat → Int) (left : Nat) (b : Int) (k : Nat) : Int := (p (((left : Int) + k) % n).toNat - b + n) % n
def cntF (n : Nat) (p : Nat → Int) (left : Nat) (b h : Int) (k : Nat) (c : Int) : Int := if upm n p left b k < h then c + 1 else c
/-- How many points lie in a rectangle. -/
def cntM (n : Nat) (p : Nat → Int) (left : Nat) (b h : Int) (w : Nat) : Int := iter (cntF n p left b h) w 0 0
theorem cntM_succ (n : Nat) (p : Nat → Int) (left : Nat) (b h : Int) (w : Nat) : cntM n p left b h (w + 1) = cntF n p left b h w (cntM n p left b h w) := by
  unfold cntM; rw [iter_succ, Nat.zero_add]
theorem cntM_bd (n : Nat) (p : Nat → Int) (left : Nat) (b h : Int) : ∀ w, 0 ≤ cntM n p left b h w ∧ cntM n p left b h w ≤ w := by
  intro w
  induction w with
  | zero => exact ⟨Int.le_refl _, Int.le_refl _⟩
  | succ w ih => rw [cntM_succ]; unfold cntF; split <;> omega
theorem s_l05Marks_val (z : β) {N : Nat} (hN : 8 < N) {n : Nat} (h2 : 2 ≤ n) (h8 : n ≤ 8) {p : Nat → Int} (hp : ∀ j, 0 ≤ p j ∧ p j ≤ 255) {left w : Nat} (hl : left < n) (hw : w < n) {b : Int} (hb : 0 ≤ b ∧ b < n) (h : Int) (k0 : Int → β) :
    s_l05Marks z N n p left b w h k0 = k0 (cntM n p left b h w) := by
  unfold s_l05Marks
  refine up_to (L := fun m k c => s_l05Marks_l0 z n left b w h p m c (k : Int) k0) (n := w) (out := k0) (f := cntF n p left b h) (I := fun k c => 0 ≤ c ∧ c ≤ k)
    (fun m k c hk hc => ⟨?_, ?_⟩) (fun m s _ => by simp (disch := omega) only [s_l05Marks_l0, s_l05Marks_l0_s, c_nlt]) w N 0 0 (by omega) (by omega) (by omega)
  · have t1 : ((left : Int) + k).tmod n = ((left : Int) + k) % n := tmod_pos (by omega)
    have e1 := emod_bd ((left : Int) + k) (show (0 : Int) < n by omega)
    have e2 := hp (((left : Int) + k) % n).toNat
    have t2 : (p (((left : Int) + k) % n).toNat - b + n).tmod n = upm n p left b k := tmod_pos (by omega)
    simp only [s_l05Marks_l0, s_l05Marks_l0_s, c_and, c_not, t1, t2, cntF]
    by_cases hu : upm n p left b k < h
    · rw [if_pos hu]
      simp (disch := omega) only [c_lt, c_le, c_blt, c_fits, c_neq]
      rfl
    · rw [if_neg hu]
      simp (disch := omega) only [c_lt, c_nlt, c_le, c_blt, c_fits, c_neq]
      rfl
  · unfold cntF; split <;> omega
/-- A rectangle, as six numbers. -/
def rectL (n : Nat) (X O x : Nat → Int) (left w : Nat) : List Int :=
  [(left : Int), x left, (w : Int), upm n x left (x left) w, cntM n X left (x left) (upm n x left (x left) w) w, cntM n O left (x left) (upm n x left (x left) w) w]
theorem rectL_len (n : Nat) (X O x : Nat → Int) (left w : Nat) : (rectL n X O x left w).length = 6 := rfl
/-- All rectangles that fit a test. -/
def rectsL (n : Nat) (X O x : Nat → Int) (t : Nat → Nat → Bool) : List Int :=
  iter (fun left l => iter (fun w l => if t left w = true then l ++ rectL n X O x left w else l) (n - 1) 1 l) n 0 []
theorem rects_inner {n : Nat} {X O x : Nat → Int} {t : Nat → Nat → Bool} {left B : Nat} {l : List Int} (h : l.length % 6 = 0 ∧ l.length ≤ B) (h2 : 2 ≤ n) :
    (iter (fun w l => if t left w = true then l ++ rectL n X O x left w else l) (n - 1) 1 l).length % 6 = 0 ∧ (iter (fun w l => if t left w = true then l ++ rectL n X O x left w else l) (n - 1) 1 l).length ≤ B + 6 * n := by
  have := iter_inv (f := fun w l => if t left w = true then l ++ rectL n X O x left w else l) (I := fun w (l : List Int) => l.length % 6 = 0 ∧ l.length ≤ B + 6 * w) (n := n) (fun w s _ h => by
    split
    · rw [List.length_append, rectL_len]; omega
    · omega) (n - 1) 1 l (by omega) (by omega)
  rw [show 1 + (n - 1) = n by omega] at this
  exact this
theorem rectsL_len {n : Nat} (X O x : Nat → Int) (t : Nat → Nat → Bool) (h2 : 2 ≤ n) (h8 : n ≤ 8) : (rectsL n X O x t).length % 6 = 0 ∧ (rectsL n X O x t).length ≤ 400 := by
  have := iter_inv (f := fun left l => iter (fun w l => if t left w = true then l ++ rectL n X O x left w else l) (n - 1) 1 l) (I := fun i (l : List Int) => l.length % 6 = 0 ∧ l.length ≤ 48 * i) (n := n) (fun i s _ h => by
    have := rects_inner (n := n) (X := X) (O := O) (x := x) (t := t) (left := i) h h2
    omega) n 0 [] (by omega) ⟨rfl, by simp⟩
  unfold rectsL
  rw [Nat.zero_add] at this
  omega
theorem rec6 (a b c d e f : Int) : List.map (upd (upd (upd (upd (upd (upd (fun _ => 0) 0 a) 1 b) 2 c) 3 d) 4 e) 5 f) (List.range 6) = [a, b, c, d, e, f] := rfl
theorem map6 (f : Nat → Int) : List.map f (List.range 6) = [f 0, f 1, f 2, f 3, f 4, f 5] := rfl
theorem upm_bd {n : Nat} (h2 : 2 ≤ n) (p : Nat → Int) (left : Nat) (b : Int) (k : Nat) : 0 ≤ upm n p left b k ∧ upm n p left b k < n := emod_bd _ (by omega)

theorem s_l05Rects_val (z : β) {N : Nat} (hN : 8 < N) {n : Nat} {X O x : Nat → Int} (h2 : 2 ≤ n) (h8 : n ≤ 8) (hX : ∀ j, 0 ≤ X j ∧ X j ≤ 255) (hO : ∀ j, 0 ≤ O j ∧ O j ≤ 255) (hx : ∀ j, 0 ≤ x j ∧ x j ≤ 255) (hp : PermP 8 n x) (k0 : Nat → Nat → Nat → List Int → β) :
    s_l05Rects z N n X O x k0 = k0 (rectsL n X O x fun _ _ => true).length ((rectsL n X O x fun _ _ => true).length / 6) ((rectsL n X O x fun _ _ => true).length / 6) (rectsL n X O x fun _ _ => true) := by
  unfold s_l05Rects
  refine up_to (L := fun m i (l : List Int) => s_l05Rects_l0 z N n n X O x m l.length (l.length / 6) (l.length / 6) (i : Int) l k0) (n := n) (out := fun l => k0 l.length (l.length / 6) (l.length / 6) l)
    (f := fun left l => iter (fun w l => if true = true then l ++ rectL n X O x left w else l) (n - 1) 1 l) (I := fun i l => l.length % 6 = 0 ∧ l.length ≤ 48 * i)
    (fun m i l hi hl => ⟨?_, ?_⟩) (fun m s _ => by simp (disch := omega) only [s_l05Rects_l0, s_l05Rects_l0_s, c_nlt]) n N 0 [] (by omega) (by omega) ⟨rfl, by simp⟩
  · have inner : ∀ kk : Nat → Nat → Nat → List Int → β, s_l05Rects_l1 z N n i n X O x N l.length (l.length / 6) (l.length / 6) 1 l kk =
        kk (iter (fun w l => if true = true then l ++ rectL n X O x i w else l) (n - 1) 1 l).length ((iter (fun w l => if true = true then l ++ rectL n X O x i w else l) (n - 1) 1 l).length / 6) ((iter (fun w l => if true = true then l ++ rectL n X O x i w else l) (n - 1) 1 l).length / 6) (iter (fun w l => if true = true then l ++ rectL n X O x i w else l) (n - 1) 1 l) := by
      intro kk
      refine up_to (L := fun m w (l : List Int) => s_l05Rects_l1 z N n i n X O x m l.length (l.length / 6) (l.length / 6) (w : Int) l kk) (n := n) (out := fun l => kk l.length (l.length / 6) (l.length / 6) l)
        (f := fun w l => if true = true then l ++ rectL n X O x i w else l) (I := fun w l => l.length % 6 = 0 ∧ l.length ≤ 48 * i + 6 * w)
        (fun m w l hw hl => ⟨show s_l05Rects_l1 z N n i n X O x (m + 1) l.length (l.length / 6) (l.length / 6) (w : Int) l kk = s_l05Rects_l1 z N n i n X O x m (if true = true then l ++ rectL n X O x i w else l).length ((if true = true then l ++ rectL n X O x i w else l).length / 6) ((if true = true then l ++ rectL n X O x i w else l).length / 6) ((w + 1 : Nat) : Int) (if true = true then l ++ rectL n X O x i w else l) kk from ?_, ?_⟩) (fun m s _ => by simp (disch := omega) only [s_l05Rects_l1, s_l05Rects_l1_s, c_nlt]) (n - 1) N 1 l (by omega) (by omega) (by omega)
      · have t1 : ((i : Int) + w).tmod n = ((i : Int) + w) % n := tmod_pos (by omega)
        have e1 := emod_bd ((i : Int) + w) (show (0 : Int) < n by omega)
        have e2 := hx (((i : Int) + w) % n).toNat
        have e3 := hx i
        have e4 := hp.2.1 i hi
        have t2 : (x (((i : Int) + w) % n).toNat - x i + n).tmod n = upm n x i (x i) w := tmod_pos (by omega)
        simp only [s_l05Rects_l1, s_l05Rects_l1_s, c_and, c_not, t1, t2, Int.toNat_natCast, c_true]
        simp (disch := omega) only [c_lt, c_le, c_blt, c_fits, c_neq, s_l05Marks_val z hN h2 h8 hX hi hw ⟨e3.1, e4⟩, s_l05Marks_val z hN h2 h8 hO hi hw ⟨e3.1, e4⟩, c_beq, c_ble, c_nble, rec6]
        have e5 : [(i : Int), x i, (w : Int), upm n x i (x i) w, cntM n X i (x i) (upm n x i (x i) w) w, cntM n O i (x i) (upm n x i (x i) w) w] = rectL n X O x i w := rfl
        have e6 : (l ++ rectL n X O x i w).length = l.length + 6 := by rw [List.length_append, rectL_len]
        have e7 : (if True then l ++ rectL n X O x i w else l) = l ++ rectL n X O x i w := if_pos trivial
        rw [e5, e7, e6, show (l.length + 6) / 6 = l.length / 6 + 1 by omega]
        rfl
      · rw [if_pos rfl, List.length_append, rectL_len]; omega
    simp only [s_l05Rects_l0, s_l05Rects_l0_s, inner]
    simp (disch := omega) only [c_lt, c_fits]
    rfl
  · have := rects_inner (n := n) (X := X) (O := O) (x := x) (t := fun _ _ => true) (left := i) hl h2
    omega

/-- Is no point in the rectangle behind the first column? -/
def empF (n : Nat) (x : Nat → Int) (left : Nat) (b h : Int) (k : Nat) (e : Bool) : Bool := if 0 < k ∧ upm n x left b k < h then false else e
def empB (n : Nat) (x : Nat → Int) (left w : Nat) : Bool := iter (empF n x left (x left) (upm n x left (x left) w)) w 0 true
theorem rect_1 (z : β) (N : Nat) {n : Nat} (h2 : 2 ≤ n) (h8 : n ≤ 8) {p : Nat → Int} (hp : ∀ j, 0 ≤ p j ∧ p j ≤ 255) {left k : Nat} (hl : left < n) (hk : k < n) {b : Int} (hb : 0 ≤ b ∧ b < n) (kk : Int → β) :
    i_Grid_rectangle_1 z N p k left n b kk = kk (upm n p left b k) := by
  have t1 : ((left : Int) + k).tmod n = ((left : Int) + k) % n := tmod_pos (by omega)
  have e1 := emod_bd ((left : Int) + k) (show (0 : Int) < n by omega)
  have e2 := hp (((left : Int) + k) % n).toNat
  have t2 : (p (((left : Int) + k) % n).toNat - b + n).tmod n = upm n p left b k := tmod_pos (by omega)
  simp only [i_Grid_rectangle_1, c_and, c_not, t1, t2]
  simp (disch := omega) only [c_lt, c_le, c_blt, c_fits, c_neq]
/-- A round over a column of a rectangle. -/
def recF (n : Nat) (X O x : Nat → Int) (left : Nat) (b h : Int) (k : Nat) (s : Bool × (Nat → Int)) : Bool × (Nat → Int) :=
  (if 0 < k ∧ upm n x left b k < h then false else s.1,
   if upm n X left b k < h then (if upm n O left b k < h then upd (upd s.2 4 (s.2 4 + 1)) 5 (upd s.2 4 (s.2 4 + 1) 5 + 1) else upd s.2 4 (s.2 4 + 1)) else (if upm n O left b k < h then upd s.2 5 (s.2 5 + 1) else s.2))
def recS (n : Nat) (X O x : Nat → Int) (left w : Nat) : Bool × (Nat → Int) :=
  iter (recF n X O x left (x left) (upm n x left (x left) w)) w 0 (true, upd (upd (upd (upd (upd (upd (fun _ => 0) 0 (left : Int)) 1 (x left)) 2 (w : Int)) 3 (upm n x left (x left) w)) 4 0) 5 0)
theorem recF_step {n : Nat} {X O x : Nat → Int} {left : Nat} {b h : Int} {k : Nat} {s : Bool × (Nat → Int)} :
    (∀ j, j < 4 → (recF n X O x left b h k s).2 j = s.2 j) ∧ (recF n X O x left b h k s).2 4 = cntF n X left b h k (s.2 4) ∧ (recF n X O x left b h k s).2 5 = cntF n O left b h k (s.2 5) ∧ (recF n X O x left b h k s).1 = empF n x left b h k s.1 := by
  unfold recF cntF empF
  refine ⟨fun j hj => ?_, ?_, ?_, rfl⟩
  · simp only
    split <;> split <;> simp only [upd_at] <;> (repeat rw [if_neg (by omega)])
  · simp only
    split <;> split <;> simp [upd_at]
  · simp only
    split <;> split <;> simp [upd_at]
theorem recS_spec (n : Nat) (X O x : Nat → Int) (left w : Nat) : List.map (recS n X O x left w).2 (List.range 6) = rectL n X O x left w ∧ (recS n X O x left w).1 = empB n x left w := by
  have := iter_inv (f := recF n X O x left (x left) (upm n x left (x left) w)) (n := w)
    (I := fun k (s : Bool × (Nat → Int)) => s.2 0 = left ∧ s.2 1 = x left ∧ s.2 2 = w ∧ s.2 3 = upm n x left (x left) w ∧ s.2 4 = cntM n X left (x left) (upm n x left (x left) w) k ∧ s.2 5 = cntM n O left (x left) (upm n x left (x left) w) k ∧ s.1 = iter (empF n x left (x left) (upm n x left (x left) w)) k 0 true)
    (fun k s _ ⟨a0, a1, a2, a3, a4, a5, a6⟩ => by
      obtain ⟨b0, b4, b5, b6⟩ := recF_step (n := n) (X := X) (O := O) (x := x) (left := left) (b := x left) (h := upm n x left (x left) w) (k := k) (s := s)
      refine ⟨(b0 0 (by omega)).trans a0, (b0 1 (by omega)).trans a1, (b0 2 (by omega)).trans a2, (b0 3 (by omega)).trans a3, ?_, ?_, ?_⟩
      · rw [b4, cntM_succ, a4]
      · rw [b5, cntM_succ, a5]
      · rw [b6, iter_succ, a6, Nat.zero_add]) w 0 (true, upd (upd (upd (upd (upd (upd (fun _ => 0) 0 (left : Int)) 1 (x left)) 2 (w : Int)) 3 (upm n x left (x left) w)) 4 0) 5 0) (by omega)
    ⟨by simp [upd_at], by simp [upd_at], by simp [upd_at], by simp [upd_at], by simp [upd_at, cntM, iter], by simp [upd_at, cntM, iter], rfl⟩
  rw [Nat.zero_add] at this
  obtain ⟨a0, a1, a2, a3, a4, a5, a6⟩ := this
  unfold recS
  refine ⟨?_, a6⟩
  rw [map6, a0, a1, a2, a3, a4, a5]
  rfl
theorem i_Grid_rectangle_val (z : β) {N : Nat} (hN : 8 < N) {n : Nat} {X O x : Nat → Int} (h2 : 2 ≤ n) (h8 : n ≤ 8) (hX : ∀ j, 0 ≤ X j ∧ X j ≤ 255) (hO : ∀ j, 0 ≤ O j ∧ O j ≤ 255) (hx : ∀ j, 0 ≤ x j ∧ x j ≤ 255) (hp : PermP 8 n x) {left w : Nat} (hl : left < n) (hw : w < n) (k0 : (Nat → Int) → Bool → β) :
    i_Grid_rectangle z N n X O x left w k0 = k0 (recS n X O x left w).2 (recS n X O x left w).1 := by
  have e3 := hx left
  have e4 := hp.2.1 left hl
  unfold i_Grid_rectangle i_Grid_n
  simp only [c_and, Int.toNat_natCast]
  simp (disch := omega) only [c_lt, c_le, c_blt, rect_1 z N h2 h8 hx hl hw ⟨e3.1, e4⟩]
  refine up_to (L := fun m k (s : Bool × (Nat → Int)) => i_Grid_rectangle_l0 z N (upm n x left (x left) w) w n X O x left (fun _ => 0) n (x left) m s.1 (k : Int) s.2 fun q10 q11 => k0 q11 q10) (n := w) (out := fun s => k0 s.2 s.1)
    (f := recF n X O x left (x left) (upm n x left (x left) w)) (I := fun k s => (0 ≤ s.2 4 ∧ s.2 4 ≤ k) ∧ (0 ≤ s.2 5 ∧ s.2 5 ≤ k))
    (fun m k s hk hs => ⟨?_, ?_⟩) (fun m s _ => by simp (disch := omega) only [i_Grid_rectangle_l0, i_Grid_rectangle_l0_s, c_nlt]) w N 0 (true, upd (upd (upd (upd (upd (upd (fun _ => 0) 0 (left : Int)) 1 (x left)) 2 (w : Int)) 3 (upm n x left (x left) w)) 4 0) 5 0) (by omega) (by omega) (by simp [upd_at])
  · have hkn : k < n := by omega
    obtain ⟨s1, s2⟩ := s
    simp only at hs
    have e5 : upd s2 4 (s2 4 + 1) 5 = s2 5 := by simp [upd_at]
    simp only [i_Grid_rectangle_l0, i_Grid_rectangle_l0_s, rect_1 z N h2 h8 hx hl hkn ⟨e3.1, e4⟩, rect_1 z N h2 h8 hX hl hkn ⟨e3.1, e4⟩, rect_1 z N h2 h8 hO hl hkn ⟨e3.1, e4⟩, recF, e5]
    rw [c_lt (by omega)]
    by_cases a1 : 0 < k <;> by_cases a2 : upm n x left (x left) k < upm n x left (x left) w <;> by_cases a3 : upm n X left (x left) k < upm n x left (x left) w <;> by_cases a4 : upm n O left (x left) k < upm n x left (x left) w <;>
      (simp (disch := omega) only [c_lt, c_nlt, c_fits, a1, a2, a3, a4, and_self, and_true, and_false, false_and, true_and, reduceIte]; rfl)
  · obtain ⟨_, b4, b5, _⟩ := recF_step (n := n) (X := X) (O := O) (x := x) (left := left) (b := x left) (h := upm n x left (x left) w) (k := k) (s := s)
    rw [b4, b5]
    unfold cntF
    split <;> split <;> omega
/-- The rectangles of the program. -/
theorem i_Grid_rectangles_val (z : β) {N : Nat} (hN : 8 < N) {n : Nat} {X O x : Nat → Int} (h2 : 2 ≤ n) (h8 : n ≤ 8) (hX : ∀ j, 0 ≤ X j ∧ X j ≤ 255) (hO : ∀ j, 0 ≤ O j ∧ O j ≤ 255) (hx : ∀ j, 0 ≤ x j ∧ x j ≤ 255) (hp : PermP 8 n x) (ea : Bool) (k0 : Nat → Nat → Nat → List Int → β) :
    i_Grid_rectangles z N n X O x ea k0 = k0 (rectsL n X O x fun l w => empB n x l w || !ea).length ((rectsL n X O x fun l w => empB n x l w || !ea).length / 6) ((rectsL n X O x fun l w => empB n x l w || !ea).length / 6) (rectsL n X O x fun l w => empB n x l w || !ea) := by
  unfold i_Grid_rectangles i_Grid_n
  refine up_to (L := fun m i (l : List Int) => i_Grid_rectangles_l0 z N ea n n X O x m l.length (l.length / 6) (l.length / 6) (i : Int) l k0) (n := n) (out := fun l => k0 l.length (l.length / 6) (l.length / 6) l)
    (f := fun left l => iter (fun w l => if (empB n x left w || !ea) = true then l ++ rectL n X O x left w else l) (n - 1) 1 l) (I := fun i l => l.length % 6 = 0 ∧ l.length ≤ 48 * i)
    (fun m i l hi hl => ⟨?_, ?_⟩) (fun m s _ => by simp (disch := omega) only [i_Grid_rectangles_l0, i_Grid_rectangles_l0_s, c_nlt]) n N 0 [] (by omega) (by omega) ⟨rfl, by simp⟩
  · have inner : ∀ kk : Nat → Nat → Nat → List Int → β, i_Grid_rectangles_l1 z N ea i n i n X O x N l.length (l.length / 6) (l.length / 6) 1 l kk =
        kk (iter (fun w l => if (empB n x i w || !ea) = true then l ++ rectL n X O x i w else l) (n - 1) 1 l).length ((iter (fun w l => if (empB n x i w || !ea) = true then l ++ rectL n X O x i w else l) (n - 1) 1 l).length / 6) ((iter (fun w l => if (empB n x i w || !ea) = true then l ++ rectL n X O x i w else l) (n - 1) 1 l).length / 6) (iter (fun w l => if (empB n x i w || !ea) = true then l ++ rectL n X O x i w else l) (n - 1) 1 l) := by
      intro kk
      refine up_to (L := fun m w (l : List Int) => i_Grid_rectangles_l1 z N ea i n i n X O x m l.length (l.length / 6) (l.length / 6) (w : Int) l kk) (n := n) (out := fun l => kk l.length (l.length / 6) (l.length / 6) l)
        (f := fun w l => if (empB n x i w || !ea) = true then l ++ rectL n X O x i w else l) (I := fun w l => l.length % 6 = 0 ∧ l.length ≤ 48 * i + 6 * w)
        (fun m w l hw hl => ⟨show i_Grid_rectangles_l1 z N ea i n i n X O x (m + 1) l.length (l.length / 6) (l.length / 6) (w : Int) l kk = i_Grid_rectangles_l1 z N ea i n i n X O x m (if (empB n x i w || !ea) = true then l ++ rectL n X O x i w else l).length ((if (empB n x i w || !ea) = true then l ++ rectL n X O x i w else l).length / 6) ((if (empB n x i w || !ea) = true then l ++ rectL n X O x i w else l).length / 6) ((w + 1 : Nat) : Int) (if (empB n x i w || !ea) = true then l ++ rectL n X O x i w else l) kk from ?_, ?_⟩) (fun m s _ => by simp (disch := omega) only [i_Grid_rectangles_l1, i_Grid_rectangles_l1_s, i_Grid_n, c_nlt]) (n - 1) N 1 l (by omega) (by omega) (by omega)
      · obtain ⟨q1, q2⟩ := recS_spec n X O x i w
        have e6 : (l ++ rectL n X O x i w).length = l.length + 6 := by rw [List.length_append, rectL_len]
        simp only [i_Grid_rectangles_l1, i_Grid_rectangles_l1_s, i_Grid_n, i_Grid_rectangle_val z hN h2 h8 hX hO hx hp hi hw, q1, q2, c_and, c_true]
        rw [c_lt (by omega)]
        cases empB n x i w <;> cases ea <;>
          (simp (disch := omega) only [c_true, c_false, Bool.not_true, Bool.not_false, Bool.or_true, Bool.or_false, Bool.true_or, Bool.false_or, reduceIte, c_fits, c_beq, c_ble, c_nble, e6, show (l.length + 6) / 6 = l.length / 6 + 1 by omega, Bool.false_eq_true]; try rfl)
      · split
        · rw [List.length_append, rectL_len]; omega
        · omega
    simp only [i_Grid_rectangles_l0, i_Grid_rectangles_l0_s, inner]
    simp (disch := omega) only [c_lt, c_fits]
    rfl
  · have := rects_inner (n := n) (X := X) (O := O) (x := x) (t := fun l w => empB n x l w || !ea) (left := i) hl h2
    omega
end
end Go.AM

namespace Go.AM
section
variable {β : Type}
/-- The corners of all rectangles: a column, and how wide. -/
def prs (n : Nat) : List (Nat × Nat) := (List.range n).flatMap fun l => (List.range' 1 (n - 1)).map fun w => (l, w)
theorem prs_mem {n : Nat} {p : Nat × Nat} (h : p ∈ prs n) : p.1 < n ∧ 1 ≤ p.2 ∧ p.2 < n := by
  unfold prs at h
  simp only [List.mem_flatMap, List.mem_range, List.mem_map, List.mem_range'_1] at h
  obtain ⟨l, h1, w, ⟨h2, h3⟩, rfl⟩ := h
  simp only
  omega
theorem prs_len (n : Nat) (h8 : n ≤ 8) : (prs n).length ≤ 64 := by
  unfold prs
  have : n = 0 ∨ n = 1 ∨ n = 2 ∨ n = 3 ∨ n = 4 ∨ n = 5 ∨ n = 6 ∨ n = 7 ∨ n = 8 := by omega
  rcases this with rfl | rfl | rfl | rfl | rfl | rfl | rfl | rfl | rfl <;> decide
/-- Rectangles as one list of numbers. -/
def recs (n : Nat) (X O x : Nat → Int) (ps : List (Nat × Nat)) : List Int := ps.flatMap fun p => rectL n X O x p.1 p.2
theorem recs_cons (n : Nat) (X O x : Nat → Int) (p : Nat × Nat) (ps : List (Nat × Nat)) : recs n X O x (p :: ps) = rectL n X O x p.1 p.2 ++ recs n X O x ps := rfl
theorem recs_append (n : Nat) (X O x : Nat → Int) (ps qs : List (Nat × Nat)) : recs n X O x (ps ++ qs) = recs n X O x ps ++ recs n X O x qs := by simp [recs]
theorem recs_len (n : Nat) (X O x : Nat → Int) (ps : List (Nat × Nat)) : (recs n X O x ps).length = 6 * ps.length := by
  induction ps with
  | nil => rfl
  | cons p ps ih => rw [recs_cons, List.length_append, rectL_len, ih, List.length_cons]; omega
theorem recs_get (n : Nat) (X O x : Nat → Int) : ∀ (ps : List (Nat × Nat)) (i : Nat) (p : Nat × Nat), ps[i]? = some p → ∀ j, j < 6 → (recs n X O x ps)[i * 6 + j]? = (rectL n X O x p.1 p.2)[j]? := by
  intro ps
  induction ps with
  | nil => intro i p h; simp at h
  | cons q ps ih =>
    intro i p h j hj
    rw [recs_cons]
    cases i with
    | zero =>
      simp only [List.getElem?_cons_zero, Option.some.injEq] at h
      subst h
      rw [List.getElem?_append_left (by rw [rectL_len]; omega), Nat.zero_mul, Nat.zero_add]
    | succ i =>
      rw [List.getElem?_append_right (by rw [rectL_len]; omega), rectL_len, show (i + 1) * 6 + j - 6 = i * 6 + j by omega]
      exact ih i p (by simpa using h) j hj
theorem iter_filter {γ : Type} (t : Nat → Bool) (r : Nat → List γ) : ∀ (d i : Nat) (l : List γ), iter (fun w l => if t w = true then l ++ r w else l) d i l = l ++ ((List.range' i d).filter t).flatMap r := by
  intro d
  induction d with
  | zero => intro i l; simp [iter]
  | succ d ih =>
    intro i l
    rw [iter, ih, List.range'_succ]
    by_cases h : t i = true
    · rw [if_pos h, List.filter_cons_of_pos h, List.flatMap_cons, List.append_assoc]
    · rw [if_neg h, List.filter_cons_of_neg h]
theorem iter_flat {γ : Type} (r : Nat → List γ) : ∀ (d i : Nat) (l : List γ), iter (fun w l => l ++ r w) d i l = l ++ (List.range' i d).flatMap r := by
  intro d
  induction d with
  | zero => intro i l; simp [iter]
  | succ d ih =>
    intro i l
    rw [iter, ih, List.range'_succ, List.flatMap_cons, List.append_assoc]
theorem rectsL_eq (n : Nat) (X O x : Nat → Int) (t : Nat → Nat → Bool) : rectsL n X O x t = recs n X O x ((prs n).filter fun p => t p.1 p.2) := by
  unfold rectsL
  have : (fun left (l : List Int) => iter (fun w l => if t left w = true then l ++ rectL n X O x left w else l) (n - 1) 1 l) = fun left l => l ++ ((List.range' 1 (n - 1)).filter (t left)).flatMap (rectL n X O x left) := by
    funext left l
    exact iter_filter (t left) (rectL n X O x left) (n - 1) 1 l
  rw [this, iter_flat, List.nil_append]
  unfold recs prs
  rw [List.filter_flatMap, List.flatMap_assoc, List.range_eq_range']
  congr 1
  funext l
  rw [List.filter_map, List.flatMap_map]
  rfl
theorem recs_6 (n : Nat) (X O x : Nat → Int) (ps : List (Nat × Nat)) : (recs n X O x ps).length / 6 = ps.length := by rw [recs_len]; omega
end
end Go.AM

namespace Go.AM
section
variable {β : Type}
theorem s_l01Row_int (z : β) {N : Nat} (hN : 8 < N) {n : Nat} (h8 : n ≤ 8) {X : Nat → Int} (h : PermP 8 n X) (hX : ∀ j, 0 ≤ X j) {r : Int} (h0 : 0 ≤ r) (hr : r < n) (k : Int → β) : s_l01Row z N X n r k = k (rowOf n X r.toNat) := by
  have := s_l01Row_val z hN h8 h hX (r := r.toNat) (by omega) k
  rwa [Int.toNat_of_nonneg h0] at this
/-- The kind of a mark as a corner. -/
def kindI (i r o c : Int) : Int := if o < r then (if c < i then 3 else 2) else if c < i then 1 else 0
theorem i_kind_val (z : β) (N : Nat) (i r o c : Int) (k : Int → β) : i_kind z N i r o c k = k (kindI i r o c) := by
  unfold i_kind kindI
  by_cases h1 : o < r <;> by_cases h2 : c < i <;> simp [h1, h2]
theorem kindI_bd (i r o c : Int) : 0 ≤ kindI i r o c ∧ kindI i r o c ≤ 3 := by unfold kindI; split <;> split <;> omega
theorem grid_other {n : Nat} {X O : Nat → Int} (g : GridP n X O) (hO : ∀ j, 0 ≤ O j) (hX : ∀ j, 0 ≤ X j) {i : Nat} (hi : i < n) : rowOf n O (X i).toNat ≠ i := by
  intro e
  have h1 := g.px.2.1 i hi
  have h2 := hX i
  have := (rowOf_spec g.po hO (r := (X i).toNat) (by omega)).2
  rw [e] at this
  exact g.ne i hi (by omega)
theorem GridP.swap {n : Nat} {X O : Nat → Int} (g : GridP n X O) : GridP n O X := ⟨g.lo, g.hi, g.po, g.px, fun i hi => (g.ne i hi).symm⟩
theorem s_l07Kind_val (z : β) {N : Nat} (hN : 8 < N) {n : Nat} {X O : Nat → Int} (g : GridP n X O) (hX : ∀ j, 0 ≤ X j) (hO : ∀ j, 0 ≤ O j) {i : Nat} (hi : i < n) (k : Int → β) :
    s_l07Kind z N n X O i (X i) true k = k (kindI i (X i) (O i) (rowOf n O (X i).toNat)) ∧ s_l07Kind z N n X O i (O i) false k = k (kindI i (O i) (X i) (rowOf n X (O i).toNat)) := by
  have h8 := g.hi
  have x1 := g.px.2.1 i hi
  have x2 := hX i
  have o1 := g.po.2.1 i hi
  have o2 := hO i
  have ne := g.ne i hi
  have r1 := grid_other g hO hX hi
  have r2 := grid_other g.swap hX hO hi
  have s1 := (rowOf_spec g.px hX (r := (X i).toNat) (by omega)).2
  constructor
  · unfold s_l07Kind
    simp only [c_and, Int.toNat_natCast, Bool.not_true, c_false, s_l01Row_int z hN h8 g.po hO x2 x1]
    simp (disch := omega) only [c_lt, c_le, c_blt]
    unfold kindI
    simp only [c_dec]
    have q1 : X i < O i ↔ ¬ O i < X i := by omega
    have q2 : (i : Int) < rowOf n O (X i).toNat ↔ ¬ ((rowOf n O (X i).toNat : Nat) : Int) < i := by omega
    simp only [q1, q2]
    by_cases h1 : O i < X i <;> by_cases h2 : ((rowOf n O (X i).toNat : Nat) : Int) < i <;> simp [h1, h2]
  · unfold s_l07Kind
    simp only [c_and, Int.toNat_natCast, Bool.not_false, c_true, s_l01Row_int z hN h8 g.po hO o2 o1, s_l01Row_int z hN h8 g.px hX o2 o1]
    simp (disch := omega) only [c_lt, c_le, c_blt]
    unfold kindI
    simp only [c_dec]
    have q1 : O i < X i ↔ ¬ X i < O i := by omega
    have q2 : (i : Int) < rowOf n X (O i).toNat ↔ ¬ ((rowOf n X (O i).toNat : Nat) : Int) < i := by omega
    simp only [q1, q2]
    by_cases h1 : X i < O i <;> by_cases h2 : ((rowOf n X (O i).toNat : Nat) : Int) < i <;> simp [h1, h2]
/-- The corners of a column's two marks, each as four numbers. -/
noncomputable def cornerL (n : Nat) (X O : Nat → Int) (i : Nat) : List Int :=
  [(i : Int), X i, kindI i (X i) (O i) (rowOf n O (X i).toNat), 1, (i : Int), O i, kindI i (O i) (X i) (rowOf n X (O i).toNat), 0]
theorem cornerL_len (n : Nat) (X O : Nat → Int) (i : Nat) : (cornerL n X O i).length = 8 := rfl
noncomputable def cornersL (n : Nat) (X O : Nat → Int) : List Int := iter (fun i l => l ++ cornerL n X O i) n 0 []
theorem cornersL_len (n : Nat) (X O : Nat → Int) : (cornersL n X O).length = 8 * n := by
  have := iter_inv (f := fun i l => l ++ cornerL n X O i) (I := fun i (l : List Int) => l.length = 8 * i) (n := n) (fun i s _ h => by rw [List.length_append, cornerL_len]; omega) n 0 [] (by omega) rfl
  rwa [Nat.zero_add] at this
theorem s_l07Corners_val (z : β) {N : Nat} (hN : 8 < N) {n : Nat} {X O : Nat → Int} (g : GridP n X O) (hX : ∀ j, 0 ≤ X j) (hO : ∀ j, 0 ≤ O j) (k : Nat → Nat → Nat → List Int → β) :
    s_l07Corners z N n X O k = k (8 * n) (2 * n) (2 * n) (cornersL n X O) := by
  unfold s_l07Corners
  have h8 := g.hi
  refine (up_to (L := fun m i (l : List Int) => s_l07Corners_l0 z N n X O m (8 * i) (2 * i) (2 * i) (i : Int) l k) (n := n) (out := fun l => k (8 * n) (2 * n) (2 * n) l)
    (f := fun i l => l ++ cornerL n X O i) (I := fun i l => l.length = 8 * i)
    (fun m i l hi hl => ⟨?_, by rw [List.length_append, cornerL_len]; omega⟩) (fun m s _ => by simp (disch := omega) only [s_l07Corners_l0, s_l07Corners_l0_s, c_nlt]) n N 0 [] (by omega) (by omega) rfl)
  obtain ⟨k1, k2⟩ : (∀ k, s_l07Kind z N n X O i (X i) true k = k (kindI i (X i) (O i) (rowOf n O (X i).toNat))) ∧ ∀ k, s_l07Kind z N n X O i (O i) false k = k (kindI i (O i) (X i) (rowOf n X (O i).toNat)) := ⟨fun k => (s_l07Kind_val z hN g hX hO hi k).1, fun k => (s_l07Kind_val z hN g hX hO hi k).2⟩
  simp only [s_l07Corners_l0, s_l07Corners_l0_s, c_and, c_true, Int.toNat_natCast, k1, k2]
  simp (disch := omega) only [c_lt, c_le, c_blt, c_fits, c_beq, c_ble, c_nble]
  refine (show _ = s_l07Corners_l0 z N n X O m (l ++ cornerL n X O i).length (2 * i + 2) (2 * i + 2) ((i : Int) + 1) (l ++ cornerL n X O i) k from rfl).trans ?_
  rw [List.length_append, cornerL_len, hl]
  rfl
theorem i_Grid_corners_val (z : β) {N : Nat} (hN : 8 < N) {n : Nat} {X O : Nat → Int} (g : GridP n X O) (hX : ∀ j, 0 ≤ X j) (hO : ∀ j, 0 ≤ O j) (k : Nat → Nat → Nat → List Int → β) :
    i_Grid_corners z N n X O k = k (8 * n) (2 * n) (2 * n) (cornersL n X O) := by
  unfold i_Grid_corners i_Grid_n
  have h8 := g.hi
  rw [i_Grid_places_val z hN h8 g.px hX, i_Grid_places_val z hN h8 g.po hO]
  refine (up_to (L := fun m i (l : List Int) => i_Grid_corners_l0 z N n n X O (plc n X) (plc n O) m (8 * i) (2 * i) (2 * i) (i : Int) l k) (n := n) (out := fun l => k (8 * n) (2 * n) (2 * n) l)
    (f := fun i l => l ++ cornerL n X O i) (I := fun i l => l.length = 8 * i)
    (fun m i l hi hl => ⟨?_, by rw [List.length_append, cornerL_len]; omega⟩) (fun m s _ => by simp (disch := omega) only [i_Grid_corners_l0, i_Grid_corners_l0_s, c_nlt]) n N 0 [] (by omega) (by omega) rfl)
  have x1 := g.px.2.1 i hi
  have x2 := hX i
  have o1 := g.po.2.1 i hi
  have o2 := hO i
  have p1 := plc_spec g.po hO (r := (X i).toNat) (by omega)
  have p2 := plc_spec g.px hX (r := (O i).toNat) (by omega)
  simp only [i_Grid_corners_l0, i_Grid_corners_l0_s, c_and, c_true, Int.toNat_natCast, i_kind_val, p1, p2]
  simp (disch := omega) only [c_lt, c_le, c_blt, c_fits, c_beq, c_ble, c_nble]
  have e : ∀ a b c d : Int, fromTo [a, b, c, d] 0 4 = [a, b, c, d] := fun _ _ _ _ => rfl
  have e2 : ∀ a b c d : Int, (l ++ [a, b, c, d]).length = 8 * i + 4 := fun _ _ _ _ => by rw [List.length_append, hl]; rfl
  simp only [e, c_false, e2]
  rw [c_beq (by omega), c_beq (by omega), List.append_assoc, List.length_append, hl]
  rfl
/-- Lists of corners that lie as records. -/
theorem eqC_none (z : β) {N : Nat} (hN : 0 < N) (k : Bool → β) : w_eqCornerS z N k = k true := by
  obtain ⟨N, rfl⟩ : ∃ m, N = m + 1 := ⟨N - 1, by omega⟩
  simp (disch := omega) only [w_eqCornerS, w_eqCornerS_l0, w_eqCornerS_l0_s, c_nlt]
theorem markC_none (z : β) {N : Nat} (hN : 0 < N) (i : Int) (k : β) : w_markCornerS z N i k = k := by
  obtain ⟨N, rfl⟩ : ∃ m, N = m + 1 := ⟨N - 1, by omega⟩
  simp (disch := omega) only [w_markCornerS, w_markCornerS_l0, w_markCornerS_l0_s, c_nlt]
theorem heldC_none (z : β) {N : Nat} (hN : 0 < N) (i : Int) (k : β) : w_heldCornerS z N i k = k := by
  obtain ⟨N, rfl⟩ : ∃ m, N = m + 1 := ⟨N - 1, by omega⟩
  simp (disch := omega) only [w_heldCornerS, w_heldCornerS_l0, w_heldCornerS_l0_s, c_nlt]
theorem eqC_refl (z : β) {N L : Nat} (xs : List Int) (hx : xs.length = 4 * L) (hl : L ≤ 100000) (hN : L < N) (k : Bool → β) :
    w_eqCornerS_s4 z N (4 * L) L L (4 * L) L L xs xs k = k true := by
  unfold w_eqCornerS_s4
  rw [c_ble (by omega), c_ble (by omega), c_nne rfl]
  exact (up_to_all (L := fun m i => w_eqCornerS_l0_s4 z N (4 * L) L L (4 * L) L L xs xs m (i : Int) (k false) (k true)) (n := L) (kt := k true) (kf := k false) (p := fun _ => true)
    (fun m i hi => by
      simp only [w_eqCornerS_l0_s4, w_eqCornerS_l0_s4_s, w_eqCorner, c_and, Int.toNat_natCast, bne_self_eq_false, c_false, Bool.not_true]
      simp (disch := omega) only [c_lt, c_le, c_blt, c_ble, c_beq, c_fits]
      rfl)
    (fun m => by simp (disch := omega) only [w_eqCornerS_l0_s4, w_eqCornerS_l0_s4_s, c_nlt, c_ble]) L N 0 (by omega) hN).trans (by
      have := (allFrom_iff (p := fun _ => true) L 0).2 fun _ _ _ => rfl
      rw [this]; rfl)
def set4 (i : Nat) (h : List Int) : List Int :=
  (((h.set (i * 4) (4 * (i : Int) + 1)).set (i * 4 + 1) (4 * (i : Int) + 1 + 1)).set (i * 4 + 2) (4 * (i : Int) + 1 + 1 + 1)).set (i * 4 + 3) (cond ((4 * (i : Int) + 1 + 1 + 1 + 1).tmod 3 == 0) 1 0)
theorem set4_len (i : Nat) (h : List Int) : (set4 i h).length = h.length := by simp [set4]
def mark4 (j : Nat) : Int := if j % 4 = 3 then cond (((j : Int) + 1).tmod 3 == 0) 1 0 else (j : Int) + 1
theorem set4_get {i j : Nat} {h : List Int} (hi : 4 * i + 4 ≤ h.length) (hj : j < h.length) : (set4 i h)[j]?.getD 0 = if 4 * i ≤ j ∧ j < 4 * i + 4 then mark4 j else h[j]?.getD 0 := by
  unfold set4
  simp only [List.getElem?_set, List.length_set]
  by_cases e : 4 * i ≤ j ∧ j < 4 * i + 4
  · rw [if_pos e]
    have : j = i * 4 ∨ j = i * 4 + 1 ∨ j = i * 4 + 2 ∨ j = i * 4 + 3 := by omega
    rcases this with rfl | rfl | rfl | rfl
    · rw [if_neg (by omega), if_neg (by omega), if_neg (by omega), if_pos rfl, if_pos (by omega)]; unfold mark4; rw [if_neg (by omega)]; simp only [Option.getD_some]; omega
    · rw [if_neg (by omega), if_neg (by omega), if_pos rfl, if_pos (by omega)]; unfold mark4; rw [if_neg (by omega)]; simp only [Option.getD_some]; omega
    · rw [if_neg (by omega), if_pos rfl, if_pos (by omega)]; unfold mark4; rw [if_neg (by omega)]; simp only [Option.getD_some]; omega
    · rw [if_pos rfl, if_pos (by omega)]; unfold mark4; rw [if_pos (by omega)]; simp only [Option.getD_some]
      rw [show (((i * 4 + 3 : Nat) : Int) + 1) = 4 * (i : Int) + 1 + 1 + 1 + 1 by omega]
  · rw [if_neg e, if_neg (by omega), if_neg (by omega), if_neg (by omega), if_neg (by omega)]
/-- The marks of a list of corners. -/
def marksC (L : Nat) (xs : List Int) : List Int := iter set4 L 0 xs
theorem marksC_spec {L : Nat} (xs : List Int) (hx : xs.length = 4 * L) : (marksC L xs).length = 4 * L ∧ ∀ j, j < 4 * L → (marksC L xs)[j]?.getD 0 = mark4 j := by
  have := iter_inv (f := set4) (I := fun i h => h.length = 4 * L ∧ ∀ j, j < 4 * i → h[j]?.getD 0 = mark4 j) (n := L)
    (fun i s hi hs => ⟨by rw [set4_len]; exact hs.1, fun j hj => by
      rw [set4_get (by omega) (by omega)]
      split
      · rfl
      · exact hs.2 j (by omega)⟩) L 0 xs (by omega) ⟨hx, fun j hj => by omega⟩
  rw [Nat.zero_add] at this
  exact this
theorem markC_val (z : β) {N L : Nat} (xs : List Int) (hx : xs.length = 4 * L) (hl : L ≤ 100000) (hN : L < N) (k : Int → List Int → β) :
    w_markCornerS_s2 z N (4 * L) L L 1 xs k = k (4 * (L : Int) + 1) (marksC L xs) := by
  unfold w_markCornerS_s2 marksC
  exact up_to (L := fun m i h => w_markCornerS_l0_s2 z (4 * L) L L m (4 * (i : Int) + 1) (i : Int) h k) (n := L) (out := k (4 * (L : Int) + 1)) (f := set4) (I := fun _ h => h.length = 4 * L)
    (fun m i s hi hs => ⟨by
      simp only [w_markCornerS_l0_s2, w_markCornerS_l0_s2_s, c_and, Int.toNat_natCast, List.length_set, addO_eq, Nat.add_zero]
      simp (disch := omega) only [c_lt, c_le, c_blt, c_ble, c_beq, c_fits]
      rw [show 4 * (i : Int) + 1 + 1 + 1 + 1 + 1 = 4 * ((i + 1 : Nat) : Int) + 1 by omega]
      rfl, by rw [set4_len]; exact hs⟩)
    (fun m s _ => by simp (disch := omega) only [w_markCornerS_l0_s2, w_markCornerS_l0_s2_s, c_nlt, c_ble]) L N 0 xs (by omega) hN hx
theorem heldC_val (z : β) {N L : Nat} (xs : List Int) (hx : xs.length = 4 * L) (hm : ∀ j, j < 4 * L → xs[j]?.getD 0 = mark4 j) (hl : L ≤ 100000) (hN : L < N) (k : Int → β) :
    w_heldCornerS_s2 z N (4 * L) L L 1 xs k = k (4 * (L : Int) + 1) := by
  unfold w_heldCornerS_s2
  exact (up_to_all (L := fun m i => w_heldCornerS_l0_s2 z (4 * L) L L xs m (4 * (i : Int) + 1) (i : Int) (k (-1)) k) (n := L) (kt := k (4 * (L : Int) + 1)) (kf := k (-1)) (p := fun _ => true)
    (fun m i hi => by
      have a0 : xs[i * 4]?.getD 0 = 4 * (i : Int) + 1 := by rw [hm (i * 4) (by omega)]; unfold mark4; rw [if_neg (by omega)]; omega
      have a1 : xs[i * 4 + 1]?.getD 0 = 4 * (i : Int) + 1 + 1 := by rw [hm (i * 4 + 1) (by omega)]; unfold mark4; rw [if_neg (by omega)]; omega
      have a2 : xs[i * 4 + 2]?.getD 0 = 4 * (i : Int) + 1 + 1 + 1 := by rw [hm (i * 4 + 2) (by omega)]; unfold mark4; rw [if_neg (by omega)]; omega
      have a3 : (xs[i * 4 + 3]?.getD 0 != 0) = ((4 * (i : Int) + 1 + 1 + 1).tmod 3 == 0) ∨ True := .inr trivial
      have a4 : ((xs[i * 4 + 3]?.getD 0 != 0) != ((4 * (i : Int) + 1 + 1 + 1 + 1).tmod 3 == 0)) = false := by
        rw [hm (i * 4 + 3) (by omega)]
        unfold mark4
        rw [if_pos (by omega), show (((i * 4 + 3 : Nat) : Int) + 1) = 4 * (i : Int) + 1 + 1 + 1 + 1 by omega]
        cases ((4 * (i : Int) + 1 + 1 + 1 + 1).tmod 3 == 0) <;> rfl
      simp only [w_heldCornerS_l0_s2, w_heldCornerS_l0_s2_s, c_and, Int.toNat_natCast, addO_eq, Nat.add_zero, a4, c_false]
      simp (disch := omega) only [c_lt, c_le, c_blt, c_ble, c_beq, c_fits, c_nne]
      rw [show 4 * (i : Int) + 1 + 1 + 1 + 1 + 1 = 4 * ((i + 1 : Nat) : Int) + 1 by omega]
      rfl)
    (fun m => by simp (disch := omega) only [w_heldCornerS_l0_s2, w_heldCornerS_l0_s2_s, c_nlt, c_ble]) L N 0 (by omega) hN).trans (by
      have := (allFrom_iff (p := fun _ => true) L 0).2 fun _ _ _ => rfl
      rw [this]; rfl)
theorem w_FnExactCornersOf_val (z : β) {N : Nat} (hN : 100 < N) (n : Int) (X O : Nat → Int) (hX : ∀ j, j < 8 → 0 ≤ X j ∧ X j ≤ 255) (hO : ∀ j, j < 8 → 0 ≤ O j ∧ O j ≤ 255) (k0 : Bool → β) : w_FnExactCornersOf z N n X O k0 = k0 true := by
  unfold w_FnExactCornersOf
  have hN8 : 8 < N := by omega
  have hX0 := clip8_nn (a := X) fun j hj => (hX j hj).1
  have hO0 := clip8_nn (a := O) fun j hj => (hO j hj).1
  simp only [w_toGrid_val z hN8, s_CornersOf, i_CornersOf, i_whole_i_Corner, s_l01Is_val z hN8 _ _ _ hX0 hO0, i_IsGrid_val z hN8 _ _ _ hX0 hO0]
  cases hg : gridB n (clip8 X) (clip8 O) with
  | false => simp (disch := omega) only [Bool.not_false, c_true, eqC_none z, markC_none z, heldC_none z, Bool.not_true, c_false, bne_self_eq_false]
  | true =>
    obtain ⟨m, rfl, g⟩ := gridB_iff.1 hg
    have h8 := g.hi
    simp only [Bool.not_true, c_false, s_l07Corners_val z hN8 g hX0 hO0, i_Grid_corners_val z hN8 g hX0 hO0]
    have hl := cornersL_len m (clip8 X) (clip8 O)
    generalize cornersL m (clip8 X) (clip8 O) = xs at *
    have hx : xs.length = 4 * (2 * m) := by omega
    obtain ⟨h1, h2⟩ := marksC_spec xs hx
    rw [show 8 * m = 4 * (2 * m) by omega]
    simp only [eqC_refl z (N := N) xs hx (by omega) (by omega), markC_val z (N := N) xs hx (by omega) (by omega), heldC_val z (N := N) (marksC (2 * m) xs) h1 h2 (by omega) (by omega), Bool.not_true, c_false, bne_self_eq_false]
    rw [c_nlt (by omega), c_nlt (by omega)]
end
end Go.AM

namespace Go.AM
section
variable {β : Type}
/-- A walk that sets cells until it comes to one that is set. -/
def walkH (nxt : Nat → Nat) (c : Int) : Nat → Nat → (Nat → Int) → Nat → Int
  | 0, _, h => h
  | d + 1, k, h => if h k < 0 then walkH nxt c d (nxt k) (upd h k c) else h
/-- How many cells are not set. -/
def cntU (n : Nat) (h : Nat → Int) : Nat := (List.range n).countP fun j => decide (h j < 0)
theorem cntU_le (n : Nat) (h : Nat → Int) : cntU n h ≤ n := by
  have := List.countP_le_length (p := fun j => decide (h j < 0)) (l := List.range n)
  simpa [cntU] using this
theorem cntU_zero {n : Nat} {h : Nat → Int} (e : cntU n h = 0) {k : Nat} (hk : k < n) : 0 ≤ h k := by
  unfold cntU at e
  rw [List.countP_eq_zero] at e
  have := e k (by simpa using hk)
  simpa using this
theorem cntU_upd {n : Nat} {h : Nat → Int} {k : Nat} (hk : k < n) (hu : h k < 0) {c : Int} (hc : 0 ≤ c) : cntU n (upd h k c) + 1 ≤ cntU n h := by
  unfold cntU
  have key : ∀ (l : List Nat), k ∈ l → (l.countP fun j => decide (upd h k c j < 0)) + 1 ≤ l.countP fun j => decide (h j < 0) := by
    intro l
    have hle : ∀ l : List Nat, (l.countP fun j => decide (upd h k c j < 0)) ≤ l.countP fun j => decide (h j < 0) := fun l =>
      List.countP_mono_left fun j _ hj => by
        rw [decide_eq_true_eq, upd_at] at hj
        split at hj
        · omega
        · simpa using hj
    induction l with
    | nil => intro h; simp at h
    | cons x xs ih =>
      intro hm
      rw [List.countP_cons, List.countP_cons]
      by_cases e : x = k
      · subst e
        have := hle xs
        rw [decide_eq_false (show ¬ upd h x c x < 0 by rw [upd_at, if_pos rfl]; omega), decide_eq_true hu]
        simp
        exact this
      · have := ih (by simpa [Ne.symm e] using hm)
        rw [show upd h k c x = h x by rw [upd_at, if_neg e]]
        omega
  exact key _ (by simpa using hk)
/-- A loop that walks. -/
theorem walk_loop {L : Nat → Nat → (Nat → Int) → β} {out : (Nat → Int) → β} {n : Nat} {nxt : Nat → Nat} {c : Int} (hc : 0 ≤ c) (hn : ∀ k, k < n → nxt k < n) {I : (Nat → Int) → Prop}
    (hI : ∀ k h, k < n → I h → h k < 0 → I (upd h k c))
    (h1 : ∀ m k h, k < n → I h → h k < 0 → L (m + 1) k h = L m (nxt k) (upd h k c)) (h2 : ∀ m k h, k < n → I h → 0 ≤ h k → L (m + 1) k h = out h) :
    ∀ (d m k : Nat) (h : Nat → Int), cntU n h ≤ d → d < m → k < n → I h → L m k h = out (walkH nxt c d k h) := by
  intro d
  induction d with
  | zero =>
    intro m k h hd hm hk hi
    obtain ⟨m, rfl⟩ : ∃ m', m = m' + 1 := ⟨m - 1, by omega⟩
    exact h2 m k h hk hi (cntU_zero (by omega) hk)
  | succ d ih =>
    intro m k h hd hm hk hi
    obtain ⟨m, rfl⟩ : ∃ m', m = m' + 1 := ⟨m - 1, by omega⟩
    simp only [walkH]
    by_cases hu : h k < 0
    · rw [if_pos hu, h1 m k h hk hi hu]
      have := cntU_upd hk hu hc
      exact ih m (nxt k) _ (by omega) (by omega) (hn k hk) (hI k h hk hi hu)
    · rw [if_neg hu]
      exact h2 m k h hk hi (by omega)
theorem walkH_val (nxt : Nat → Nat) (c : Int) : ∀ (d k : Nat) (h : Nat → Int) (j : Nat), walkH nxt c d k h j = h j ∨ (h j < 0 ∧ walkH nxt c d k h j = c) := by
  intro d
  induction d with
  | zero => exact fun k h j => .inl rfl
  | succ d ih =>
    intro k h j
    simp only [walkH]
    split
    · rename_i hu
      rcases ih (nxt k) (upd h k c) j with e | ⟨e1, e2⟩
      · rw [e, upd_at]
        split
        · rename_i hj; subst hj; exact .inr ⟨hu, rfl⟩
        · exact .inl rfl
      · rw [upd_at] at e1
        split at e1
        · rename_i hj; subst hj; exact .inr ⟨hu, e2⟩
        · exact .inr ⟨e1, e2⟩
    · exact .inl rfl
theorem walkH_start (nxt : Nat → Nat) {c : Int} (hc : 0 ≤ c) (d k : Nat) (h : Nat → Int) : 0 ≤ walkH nxt c (d + 1) k h k := by
  simp only [walkH]
  split
  · rcases walkH_val nxt c d (nxt k) (upd h k c) k with e | ⟨_, e⟩
    · rw [e, upd_at, if_pos rfl]; exact hc
    · rw [e]; exact hc
  · omega
theorem walkH_lt {nxt : Nat → Nat} {c : Int} {n : Nat} (hn : ∀ k, k < n → nxt k < n) : ∀ (d k : Nat) (h : Nat → Int), k < n → ∀ j, n ≤ j → walkH nxt c d k h j = h j := by
  intro d
  induction d with
  | zero => exact fun k h _ j _ => rfl
  | succ d ih =>
    intro k h hk j hj
    simp only [walkH]
    split
    · rw [ih _ _ (hn k hk) j hj, upd_at, if_neg (by omega)]
    · rfl
/-- The numbers of the components of all columns, and how many there are. -/
def compF (nxt : Nat → Nat) (n i : Nat) (s : (Nat → Int) × Int) : (Nat → Int) × Int := if s.1 i < 0 then (walkH nxt s.2 n i s.1, s.2 + 1) else s
def compS (nxt : Nat → Nat) (n : Nat) : (Nat → Int) × Int := iter (compF nxt n) n 0 ((fun j => if j < 8 then -1 else 0), 0)
structure CompI (n i : Nat) (s : (Nat → Int) × Int) : Prop where
  nn : 0 ≤ s.2
  le : s.2 ≤ i
  set : ∀ j, j < i → 0 ≤ s.1 j
  bd : ∀ j, j < 8 → -1 ≤ s.1 j ∧ s.1 j < s.2 ∨ s.1 j = -1
  rest : ∀ j, n ≤ j → j < 8 → s.1 j = -1
theorem compF_step {nxt : Nat → Nat} {n i : Nat} (hn : ∀ k, k < n → nxt k < n) (hi : i < n) {s : (Nat → Int) × Int} (h : CompI n i s) : CompI n (i + 1) (compF nxt n i s) := by
  unfold compF
  obtain ⟨n', rfl⟩ : ∃ n', n = n' + 1 := ⟨n - 1, by omega⟩
  split
  · rename_i hu
    refine ⟨by have := h.nn; simp only; omega, by have := h.le; simp only; omega, fun j hj => ?_, fun j hj => ?_, fun j h1 h2 => ?_⟩
    · simp only
      by_cases e : j = i
      · subst e; exact walkH_start nxt h.nn n' j s.1
      · rcases walkH_val nxt s.2 (n' + 1) i s.1 j with e2 | ⟨_, e2⟩
        · rw [e2]; exact h.set j (by omega)
        · rw [e2]; exact h.nn
    · simp only
      have h1 := h.bd j hj
      have h2 := h.nn
      rcases walkH_val nxt s.2 (n' + 1) i s.1 j with e2 | ⟨_, e2⟩
      · rw [e2]; omega
      · rw [e2]; omega
    · simp only
      rw [walkH_lt hn _ _ _ hi j h1]
      exact h.rest j h1 h2
  · rename_i hu
    refine ⟨h.nn, by have := h.le; omega, fun j hj => ?_, h.bd, h.rest⟩
    by_cases e : j = i
    · subst e; omega
    · exact h.set j (by omega)
theorem compS_inv {nxt : Nat → Nat} {n : Nat} (hn : ∀ k, k < n → nxt k < n) : CompI n n (compS nxt n) := by
  have := iter_inv (f := compF nxt n) (I := fun i s => CompI n i s) (n := n) (fun i s hi h => compF_step hn hi h) n 0 ((fun j => if j < 8 then -1 else 0), 0) (by omega)
    ⟨Int.le_refl _, Int.le_refl _, fun j hj => by omega, fun j hj => by simp [hj], fun j _ hj => by simp [hj]⟩
  rwa [Nat.zero_add] at this
/-- The column behind a column. -/
noncomputable def nxtC (n : Nat) (X O : Nat → Int) (i : Nat) : Nat := rowOf n X (O i).toNat
theorem nxtC_lt {n : Nat} {X O : Nat → Int} (g : GridP n X O) (hX : ∀ j, 0 ≤ X j) (hO : ∀ j, 0 ≤ O j) : ∀ k, k < n → nxtC n X O k < n := fun k hk => by
  have o1 := g.po.2.1 k hk
  have o2 := hO k
  exact (rowOf_spec g.px hX (by omega)).1
theorem s_l01Follow_val (z : β) {N : Nat} (hN : 8 < N) {n : Nat} {X O : Nat → Int} (g : GridP n X O) (hX : ∀ j, 0 ≤ X j) (hO : ∀ j, 0 ≤ O j) {i : Nat} (hi : i < n) (k : Int → β) : s_l01Follow z N n X O i k = k (nxtC n X O i) := by
  have h8 := g.hi
  have o1 := g.po.2.1 i hi
  have o2 := hO i
  unfold s_l01Follow
  simp only [c_and, Int.toNat_natCast, s_l01Row_int z hN h8 g.px hX o2 o1]
  simp (disch := omega) only [c_lt, c_le, c_blt]
  rfl
theorem s_l01Components_val (z : β) {N : Nat} (hN : 8 < N) {n : Nat} {X O : Nat → Int} (g : GridP n X O) (hX : ∀ j, 0 ≤ X j) (hO : ∀ j, 0 ≤ O j) (k : (Nat → Int) → Int → β) :
    s_l01Components z N n X O k = k (compS (nxtC n X O) n).1 (compS (nxtC n X O) n).2 := by
  have h8 := g.hi
  unfold s_l01Components
  have first : ∀ kk : (Nat → Int) → β, s_l01Components_l0 z n X O (fun _ => 0) N 0 (fun _ => 0) kk = kk (fun j => if j < 8 then -1 else 0) := by
    intro kk
    refine (up_to (L := fun m i h => s_l01Components_l0 z n X O (fun _ => 0) m (i : Int) h kk) (n := 8) (out := kk) (f := fun i h => upd h i (-1)) (I := fun _ _ => True)
      (fun m i s hi _ => ⟨by
        simp only [s_l01Components_l0, s_l01Components_l0_s, c_and, Int.toNat_natCast]
        simp (disch := omega) only [c_lt, c_le, c_blt, c_fits]
        rfl, trivial⟩)
      (fun m s _ => by simp (disch := omega) only [s_l01Components_l0, s_l01Components_l0_s, c_nlt]) 8 N 0 (fun _ => 0) rfl hN trivial).trans ?_
    rw [iter_set (fun _ => (-1 : Int))]
    congr 1
    funext j
    simp
  rw [first]
  refine up_to (L := fun m i s => s_l01Components_l1 z N n X O (fun _ => 0) m s.2 (i : Int) s.1 fun q7 q8 => k q8 q7) (n := n) (out := fun s => k s.1 s.2) (f := compF (nxtC n X O) n) (I := CompI n)
    (fun m i s hi hI => ⟨?_, compF_step (nxtC_lt g hX hO) hi hI⟩) (fun m s _ => by simp (disch := omega) only [s_l01Components_l1, s_l01Components_l1_s, c_nlt]) n N 0 ((fun j => if j < 8 then -1 else 0), 0) (by omega) (by omega)
    ⟨Int.le_refl _, Int.le_refl _, fun j hj => by omega, fun j hj => by simp [hj], fun j _ hj => by simp [hj]⟩
  have h1 := hI.nn
  have h2 := hI.le
  have walk : ∀ kk : (Nat → Int) → β, s_l01Components_l2 z N s.2 i n X O (fun _ => 0) N (i : Int) s.1 kk = kk (walkH (nxtC n X O) s.2 n i s.1) := by
    intro kk
    refine walk_loop (L := fun m k h => s_l01Components_l2 z N s.2 i n X O (fun _ => 0) m (k : Int) h kk) (out := kk) (n := n) (nxt := nxtC n X O) (c := s.2) h1 (nxtC_lt g hX hO) (I := fun _ => True) (fun _ _ _ _ _ => trivial)
      (fun m k h hk _ hu => ?_) (fun m k h hk _ hu => ?_) n N i s.1 (cntU_le _ _) (by omega) hi trivial
    · simp only [s_l01Components_l2, s_l01Components_l2_s, c_and, Int.toNat_natCast, s_l01Follow_val z hN g hX hO hk]
      simp (disch := omega) only [c_lt, c_le, c_blt]
    · simp only [s_l01Components_l2, s_l01Components_l2_s, c_and, Int.toNat_natCast]
      simp (disch := omega) only [c_lt, c_nlt, c_le, c_blt]
  simp only [s_l01Components_l1, s_l01Components_l1_s, c_and, Int.toNat_natCast, walk]
  simp (disch := omega) only [c_lt, c_le, c_blt, c_fits]
  unfold compF
  by_cases hu : s.1 i < 0
  · rw [c_nle hu, if_pos hu]
    rfl
  · rw [c_le (by omega), if_neg hu]
    rfl
end
end Go.AM

namespace Go.AM
section
variable {β : Type}
/-- The numbers of a list of records. -/
def recAt (xs : List Int) (j q : Nat) : Int := xs[j * 4 + q]?.getD 0
/-- A round over the corners: those that count with 1 and those with -1. -/
def cuspF (xs : List Int) (skip : Int → Bool) (j : Nat) (s : Int × Int) : Int × Int :=
  if skip (recAt xs j 0) = true ∨ recAt xs j 2 = 1 ∨ recAt xs j 2 = 2 then s else if ((recAt xs j 3 != 0) == (recAt xs j 2 == 3)) = true then (s.1 + 1, s.2) else (s.1, s.2 + 1)
def cuspS (xs : List Int) (skip : Int → Bool) (L : Nat) : Int × Int := iter (cuspF xs skip) L 0 (0, 0)
theorem cuspF_bd {xs : List Int} {skip : Int → Bool} {j : Nat} {s : Int × Int} (h : 0 ≤ s.1 ∧ 0 ≤ s.2 ∧ s.1 + s.2 ≤ j) : 0 ≤ (cuspF xs skip j s).1 ∧ 0 ≤ (cuspF xs skip j s).2 ∧ (cuspF xs skip j s).1 + (cuspF xs skip j s).2 ≤ (j + 1 : Nat) := by
  unfold cuspF
  split
  · omega
  · split <;> simp only <;> omega
theorem cuspS_bd (xs : List Int) (skip : Int → Bool) (L : Nat) : 0 ≤ (cuspS xs skip L).1 ∧ 0 ≤ (cuspS xs skip L).2 ∧ (cuspS xs skip L).1 + (cuspS xs skip L).2 ≤ L := by
  have := iter_inv (f := cuspF xs skip) (n := L) (I := fun i s => 0 ≤ s.1 ∧ 0 ≤ s.2 ∧ s.1 + s.2 ≤ i) (fun i s _ h => cuspF_bd h) L 0 (0, 0) (by omega) (by simp)
  rwa [Nat.zero_add] at this
theorem cornerL_get (n : Nat) (X O : Nat → Int) {i q : Nat} (hi : i < n) (hq : q < 8) : (cornersL n X O)[8 * i + q]?.getD 0 = (cornerL n X O i)[q]?.getD 0 := by
  have := iter_inv (f := fun i l => l ++ cornerL n X O i) (I := fun i (l : List Int) => l.length = 8 * i ∧ ∀ j q, j < i → q < 8 → l[8 * j + q]?.getD 0 = (cornerL n X O j)[q]?.getD 0) (n := n) (fun i s _ h => by
    refine ⟨by rw [List.length_append, cornerL_len]; omega, fun j q hj hq => ?_⟩
    by_cases e : j = i
    · subst e
      rw [List.getElem?_append_right (by omega), h.1, show 8 * j + q - 8 * j = q by omega]
    · rw [List.getElem?_append_left (by omega)]
      exact h.2 j q (by omega) hq) n 0 [] (by omega) ⟨rfl, fun j q hj => by omega⟩
  rw [Nat.zero_add] at this
  exact this.2 i q hi hq
/-- What the records of the corners are. -/
theorem corner_recs {n : Nat} {X O : Nat → Int} (j : Nat) (hj : j < 2 * n) : recAt (cornersL n X O) j 0 = (j / 2 : Nat) ∧ 0 ≤ recAt (cornersL n X O) j 2 ∧ recAt (cornersL n X O) j 2 ≤ 3 := by
  unfold recAt
  have hi : j / 2 < n := by omega
  rcases Nat.mod_two_eq_zero_or_one j with e | e
  · have h0 := cornerL_get n X O hi (q := 0) (by omega)
    have h2 := cornerL_get n X O hi (q := 2) (by omega)
    rw [show j * 4 + 0 = 8 * (j / 2) + 0 by omega, show j * 4 + 2 = 8 * (j / 2) + 2 by omega, h0, h2]
    have := kindI_bd (j / 2 : Nat) (X (j / 2)) (O (j / 2)) (rowOf n O (X (j / 2)).toNat)
    exact ⟨rfl, this.1, this.2⟩
  · have h0 := cornerL_get n X O hi (q := 4) (by omega)
    have h2 := cornerL_get n X O hi (q := 6) (by omega)
    rw [show j * 4 + 0 = 8 * (j / 2) + 4 by omega, show j * 4 + 2 = 8 * (j / 2) + 6 by omega, h0, h2]
    have := kindI_bd (j / 2 : Nat) (O (j / 2)) (X (j / 2)) (rowOf n X (O (j / 2)).toNat)
    exact ⟨rfl, this.1, this.2⟩
/-- Is a column of another component than the one that is asked for? -/
def skipC (which : Nat → Int) (c : Int) (col : Int) : Bool := decide (0 ≤ c) && (which col.toNat != c)
theorem s_l07Cusps_val (z : β) {N : Nat} (hN : 16 < N) {n : Nat} {X O : Nat → Int} (g : GridP n X O) (hX : ∀ j, 0 ≤ X j) (hO : ∀ j, 0 ≤ O j) (c : Int) (k : Int → Int → β) :
    s_l07Cusps z N n X O c k = k (cuspS (cornersL n X O) (skipC (compS (nxtC n X O) n).1 c) (2 * n)).1 (cuspS (cornersL n X O) (skipC (compS (nxtC n X O) n).1 c) (2 * n)).2 := by
  have h8 := g.hi
  unfold s_l07Cusps
  rw [s_l01Components_val z (by omega) g hX hO, s_l07Corners_val z (by omega) g hX hO]
  have hr := corner_recs (n := n) (X := X) (O := O)
  have hl := cornersL_len n X O
  generalize cornersL n X O = xs at *
  generalize (compS (nxtC n X O) n).1 = wh
  refine up_to (L := fun m j s => s_l07Cusps_l0 z c (8 * n) (2 * n) (2 * n) n X O wh xs m s.1 s.2 (j : Int) fun q13 q14 => k q13 q14) (n := 2 * n) (out := fun s => k s.1 s.2) (f := cuspF xs (skipC wh c)) (I := fun i s => 0 ≤ s.1 ∧ 0 ≤ s.2 ∧ s.1 + s.2 ≤ i)
    (fun m j s hj hs => ⟨?_, cuspF_bd hs⟩) (fun m s _ => by simp (disch := omega) only [s_l07Cusps_l0, s_l07Cusps_l0_s, c_ble, c_nlt]) (2 * n) N 0 (0, 0) (by omega) (by omega) (by simp)
  obtain ⟨r0, r1, r2⟩ := hr j hj
  have r0' := r0
  unfold recAt at r0'
  rw [Nat.add_zero] at r0'
  have e2 : xs[j * 4 + 2]?.getD 0 = recAt xs j 2 := rfl
  have e3 : xs[j * 4 + 3]?.getD 0 = recAt xs j 3 := rfl
  simp only [s_l07Cusps_l0, s_l07Cusps_l0_s, c_and, Int.toNat_natCast, addO_eq, Nat.add_zero, r0', e2, e3]
  simp (disch := omega) only [c_lt, c_le, c_ble, c_blt, c_beq, c_fits]
  unfold cuspF skipC
  rw [r0, Int.toNat_natCast]
  by_cases hc : 0 ≤ c
  · rw [c_le hc, decide_eq_true hc, Bool.true_and]
    by_cases hw : wh (j / 2) = c
    · rw [c_nne hw, show (wh (j / 2) != c) = false by simpa using hw]
      by_cases h1 : recAt xs j 2 = 1
      · rw [c_eq h1, if_pos (.inr (.inl h1))]; rfl
      · rw [c_neq h1]
        by_cases h2 : recAt xs j 2 = 2
        · rw [c_eq h2, if_pos (.inr (.inr h2))]; rfl
        · rw [c_neq h2, if_neg (by simp [h1, h2])]
          cases hb : ((recAt xs j 3 != 0) == (recAt xs j 2 == 3)) <;> rfl
    · rw [c_ne hw, show (wh (j / 2) != c) = true by simpa using hw, if_pos (.inl rfl)]; rfl
  · rw [c_nle (by omega), decide_eq_false hc, Bool.false_and]
    by_cases h1 : recAt xs j 2 = 1
    · rw [c_eq h1, if_pos (.inr (.inl h1))]; rfl
    · rw [c_neq h1]
      by_cases h2 : recAt xs j 2 = 2
      · rw [c_eq h2, if_pos (.inr (.inr h2))]; rfl
      · rw [c_neq h2, if_neg (by simp [h1, h2])]
        cases hb : ((recAt xs j 3 != 0) == (recAt xs j 2 == 3)) <;> rfl
/-- What a front comes to. -/
def frontF (xs : List Int) (j : Nat) (h : Nat → Int) : Nat → Int :=
  if recAt xs j 2 = 1 ∨ recAt xs j 2 = 2 then h else if ((recAt xs j 3 != 0) == (recAt xs j 2 == 3)) = true then upd (upd h 0 (h 0 + 1)) 2 (h 2 + 1) else upd (upd h 0 (h 0 + 1)) 1 (h 1 + 1)
theorem frontF_get {xs : List Int} {j : Nat} {h : Nat → Int} {s : Int × Int} (hh : h 0 = s.1 + s.2 ∧ h 1 = s.2 ∧ h 2 = s.1) :
    frontF xs j h 0 = (cuspF xs (fun _ => false) j s).1 + (cuspF xs (fun _ => false) j s).2 ∧ frontF xs j h 1 = (cuspF xs (fun _ => false) j s).2 ∧ frontF xs j h 2 = (cuspF xs (fun _ => false) j s).1 := by
  unfold frontF cuspF
  obtain ⟨h0, h1, h2⟩ := hh
  by_cases e : recAt xs j 2 = 1 ∨ recAt xs j 2 = 2
  · rw [if_pos e, if_pos (.inr e)]; exact ⟨h0, h1, h2⟩
  · have e' : ¬ ((fun _ => false) (recAt xs j 0) = true ∨ recAt xs j 2 = 1 ∨ recAt xs j 2 = 2) := fun h => h.elim (fun h => by cases h) e
    rw [if_neg e, if_neg e']
    cases hb : ((recAt xs j 3 != 0) == (recAt xs j 2 == 3))
    · simp [upd_at, h0, h1, h2]; omega
    · simp [upd_at, h0, h1, h2]; omega
theorem i_front_add_val (z : β) (N : Nat) (a b : Int) {xs : List Int} {j : Nat} {h : Nat → Int} (hk : 0 ≤ recAt xs j 2 ∧ recAt xs j 2 ≤ 3) (hb : ∀ q, q < 3 → 0 ≤ h q ∧ h q ≤ 1000) (k : (Nat → Int) → β) :
    i_front_add z N a b (recAt xs j 2) (recAt xs j 3 != 0) h k = k (frontF xs j h) := by
  have b0 := hb 0 (by omega)
  have b1 := hb 1 (by omega)
  have b2 := hb 2 (by omega)
  have u1 : upd h 0 (h 0 + 1) 1 = h 1 := by simp [upd_at]
  have u2 : upd h 0 (h 0 + 1) 2 = h 2 := by simp [upd_at]
  have f1 : (([] : List UInt8) == [117]) = false := by decide
  have f2 : (([] : List UInt8) == [100]) = false := by decide
  have f3 : (([117] : List UInt8) == [117]) = true := by decide
  have f4 : (([100] : List UInt8) == [117]) = false := by decide
  have f5 : (([100] : List UInt8) == [100]) = true := by decide
  unfold i_front_add i_Corner_letter i_Corner_isCusp frontF
  have hcase : recAt xs j 2 = 0 ∨ recAt xs j 2 = 1 ∨ recAt xs j 2 = 2 ∨ recAt xs j 2 = 3 := by omega
  rcases hcase with e | e | e | e
  · simp only [e, u1, u2]
    cases hx : (recAt xs j 3 != 0) <;> simp [f1, f2, f3, f4, f5, c_fits, b0, b1, b2, fits64]
    all_goals (rw [fits64 (by omega), fits64 (by omega)]; rfl)
  · simp only [e]
    simp [f1, f2]
  · simp only [e]
    simp [f1, f2]
  · simp only [e, u1, u2]
    cases hx : (recAt xs j 3 != 0) <;> simp [f1, f2, f3, f4, f5, c_fits, b0, b1, b2, fits64]
    all_goals (rw [fits64 (by omega), fits64 (by omega)]; rfl)
theorem i_Grid_front_val (z : β) {N : Nat} (hN : 16 < N) {n : Nat} {X O : Nat → Int} (g : GridP n X O) (hX : ∀ j, 0 ≤ X j) (hO : ∀ j, 0 ≤ O j) (k : (Nat → Int) → β) :
    i_Grid_front z N n X O k = k (iter (frontF (cornersL n X O)) (2 * n) 0 fun _ => 0) := by
  have h8 := g.hi
  unfold i_Grid_front
  rw [i_Grid_corners_val z (by omega) g hX hO]
  have hr := corner_recs (n := n) (X := X) (O := O)
  have hl := cornersL_len n X O
  generalize cornersL n X O = xs at *
  rw [c_ble (by omega)]
  refine up_to (L := fun m j h => i_Grid_front_l0 z N (8 * n) (2 * n) (2 * n) ((2 * n : Nat) : Int) n X O (fun _ => 0) xs m (j : Int) h fun q10 => k q10) (n := 2 * n) (out := k) (f := frontF xs)
    (I := fun i h => ∃ s : Int × Int, (0 ≤ s.1 ∧ 0 ≤ s.2 ∧ s.1 + s.2 ≤ i) ∧ h 0 = s.1 + s.2 ∧ h 1 = s.2 ∧ h 2 = s.1)
    (fun m j h hj ⟨s, hs, hh⟩ => ⟨?_, ⟨cuspF xs (fun _ => false) j s, cuspF_bd hs, frontF_get hh⟩⟩) (fun m s _ => by simp (disch := omega) only [i_Grid_front_l0, i_Grid_front_l0_s, c_nlt]) (2 * n) N 0 (fun _ => 0) (by omega) (by omega) ⟨(0, 0), by simp, by simp⟩
  obtain ⟨r0, r1, r2⟩ := hr j hj
  have e2 : xs[j * 4 + 2]?.getD 0 = recAt xs j 2 := rfl
  have e3 : xs[j * 4 + 3]?.getD 0 = recAt xs j 3 := rfl
  have hb : ∀ q, q < 3 → 0 ≤ h q ∧ h q ≤ 1000 := fun q hq => by
    obtain ⟨h0, h1, h2⟩ := hh
    have : q = 0 ∨ q = 1 ∨ q = 2 := by omega
    rcases this with rfl | rfl | rfl <;> omega
  simp only [i_Grid_front_l0, i_Grid_front_l0_s, c_and, Int.toNat_natCast, addO_eq, Nat.add_zero, e2, e3, i_front_add_val z N _ _ ⟨r1, r2⟩ hb]
  simp (disch := omega) only [c_lt, c_le, c_ble, c_blt, c_beq, c_fits]
  rfl
/-- The numbers of a front: cusps, those of the letter u, and those of the letter d. -/
theorem front_cusps (xs : List Int) (L : Nat) : (iter (frontF xs) L 0 fun _ => 0) 0 = (cuspS xs (fun _ => false) L).1 + (cuspS xs (fun _ => false) L).2 ∧ (iter (frontF xs) L 0 fun _ => 0) 1 = (cuspS xs (fun _ => false) L).2 ∧ (iter (frontF xs) L 0 fun _ => 0) 2 = (cuspS xs (fun _ => false) L).1 := by
  have key : ∀ (d i : Nat) (h : Nat → Int) (s : Int × Int), h 0 = s.1 + s.2 ∧ h 1 = s.2 ∧ h 2 = s.1 → iter (frontF xs) d i h 0 = (iter (cuspF xs fun _ => false) d i s).1 + (iter (cuspF xs fun _ => false) d i s).2 ∧ iter (frontF xs) d i h 1 = (iter (cuspF xs fun _ => false) d i s).2 ∧ iter (frontF xs) d i h 2 = (iter (cuspF xs fun _ => false) d i s).1 := by
    intro d
    induction d with
    | zero => exact fun i h s hh => hh
    | succ d ih => exact fun i h s hh => ih (i + 1) _ _ (frontF_get hh)
  exact key L 0 _ (0, 0) (by simp)
theorem skip_neg (wh : Nat → Int) : skipC wh (-1) = fun _ => false := by funext c; simp [skipC]
theorem w_FnExactCountCusps_val (z : β) {N : Nat} (hN : 100 < N) (n : Int) (X O : Nat → Int) (hX : ∀ j, j < 8 → 0 ≤ X j ∧ X j ≤ 255) (hO : ∀ j, j < 8 → 0 ≤ O j ∧ O j ≤ 255) (k0 : Bool → β) : w_FnExactCountCusps z N n X O k0 = k0 true := by
  unfold w_FnExactCountCusps
  have hN8 : 8 < N := by omega
  have hX0 := clip8_nn (a := X) fun j hj => (hX j hj).1
  have hO0 := clip8_nn (a := O) fun j hj => (hO j hj).1
  simp only [w_toGrid_val z hN8, s_CountCusps, i_CountCusps, i_whole_int64_v1, i_CountCusps_1, s_l01Is_val z hN8 _ _ _ hX0 hO0, i_IsGrid_val z hN8 _ _ _ hX0 hO0]
  cases hg : gridB n (clip8 X) (clip8 O) with
  | false => rfl
  | true =>
    obtain ⟨m, rfl, g⟩ := gridB_iff.1 hg
    have h8 := g.hi
    simp only [Bool.not_true, c_false, s_l07Cusps_val z (N := N) (by omega) g hX0 hO0, i_Grid_front_val z (N := N) (by omega) g hX0 hO0, skip_neg, (front_cusps _ _).1]
    have := cuspS_bd (cornersL m (clip8 X) (clip8 O)) (fun _ => false) (2 * m)
    rw [c_fits (by omega), c_nne rfl, c_nne rfl]
end
end Go.AM

namespace Go.AM
section
variable {β : Type}
/-- Is a number between two others? -/
def betB (x a b : Int) : Bool := decide ((bif decide (b < a) then b else a) < x) && decide (x < bif decide (a < b) then b else a)
theorem i_isBetween_val (z : β) (N : Nat) (x a b : Int) (k : Bool → β) : i_isBetween z N x a b k = k (betB x a b) := by
  unfold i_isBetween betB
  cases decide ((bif decide (b < a) then b else a) < x) <;> rfl
theorem l01In_between (z : β) (N : Nat) (x a b : Int) (k : Bool → β) : s_l01In z N x ((bif decide (b < a) then b else a) + 1) ((bif decide (a < b) then b else a) - 1) k = k (betB x a b) := by
  rw [s_l01In_val]
  unfold betB
  congr 1
  rw [Bool.eq_iff_iff, decide_eq_true_iff, Bool.and_eq_true, decide_eq_true_iff, decide_eq_true_iff]
  omega
/-- The sign of the crossing in a column and a row, or 0. -/
noncomputable def crossV (n : Nat) (X O : Nat → Int) (i r : Nat) : Int :=
  cond (betB r (X i) (O i)) (cond (betB i (rowOf n X r) (rowOf n O r)) (cond (decide (X i < O i) == decide ((rowOf n X r : Int) < rowOf n O r)) 1 (-1)) 0) 0
theorem crossV_cases (n : Nat) (X O : Nat → Int) (i r : Nat) : crossV n X O i r = 0 ∨ crossV n X O i r = 1 ∨ crossV n X O i r = -1 := by
  unfold crossV
  cases betB r (X i) (O i) <;> cases betB i (rowOf n X r) (rowOf n O r) <;> cases (decide (X i < O i) == decide ((rowOf n X r : Int) < rowOf n O r)) <;> simp
theorem min_bd {a b n : Int} (ha : 0 ≤ a ∧ a < n) (hb : 0 ≤ b ∧ b < n) : 0 ≤ (bif decide (b < a) then b else a) ∧ (bif decide (b < a) then b else a) < n := by cases decide (b < a) <;> simp <;> omega
theorem max_bd {a b n : Int} (ha : 0 ≤ a ∧ a < n) (hb : 0 ≤ b ∧ b < n) : 0 ≤ (bif decide (a < b) then b else a) ∧ (bif decide (a < b) then b else a) < n := by cases decide (a < b) <;> simp <;> omega
theorem GridP.bdX {n : Nat} {X O : Nat → Int} (g : GridP n X O) (hX : ∀ j, 0 ≤ X j) {i : Nat} (hi : i < n) : 0 ≤ X i ∧ X i < n := by
  have := g.px.2.1 i hi
  have := hX i
  omega
theorem s_l03Cross_val (z : β) {N : Nat} (hN : 8 < N) {n : Nat} {X O : Nat → Int} (g : GridP n X O) (hX : ∀ j, 0 ≤ X j) (hO : ∀ j, 0 ≤ O j) {i r : Nat} (hi : i < n) (hr : r < n) (k : Int → β) :
    s_l03Cross z N n X O i r k = k (crossV n X O i r) := by
  have h8 := g.hi
  have b1 := g.bdX hX hi
  have b2 := g.swap.bdX hO hi
  have r1 := (rowOf_spec g.px hX hr).1
  have r2 := (rowOf_spec g.po hO hr).1
  have m1 := min_bd (n := n) b1 b2
  have m2 := max_bd (n := n) b1 b2
  have m3 := min_bd (a := (rowOf n X r : Int)) (b := (rowOf n O r : Int)) (n := n) (by omega) (by omega)
  have m4 := max_bd (a := (rowOf n X r : Int)) (b := (rowOf n O r : Int)) (n := n) (by omega) (by omega)
  unfold s_l03Cross crossV
  simp only [c_and, Int.toNat_natCast]
  simp (disch := omega) only [c_lt, c_le, c_blt]
  rw [s_l01Row_val z hN h8 g.px hX hr, s_l01Row_val z hN h8 g.po hO hr]
  rw [c_fits (by omega), c_fits (by omega), l01In_between]
  cases betB r (X i) (O i) with
  | false => rfl
  | true =>
    simp only [Bool.not_true, c_false, c_true]
    rw [c_fits (by omega), c_fits (by omega), l01In_between]
    cases betB i (rowOf n X r) (rowOf n O r) with
    | false => rfl
    | true =>
      simp only [Bool.not_true, c_false, c_true]
      cases (decide (X i < O i) == decide ((rowOf n X r : Int) < rowOf n O r)) <;> rfl
noncomputable def crossF (n : Nat) (X O : Nat → Int) (i r : Nat) (s : List Int) : List Int := cond (crossV n X O i r != 0) (s ++ [(i : Int), (r : Int), crossV n X O i r]) s
noncomputable def crossR (n : Nat) (X O : Nat → Int) (i : Nat) (s : List Int) : List Int := iter (crossF n X O i) n 0 s
/-- All crossings. -/
noncomputable def crossL (n : Nat) (X O : Nat → Int) : List Int := iter (crossR n X O) n 0 []
/-- Lists of crossings. -/
structure CrossI (m : Nat) (s : List Int) : Prop where
  len : s.length = 3 * (s.length / 3)
  le : s.length / 3 ≤ m
  sg : ∀ j, j < s.length / 3 → s[j * 3 + 2]?.getD 0 = 1 ∨ s[j * 3 + 2]?.getD 0 = -1
theorem CrossI.step {m n i r : Nat} {X O : Nat → Int} {s : List Int} (h : CrossI m s) : CrossI (m + 1) (crossF n X O i r s) := by
  unfold crossF
  have h1 := h.len
  have h2 := h.le
  have hv := crossV_cases n X O i r
  generalize crossV n X O i r = v at *
  by_cases e : v = 0
  · rw [show (v != 0) = false by simpa using e, c_false]
    exact ⟨h1, by omega, h.sg⟩
  · rw [show (v != 0) = true by simpa using e, c_true]
    have hl : (s ++ [(i : Int), (r : Int), v]).length = s.length + 3 := by simp
    refine ⟨by omega, by omega, fun j hj => ?_⟩
    by_cases e2 : j < s.length / 3
    · rw [List.getElem?_append_left (by omega)]; exact h.sg j e2
    · rw [List.getElem?_append_right (by omega), show j * 3 + 2 - s.length = 2 by omega]
      simp
      omega
theorem CrossI.row {m n i : Nat} {X O : Nat → Int} {s : List Int} (h : CrossI m s) : ∀ d, CrossI (m + d) (iter (crossF n X O i) d 0 s) := by
  intro d
  induction d with
  | zero => exact h
  | succ d ih => rw [iter_succ]; exact ih.step
theorem CrossI.all {n : Nat} {X O : Nat → Int} : ∀ d, CrossI (n * d) (iter (crossR n X O) d 0 []) := by
  intro d
  induction d with
  | zero => exact ⟨by simp [iter], by simp [iter], fun j hj => by simp [iter] at hj⟩
  | succ d ih => rw [iter_succ, Nat.mul_succ]; exact ih.row n
theorem rec3 (i r v : Int) : List.map (upd (upd (upd (fun _ => 0) 0 i) 1 r) 2 v) (List.range 3) = [i, r, v] := rfl
theorem s_l03Crossings_l1_val (z : β) {N : Nat} (hN : 8 < N) {n : Nat} {X O : Nat → Int} (g : GridP n X O) (hX : ∀ j, 0 ≤ X j) (hO : ∀ j, 0 ≤ O j) {i m0 : Nat} (hi : i < n) (hm0 : m0 ≤ 1000) {s0 : List Int} (h0 : CrossI m0 s0) (k : Nat → Nat → Nat → List Int → β) :
    s_l03Crossings_l1 z N i n X O N s0.length (s0.length / 3) (s0.length / 3) 0 s0 k = k (crossR n X O i s0).length ((crossR n X O i s0).length / 3) ((crossR n X O i s0).length / 3) (crossR n X O i s0) := by
  have h8 := g.hi
  exact up_to (L := fun m r (s : List Int) => s_l03Crossings_l1 z N i n X O m s.length (s.length / 3) (s.length / 3) (r : Int) s k) (n := n) (out := fun s => k s.length (s.length / 3) (s.length / 3) s) (f := crossF n X O i) (I := fun r s => CrossI (m0 + r) s)
    (fun m r s hr hs => ⟨by
      have h1 := hs.len
      have h2 := hs.le
      have hl : ∀ v, (s ++ [(i : Int), (r : Int), v]).length = s.length + 3 := by simp
      simp only [s_l03Crossings_l1, s_l03Crossings_l1_s]
      rw [c_lt (by omega), s_l03Cross_val z hN g hX hO hi hr]
      unfold crossF
      cases crossV n X O i r != 0 with
      | true =>
        simp only [c_true, c_and, rec3]
        simp (disch := omega) only [c_ble, c_nble, c_beq, c_fits]
        rw [hl, show (s.length + 3) / 3 = s.length / 3 + 1 by omega]
        rfl
      | false =>
        simp only [c_false]
        rw [c_fits (by omega)]
        rfl, hs.step⟩)
    (fun m s _ => by simp (disch := omega) only [s_l03Crossings_l1, s_l03Crossings_l1_s, c_nlt]) n N 0 s0 (by omega) (by omega) h0
theorem s_l03Crossings_val (z : β) {N : Nat} (hN : 8 < N) {n : Nat} {X O : Nat → Int} (g : GridP n X O) (hX : ∀ j, 0 ≤ X j) (hO : ∀ j, 0 ≤ O j) (k : Nat → Nat → Nat → List Int → β) :
    s_l03Crossings z N n X O k = k (crossL n X O).length ((crossL n X O).length / 3) ((crossL n X O).length / 3) (crossL n X O) := by
  have h8 := g.hi
  unfold s_l03Crossings
  exact up_to (L := fun m i (s : List Int) => s_l03Crossings_l0 z N n X O m s.length (s.length / 3) (s.length / 3) (i : Int) s k) (n := n) (out := fun s => k s.length (s.length / 3) (s.length / 3) s) (f := crossR n X O) (I := fun i s => CrossI (n * i) s)
    (fun m i s hi hs => ⟨by
      have : n * i ≤ 8 * 8 := Nat.mul_le_mul h8 (by omega)
      simp only [s_l03Crossings_l0, s_l03Crossings_l0_s]
      rw [c_lt (by omega), s_l03Crossings_l1_val z hN g hX hO hi (by omega) hs, c_fits (by omega)]
      rfl, by rw [Nat.mul_succ]; exact hs.row n⟩)
    (fun m s _ => by simp (disch := omega) only [s_l03Crossings_l0, s_l03Crossings_l0_s, c_nlt]) n N 0 [] (by omega) (by omega) (CrossI.all (X := X) (O := O) 0)
theorem i_Grid_crossings_l1_val (z : β) {N : Nat} (hN : 8 < N) {n : Nat} {X O : Nat → Int} (g : GridP n X O) (hX : ∀ j, 0 ≤ X j) (hO : ∀ j, 0 ≤ O j) {i m0 : Nat} (hi : i < n) (hm0 : m0 ≤ 1000) {s0 : List Int} (h0 : CrossI m0 s0) (a b : Int) (k : Nat → Nat → Nat → List Int → β) :
    i_Grid_crossings_l1 z N i a b n n X O (plc n X) (plc n O) N s0.length (s0.length / 3) (s0.length / 3) 0 s0 k = k (crossR n X O i s0).length ((crossR n X O i s0).length / 3) ((crossR n X O i s0).length / 3) (crossR n X O i s0) := by
  have h8 := g.hi
  exact up_to (L := fun m r (s : List Int) => i_Grid_crossings_l1 z N i a b n n X O (plc n X) (plc n O) m s.length (s.length / 3) (s.length / 3) (r : Int) s k) (n := n) (out := fun s => k s.length (s.length / 3) (s.length / 3) s) (f := crossF n X O i) (I := fun r s => CrossI (m0 + r) s)
    (fun m r s hr hs => ⟨by
      have h1 := hs.len
      have h2 := hs.le
      have hl : ∀ v, (s ++ [(i : Int), (r : Int), v]).length = s.length + 3 := by simp
      have p1 := plc_spec g.px hX hr
      have p2 := plc_spec g.po hO hr
      have hne : (rowOf n X r : Int) ≠ rowOf n O r := fun e => by
        have e1 := rowOf_spec g.px hX hr
        have e2 := rowOf_spec g.po hO hr
        have := g.ne (rowOf n X r) e1.1
        rw [e1.2, show rowOf n X r = rowOf n O r by omega, e2.2] at this
        exact this rfl
      have hd : (decide (X i < O i) != decide ((rowOf n O r : Int) < rowOf n X r)) = (decide (X i < O i) == decide ((rowOf n X r : Int) < rowOf n O r)) := by
        by_cases e : (rowOf n X r : Int) < rowOf n O r
        · rw [decide_eq_true e, decide_eq_false (show ¬ (rowOf n O r : Int) < rowOf n X r by omega)]; cases decide (X i < O i) <;> rfl
        · rw [decide_eq_false e, decide_eq_true (show (rowOf n O r : Int) < rowOf n X r by omega)]; cases decide (X i < O i) <;> rfl
      simp only [i_Grid_crossings_l1, i_Grid_crossings_l1_s, c_and, Int.toNat_natCast, p1, p2, i_isBetween_val, hd]
      simp (disch := omega) only [c_lt, c_le, c_blt]
      unfold crossF crossV
      cases betB r (X i) (O i) with
      | false =>
        simp only [Bool.not_false, c_true, c_false]
        rw [c_fits (by omega)]
        rfl
      | true =>
        cases betB i (rowOf n X r) (rowOf n O r) with
        | false =>
          simp only [Bool.not_false, Bool.not_true, c_true, c_false]
          rw [c_fits (by omega)]
          rfl
        | true =>
          cases (decide (X i < O i) == decide ((rowOf n X r : Int) < rowOf n O r)) with
          | true =>
            simp only [Bool.not_true, c_true, c_false, rec3, show ((1 : Int) != 0) = true from rfl]
            simp (disch := omega) only [c_ble, c_nble, c_beq, c_fits]
            rw [hl, show (s.length + 3) / 3 = s.length / 3 + 1 by omega]
            rfl
          | false =>
            simp only [Bool.not_true, c_true, c_false, rec3, show ((-1 : Int) != 0) = true from rfl]
            simp (disch := omega) only [c_ble, c_nble, c_beq, c_fits]
            rw [hl, show (s.length + 3) / 3 = s.length / 3 + 1 by omega]
            rfl, hs.step⟩)
    (fun m s _ => by simp (disch := omega) only [i_Grid_crossings_l1, i_Grid_crossings_l1_s, c_nlt]) n N 0 s0 (by omega) (by omega) h0
theorem i_Grid_crossings_val (z : β) {N : Nat} (hN : 8 < N) {n : Nat} {X O : Nat → Int} (g : GridP n X O) (hX : ∀ j, 0 ≤ X j) (hO : ∀ j, 0 ≤ O j) (k : Nat → Nat → Nat → List Int → β) :
    i_Grid_crossings z N n X O k = k (crossL n X O).length ((crossL n X O).length / 3) ((crossL n X O).length / 3) (crossL n X O) := by
  have h8 := g.hi
  unfold i_Grid_crossings i_Grid_n
  rw [i_Grid_places_val z hN h8 g.px hX, i_Grid_places_val z hN h8 g.po hO]
  exact up_to (L := fun m i (s : List Int) => i_Grid_crossings_l0 z N n n X O (plc n X) (plc n O) m s.length (s.length / 3) (s.length / 3) (i : Int) s k) (n := n) (out := fun s => k s.length (s.length / 3) (s.length / 3) s) (f := crossR n X O) (I := fun i s => CrossI (n * i) s)
    (fun m i s hi hs => ⟨by
      have : n * i ≤ 8 * 8 := Nat.mul_le_mul h8 (by omega)
      simp only [i_Grid_crossings_l0, i_Grid_crossings_l0_s, i_Grid_n]
      rw [c_lt (by omega), i_Grid_crossings_l1_val z hN g hX hO hi (by omega) hs, c_fits (by omega)]
      rfl, by rw [Nat.mul_succ]; exact hs.row n⟩)
    (fun m s _ => by simp (disch := omega) only [i_Grid_crossings_l0, i_Grid_crossings_l0_s, c_nlt]) n N 0 [] (by omega) (by omega) (CrossI.all (X := X) (O := O) 0)
/-- The sum of the signs. -/
def writheF (xs : List Int) (j : Nat) (s : Int) : Int := s + xs[j * 3 + 2]?.getD 0
def writheS (xs : List Int) : Int := iter (writheF xs) (xs.length / 3) 0 0
theorem writheF_bd {m : Nat} {xs : List Int} (h : CrossI m xs) {j : Nat} (hj : j < xs.length / 3) {s : Int} (hs : -(j : Int) ≤ s ∧ s ≤ j) : -((j + 1 : Nat) : Int) ≤ writheF xs j s ∧ writheF xs j s ≤ (j + 1 : Nat) := by
  have := h.sg j hj
  unfold writheF
  omega
theorem writheS_bd {m : Nat} {xs : List Int} (h : CrossI m xs) : -(m : Int) ≤ writheS xs ∧ writheS xs ≤ m := by
  have := iter_inv (f := writheF xs) (n := xs.length / 3) (I := fun j s => -(j : Int) ≤ s ∧ s ≤ j) (fun j s hj hs => writheF_bd h hj hs) (xs.length / 3) 0 0 (by omega) (by simp)
  have h2 := h.le
  rw [Nat.zero_add] at this
  unfold writheS
  omega
theorem crossL_inv {n : Nat} (X O : Nat → Int) (h8 : n ≤ 8) : CrossI 64 (crossL n X O) := by
  have h : CrossI (n * n) (crossL n X O) := CrossI.all (n := n) (X := X) (O := O) n
  have : n * n ≤ 8 * 8 := Nat.mul_le_mul h8 h8
  exact ⟨h.len, by have := h.le; omega, h.sg⟩
theorem s_l03Writhe_val (z : β) {N : Nat} (hN : 100 < N) {n : Nat} {X O : Nat → Int} (g : GridP n X O) (hX : ∀ j, 0 ≤ X j) (hO : ∀ j, 0 ≤ O j) (k : Int → β) : s_l03Writhe z N n X O k = k (writheS (crossL n X O)) := by
  unfold s_l03Writhe
  rw [s_l03Crossings_val z (by omega) g hX hO]
  have h := crossL_inv X O g.hi
  generalize crossL n X O = xs at *
  have h1 := h.len
  have h2 := h.le
  exact up_to (L := fun m j s => s_l03Writhe_l0 z xs.length (xs.length / 3) (xs.length / 3) n X O xs m s (j : Int) k) (n := xs.length / 3) (out := k) (f := writheF xs) (I := fun j s => -(j : Int) ≤ s ∧ s ≤ j)
    (fun m j s hj hs => ⟨by
      have h3 := h.sg j hj
      have h4 := writheF_bd h hj hs
      unfold writheF at h4 ⊢
      simp only [s_l03Writhe_l0, s_l03Writhe_l0_s, c_and, Int.toNat_natCast, addO_eq]
      simp (disch := omega) only [c_lt, c_le, c_ble, c_blt, c_beq, c_fits]
      rfl, writheF_bd h hj hs⟩)
    (fun m s _ => by simp (disch := omega) only [s_l03Writhe_l0, s_l03Writhe_l0_s, c_nlt, c_ble]) (xs.length / 3) N 0 0 (by omega) (by omega) (by simp)
theorem i_Grid_writhe_val (z : β) {N : Nat} (hN : 100 < N) {n : Nat} {X O : Nat → Int} (g : GridP n X O) (hX : ∀ j, 0 ≤ X j) (hO : ∀ j, 0 ≤ O j) (k : Int → β) : i_Grid_writhe z N n X O k = k (writheS (crossL n X O)) := by
  unfold i_Grid_writhe
  rw [i_Grid_crossings_val z (by omega) g hX hO]
  have h := crossL_inv X O g.hi
  generalize crossL n X O = xs at *
  have h1 := h.len
  have h2 := h.le
  rw [c_ble (by omega)]
  exact up_to (L := fun m j s => i_Grid_writhe_l0 z xs.length (xs.length / 3) (xs.length / 3) ((xs.length / 3 : Nat) : Int) n X O xs m s (j : Int) k) (n := xs.length / 3) (out := k) (f := writheF xs) (I := fun j s => -(j : Int) ≤ s ∧ s ≤ j)
    (fun m j s hj hs => ⟨by
      have h3 := h.sg j hj
      have h4 := writheF_bd h hj hs
      unfold writheF at h4 ⊢
      simp only [i_Grid_writhe_l0, i_Grid_writhe_l0_s, c_and, Int.toNat_natCast, addO_eq]
      simp (disch := omega) only [c_lt, c_le, c_ble, c_blt, c_beq, c_fits]
      rfl, writheF_bd h hj hs⟩)
    (fun m s _ => by simp (disch := omega) only [i_Grid_writhe_l0, i_Grid_writhe_l0_s, c_nlt]) (xs.length / 3) N 0 0 (by omega) (by omega) (by simp)
/-- The numbers of a front. -/
noncomputable def tbS (n : Nat) (X O : Nat → Int) : Int := -writheS (crossL n X O) - ((cuspS (cornersL n X O) (fun _ => false) (2 * n)).1 + (cuspS (cornersL n X O) (fun _ => false) (2 * n)).2).tdiv 2
noncomputable def rotS (n : Nat) (X O : Nat → Int) : Int := ((cuspS (cornersL n X O) (fun _ => false) (2 * n)).1 - (cuspS (cornersL n X O) (fun _ => false) (2 * n)).2).tdiv 2
theorem tdiv2_bd {x m : Int} (h : -m ≤ x ∧ x ≤ m) : -m ≤ x.tdiv 2 ∧ x.tdiv 2 ≤ m := by
  cases x with
  | ofNat a =>
    have : (Int.ofNat a).tdiv 2 = ((a / 2 : Nat) : Int) := rfl
    have e : Int.ofNat a = (a : Int) := rfl
    rw [this]
    rw [e] at h
    omega
  | negSucc a =>
    have : (Int.negSucc a).tdiv 2 = -(((a + 1) / 2 : Nat) : Int) := rfl
    have e : Int.negSucc a = -((a : Int) + 1) := rfl
    rw [this]
    rw [e] at h
    omega
theorem nums_bd {n : Nat} {X O : Nat → Int} (h8 : n ≤ 8) : -100 ≤ tbS n X O ∧ tbS n X O ≤ 100 ∧ -100 ≤ rotS n X O ∧ rotS n X O ≤ 100 := by
  have h1 := cuspS_bd (cornersL n X O) (fun _ => false) (2 * n)
  have h2 := writheS_bd (crossL_inv X O h8)
  have h3 := tdiv2_bd (x := (cuspS (cornersL n X O) (fun _ => false) (2 * n)).1 + (cuspS (cornersL n X O) (fun _ => false) (2 * n)).2) (m := 16) (by omega)
  have h4 := tdiv2_bd (x := (cuspS (cornersL n X O) (fun _ => false) (2 * n)).1 - (cuspS (cornersL n X O) (fun _ => false) (2 * n)).2) (m := 16) (by omega)
  unfold tbS rotS
  omega
theorem s_l07Numbers_val (z : β) {N : Nat} (hN : 100 < N) {n : Nat} {X O : Nat → Int} (g : GridP n X O) (hX : ∀ j, 0 ≤ X j) (hO : ∀ j, 0 ≤ O j) (k : Int → Int → β) : s_l07Numbers z N n X O k = k (tbS n X O) (rotS n X O) := by
  unfold s_l07Numbers
  rw [s_l07Cusps_val z (by omega) g hX hO, s_l03Writhe_val z hN g hX hO, skip_neg]
  have h0 := nums_bd (X := X) (O := O) g.hi
  have h8 := g.hi
  have h1 := cuspS_bd (cornersL n X O) (fun _ => false) (2 * n)
  have h2 := writheS_bd (crossL_inv X O g.hi)
  unfold tbS rotS at *
  generalize cuspS (cornersL n X O) (fun _ => false) (2 * n) = s at *
  generalize writheS (crossL n X O) = w at *
  have h3 := tdiv2_bd (x := s.1 + s.2) (m := 16) (by omega)
  have h4 := tdiv2_bd (x := s.1 - s.2) (m := 16) (by omega)
  simp (disch := omega) only [c_fits]
theorem i_Grid_numbers_val (z : β) {N : Nat} (hN : 100 < N) {n : Nat} {X O : Nat → Int} (g : GridP n X O) (hX : ∀ j, 0 ≤ X j) (hO : ∀ j, 0 ≤ O j) (k : List Int → β) : i_Grid_numbers z N n X O k = k [tbS n X O, rotS n X O] := by
  unfold i_Grid_numbers i_front_numbers
  rw [i_Grid_front_val z (by omega) g hX hO, i_Grid_writhe_val z hN g hX hO]
  obtain ⟨f0, f1, f2⟩ := front_cusps (cornersL n X O) (2 * n)
  simp only [f0, f1, f2]
  have h0 := nums_bd (X := X) (O := O) g.hi
  have h8 := g.hi
  have h1 := cuspS_bd (cornersL n X O) (fun _ => false) (2 * n)
  have h2 := writheS_bd (crossL_inv X O g.hi)
  unfold tbS rotS at *
  generalize cuspS (cornersL n X O) (fun _ => false) (2 * n) = s at *
  generalize writheS (crossL n X O) = w at *
  have h3 := tdiv2_bd (x := s.1 + s.2) (m := 16) (by omega)
  have h4 := tdiv2_bd (x := s.1 - s.2) (m := 16) (by omega)
  simp (disch := omega) only [c_fits]
  rfl
theorem w_FnExactRotationOf_val (z : β) {N : Nat} (hN : 100 < N) (n : Int) (X O : Nat → Int) (hX : ∀ j, j < 8 → 0 ≤ X j ∧ X j ≤ 255) (hO : ∀ j, j < 8 → 0 ≤ O j ∧ O j ≤ 255) (k0 : Bool → β) : w_FnExactRotationOf z N n X O k0 = k0 true := by
  unfold w_FnExactRotationOf
  have hN8 : 8 < N := by omega
  have hX0 := clip8_nn (a := X) fun j hj => (hX j hj).1
  have hO0 := clip8_nn (a := O) fun j hj => (hO j hj).1
  simp only [w_toGrid_val z hN8, s_RotationOf, i_RotationOf, i_whole_int64_v1_s2, i_RotationOf_1, s_l01Is_val z hN8 _ _ _ hX0 hO0, i_IsGrid_val z hN8 _ _ _ hX0 hO0]
  cases hg : gridB n (clip8 X) (clip8 O) with
  | false => rfl
  | true =>
    obtain ⟨m, rfl, g⟩ := gridB_iff.1 hg
    simp only [Bool.not_true, c_false, s_l07Numbers_val z hN g hX0 hO0, i_Grid_numbers_val z hN g hX0 hO0]
    show cond (rotS m (clip8 X) (clip8 O) != rotS m (clip8 X) (clip8 O)) (k0 false) (cond ((0 : Int) != 0) (k0 false) (k0 true)) = k0 true
    rw [c_nne rfl, c_nne rfl]
end
end Go.AM

namespace Go.AM
section
variable {β : Type}
/-- Numbers that count from 1 on. -/
def upH (h : Nat → Int) : Nat → Int := fun j => if j < 8 then h j + 1 else 0
theorem upH_upd {h : Nat → Int} {k : Nat} (hk : k < 8) (c : Int) : upd (upH h) k (c + 1) = upH (upd h k c) := by
  funext j
  unfold upH
  simp only [upd_at]
  by_cases e : j = k
  · subst e; rw [if_pos rfl, if_pos rfl, if_pos hk]
  · rw [if_neg e, if_neg e]
theorem i_Grid_component_val (z : β) {N : Nat} (hN : 8 < N) {n : Nat} {X O : Nat → Int} (g : GridP n X O) (hX : ∀ j, 0 ≤ X j) (hO : ∀ j, 0 ≤ O j) (k : (Nat → Int) → Int → β) :
    i_Grid_component z N n X O k = k (fun j => if j < n then (compS (nxtC n X O) n).1 j else 0) (compS (nxtC n X O) n).2 := by
  have h8 := g.hi
  unfold i_Grid_component i_Grid_n
  rw [i_Grid_places_val z hN h8 g.px hX]
  have hlt := nxtC_lt g hX hO
  have inv := compS_inv hlt
  have main : ∀ kk : Int → (Nat → Int) → β, i_Grid_component_l0 z N n n X O (fun _ => 0) (plc n X) N 0 0 (fun _ => 0) kk = kk (compS (nxtC n X O) n).2 (upH (compS (nxtC n X O) n).1) := by
    intro kk
    have e0 : (fun _ : Nat => (0 : Int)) = upH fun j => if j < 8 then -1 else 0 := by
      funext j
      unfold upH
      by_cases e : j < 8
      · simp only [if_pos e]; rfl
      · simp only [if_neg e]
    have hst := up_to (L := fun m i s => i_Grid_component_l0 z N n n X O (fun _ => 0) (plc n X) m s.2 (i : Int) (upH s.1) kk) (n := n) (out := fun s => kk s.2 (upH s.1)) (f := compF (nxtC n X O) n) (I := CompI n)
      (fun m i s hi hI => ⟨?_, compF_step hlt hi hI⟩) (fun m s _ => by simp (disch := omega) only [i_Grid_component_l0, i_Grid_component_l0_s, c_nlt]) n N 0 ((fun j => if j < 8 then -1 else 0), 0) (by omega) (by omega)
      ⟨Int.le_refl _, Int.le_refl _, fun j hj => by omega, fun j hj => by simp [hj], fun j _ hj => by simp [hj]⟩
    · rw [← e0] at hst
      exact hst
    have h1 := hI.nn
    have h2 := hI.le
    have walk : ∀ kk : (Nat → Int) → β, i_Grid_component_l1 z (s.2 + 1) n i n X O (fun _ => 0) (plc n X) N (i : Int) (upH s.1) kk = kk (upH (walkH (nxtC n X O) s.2 n i s.1)) := by
      intro kk
      refine walk_loop (L := fun m k h => i_Grid_component_l1 z (s.2 + 1) n i n X O (fun _ => 0) (plc n X) m (k : Int) (upH h) kk) (out := fun h => kk (upH h)) (n := n) (nxt := nxtC n X O) (c := s.2) h1 hlt (I := fun h => ∀ j, j < 8 → -1 ≤ h j) (fun k h hk hI hu j hj => by
          rw [upd_at]; split
          · omega
          · exact hI j hj)
        (fun m k h hk hh hu => ?_) (fun m k h hk hh hu => ?_) n N i s.1 (cntU_le _ _) (by omega) hi (fun j hj => by have := hI.bd j hj; omega)
      · have o1 := g.swap.bdX hO hk
        have e : upH h k = 0 := by unfold upH; rw [if_pos (by omega)]; have := hh k (by omega); omega
        have ep : plc n X (O k).toNat = (nxtC n X O k : Int) := plc_spec g.px hX (by omega)
        simp only [i_Grid_component_l1, i_Grid_component_l1_s, c_and, Int.toNat_natCast, e, ep]
        simp (disch := omega) only [c_lt, c_le, c_blt, c_eq]
        rw [upH_upd (by omega)]
      · have e : upH h k ≠ 0 := by unfold upH; rw [if_pos (by omega)]; omega
        simp only [i_Grid_component_l1, i_Grid_component_l1_s, c_and, Int.toNat_natCast]
        simp (disch := omega) only [c_lt, c_le, c_blt, c_neq]
    have e : upH s.1 i = s.1 i + 1 := by unfold upH; rw [if_pos (by omega)]
    simp only [i_Grid_component_l0, i_Grid_component_l0_s, c_and, Int.toNat_natCast, walk, e]
    simp (disch := omega) only [c_lt, c_le, c_blt, c_fits]
    unfold compF
    by_cases hu : s.1 i < 0
    · rw [c_nlt (by omega), if_pos hu]
      rfl
    · rw [c_lt (by omega), if_neg hu]
      rfl
  rw [main]
  generalize hs : compS (nxtC n X O) n = s at *
  refine (up_to (L := fun m i h => i_Grid_component_l2 z s.2 n n X O (fun _ => 0) (plc n X) m (i : Int) h fun q9 => k q9 s.2) (n := n) (out := fun h => k h s.2) (f := fun i h => upd h i (h i - 1)) (I := fun i h => ∀ j, h j = if j < i then s.1 j else upH s.1 j)
    (fun m i h hi hh => ⟨by
      have e1 := hh i
      have e2 := inv.bd i (by omega)
      have e3 := inv.le
      rw [if_neg (by omega)] at e1
      unfold upH at e1
      rw [if_pos (by omega)] at e1
      simp only [i_Grid_component_l2, i_Grid_component_l2_s, c_and, Int.toNat_natCast]
      simp (disch := omega) only [c_lt, c_le, c_blt, c_fits]
      rfl, fun j => by
      rw [upd_at]
      by_cases e : j = i
      · subst e
        rw [if_pos rfl, if_pos (by omega), hh j, if_neg (by omega)]
        unfold upH
        rw [if_pos (by omega)]
        omega
      · rw [if_neg e, hh j]
        by_cases e2 : j < i
        · rw [if_pos e2, if_pos (by omega)]
        · rw [if_neg e2, if_neg (by omega)]⟩)
    (fun m s _ => by simp (disch := omega) only [i_Grid_component_l2, i_Grid_component_l2_s, c_nlt]) n N 0 (upH s.1) (by omega) (by omega) (fun j => by rw [if_neg (by omega)])).trans ?_
  congr 1
  have key := iter_inv (f := fun i (h : Nat → Int) => upd h i (h i - 1)) (n := n) (I := fun i h => ∀ j, h j = if j < i then s.1 j else upH s.1 j) (fun i h hi hh j => by
      rw [upd_at]
      by_cases e : j = i
      · subst e
        rw [if_pos rfl, if_pos (by omega), hh j, if_neg (by omega)]
        unfold upH
        rw [if_pos (by omega)]
        omega
      · rw [if_neg e, hh j]
        by_cases e2 : j < i
        · rw [if_pos e2, if_pos (by omega)]
        · rw [if_neg e2, if_neg (by omega)]) n 0 (upH s.1) (by omega) (fun j => by rw [if_neg (by omega)])
  funext j
  rw [Nat.zero_add] at key
  rw [key j]
  by_cases e : j < n
  · rw [if_pos e, if_pos e]
  · rw [if_neg e, if_neg e]
    unfold upH
    by_cases e2 : j < 8
    · rw [if_pos e2, inv.rest j (by omega) e2]; rfl
    · rw [if_neg e2]
end
end Go.AM

namespace Go.AM
section
variable {β : Type}
/-- The cells of a header. -/
abbrev idAt (ids : List (Nat × Nat)) (i : Nat) : Nat × Nat := ids[i]?.getD (0, 0)
abbrev rowAt (T : List (List Int)) (i : Nat) : List Int := T[i]?.getD []
/-- A table told by a header row and a pool of rows. -/
structure TabP (ids : List (Nat × Nat)) (pool T : List (List Int)) : Prop where
  len : T.length ≤ ids.length
  lt : ∀ i, i < T.length → (idAt ids i).1 < pool.length
  sz : ∀ i, i < T.length → (idAt ids i).2 = (rowAt T i).length
  row : ∀ i, i < T.length → rowAt pool (idAt ids i).1 = rowAt T i
  inj : ∀ i j, i < T.length → j < T.length → (idAt ids i).1 = (idAt ids j).1 → i = j
/-- How many cells the first rows have. -/
def total (T : List (List Int)) : Nat → Nat
  | 0 => 0
  | i + 1 => total T i + (rowAt T i).length
structure SmallT (N : Nat) (T : List (List Int)) : Prop where
  rows : T.length < N ∧ T.length ≤ 1000
  cols : ∀ i, i < T.length → (rowAt T i).length < N ∧ (rowAt T i).length ≤ 1000
theorem SmallT.total {N : Nat} {T : List (List Int)} (h : SmallT N T) : ∀ i, i ≤ T.length → total T i ≤ 1000 * i := by
  intro i
  induction i with
  | zero => intro _; exact Nat.le_refl _
  | succ i ih =>
    intro hi
    have := ih (by omega)
    have := (h.cols i (by omega)).2
    simp only [Go.AM.total]
    omega
theorem pair_beq {a b : Nat} (h : a = b) : (a.beq b) = true := by subst h; exact Nat.beq_refl a

/-! the law's functions on tables -/
theorem eqNil (z : β) {N : Nat} (hN : 0 < N) (k : Bool → β) : w_eqInt64SS z N k = k true := by
  obtain ⟨N, rfl⟩ : ∃ m, N = m + 1 := ⟨N - 1, by omega⟩
  simp (disch := omega) only [w_eqInt64SS, w_eqInt64SS_l0, w_eqInt64SS_l0_s, c_nlt]
theorem markNil (z : β) {N : Nat} (hN : 0 < N) (i : Int) (k : β) : w_markInt64SS z N i k = k := by
  obtain ⟨N, rfl⟩ : ∃ m, N = m + 1 := ⟨N - 1, by omega⟩
  simp (disch := omega) only [w_markInt64SS, w_markInt64SS_l0, w_markInt64SS_l0_s, c_nlt]
theorem heldNil (z : β) {N : Nat} (hN : 0 < N) (i : Int) (k : β) : w_heldInt64SS z N i k = k := by
  obtain ⟨N, rfl⟩ : ∃ m, N = m + 1 := ⟨N - 1, by omega⟩
  simp (disch := omega) only [w_heldInt64SS, w_heldInt64SS_l0, w_heldInt64SS_l0_s, c_nlt]

theorem eqRow (z : β) {N L c c' a b : Nat} (hN : L < N) (hl : L ≤ 1000) {P Q : List (List Int)} {xs : List Int} (ha : rowAt P a = xs) (hb : rowAt Q b = xs) (hx : xs.length = L) (k : Bool → β) :
    w_eqInt64S_s14 z N a 0 L L c b 0 L L c' P Q k = k true := by
  unfold w_eqInt64S_s14
  unfold rowAt at ha hb
  simp (disch := omega) only [c_ble, c_nne]
  exact (up_to_all (L := fun m i => w_eqInt64S_l0_s12 z a 0 L L c b 0 L L c' P Q m (i : Int) (k false) (k true)) (n := L) (kt := k true) (kf := k false) (p := fun _ => true)
    (fun m i hi => by
      simp only [w_eqInt64S_l0_s12, w_eqInt64S_l0_s12_s, c_and, Int.toNat_natCast, addO_eq, Nat.zero_add, ha, hb]
      simp (disch := omega) only [c_lt, c_le, c_blt, c_ble, c_beq, c_fits, c_nne]
      rfl)
    (fun m => by simp (disch := omega) only [w_eqInt64S_l0_s12, w_eqInt64S_l0_s12_s, c_ble, c_nlt]) L N 0 (by omega) hN).trans (by rw [(allFrom_iff L 0).2 fun _ _ _ => rfl]; rfl)
theorem eqTab (z : β) {N c c' : Nat} {ids ids' : List (Nat × Nat)} {P P' T : List (List Int)} (h : TabP ids P T) (h' : TabP ids' P' T) (s : SmallT N T) (k : Bool → β) :
    w_eqInt64SS_s4 z N ids.length T.length c ids'.length T.length c' ids ids' P P' k = k true := by
  have := s.rows
  have := h.len
  have := h'.len
  unfold w_eqInt64SS_s4
  simp (disch := omega) only [c_ble, c_nne]
  exact (up_to_all (L := fun m i => w_eqInt64SS_l0_s4 z N ids.length T.length c ids'.length T.length c' ids ids' P P' m (i : Int) (k false) (k true)) (n := T.length) (kt := k true) (kf := k false) (p := fun _ => true)
    (fun m i hi => by
      have e1 := h.sz i hi
      have e2 := h'.sz i hi
      have e3 := s.cols i hi
      have e4 := h.row i hi
      have e5 := h'.row i hi
      unfold idAt at e1 e2
      simp only [w_eqInt64SS_l0_s4, w_eqInt64SS_l0_s4_s, c_and, Int.toNat_natCast]
      simp (disch := omega) only [c_lt, c_le, c_blt, c_ble, c_beq, e1, e2]
      rw [eqRow z e3.1 e3.2 e4 e5 rfl]
      simp (disch := omega) only [Bool.not_true, cond_false, c_fits]
      rfl)
    (fun m => by simp (disch := omega) only [w_eqInt64SS_l0_s4, w_eqInt64SS_l0_s4_s, c_ble, c_nlt]) T.length N 0 (by omega) (by omega)).trans (by rw [(allFrom_iff T.length 0).2 fun _ _ _ => rfl]; rfl)

/-- A row that is marked from a number on. -/
def MarkR (k0 : Int) (L : Nat) (xs : List Int) : Prop := xs.length = L ∧ ∀ j, j < L → xs[j]?.getD 0 = k0 + j
theorem rowAt_set {P : List (List Int)} {a : Nat} {ys : List Int} (ha : a < P.length) (b : Nat) : rowAt (P.set a ys) b = if b = a then ys else rowAt P b := by
  unfold rowAt
  rw [List.getElem?_set]
  by_cases e : b = a
  · subst e; rw [if_pos rfl, if_pos ha, if_pos rfl]; rfl
  · rw [if_neg (Ne.symm e), if_neg e]
def markRowF (a : Nat) (k0 : Int) (i : Nat) (p : List (List Int)) : List (List Int) := p.set a ((rowAt p a).set i (k0 + i))
def markRowS (a : Nat) (k0 : Int) (L : Nat) (p : List (List Int)) : List (List Int) := iter (markRowF a k0) L 0 p
theorem markRowS_spec {a L : Nat} {k0 : Int} {P : List (List Int)} (ha : a < P.length) (hx : (rowAt P a).length = L) :
    (markRowS a k0 L P).length = P.length ∧ (∀ b, b ≠ a → rowAt (markRowS a k0 L P) b = rowAt P b) ∧ MarkR k0 L (rowAt (markRowS a k0 L P) a) := by
  have := iter_inv (f := markRowF a k0) (n := L) (I := fun i s => s.length = P.length ∧ (∀ b, b ≠ a → rowAt s b = rowAt P b) ∧ (rowAt s a).length = L ∧ ∀ j, j < i → (rowAt s a)[j]?.getD 0 = k0 + j)
    (fun i s hi ⟨i1, i2, i3, i4⟩ => by
      unfold markRowF
      refine ⟨by simp [i1], fun b hb => ?_, ?_, fun j hj => ?_⟩
      · rw [rowAt_set (by omega), if_neg hb]; exact i2 b hb
      · rw [rowAt_set (by omega), if_pos rfl, List.length_set]; exact i3
      · rw [rowAt_set (by omega), if_pos rfl, List.getElem?_set]
        by_cases e : i = j
        · subst e; rw [if_pos rfl, if_pos (by omega)]; rfl
        · rw [if_neg e]; exact i4 j (by omega)) L 0 P (by omega) ⟨rfl, fun _ _ => rfl, hx, fun j hj => by omega⟩
  rw [Nat.zero_add] at this
  exact this
theorem markRow (z : β) {N L c a : Nat} (hN : L < N) (hl : L ≤ 1000) {P : List (List Int)} {k0 : Int} (hk : 0 ≤ k0 ∧ k0 ≤ 1000000000) (ha : a < P.length) (hx : (rowAt P a).length = L) (k : Int → List (List Int) → β) :
    w_markInt64S_s6 z N a 0 L L c k0 P k = k (k0 + L) (markRowS a k0 L P) := by
  unfold w_markInt64S_s6
  have h1 := up_to (L := fun m i (s : List (List Int)) => w_markInt64S_l0_s6 z a 0 L L c m (k0 + i) (i : Int) s fun q10 q11 => k q10 q11) (n := L) (out := fun s => k (k0 + L) s) (f := markRowF a k0)
    (I := fun i s => s.length = P.length ∧ (rowAt s a).length = L)
    (fun m i s hi ⟨i1, i3⟩ => by
      unfold markRowF
      refine ⟨?_, by simp [i1], ?_⟩
      · have i3' := i3
        unfold rowAt at i3'
        simp only [w_markInt64S_l0_s6, w_markInt64S_l0_s6_s, c_and, Int.toNat_natCast, addO_eq, Nat.zero_add, i3']
        simp (disch := omega) only [c_lt, c_le, c_blt, c_ble, c_beq, c_fits]
        rw [show k0 + (i : Int) + 1 = k0 + ((i + 1 : Nat) : Int) by omega]
        rfl
      · rw [rowAt_set (by omega), if_pos rfl, List.length_set]; exact i3)
    (fun m s _ => by simp (disch := omega) only [w_markInt64S_l0_s6, w_markInt64S_l0_s6_s, c_ble, c_nlt]) L N 0 P (by omega) hN ⟨rfl, hx⟩
  refine Eq.trans ?_ h1
  simp
/-- A table that is marked. -/
structure TabM (ids : List (Nat × Nat)) (P T : List (List Int)) : Prop where
  len : T.length ≤ ids.length
  sz : ∀ i, i < T.length → (idAt ids i).2 = (rowAt T i).length
  row : ∀ i, i < T.length → MarkR (1 + total T i) (rowAt T i).length (rowAt P (idAt ids i).1)
def markTabF (ids : List (Nat × Nat)) (T : List (List Int)) (i : Nat) (p : List (List Int)) : List (List Int) := markRowS (idAt ids i).1 (1 + total T i) (rowAt T i).length p
def markTabS (ids : List (Nat × Nat)) (T P : List (List Int)) : List (List Int) := iter (markTabF ids T) T.length 0 P
theorem markTab (z : β) {N c : Nat} {ids : List (Nat × Nat)} {P T : List (List Int)} (h : TabP ids P T) (s : SmallT N T) (k : Int → List (List Int) → β) :
    w_markInt64SS_s2 z N ids.length T.length c 1 ids P k = k (1 + total T T.length) (markTabS ids T P) := by
  have hr := s.rows
  have hlen := h.len
  unfold w_markInt64SS_s2
  exact up_to (L := fun m i (p : List (List Int)) => w_markInt64SS_l0_s2 z N ids.length T.length c ids m (1 + total T i) (i : Int) p fun q9 q10 => k q9 q10) (n := T.length) (out := fun p => k (1 + total T T.length) p) (f := markTabF ids T)
    (I := fun i p => p.length = P.length ∧ ∀ j, i ≤ j → j < T.length → rowAt p (idAt ids j).1 = rowAt T j)
    (fun m i p hi ⟨i1, i2⟩ => by
      have e1 := h.sz i hi
      have e3 := s.cols i hi
      have e6 := s.total i (by omega)
      have hx : (rowAt p (idAt ids i).1).length = (rowAt T i).length := by rw [i2 i (Nat.le_refl _) hi]
      have hlt : (idAt ids i).1 < p.length := by rw [i1]; exact h.lt i hi
      obtain ⟨g2, g3, g4⟩ := markRowS_spec (k0 := 1 + total T i) hlt hx
      refine ⟨?_, by unfold markTabF; rw [g2, i1], fun j hj1 hj2 => ?_⟩
      · unfold idAt at e1
        simp only [w_markInt64SS_l0_s2, w_markInt64SS_l0_s2_s, c_and, Int.toNat_natCast]
        simp (disch := omega) only [c_lt, c_le, c_blt, c_ble, c_beq, e1]
        rw [markRow z e3.1 e3.2 (by omega) hlt hx]
        simp (disch := omega) only [c_fits]
        rw [show (1 : Int) + (total T i : Int) + ((rowAt T i).length : Int) = 1 + ((total T (i + 1) : Nat) : Int) by simp only [total]; omega]
        rfl
      · unfold markTabF
        rw [g3 _ (fun e => by have := h.inj j i hj2 hi e; omega)]; exact i2 j (by omega) hj2)
    (fun m p _ => by simp (disch := omega) only [w_markInt64SS_l0_s2, w_markInt64SS_l0_s2_s, c_ble, c_nlt]) T.length N 0 P (by omega) (by omega) ⟨rfl, fun j _ hj => h.row j hj⟩
theorem markTab_spec {ids : List (Nat × Nat)} {P T : List (List Int)} (h : TabP ids P T) : TabM ids (markTabS ids T P) T := by
  have := iter_inv (f := markTabF ids T) (n := T.length) (I := fun i p => p.length = P.length ∧ (∀ j, i ≤ j → j < T.length → rowAt p (idAt ids j).1 = rowAt T j) ∧ ∀ j, j < i → MarkR (1 + total T j) (rowAt T j).length (rowAt p (idAt ids j).1))
    (fun i p hi ⟨i1, i2, i3⟩ => by
      have hx : (rowAt p (idAt ids i).1).length = (rowAt T i).length := by rw [i2 i (Nat.le_refl _) hi]
      have hlt : (idAt ids i).1 < p.length := by rw [i1]; exact h.lt i hi
      obtain ⟨g2, g3, g4⟩ := markRowS_spec (k0 := 1 + total T i) hlt hx
      unfold markTabF
      refine ⟨by rw [g2, i1], fun j hj1 hj2 => ?_, fun j hj => ?_⟩
      · rw [g3 _ (fun e => by have := h.inj j i hj2 hi e; omega)]; exact i2 j (by omega) hj2
      · by_cases e : j = i
        · subst e; exact g4
        · rw [g3 _ (fun e' => e (h.inj j i (by omega) hi e'))]; exact i3 j (by omega)) T.length 0 P (by omega) ⟨rfl, fun j _ hj => h.row j hj, fun j hj => by omega⟩
  rw [Nat.zero_add] at this
  exact ⟨h.len, h.sz, this.2.2⟩
theorem heldRow (z : β) {N L c a : Nat} (hN : L < N) (hl : L ≤ 1000) {P : List (List Int)} {k0 : Int} (hk : 0 ≤ k0 ∧ k0 ≤ 1000000000) (hx : MarkR k0 L (rowAt P a)) (k : Int → β) :
    w_heldInt64S_s6 z N a 0 L L c k0 P k = k (k0 + L) := by
  obtain ⟨hx, hm⟩ := hx
  unfold rowAt at hx hm
  unfold w_heldInt64S_s6
  refine Eq.trans (b := w_heldInt64S_l0_s6 z a 0 L L c P N (k0 + (0 : Nat)) ((0 : Nat) : Int) (k (-1)) fun q10 => k q10) (by simp) ?_
  exact (up_to_all (L := fun m i => w_heldInt64S_l0_s6 z a 0 L L c P m (k0 + (i : Nat)) (i : Int) (k (-1)) fun q10 => k q10) (n := L) (kt := k (k0 + L)) (kf := k (-1)) (p := fun _ => true)
    (fun m i hi => by
      have := hm i hi
      simp only [w_heldInt64S_l0_s6, w_heldInt64S_l0_s6_s, c_and, Int.toNat_natCast, addO_eq, Nat.zero_add]
      simp (disch := omega) only [c_lt, c_le, c_blt, c_ble, c_beq, c_fits, c_nne]
      rw [show k0 + (i : Int) + 1 = k0 + ((i + 1 : Nat) : Int) by omega]
      rfl)
    (fun m => by simp (disch := omega) only [w_heldInt64S_l0_s6, w_heldInt64S_l0_s6_s, c_ble, c_nlt]) L N 0 (by omega) hN).trans (by rw [(allFrom_iff L 0).2 fun _ _ _ => rfl]; rfl)
theorem heldTab (z : β) {N c : Nat} {ids : List (Nat × Nat)} {P T : List (List Int)} (h : TabM ids P T) (s : SmallT N T) (k : Int → β) :
    w_heldInt64SS_s2 z N ids.length T.length c 1 ids P k = k (1 + total T T.length) := by
  have hr := s.rows
  have hlen := h.len
  unfold w_heldInt64SS_s2
  exact (up_to_all (L := fun m i => w_heldInt64SS_l0_s2 z N ids.length T.length c ids P m (1 + (total T i : Nat)) (i : Int) (k (-1)) fun q9 => k q9) (n := T.length) (kt := k (1 + total T T.length)) (kf := k (-1)) (p := fun _ => true)
    (fun m i hi => by
      have e1 := h.sz i hi
      have e3 := s.cols i hi
      have e6 := s.total i (by omega)
      unfold idAt at e1
      simp only [w_heldInt64SS_l0_s2, w_heldInt64SS_l0_s2_s, c_and, Int.toNat_natCast]
      simp (disch := omega) only [c_lt, c_le, c_blt, c_ble, c_beq, e1]
      rw [heldRow z e3.1 e3.2 (by omega) (h.row i hi)]
      simp (disch := omega) only [c_fits, c_nlt]
      rw [show (1 : Int) + (total T i : Int) + ((rowAt T i).length : Int) = 1 + ((total T (i + 1) : Nat) : Int) by simp only [total]; omega]
      rfl)
    (fun m => by simp (disch := omega) only [w_heldInt64SS_l0_s2, w_heldInt64SS_l0_s2_s, c_ble, c_nlt]) T.length N 0 (by omega) (by omega)).trans (by rw [(allFrom_iff T.length 0).2 fun _ _ _ => rfl]; rfl)

/-! tables that are built by appends -/
def idsOf (T : List (List Int)) : List (Nat × Nat) := (List.range T.length).map fun i => (i, (rowAt T i).length)
theorem idsOf_len (T : List (List Int)) : (idsOf T).length = T.length := by simp [idsOf]
theorem idsOf_at (T : List (List Int)) {i : Nat} (hi : i < T.length) : idAt (idsOf T) i = (i, (rowAt T i).length) := by
  simp [idAt, idsOf, hi]
theorem idsOf_app (T : List (List Int)) (x : List Int) : idsOf (T ++ [x]) = idsOf T ++ [(T.length, x.length)] := by
  unfold idsOf
  rw [List.length_append, List.length_singleton, List.range_succ, List.map_append]
  congr 1
  · refine List.map_congr_left fun i hi => ?_
    rw [List.mem_range] at hi
    unfold rowAt
    rw [List.getElem?_append_left hi]
  · simp [rowAt]
theorem TabP.of_app (T : List (List Int)) : TabP (idsOf T) T T where
  len := by rw [idsOf_len]; exact Nat.le_refl _
  lt i hi := by rw [idsOf_at T hi]; exact hi
  sz i hi := by rw [idsOf_at T hi]
  row i hi := by rw [idsOf_at T hi]
  inj i j hi hj e := by rw [idsOf_at T hi, idsOf_at T hj] at e; exact e
end
end Go.AM

namespace Go.AM
/-! matrices in tables -/
abbrev Mat := Nat → Nat → Int
/-- A table of rows of the same length. -/
structure TabF (ids : List (Nat × Nat)) (pool : List (List Int)) (R W : Nat) (m : Mat) : Prop where
  len : R ≤ ids.length
  lt : ∀ i, i < R → (idAt ids i).1 < pool.length
  sz : ∀ i, i < R → (idAt ids i).2 = W
  wide : ∀ i, i < R → (rowAt pool (idAt ids i).1).length = W
  cell : ∀ i j, i < R → j < W → (rowAt pool (idAt ids i).1)[j]?.getD 0 = m i j
  inj : ∀ i j, i < R → j < R → (idAt ids i).1 = (idAt ids j).1 → i = j
theorem idAt_set {ids : List (Nat × Nat)} {a : Nat} {v : Nat × Nat} (ha : a < ids.length) (b : Nat) : idAt (ids.set a v) b = if b = a then v else idAt ids b := by
  unfold idAt
  rw [List.getElem?_set]
  by_cases e : b = a
  · subst e; rw [if_pos rfl, if_pos ha, if_pos rfl]; rfl
  · rw [if_neg (Ne.symm e), if_neg e]
def swapN (a b i : Nat) : Nat := if i = b then a else if i = a then b else i
def swapM (a b : Nat) (m : Mat) : Mat := fun i j => m (swapN a b i) j
theorem swapN_lt {a b i R : Nat} (ha : a < R) (hb : b < R) (hi : i < R) : swapN a b i < R := by
  unfold swapN; split
  · exact ha
  · split <;> omega
theorem swapN_inj {a b i j : Nat} (h : swapN a b i = swapN a b j) : i = j := by
  unfold swapN at h
  split at h
  · split at h
    · omega
    · split at h <;> omega
  · split at h
    · split at h
      · omega
      · split at h <;> omega
    · split at h
      · omega
      · split at h <;> omega
theorem idAt_swap {ids : List (Nat × Nat)} {a b : Nat} (ha : a < ids.length) (hb : b < ids.length) (i : Nat) : idAt ((ids.set a (idAt ids b)).set b (idAt ids a)) i = idAt ids (swapN a b i) := by
  rw [idAt_set (by simpa using hb), idAt_set ha]
  unfold swapN
  split
  · rfl
  · split <;> rfl
theorem TabF.swap {ids : List (Nat × Nat)} {pool : List (List Int)} {R W : Nat} {m : Mat} (h : TabF ids pool R W m) {a b : Nat} (ha : a < R) (hb : b < R) : TabF ((ids.set a (idAt ids b)).set b (idAt ids a)) pool R W (swapM a b m) := by
  have hl := h.len
  have e := fun i => idAt_swap (ids := ids) (a := a) (b := b) (by omega) (by omega) i
  refine ⟨by simpa using hl, fun i hi => ?_, fun i hi => ?_, fun i hi => ?_, fun i j hi hj => ?_, fun i j hi hj he => ?_⟩
  · rw [e]; exact h.lt _ (swapN_lt ha hb hi)
  · rw [e]; exact h.sz _ (swapN_lt ha hb hi)
  · rw [e]; exact h.wide _ (swapN_lt ha hb hi)
  · rw [e]; exact h.cell _ j (swapN_lt ha hb hi) hj
  · rw [e, e] at he; exact swapN_inj (h.inj _ _ (swapN_lt ha hb hi) (swapN_lt ha hb hj) he)
def putM (m : Mat) (i j : Nat) (v : Int) : Mat := fun i' j' => if i' = i ∧ j' = j then v else m i' j'
def putP (ids : List (Nat × Nat)) (pool : List (List Int)) (i j : Nat) (v : Int) : List (List Int) := pool.set (idAt ids i).1 ((rowAt pool (idAt ids i).1).set j v)
theorem TabF.put {ids : List (Nat × Nat)} {pool : List (List Int)} {R W : Nat} {m : Mat} (h : TabF ids pool R W m) {i j : Nat} (hi : i < R) (hj : j < W) (v : Int) : TabF ids (putP ids pool i j v) R W (putM m i j v) := by
  have hlt := h.lt i hi
  have e := fun b => rowAt_set (P := pool) (ys := (rowAt pool (idAt ids i).1).set j v) hlt b
  unfold putP
  refine ⟨h.len, fun i' hi' => by rw [List.length_set]; exact h.lt i' hi', h.sz, fun i' hi' => ?_, fun i' j' hi' hj' => ?_, h.inj⟩
  · rw [e]; split
    · rw [List.length_set]; exact h.wide i hi
    · exact h.wide i' hi'
  · rw [e]
    unfold putM
    by_cases e1 : i' = i
    · subst e1
      rw [if_pos rfl, List.getElem?_set]
      by_cases e2 : j' = j
      · subst e2; rw [if_pos rfl, if_pos (by rw [h.wide i' hi']; exact hj), if_pos ⟨rfl, rfl⟩]; rfl
      · rw [if_neg (Ne.symm e2), if_neg (fun hh => e2 hh.2)]; exact h.cell i' j' hi' hj'
    · rw [if_neg (fun hh => e1 (h.inj _ _ hi' hi hh)), if_neg (fun hh => e1 hh.1)]; exact h.cell i' j' hi' hj'
/-- A row that is put in another's place. -/
def rowM (m : Mat) (i : Nat) (xs : List Int) : Mat := fun i' j' => if i' = i then xs[j']?.getD 0 else m i' j'
theorem TabF.fresh {ids : List (Nat × Nat)} {pool : List (List Int)} {R W : Nat} {m : Mat} (h : TabF ids pool R W m) {i : Nat} (hi : i < R) {xs : List Int} (hx : xs.length = W) {v : Nat × Nat} (hv : v = (pool.length, W)) :
    TabF (ids.set i v) (pool ++ [xs]) R W (rowM m i xs) := by
  subst hv
  have hl := h.len
  have e := fun b => idAt_set (ids := ids) (a := i) (v := (pool.length, W)) (by omega) b
  have ro : ∀ a, a < pool.length → rowAt (pool ++ [xs]) a = rowAt pool a := fun a ha => by unfold rowAt; rw [List.getElem?_append_left ha]
  have rn : rowAt (pool ++ [xs]) pool.length = xs := by unfold rowAt; simp
  refine ⟨by simpa using hl, fun i' hi' => ?_, fun i' hi' => ?_, fun i' hi' => ?_, fun i' j' hi' hj' => ?_, fun i1 i2 h1 h2 he => ?_⟩
  · rw [e, List.length_append, List.length_singleton]; split
    · simp
    · have := h.lt i' hi'; omega
  · rw [e]; split
    · rfl
    · exact h.sz i' hi'
  · rw [e]; split
    · rw [rn]; exact hx
    · rw [ro _ (h.lt i' hi')]; exact h.wide i' hi'
  · rw [e]; unfold rowM; split
    · rw [rn]
    · rw [ro _ (h.lt i' hi')]; exact h.cell i' j' hi' hj'
  · rw [e, e] at he
    split at he
    · split at he
      · omega
      · have := h.lt i2 h2; simp only at he; omega
    · split at he
      · have := h.lt i1 h1; simp only at he; omega
      · exact h.inj _ _ h1 h2 he
theorem TabF.of_app {T : List (List Int)} {R W : Nat} {m : Mat} (hl : T.length = R) (hw : ∀ i, i < R → (rowAt T i).length = W) (hc : ∀ i j, i < R → j < W → (rowAt T i)[j]?.getD 0 = m i j) : TabF (idsOf T) T R W m := by
  refine ⟨by rw [idsOf_len]; omega, fun i hi => ?_, fun i hi => ?_, fun i hi => ?_, fun i j hi hj => ?_, fun i j hi hj e => ?_⟩
  · rw [idsOf_at T (by omega)]; show i < T.length; omega
  · rw [idsOf_at T (by omega)]; exact hw i hi
  · rw [idsOf_at T (by omega)]; exact hw i hi
  · rw [idsOf_at T (by omega)]; exact hc i j hi hj
  · rw [idsOf_at T (by omega), idsOf_at T (by omega)] at e; exact e
end Go.AM

namespace Go.AM
section
variable {β : Type}
/-- The columns and the rows of crossings lie on the grid. -/
def CrossB (n : Nat) (s : List Int) : Prop := ∀ j, j < s.length / 3 → ∃ i r : Nat, i < n ∧ r < n ∧ s[j * 3]?.getD 0 = i ∧ s[j * 3 + 1]?.getD 0 = r
theorem CrossB.step {m n i r : Nat} {X O : Nat → Int} {s : List Int} (h : CrossI m s) (hb : CrossB n s) (hi : i < n) (hr : r < n) : CrossB n (crossF n X O i r s) := by
  unfold crossF
  have h1 := h.len
  generalize crossV n X O i r = v at *
  by_cases e : v = 0
  · rw [show (v != 0) = false by simpa using e, c_false]; exact hb
  · rw [show (v != 0) = true by simpa using e, c_true]
    have hl : (s ++ [(i : Int), (r : Int), v]).length = s.length + 3 := by simp
    intro j hj
    by_cases e2 : j < s.length / 3
    · rw [List.getElem?_append_left (by omega), List.getElem?_append_left (by omega)]; exact hb j e2
    · rw [List.getElem?_append_right (by omega), List.getElem?_append_right (by omega), show j * 3 - s.length = 0 by omega, show j * 3 + 1 - s.length = 1 by omega]
      exact ⟨i, r, hi, hr, rfl, rfl⟩
theorem CrossB.row {m n i : Nat} {X O : Nat → Int} {s : List Int} (h : CrossI m s) (hb : CrossB n s) (hi : i < n) : ∀ d, d ≤ n → CrossB n (iter (crossF n X O i) d 0 s) := by
  intro d
  induction d with
  | zero => exact fun _ => hb
  | succ d ih => intro hd; rw [iter_succ]; exact CrossB.step (h.row d) (ih (by omega)) hi (by omega)
theorem CrossB.all {n : Nat} {X O : Nat → Int} : ∀ d, d ≤ n → CrossB n (iter (crossR n X O) d 0 []) := by
  intro d
  induction d with
  | zero => exact fun _ j hj => by simp [iter] at hj
  | succ d ih => intro hd; rw [iter_succ]; exact CrossB.row (CrossI.all d) (ih (by omega)) (by omega) n (Nat.le_refl n)
/-- What is known of a grid's crossings and components. -/
structure LinkP (n cnt : Nat) (X : Nat → Int) (wh : Nat → Nat) (xs : List Int) : Prop where
  c : CrossI 64 xs
  b : CrossB n xs
  wh : ∀ i, i < n → wh i < cnt
  cn : cnt ≤ n
  h8 : n ≤ 8
/-- The components of a crossing. -/
noncomputable def lA (wh : Nat → Nat) (xs : List Int) (j : Nat) : Nat := wh (xs[j * 3]?.getD 0).toNat
noncomputable def lB (n : Nat) (X : Nat → Int) (wh : Nat → Nat) (xs : List Int) (j : Nat) : Nat := wh (rowOf n X (xs[j * 3 + 1]?.getD 0).toNat)
/-- The sum of the signs of a component's own crossings. -/
noncomputable def ownF (n : Nat) (X : Nat → Int) (wh : Nat → Nat) (xs : List Int) (c : Nat) (j : Nat) (s : Int) : Int := if lA wh xs j = c ∧ lB n X wh xs j = c then s + xs[j * 3 + 2]?.getD 0 else s
noncomputable def ownS (n : Nat) (X : Nat → Int) (wh : Nat → Nat) (xs : List Int) (c : Nat) : Int := iter (ownF n X wh xs c) (xs.length / 3) 0 0
theorem ownS_bd {m n : Nat} {X : Nat → Int} {wh : Nat → Nat} {xs : List Int} (h : CrossI m xs) (c : Nat) : -(m : Int) ≤ ownS n X wh xs c ∧ ownS n X wh xs c ≤ m := by
  have := iter_inv (f := ownF n X wh xs c) (n := xs.length / 3) (I := fun j s => -(j : Int) ≤ s ∧ s ≤ j) (fun j s hj hs => by
    have := h.sg j hj
    unfold ownF
    split <;> omega) (xs.length / 3) 0 0 (by omega) (by simp)
  have h2 := h.le
  rw [Nat.zero_add] at this
  unfold ownS
  omega
/-- A table whose diagonal is told. -/
structure DiagP (ids : List (Nat × Nat)) (pool : List (List Int)) (cnt : Nat) (D : Nat → Int) : Prop where
  len : ids.length = cnt
  sz : ∀ i, i < cnt → (idAt ids i).2 = cnt
  wide : ∀ i, i < cnt → (rowAt pool (idAt ids i).1).length = cnt
  cell : ∀ i, i < cnt → (rowAt pool (idAt ids i).1)[i]?.getD 0 = D i
/-! the spec's table -/
noncomputable def tabF (n : Nat) (X : Nat → Int) (wh : Nat → Nat) (xs : List Int) (j : Nat) (T : Nat → Int) : Nat → Int := upd T (lA wh xs j * 8 + lB n X wh xs j) (T (lA wh xs j * 8 + lB n X wh xs j) + xs[j * 3 + 2]?.getD 0)
theorem link_l0 (z : β) {N n cnt : Nat} (hN : 100 < N) {X O : Nat → Int} (g : GridP n X O) (hX : ∀ j, 0 ≤ X j) {wh : Nat → Nat} {h1 : Nat → Int} {xs : List Int} (L : LinkP n cnt X wh xs) (hw : ∀ i, i < n → h1 i = wh i) (t5 : Int) (k : (Nat → Int) → β) :
    ∃ T : Nat → Int, (∀ q, -64 ≤ T q ∧ T q ≤ 64) ∧ (∀ c, c < cnt → T (c * 8 + c) = ownS n X wh xs c) ∧ s_LinkingTable_l0 z N t5 xs.length (xs.length / 3) (xs.length / 3) n X O h1 xs N 0 (fun _ => 0) k = k T := by
  have hc := L.c
  have h8 := L.h8
  have hcn := L.cn
  have hle := hc.le
  have hlen := hc.len
  have step : ∀ (j : Nat) (s : Nat → Int), j < xs.length / 3 → ((∀ q, -(j : Int) ≤ s q ∧ s q ≤ j) ∧ ∀ c, c < cnt → s (c * 8 + c) = iter (ownF n X wh xs c) j 0 0) →
      ((∀ q, -((j + 1 : Nat) : Int) ≤ tabF n X wh xs j s q ∧ tabF n X wh xs j s q ≤ (j + 1 : Nat)) ∧ ∀ c, c < cnt → tabF n X wh xs j s (c * 8 + c) = iter (ownF n X wh xs c) (j + 1) 0 0) := by
    intro j s hj ⟨i1, i2⟩
    obtain ⟨i, r, q1, q2, q3, q4⟩ := L.b j hj
    have sg := hc.sg j hj
    have ha : lA wh xs j < cnt := by unfold lA; rw [q3]; exact L.wh _ q1
    have hb : lB n X wh xs j < cnt := by unfold lB; rw [q4]; exact L.wh _ (rowOf_spec g.px hX q2).1
    refine ⟨fun q => ?_, fun c hcc => ?_⟩
    · have := i1 q
      have := i1 (lA wh xs j * 8 + lB n X wh xs j)
      unfold tabF
      rw [upd_at]
      split <;> omega
    · rw [iter_succ, Nat.zero_add]
      have eo : ∀ v, ownF n X wh xs c j v = if lA wh xs j = c ∧ lB n X wh xs j = c then v + xs[j * 3 + 2]?.getD 0 else v := fun v => rfl
      rw [eo]
      unfold tabF
      rw [upd_at, i2 c hcc]
      by_cases e : lA wh xs j = c ∧ lB n X wh xs j = c
      · rw [if_pos (by omega), if_pos e, e.1, e.2, i2 c hcc]
      · rw [if_neg (by omega), if_neg e]
  have hT := iter_inv (f := tabF n X wh xs) (n := xs.length / 3) (I := fun j s => (∀ q, -(j : Int) ≤ s q ∧ s q ≤ j) ∧ ∀ c, c < cnt → s (c * 8 + c) = iter (ownF n X wh xs c) j 0 0) step (xs.length / 3) 0 (fun _ => 0) (by omega) ⟨fun q => by simp, fun c _ => rfl⟩
  rw [Nat.zero_add] at hT
  refine ⟨_, fun q => by have := hT.1 q; omega, hT.2, ?_⟩
  refine up_to (L := fun m j s => s_LinkingTable_l0 z N t5 xs.length (xs.length / 3) (xs.length / 3) n X O h1 xs m (j : Int) s k) (n := xs.length / 3) (out := k) (f := tabF n X wh xs) (I := fun j s => (∀ q, -(j : Int) ≤ s q ∧ s q ≤ j) ∧ ∀ c, c < cnt → s (c * 8 + c) = iter (ownF n X wh xs c) j 0 0)
    (fun m j s hj hs => ⟨?_, step j s hj hs⟩)
    (fun m s _ => by simp (disch := omega) only [s_LinkingTable_l0, s_LinkingTable_l0_s, c_ble, c_nlt]) (xs.length / 3) N 0 (fun _ => 0) (by omega) (by omega) ⟨fun q => by simp, fun c _ => rfl⟩
  obtain ⟨i, r, q1, q2, q3, q4⟩ := L.b j hj
  have sg := hc.sg j hj
  have hro := (rowOf_spec g.px hX q2).1
  have ha := L.wh _ q1
  have hb := L.wh _ hro
  have w1 := hw _ q1
  have w2 := hw _ hro
  have b1 := hs.1 (wh i * 8 + wh (rowOf n X r))
  have eA : lA wh xs j = wh i := by unfold lA; rw [q3]; rfl
  have eB : lB n X wh xs j = wh (rowOf n X r) := by unfold lB; rw [q4]; rfl
  unfold tabF
  rw [eA, eB]
  simp only [s_LinkingTable_l0, s_LinkingTable_l0_s, c_and, Int.toNat_natCast, addO_eq, Nat.add_zero, q3, q4]
  rw [s_l01Row_val z (by omega) h8 g.px hX q2]
  simp only [Int.toNat_natCast, w1, w2]
  simp (disch := omega) only [c_lt, c_le, c_ble, c_blt, c_beq, c_fits]
  rfl
theorem iter_app (v : Nat → Int) : ∀ d, iter (fun b (s : List Int) => s ++ [v b]) d 0 [] = (List.range d).map v := by
  intro d
  induction d with
  | zero => rfl
  | succ d ih => rw [iter_succ, ih, Nat.zero_add, List.range_succ, List.map_append]; rfl
def rowL (T : Nat → Int) (cnt a : Nat) : List Int := (List.range cnt).map fun b => if a = b then T (a * 8 + a) else (T (a * 8 + b) + T (b * 8 + a)).tdiv 2
theorem rowL_len (T : Nat → Int) (cnt a : Nat) : (rowL T cnt a).length = cnt := by simp [rowL]
theorem rowL_at (T : Nat → Int) {cnt a : Nat} (h : a < cnt) : (rowL T cnt a)[a]?.getD 0 = T (a * 8 + a) := by simp [rowL, h]
theorem link_l2 (z : β) {N cnt : Nat} (hN : 100 < N) (h8 : cnt ≤ 8) {T : Nat → Int} (hT : ∀ q, -64 ≤ T q ∧ T q ≤ 64) {a : Nat} (ha : a < cnt) (x1 x2 x3 : Nat) (h00 : Int) (h01 h02 h1 : Nat → Int) (h2 : List Int) (h4 : List (List Int)) (h5 : List (Nat × Nat)) (k : Nat → Nat → Nat → List Int → β) :
    s_LinkingTable_l2 z cnt x1 x2 x3 a h00 h01 h02 h1 h2 T h4 h5 N 0 0 0 0 (List.replicate 0 0) k = k cnt cnt cnt (rowL T cnt a) := by
  unfold rowL
  rw [← iter_app]
  refine up_to (L := fun M b (s : List Int) => s_LinkingTable_l2 z cnt x1 x2 x3 a h00 h01 h02 h1 h2 T h4 h5 M b b b (b : Int) s k) (n := cnt) (out := fun s => k cnt cnt cnt s)
    (f := fun b (s : List Int) => s ++ [if a = b then T (a * 8 + a) else (T (a * 8 + b) + T (b * 8 + a)).tdiv 2]) (I := fun b s => s.length = b)
    (fun M b s hb i1 => ⟨?_, by simp [i1]⟩)
    (fun M s i1 => by rw [s_LinkingTable_l2, s_LinkingTable_l2_s, c_nlt (by omega)]) cnt N 0 [] (by omega) (by omega) rfl
  have t1 := hT (a * 8 + a)
  have t2 := hT (a * 8 + b)
  have t3 := hT (b * 8 + a)
  have t4 := tdiv2_bd (x := T (a * 8 + b) + T (b * 8 + a)) (m := 128) (by omega)
  have hf : ∀ v : Int, fromTo ((List.replicate 1 (0 : Int)).set 0 v) 0 1 = [v] := fun v => rfl
  by_cases e : a = b
  · rw [s_LinkingTable_l2, s_LinkingTable_l2_s, if_pos e]
    simp only [c_and, c_true, Int.toNat_natCast, addO_eq, hf]
    simp (disch := omega) only [c_lt, c_le, c_blt, c_ble, c_nble, c_beq, c_fits, c_eq]
    rw [List.length_append, List.length_singleton, i1]
    rfl
  · rw [s_LinkingTable_l2, s_LinkingTable_l2_s, if_neg e]
    simp only [c_and, c_true, Int.toNat_natCast, addO_eq, hf]
    simp (disch := omega) only [c_lt, c_le, c_blt, c_ble, c_nble, c_beq, c_fits, c_neq]
    rw [List.length_append, List.length_singleton, i1]
    rfl
theorem rowAt_app1 {T : List (List Int)} {x : List Int} {a : Nat} (h : a < T.length) : rowAt (T ++ [x]) a = rowAt T a := by
  unfold rowAt; rw [List.getElem?_append_left h]
theorem rowAt_app2 {T : List (List Int)} {x : List Int} : rowAt (T ++ [x]) T.length = x := by
  unfold rowAt; rw [List.getElem?_append_right (Nat.le_refl _)]; simp
theorem link_l1 (z : β) {N cnt : Nat} (hN : 100 < N) (h8 : cnt ≤ 8) {T : Nat → Int} (hT : ∀ q, -64 ≤ T q ∧ T q ≤ 64) (h00 : Int) (h01 h02 h1 : Nat → Int) (h2 : List Int) (k : Nat → Nat → Nat → List (List Int) → List (Nat × Nat) → β) :
    ∃ pool, DiagP (idsOf pool) pool cnt (fun c => T (c * 8 + c)) ∧ s_LinkingTable_l1 z N cnt h00 h01 h02 h1 h2 T N 0 0 0 0 (List.replicate 0 []) (List.map (fun (i : Nat) => (i, 0)) (List.range 0)) k = k cnt cnt cnt pool (idsOf pool) := by
  obtain ⟨pool, e, i1, i2⟩ := up_to_ex (L := fun M a (s : List (List Int)) => s_LinkingTable_l1 z N cnt h00 h01 h02 h1 h2 T M a a a (a : Int) s (idsOf s) k) (n := cnt) (out := fun s => k cnt cnt cnt s (idsOf s))
    (I := fun a s => s.length = a ∧ ∀ b, b < a → (rowAt s b).length = cnt ∧ (rowAt s b)[b]?.getD 0 = T (b * 8 + b))
    (fun a s ha ⟨i1, i2⟩ => by
      have hid := idsOf_len s
      have rl := rowL_len T cnt a
      refine ⟨s ++ [rowL T cnt a], fun M => ?_, by simp [i1], fun b hb => ?_⟩
      · rw [s_LinkingTable_l1, s_LinkingTable_l1_s, c_lt (by omega), link_l2 z hN h8 hT ha]
        simp only [c_and, c_true]
        simp (disch := omega) only [c_beq, c_ble, c_nble, c_fits]
        rw [idsOf_app, rl, List.length_append, List.length_singleton, hid, i1]
        rfl
      · rcases Nat.lt_or_ge b a with hba | hba
        · rw [rowAt_app1 (by omega)]; exact i2 b hba
        · have : b = s.length := by omega
          subst this
          rw [rowAt_app2]
          exact ⟨rl, by rw [i1]; exact rowL_at T ha⟩)
    (fun M s ⟨i1, _⟩ => by rw [s_LinkingTable_l1, s_LinkingTable_l1_s, c_nlt (by omega)]) cnt N 0 [] (by omega) (by omega) ⟨rfl, fun b hb => by omega⟩
  have hid := idsOf_len pool
  refine ⟨pool, ⟨by rw [hid, i1], fun i hi => ?_, fun i hi => ?_, fun i hi => ?_⟩, e⟩
  · rw [idsOf_at pool (by omega)]; exact (i2 i hi).1
  · rw [idsOf_at pool (by omega)]; exact (i2 i hi).1
  · rw [idsOf_at pool (by omega)]; exact (i2 i hi).2
end
end Go.AM

namespace Go.AM
section
variable {β : Type}
/-! the program's table -/
/-- A loop that comes to an end, whatever comes behind it. -/
theorem up_to_exB {σ κ : Type} {L : κ → Nat → Nat → σ → β} {n : Nat} {out : κ → σ → β} {I : Nat → σ → Prop}
    (hs : ∀ i s, i < n → I i s → ∃ s', (∀ k m, L k (m + 1) i s = L k m (i + 1) s') ∧ I (i + 1) s') (he : ∀ k m s, I n s → L k (m + 1) n s = out k s) :
    ∀ (d i : Nat) (s : σ), i + d = n → I i s → ∃ s', I n s' ∧ ∀ k m, d < m → L k m i s = out k s' := by
  intro d
  induction d with
  | zero =>
    intro i s hi h0
    have : i = n := by omega
    subst this
    refine ⟨s, h0, fun k m hm => ?_⟩
    obtain ⟨m, rfl⟩ : ∃ m', m = m' + 1 := ⟨m - 1, by omega⟩
    exact he k m s h0
  | succ d ih =>
    intro i s hi h0
    obtain ⟨s', h1, h2⟩ := hs i s (by omega) h0
    obtain ⟨s'', h3, h4⟩ := ih (i + 1) s' (by omega) h2
    refine ⟨s'', h3, fun k m hm => ?_⟩
    obtain ⟨m, rfl⟩ : ∃ m', m = m' + 1 := ⟨m - 1, by omega⟩
    rw [h1]
    exact h4 k m (by omega)
def zRow (n : Nat) : List Int := List.map (fun (_ : Nat) => (0 : Int)) (List.range n)
theorem zRow_len (n : Nat) : (zRow n).length = n := by simp [zRow]
theorem zRow_at (n j : Nat) : (zRow n)[j]?.getD 0 = 0 := by
  unfold zRow
  by_cases h : j < n <;> simp [h]
theorem linkI_l0 (z : β) {N cnt : Nat} (hN : 100 < N) (h8 : cnt ≤ 8) (h00 : Int) (h01 h02 h1 h2 : Nat → Int) (k : Nat → Nat → Nat → List (List Int) → List (Nat × Nat) → β) :
    ∃ pool, TabF (idsOf pool) pool cnt cnt (fun _ _ => 0) ∧ (idsOf pool).length = cnt ∧ i_Grid_linking_l0 z cnt cnt h00 h01 h02 h1 h2 N 0 0 0 0 (List.replicate 0 []) (List.map (fun (i : Nat) => (i, 0)) (List.range 0)) k = k cnt cnt cnt pool (idsOf pool) := by
  obtain ⟨pool, e, i1, i2⟩ := up_to_ex (L := fun M a (s : List (List Int)) => i_Grid_linking_l0 z cnt cnt h00 h01 h02 h1 h2 M a a a (a : Int) s (idsOf s) k) (n := cnt) (out := fun s => k cnt cnt cnt s (idsOf s))
    (I := fun a s => s.length = a ∧ ∀ b, b < a → rowAt s b = zRow cnt)
    (fun a s ha ⟨i1, i2⟩ => by
      have hid := idsOf_len s
      refine ⟨s ++ [zRow cnt], fun M => ?_, by simp [i1], fun b hb => ?_⟩
      · have zl : (List.map (fun (_ : Nat) => (0 : Int)) (List.range cnt)).length = cnt := zRow_len cnt
        rw [i_Grid_linking_l0, i_Grid_linking_l0_s]
        simp only [c_and, c_true, Int.toNat_natCast, zl]
        simp (disch := omega) only [c_lt, c_le, c_beq, c_ble, c_nble, c_fits]
        rw [idsOf_app, zRow_len, List.length_append, List.length_singleton, hid, i1]
        rfl
      · rcases Nat.lt_or_ge b a with hba | hba
        · rw [rowAt_app1 (by omega)]; exact i2 b hba
        · have : b = s.length := by omega
          subst this
          rw [rowAt_app2])
    (fun M s ⟨i1, _⟩ => by rw [i_Grid_linking_l0, i_Grid_linking_l0_s, c_nlt (by omega)]) cnt N 0 [] (by omega) (by omega) ⟨rfl, fun b hb => by omega⟩
  exact ⟨pool, TabF.of_app i1 (fun i hi => by rw [i2 i hi, zRow_len]) (fun i j hi hj => by rw [i2 i hi, zRow_at]), by rw [idsOf_len, i1], e⟩
/-- What is kept of the program's table. -/
def LinkM (ids : List (Nat × Nat)) (pool : List (List Int)) (cnt b : Nat) (D : Nat → Int) : Prop :=
  ∃ M, TabF ids pool cnt cnt M ∧ (∀ i j, i < cnt → j < cnt → -(b : Int) ≤ M i j ∧ M i j ≤ b) ∧ ∀ c, c < cnt → M c c = D c
theorem linkI_l1 (z : β) {N n cnt : Nat} (hN : 100 < N) {X O : Nat → Int} (g : GridP n X O) (hX : ∀ j, 0 ≤ X j) {wh : Nat → Nat} {h1 h2 : Nat → Int} {xs : List Int} (L : LinkP n cnt X wh xs) (hw : ∀ i, i < n → h1 i = wh i) (hp : ∀ r, r < n → h2 r = rowOf n X r)
    {ids : List (Nat × Nat)} {pool0 : List (List Int)} (hl : ids.length = cnt) (t0 : TabF ids pool0 cnt cnt (fun _ _ => 0)) (k : List (List Int) → β) :
    ∃ pool, i_Grid_linking_l1 z cnt cnt cnt xs.length (xs.length / 3) (xs.length / 3) ((xs.length / 3 : Nat) : Int) n X O h1 h2 ids xs N 0 pool0 k = k pool ∧ LinkM ids pool cnt (xs.length / 3) (ownS n X wh xs) := by
  have hc := L.c
  have h8 := L.h8
  have hcn := L.cn
  have hle := hc.le
  have hlen := hc.len
  refine up_to_ex (L := fun m j (s : List (List Int)) => i_Grid_linking_l1 z cnt cnt cnt xs.length (xs.length / 3) (xs.length / 3) ((xs.length / 3 : Nat) : Int) n X O h1 h2 ids xs m (j : Int) s k) (n := xs.length / 3) (out := k)
    (I := fun j s => LinkM ids s cnt j fun c => iter (ownF n X wh xs c) j 0 0)
    (fun j s hj ⟨M, t, hb, hd⟩ => ?_)
    (fun m s _ => by rw [i_Grid_linking_l1, i_Grid_linking_l1_s, c_nlt (by omega)]) (xs.length / 3) N 0 pool0 (by omega) (by omega) ⟨_, t0, fun i j _ _ => by simp, fun c _ => rfl⟩
  obtain ⟨i, r, q1, q2, q3, q4⟩ := L.b j hj
  have sg := hc.sg j hj
  have hro := (rowOf_spec g.px hX q2).1
  have ha := L.wh _ q1
  have hbb := L.wh _ hro
  have w1 := hw _ q1
  have w2 := hw _ hro
  have wp := hp _ q2
  have eA : lA wh xs j = wh i := by unfold lA; rw [q3]; rfl
  have eB : lB n X wh xs j = wh (rowOf n X r) := by unfold lB; rw [q4]; rfl
  generalize hga : wh i = a at *
  generalize hgb : wh (rowOf n X r) = b at *
  generalize hgv : xs[j * 3 + 2]?.getD 0 = v at *
  have b1 := hb a b ha hbb
  have b2 := hb b a hbb ha
  have t1 := t.put ha hbb (M a b + v)
  have sa := t.sz a ha
  have sb := t.sz b hbb
  have wa := t.wide a ha
  have ca := t.cell a b ha hbb
  have wb := t1.wide b hbb
  have cb := t1.cell b a hbb ha
  have eo : ∀ c u, ownF n X wh xs c j u = if a = c ∧ b = c then u + v else u := fun c u => by unfold ownF; rw [eA, eB, hgv]
  unfold putP at t1 wb cb
  unfold idAt at sa sb t1 wa ca wb cb
  unfold rowAt at wa ca t1 wb cb
  by_cases e : a = b
  · subst e
    refine ⟨_, fun m => ?_, putM M a a (M a a + v), t1, fun i' j' hi' hj' => ?_, fun c hcc => ?_⟩
    · rw [i_Grid_linking_l1, i_Grid_linking_l1_s]
      simp only [c_and, Int.toNat_natCast, addO_eq, Nat.add_zero, q3, q4, w1, wp, w2, sa, wa, ca, hl, hgv]
      simp (disch := omega) only [c_lt, c_le, c_ble, c_blt, c_beq, c_fits, c_nne]
      rfl
    · have := hb i' j' hi' hj'
      unfold putM
      split <;> omega
    · have hd2 : M c c = iter (ownF n X wh xs c) j 0 0 := hd c hcc
      show _ = iter (ownF n X wh xs c) (j + 1) 0 0
      rw [iter_succ, Nat.zero_add, eo, ← hd2]
      unfold putM
      by_cases e : c = a
      · rw [if_pos ⟨e, e⟩, if_pos ⟨e.symm, e.symm⟩, e]
      · rw [if_neg (fun h => e h.1), if_neg (fun h => e h.1.symm)]
  · have hm : putM M a b (M a b + v) b a = M b a := by unfold putM; rw [if_neg (fun h => e h.1.symm)]
    rw [hm] at cb
    have t2 := t1.put hbb ha (M b a + v)
    unfold putP idAt rowAt at t2
    refine ⟨_, fun m => ?_, putM (putM M a b (M a b + v)) b a (M b a + v), t2, fun i' j' hi' hj' => ?_, fun c hcc => ?_⟩
    · rw [i_Grid_linking_l1, i_Grid_linking_l1_s]
      simp only [c_and, Int.toNat_natCast, addO_eq, Nat.add_zero, q3, q4, w1, wp, w2, sa, sb, wa, ca, hl, hgv, wb, cb]
      simp (disch := omega) only [c_lt, c_le, c_ble, c_blt, c_beq, c_fits, c_ne]
      rfl
    · have := hb i' j' hi' hj'
      unfold putM
      split
      · omega
      · split <;> omega
    · have hd2 : M c c = iter (ownF n X wh xs c) j 0 0 := hd c hcc
      show _ = iter (ownF n X wh xs c) (j + 1) 0 0
      rw [iter_succ, Nat.zero_add, eo, ← hd2]
      unfold putM
      rw [if_neg (by omega), if_neg (by omega), if_neg (by omega)]
theorem linkI_l3 (z : β) {N cnt a : Nat} (hN : 100 < N) (h8 : cnt ≤ 8) (ha : a < cnt) {ids : List (Nat × Nat)} {pool0 : List (List Int)} (hl : ids.length = cnt) {D : Nat → Int} (t0 : LinkM ids pool0 cnt 64 D) (t76 : Int) (h00 : Int) (h01 h02 h1 h2 : Nat → Int) (xs : List Int) :
    ∃ pool, LinkM ids pool cnt 64 D ∧ ∀ (k : List (List Int) → β) (m : Nat), cnt < m → i_Grid_linking_l3 z cnt cnt cnt a t76 a cnt h00 h01 h02 h1 h2 ids xs m 0 pool0 k = k pool := by
  refine up_to_exB (κ := List (List Int) → β) (L := fun k m j (s : List (List Int)) => i_Grid_linking_l3 z cnt cnt cnt a t76 a cnt h00 h01 h02 h1 h2 ids xs m (j : Int) s k) (n := cnt) (out := fun k => k) (I := fun _ s => LinkM ids s cnt 64 D)
    (fun b s hb ⟨M, t, hbd, hd⟩ => ?_)
    (fun k m s _ => by rw [i_Grid_linking_l3, i_Grid_linking_l3_s, c_nlt (by omega)]) cnt 0 pool0 (by omega) t0
  by_cases e : a = b
  · refine ⟨s, fun k m => ?_, M, t, hbd, hd⟩
    rw [i_Grid_linking_l3, i_Grid_linking_l3_s]
    simp (disch := omega) only [c_lt, c_nne, c_fits]
    rfl
  · have sa := t.sz a ha
    have wa := t.wide a ha
    have ca := t.cell a b ha hb
    have b1 := hbd a b ha hb
    have b2 := tdiv2_bd (x := M a b) (m := 64) b1
    have t1 := t.put ha hb ((M a b).tdiv 2)
    unfold putP at t1
    unfold idAt at sa t1 wa ca
    unfold rowAt at wa ca t1
    refine ⟨_, fun k m => ?_, putM M a b ((M a b).tdiv 2), t1, fun i' j' hi' hj' => ?_, fun c hcc => ?_⟩
    · rw [i_Grid_linking_l3, i_Grid_linking_l3_s]
      simp only [c_and, Int.toNat_natCast, sa, wa, ca, hl]
      simp (disch := omega) only [c_lt, c_le, c_ble, c_blt, c_beq, c_fits, c_ne]
      rfl
    · have := hbd i' j' hi' hj'
      unfold putM
      split <;> omega
    · rw [← hd c hcc]
      unfold putM
      rw [if_neg (by omega)]
theorem linkI_l2 (z : β) {N cnt : Nat} (hN : 100 < N) (h8 : cnt ≤ 8) {ids : List (Nat × Nat)} {pool0 : List (List Int)} (hl : ids.length = cnt) {D : Nat → Int} (t0 : LinkM ids pool0 cnt 64 D) (h00 : Int) (h01 h02 h1 h2 : Nat → Int) (xs : List Int) (k : List (List Int) → β) :
    ∃ pool, i_Grid_linking_l2 z N cnt cnt cnt cnt h00 h01 h02 h1 h2 ids xs N 0 pool0 k = k pool ∧ LinkM ids pool cnt 64 D := by
  refine up_to_ex (L := fun m j (s : List (List Int)) => i_Grid_linking_l2 z N cnt cnt cnt cnt h00 h01 h02 h1 h2 ids xs m (j : Int) s k) (n := cnt) (out := k) (I := fun _ s => LinkM ids s cnt 64 D)
    (fun a s ha t => ?_)
    (fun m s _ => by rw [i_Grid_linking_l2, i_Grid_linking_l2_s, c_nlt (by omega)]) cnt N 0 pool0 (by omega) (by omega) t0
  have sa : (ids[a]?.getD (0, 0)).2 = cnt := by obtain ⟨M, tt, _⟩ := t; exact tt.sz a ha
  obtain ⟨pool, t2, e⟩ := linkI_l3 z (N := N) hN h8 ha hl t cnt h00 h01 h02 h1 h2 xs
  refine ⟨pool, fun m => ?_, t2⟩
  rw [i_Grid_linking_l2, i_Grid_linking_l2_s]
  simp only [c_and, Int.toNat_natCast, sa, hl]
  simp (disch := omega) only [c_lt, c_le, c_ble, c_blt, c_beq]
  rw [e _ N (by omega)]
  simp (disch := omega) only [c_fits]
  rfl
theorem LinkM.diag {ids : List (Nat × Nat)} {pool : List (List Int)} {cnt b : Nat} {D : Nat → Int} (h : LinkM ids pool cnt b D) (hl : ids.length = cnt) : DiagP ids pool cnt D := by
  obtain ⟨M, t, _, hd⟩ := h
  exact ⟨hl, t.sz, t.wide, fun i hi => by rw [t.cell i i hi hi, hd i hi]⟩
theorem LinkM.up {ids : List (Nat × Nat)} {pool : List (List Int)} {cnt b c : Nat} {D : Nat → Int} (h : LinkM ids pool cnt b D) (hb : b ≤ c) : LinkM ids pool cnt c D := by
  obtain ⟨M, t, h2, hd⟩ := h
  exact ⟨M, t, fun i j hi hj => by have := h2 i j hi hj; omega, hd⟩
/-- A grid's own numbers. -/
noncomputable def cmpN (n : Nat) (X O : Nat → Int) (i : Nat) : Nat := ((compS (nxtC n X O) n).1 i).toNat
noncomputable def cmpC (n : Nat) (X O : Nat → Int) : Nat := (compS (nxtC n X O) n).2.toNat
theorem cmp_links {n : Nat} {X O : Nat → Int} (g : GridP n X O) (hX : ∀ j, 0 ≤ X j) (hO : ∀ j, 0 ≤ O j) :
    LinkP n (cmpC n X O) X (cmpN n X O) (crossL n X O) ∧ (compS (nxtC n X O) n).2 = cmpC n X O ∧ ∀ i, i < n → (compS (nxtC n X O) n).1 i = cmpN n X O i := by
  have inv := compS_inv (nxtC_lt g hX hO)
  have h8 := g.hi
  unfold cmpN cmpC
  generalize compS (nxtC n X O) n = s at *
  have h1 := inv.nn
  have h2 := inv.le
  refine ⟨⟨crossL_inv X O h8, CrossB.all n (Nat.le_refl n), fun i hi => ?_, by omega, h8⟩, by omega, fun i hi => ?_⟩
  · have := inv.set i hi
    have := inv.bd i (by omega)
    omega
  · have := inv.set i hi
    omega
theorem s_LinkingTable_val (z : β) {N : Nat} (hN : 100 < N) {n : Nat} {X O : Nat → Int} (g : GridP n X O) (hX : ∀ j, 0 ≤ X j) (hO : ∀ j, 0 ≤ O j) (k0 : Int → β) (k1 : Nat → Nat → Nat → Int → List (Nat × Nat) → List (List Int) → β) :
    ∃ pool, DiagP (idsOf pool) pool (cmpC n X O) (ownS n X (cmpN n X O) (crossL n X O)) ∧ s_LinkingTable z N n X O k0 k1 = k1 (cmpC n X O) (cmpC n X O) (cmpC n X O) 0 (idsOf pool) pool := by
  obtain ⟨L, e1, e2⟩ := cmp_links g hX hO
  have h8 := L.h8
  have hcn := L.cn
  unfold s_LinkingTable
  rw [s_l01Is_val z (by omega) _ _ _ hX hO, gridB_iff.2 ⟨n, rfl, g⟩, Bool.not_true, c_false, s_l01Components_val z (by omega) g hX hO, s_l03Crossings_val z (by omega) g hX hO, e1]
  obtain ⟨T, t1, t2, t3⟩ := link_l0 z hN g hX L e2 (cmpC n X O) (fun q13 => s_LinkingTable_l1 z N (cmpC n X O) n X O (compS (nxtC n X O) n).1 (crossL n X O) q13 N 0 0 0 0 (List.replicate 0 []) (List.map (fun (i : Nat) => (i, 0)) (List.range 0)) (fun q14 q15 q16 q17 q18 => k1 q14 q15 q16 0 q18 q17))
  rw [t3]
  obtain ⟨pool, p1, p2⟩ := link_l1 z hN (by omega : cmpC n X O ≤ 8) t1 n X O (compS (nxtC n X O) n).1 (crossL n X O) (fun q14 q15 q16 q17 q18 => k1 q14 q15 q16 0 q18 q17)
  exact ⟨pool, ⟨p1.len, p1.sz, p1.wide, fun i hi => by rw [p1.cell i hi, t2 i hi]⟩, p2⟩
theorem i_Grid_linking_val (z : β) {N : Nat} (hN : 100 < N) {n : Nat} {X O : Nat → Int} (g : GridP n X O) (hX : ∀ j, 0 ≤ X j) (hO : ∀ j, 0 ≤ O j) (k : Nat → Nat → Nat → List (Nat × Nat) → List (List Int) → β) :
    ∃ ids pool, DiagP ids pool (cmpC n X O) (ownS n X (cmpN n X O) (crossL n X O)) ∧ i_Grid_linking z N n X O k = k (cmpC n X O) (cmpC n X O) (cmpC n X O) ids pool := by
  obtain ⟨L, e1, e2⟩ := cmp_links g hX hO
  have h8 := L.h8
  have hcn := L.cn
  have hc := L.c
  have hle := hc.le
  have hlo := g.lo
  unfold i_Grid_linking
  rw [i_Grid_component_val z (by omega) g hX hO, i_Grid_places_val z (by omega) h8 g.px hX, e1]
  generalize hwf : (fun j => if j < n then (compS (nxtC n X O) n).1 j else 0) = wf
  have hw : ∀ i, i < n → wf i = cmpN n X O i := fun i hi => by rw [← hwf]; show (if i < n then _ else _) = _; rw [if_pos hi, e2 i hi]
  obtain ⟨pool0, t0, hl, f0⟩ := linkI_l0 z hN (by omega : cmpC n X O ≤ 8) n X O wf (plc n X) (fun q9 q10 q11 q12 q13 => i_Grid_crossings z N n X O (fun q14 q15 q16 q17 => cond (q15.ble 9223372036854775807) (i_Grid_linking_l1 z q9 q10 q11 q14 q15 q16 (↑q15 : Int) n X O wf (plc n X) q13 q17 N 0 q12 (fun q18 => cond (q10.ble 9223372036854775807) (i_Grid_linking_l2 z N q9 q10 q11 (↑q10 : Int) n X O wf (plc n X) q13 q17 N 0 q18 (fun q19 => k q9 q10 q11 q13 q19)) (z))) (z)))
  rw [f0, i_Grid_crossings_val z (by omega) g hX hO, c_ble (by omega)]
  obtain ⟨pool1, f1, t1⟩ := linkI_l1 z hN g hX L hw (fun r hr => plc_spec g.px hX hr) hl t0 (fun q18 => cond ((cmpC n X O).ble 9223372036854775807) (i_Grid_linking_l2 z N (cmpC n X O) (cmpC n X O) (cmpC n X O) (↑(cmpC n X O) : Int) n X O wf (plc n X) (idsOf pool0) (crossL n X O) N 0 q18 (fun q19 => k (cmpC n X O) (cmpC n X O) (cmpC n X O) (idsOf pool0) q19)) (z))
  rw [f1, c_ble (by omega)]
  obtain ⟨pool2, f2, t2⟩ := linkI_l2 z hN (by omega : cmpC n X O ≤ 8) hl (t1.up hle) n X O wf (plc n X) (crossL n X O) (fun q19 => k (cmpC n X O) (cmpC n X O) (cmpC n X O) (idsOf pool0) q19)
  exact ⟨_, pool2, t2.diag hl, f2⟩
end
end Go.AM

namespace Go.AM
section
variable {β : Type}
theorem iter_appT {γ : Type} (v : Nat → γ) : ∀ d, iter (fun b (s : List γ) => s ++ [v b]) d 0 [] = (List.range d).map v := by
  intro d
  induction d with
  | zero => rfl
  | succ d ih => rw [iter_succ, ih, Nat.zero_add, List.range_succ, List.map_append]; rfl
/-- The cusps of a component. -/
noncomputable def cuspC (n : Nat) (X O : Nat → Int) (c : Nat) : Int × Int := cuspS (cornersL n X O) (skipC (compS (nxtC n X O) n).1 c) (2 * n)
noncomputable def numsC (n : Nat) (X O : Nat → Int) (c : Nat) : List Int := [-(ownS n X (cmpN n X O) (crossL n X O) c) - ((cuspC n X O c).1 + (cuspC n X O c).2).tdiv 2, ((cuspC n X O c).1 - (cuspC n X O c).2).tdiv 2]
noncomputable def numsT (n : Nat) (X O : Nat → Int) : List (List Int) := (List.range (cmpC n X O)).map (numsC n X O)
theorem numsT_len (n : Nat) (X O : Nat → Int) : (numsT n X O).length = cmpC n X O := by simp [numsT]
theorem numsT_small {N n : Nat} {X O : Nat → Int} (hN : 100 < N) (h : cmpC n X O ≤ 8) : SmallT N (numsT n X O) := by
  refine ⟨by rw [numsT_len]; omega, fun i hi => ?_⟩
  rw [numsT_len] at hi
  have : rowAt (numsT n X O) i = numsC n X O i := by unfold rowAt numsT; simp [hi]
  rw [this]
  show 2 < N ∧ 2 ≤ 1000
  omega
theorem numsC_bd {n : Nat} (h8 : n ≤ 8) (X O : Nat → Int) (c : Nat) : (0 ≤ (cuspC n X O c).1 ∧ 0 ≤ (cuspC n X O c).2 ∧ (cuspC n X O c).1 + (cuspC n X O c).2 ≤ 16) ∧ (-64 ≤ ownS n X (cmpN n X O) (crossL n X O) c ∧ ownS n X (cmpN n X O) (crossL n X O) c ≤ 64) := by
  have h1 := cuspS_bd (cornersL n X O) (skipC (compS (nxtC n X O) n).1 c) (2 * n)
  have h2 := ownS_bd (n := n) (X := X) (wh := cmpN n X O) (crossL_inv X O h8) c
  unfold cuspC
  omega
theorem cn_l0 (z : β) {N : Nat} (hN : 100 < N) {n : Nat} {X O : Nat → Int} (g : GridP n X O) (hX : ∀ j, 0 ≤ X j) (hO : ∀ j, 0 ≤ O j) (hc : cmpC n X O ≤ 8) {ids : List (Nat × Nat)} {pool : List (List Int)} (dg : DiagP ids pool (cmpC n X O) (ownS n X (cmpN n X O) (crossL n X O))) (k : Nat → Nat → Nat → List (List Int) → List (Nat × Nat) → β) :
    s_ComponentNumbers_l0_s2 z N (cmpC n X O) (cmpC n X O) (cmpC n X O) n X O ids pool N 0 0 0 0 (List.replicate 0 []) (List.map (fun (i : Nat) => (i, 0)) (List.range 0)) k = k (cmpC n X O) (cmpC n X O) (cmpC n X O) (numsT n X O) (idsOf (numsT n X O)) := by
  unfold numsT
  rw [← iter_appT (numsC n X O)]
  have h8 := g.hi
  have hl := dg.len
  generalize hcn : cmpC n X O = cnt at *
  have key := up_to (L := fun M b (s : List (List Int)) => s_ComponentNumbers_l0_s2 z N cnt cnt cnt n X O ids pool M b b b (b : Int) s (idsOf s) k) (n := cnt) (out := fun s => k cnt cnt cnt s (idsOf s))
    (f := fun b (s : List (List Int)) => s ++ [numsC n X O b]) (I := fun b s => s.length = b)
    (fun M b s hb i1 => ⟨?_, by simp [i1]⟩)
    (fun M s i1 => by rw [s_ComponentNumbers_l0_s2, s_ComponentNumbers_l0_s2_s, c_ble (by omega), c_nlt (by omega)]) cnt N 0 [] (by omega) (by omega) rfl
  · exact key
  · have sa := dg.sz b hb
    have wa := dg.wide b hb
    have ca := dg.cell b hb
    unfold idAt at sa wa ca
    unfold rowAt at wa ca
    obtain ⟨⟨q1, q2, q3⟩, q4⟩ := numsC_bd h8 X O b
    have hid := idsOf_len s
    rw [s_ComponentNumbers_l0_s2, s_ComponentNumbers_l0_s2_s, c_ble (by omega), c_lt (by omega), s_l07Cusps_val z (by omega) g hX hO]
    show cond _ _ _ = s_ComponentNumbers_l0_s2 z N cnt cnt cnt n X O ids pool M (b + 1) (b + 1) (b + 1) ((b + 1 : Nat) : Int) (s ++ [[-(ownS n X (cmpN n X O) (crossL n X O) b) - ((cuspC n X O b).1 + (cuspC n X O b).2).tdiv 2, ((cuspC n X O b).1 - (cuspC n X O b).2).tdiv 2]]) (idsOf (s ++ [[-(ownS n X (cmpN n X O) (crossL n X O) b) - ((cuspC n X O b).1 + (cuspC n X O b).2).tdiv 2, ((cuspC n X O b).1 - (cuspC n X O b).2).tdiv 2]])) k
    rw [show cuspS (cornersL n X O) (skipC (compS (nxtC n X O) n).1 b) (2 * n) = cuspC n X O b from rfl]
    generalize cuspC n X O b = u at *
    generalize ownS n X (cmpN n X O) (crossL n X O) b = v at *
    have h3 := tdiv2_bd (x := u.1 + u.2) (m := 16) (by omega)
    have h4 := tdiv2_bd (x := u.1 - u.2) (m := 16) (by omega)
    simp only [c_and, c_true, Int.toNat_natCast, sa, wa, ca, hl]
    simp (disch := omega) only [c_lt, c_le, c_blt, c_ble, c_nble, c_beq, c_fits]
    rw [idsOf_app, List.length_append, List.length_singleton, hid, i1]
    rfl
/-! the program's fronts -/
def frontO (xs : List Int) (j o : Nat) (h : Nat → Int) : Nat → Int :=
  if recAt xs j 2 = 1 ∨ recAt xs j 2 = 2 then h else if ((recAt xs j 3 != 0) == (recAt xs j 2 == 3)) = true then upd (upd h o (h o + 1)) (o + 2) (h (o + 2) + 1) else upd (upd h o (h o + 1)) (o + 1) (h (o + 1) + 1)
theorem i_front_add_s2_val (z : β) (N : Nat) (a b : Int) {xs : List Int} {j o w : Nat} {h : Nat → Int} (ho : o + 3 ≤ w) (hk : 0 ≤ recAt xs j 2 ∧ recAt xs j 2 ≤ 3) (hb : ∀ q, q < 3 → 0 ≤ h (o + q) ∧ h (o + q) ≤ 1000) (k : (Nat → Int) → β) :
    i_front_add_s2 z N o w a b (recAt xs j 2) (recAt xs j 3 != 0) w h k = k (frontO xs j o h) := by
  have b0 := hb 0 (by omega)
  have b1 := hb 1 (by omega)
  have b2 := hb 2 (by omega)
  rw [Nat.add_zero] at b0
  have u1 : upd h o (h o + 1) (o + 1) = h (o + 1) := by rw [upd_at, if_neg (by omega)]
  have u2 : upd h o (h o + 1) (o + 2) = h (o + 2) := by rw [upd_at, if_neg (by omega)]
  have f1 : (([] : List UInt8) == [117]) = false := by decide
  have f2 : (([] : List UInt8) == [100]) = false := by decide
  have f3 : (([117] : List UInt8) == [117]) = true := by decide
  have f4 : (([100] : List UInt8) == [117]) = false := by decide
  have f5 : (([100] : List UInt8) == [100]) = true := by decide
  unfold i_front_add_s2 i_Corner_letter i_Corner_isCusp frontO
  simp only [addO_eq, Nat.add_zero, c_and]
  simp (disch := omega) only [c_beq, c_blt]
  have hcase : recAt xs j 2 = 0 ∨ recAt xs j 2 = 1 ∨ recAt xs j 2 = 2 ∨ recAt xs j 2 = 3 := by omega
  rcases hcase with e | e | e | e
  · simp only [e, u1, u2]
    cases hx : (recAt xs j 3 != 0) <;> simp [f1, f2, f3, f4, f5]
    all_goals (rw [fits64 (by omega), fits64 (by omega)]; rfl)
  · simp only [e]
    simp [f1, f2]
  · simp only [e]
    simp [f1, f2]
  · simp only [e, u1, u2]
    cases hx : (recAt xs j 3 != 0) <;> simp [f1, f2, f3, f4, f5]
    all_goals (rw [fits64 (by omega), fits64 (by omega)]; rfl)
/-- What the fronts hold after some corners. -/
def FrontI (cnt : Nat) (whI : Nat → Int) (xs : List Int) (j : Nat) (h : Nat → Int) : Prop :=
  ∀ c, c < cnt → h (c * 3) = (cuspS xs (skipC whI c) j).1 + (cuspS xs (skipC whI c) j).2 ∧ h (c * 3 + 1) = (cuspS xs (skipC whI c) j).2 ∧ h (c * 3 + 2) = (cuspS xs (skipC whI c) j).1
theorem FrontI.step {cnt : Nat} {whI : Nat → Int} {xs : List Int} {j : Nat} {h : Nat → Int} (H : FrontI cnt whI xs j h) {a i : Nat} (hi : recAt xs j 0 = i) (ha : whI i = a) : FrontI cnt whI xs (j + 1) (frontO xs j (a * 3) h) := by
  intro c hc
  have es : cuspS xs (skipC whI c) (j + 1) = cuspF xs (skipC whI c) j (cuspS xs (skipC whI c) j) := by unfold cuspS; rw [iter_succ, Nat.zero_add]
  rw [es]
  obtain ⟨p0, p1, p2⟩ := H c hc
  have sk : skipC whI c (recAt xs j 0) = true ↔ c ≠ a := by
    unfold skipC
    rw [hi, Int.toNat_natCast, ha]
    simp
    omega
  generalize cuspS xs (skipC whI c) j = s at *
  unfold frontO cuspF
  by_cases e : recAt xs j 2 = 1 ∨ recAt xs j 2 = 2
  · rw [if_pos e, if_pos (.inr e)]; exact ⟨p0, p1, p2⟩
  · rw [if_neg e]
    by_cases ec : c = a
    · subst ec
      rw [if_neg (c := skipC whI c (recAt xs j 0) = true ∨ _) (fun hh => hh.elim (fun h => (sk.1 h) rfl) e)]
      have n1 : ¬ c * 3 = c * 3 + 1 := by omega
      have n2 : ¬ c * 3 + 2 = c * 3 + 1 := by omega
      have n3 : ¬ c * 3 + 2 = c * 3 := by omega
      have n4 : ¬ c * 3 = c * 3 + 2 := by omega
      have n5 : ¬ c * 3 + 1 = c * 3 + 2 := by omega
      have n6 : ¬ c * 3 + 1 = c * 3 := by omega
      cases hb : ((recAt xs j 3 != 0) == (recAt xs j 2 == 3))
      · simp only [Bool.false_eq_true, if_false, upd_at, n1, n2, n3, n4, n5, n6, if_true]
        omega
      · simp only [if_true, upd_at, n1, n2, n3, n4, n5, n6, if_false]
        omega
    · rw [if_pos (c := skipC whI c (recAt xs j 0) = true ∨ _) (.inl (sk.2 ec))]
      cases hb : ((recAt xs j 3 != 0) == (recAt xs j 2 == 3))
      · simp only [Bool.false_eq_true, if_false, upd_at]
        repeat rw [if_neg (by omega)]
        exact ⟨p0, p1, p2⟩
      · simp only [if_true, upd_at]
        repeat rw [if_neg (by omega)]
        exact ⟨p0, p1, p2⟩
theorem cnI_l0 (z : β) {N : Nat} (hN : 100 < N) {n : Nat} {X O : Nat → Int} (g : GridP n X O) (hX : ∀ j, 0 ≤ X j) (hO : ∀ j, 0 ≤ O j) {wf : Nat → Int} (hw : ∀ i, i < n → wf i = cmpN n X O i) (k : (Nat → Int) → β) :
    ∃ h, FrontI (cmpC n X O) (compS (nxtC n X O) n).1 (cornersL n X O) (2 * n) h ∧ i_ComponentNumbers_1_l0 z N (cmpC n X O * 3) (cmpC n X O) (cmpC n X O) (8 * n) (2 * n) (2 * n) ((2 * n : Nat) : Int) n X O wf (cmpC n X O * 3) (cornersL n X O) N 0 (fun _ => 0) k = k h := by
  obtain ⟨L, e1, e2⟩ := cmp_links g hX hO
  have h8 := g.hi
  have hr := corner_recs (n := n) (X := X) (O := O)
  have hl := cornersL_len n X O
  have hcn := L.cn
  have hwl := L.wh
  obtain ⟨h, a1, a2⟩ := up_to_ex (L := fun m j h => i_ComponentNumbers_1_l0 z N (cmpC n X O * 3) (cmpC n X O) (cmpC n X O) (8 * n) (2 * n) (2 * n) ((2 * n : Nat) : Int) n X O wf (cmpC n X O * 3) (cornersL n X O) m (j : Int) h k) (n := 2 * n) (out := k)
    (I := fun j h => FrontI (cmpC n X O) (compS (nxtC n X O) n).1 (cornersL n X O) j h)
    (fun j h hj H => by
      obtain ⟨r0, r1, r2⟩ := hr j hj
      have hi : j / 2 < n := by omega
      have hc := hwl _ hi
      refine ⟨frontO (cornersL n X O) j (cmpN n X O (j / 2) * 3) h, fun m => ?_, H.step r0 (e2 _ hi)⟩
      have hwi := hw _ hi
      generalize cornersL n X O = xs at *
      have r0' := r0
      unfold recAt at r0'
      rw [Nat.add_zero] at r0'
      have e2' : xs[j * 4 + 2]?.getD 0 = recAt xs j 2 := rfl
      have e3 : xs[j * 4 + 3]?.getD 0 = recAt xs j 3 := rfl
      obtain ⟨p0, p1, p2⟩ := H _ hc
      have bd := cuspS_bd xs (skipC (compS (nxtC n X O) n).1 (cmpN n X O (j / 2))) j
      have hb : ∀ q, q < 3 → 0 ≤ h (cmpN n X O (j / 2) * 3 + q) ∧ h (cmpN n X O (j / 2) * 3 + q) ≤ 1000 := fun q hq => by
        have : q = 0 ∨ q = 1 ∨ q = 2 := by omega
        rcases this with rfl | rfl | rfl
        · rw [Nat.add_zero]; omega
        · omega
        · omega
      have ia := i_front_add_s2_val z N (xs[j * 4]?.getD 0) (xs[j * 4 + 1]?.getD 0) (xs := xs) (j := j) (o := cmpN n X O (j / 2) * 3) (w := cmpC n X O * 3) (by omega) ⟨r1, r2⟩ hb
      rw [i_ComponentNumbers_1_l0, i_ComponentNumbers_1_l0_s]
      rw [r0'] at ia
      simp only [c_and, Int.toNat_natCast, addO_eq, Nat.add_zero, e2', e3, r0', hwi, ia]
      simp (disch := omega) only [c_lt, c_le, c_ble, c_blt, c_beq, c_fits]
      rfl)
    (fun m s _ => by rw [i_ComponentNumbers_1_l0, i_ComponentNumbers_1_l0_s, c_nlt (by omega)]) (2 * n) N 0 (fun _ => 0) (by omega) (by omega) (fun c _ => by simp [cuspS, iter])
  exact ⟨h, a2, a1⟩
theorem cnI_l1 (z : β) {N : Nat} (hN : 100 < N) {n : Nat} {X O : Nat → Int} (h8 : n ≤ 8) (hc : cmpC n X O ≤ 8) {wf : Nat → Int} {h : Nat → Int} (H : FrontI (cmpC n X O) (compS (nxtC n X O) n).1 (cornersL n X O) (2 * n) h)
    {ids : List (Nat × Nat)} {pool : List (List Int)} (dg : DiagP ids pool (cmpC n X O) (ownS n X (cmpN n X O) (crossL n X O))) (xs : List Int) (k : Nat → Nat → Nat → List (List Int) → List (Nat × Nat) → β) :
    i_ComponentNumbers_1_l1 z N (cmpC n X O) (cmpC n X O) (cmpC n X O) (cmpC n X O * 3) (cmpC n X O) (cmpC n X O) (cmpC n X O) n X O wf (cmpC n X O * 3) h xs ids pool N 0 0 0 0 (List.replicate 0 []) (List.map (fun (i : Nat) => (i, 0)) (List.range 0)) k = k (cmpC n X O) (cmpC n X O) (cmpC n X O) (numsT n X O) (idsOf (numsT n X O)) := by
  unfold numsT
  rw [← iter_appT (numsC n X O)]
  have hl := dg.len
  have bds := numsC_bd h8 X O
  have key := up_to (L := fun M b (s : List (List Int)) => i_ComponentNumbers_1_l1 z N (cmpC n X O) (cmpC n X O) (cmpC n X O) (cmpC n X O * 3) (cmpC n X O) (cmpC n X O) (cmpC n X O) n X O wf (cmpC n X O * 3) h xs ids pool M b b b (b : Int) s (idsOf s) k) (n := cmpC n X O) (out := fun s => k (cmpC n X O) (cmpC n X O) (cmpC n X O) s (idsOf s))
    (f := fun b (s : List (List Int)) => s ++ [numsC n X O b]) (I := fun b s => s.length = b)
    (fun M b s hb i1 => ⟨?_, by simp [i1]⟩)
    (fun M s i1 => by rw [i_ComponentNumbers_1_l1, i_ComponentNumbers_1_l1_s, c_nlt (by omega)]) (cmpC n X O) N 0 [] (by omega) (by omega) rfl
  · exact key
  · have sa := dg.sz b hb
    have wa := dg.wide b hb
    have ca := dg.cell b hb
    unfold idAt at sa wa ca
    unfold rowAt at wa ca
    obtain ⟨⟨q1, q2, q3⟩, q4⟩ := bds b
    obtain ⟨p0, p1, p2⟩ := H b hb
    have hid := idsOf_len s
    show _ = i_ComponentNumbers_1_l1 z N (cmpC n X O) (cmpC n X O) (cmpC n X O) (cmpC n X O * 3) (cmpC n X O) (cmpC n X O) (cmpC n X O) n X O wf (cmpC n X O * 3) h xs ids pool M (b + 1) (b + 1) (b + 1) ((b + 1 : Nat) : Int) (s ++ [[-(ownS n X (cmpN n X O) (crossL n X O) b) - ((cuspC n X O b).1 + (cuspC n X O b).2).tdiv 2, ((cuspC n X O b).1 - (cuspC n X O b).2).tdiv 2]]) (idsOf (s ++ [[-(ownS n X (cmpN n X O) (crossL n X O) b) - ((cuspC n X O b).1 + (cuspC n X O b).2).tdiv 2, ((cuspC n X O b).1 - (cuspC n X O b).2).tdiv 2]])) k
    rw [show cuspS (cornersL n X O) (skipC (compS (nxtC n X O) n).1 b) (2 * n) = cuspC n X O b from rfl] at p0 p1 p2
    generalize cuspC n X O b = u at *
    generalize ownS n X (cmpN n X O) (crossL n X O) b = v at *
    have h3 := tdiv2_bd (x := u.1 + u.2) (m := 16) (by omega)
    have h4 := tdiv2_bd (x := u.1 - u.2) (m := 16) (by omega)
    have e2 : ∀ a c : Int, ((List.replicate 2 (0 : Int)).set 0 a).set 1 c = [a, c] := fun _ _ => rfl
    rw [i_ComponentNumbers_1_l1, i_ComponentNumbers_1_l1_s]
    simp only [c_and, c_true, Int.toNat_natCast, sa, wa, ca, hl, i_front_numbers, shiftF_eq, Nat.add_zero, p0, p1, p2, e2]
    simp (disch := omega) only [c_lt, c_le, c_blt, c_ble, c_nble, c_beq, c_fits]
    rw [idsOf_app, List.length_append, List.length_singleton, hid, i1]
    rfl
theorem w_FnExactComponentNumbers_val (z : β) {N : Nat} (hN : 100 < N) (n : Int) (X O : Nat → Int) (hX : ∀ j, j < 8 → 0 ≤ X j ∧ X j ≤ 255) (hO : ∀ j, j < 8 → 0 ≤ O j ∧ O j ≤ 255) (k0 : Bool → β) : w_FnExactComponentNumbers z N n X O k0 = k0 true := by
  unfold w_FnExactComponentNumbers
  have N8 : 8 < N := by omega
  have hX0 := clip8_nn fun j h => (hX j h).1
  have hO0 := clip8_nn fun j h => (hO j h).1
  simp only [w_toGrid_val z N8]
  cases hg : gridB n (clip8 X) (clip8 O) with
  | false =>
    have s : ∀ k0 k1 k2, s_ComponentNumbers z N n (clip8 X) (clip8 O) k0 k1 k2 = (k0 1 : β) := fun k0 k1 k2 => by
      unfold s_ComponentNumbers s_LinkingTable; rw [s_l01Is_val z N8 _ _ _ hX0 hO0, hg]; rfl
    have i : ∀ k0 k1, i_ComponentNumbers z N n (clip8 X) (clip8 O) k0 k1 = (k0 1 : β) := fun k0 k1 => by
      unfold i_ComponentNumbers i_whole_int64_s5; rw [i_IsGrid_val z N8 _ _ _ hX0 hO0, hg]; rfl
    rw [s]
    simp only [i, eqNil z (by omega : 0 < N), markNil z (by omega : 0 < N), heldNil z (by omega : 0 < N), bne_self_eq_false, cond_false, Bool.not_true]
  | true =>
    obtain ⟨m, rfl, g⟩ := gridB_iff.1 hg
    obtain ⟨L, e1, e2⟩ := cmp_links g hX0 hO0
    have hc8 : cmpC m (clip8 X) (clip8 O) ≤ 8 := by have := L.cn; have := L.h8; omega
    have sm := numsT_small (X := clip8 X) (O := clip8 O) hN hc8
    have tp := TabP.of_app (numsT m (clip8 X) (clip8 O))
    have hT := numsT_len m (clip8 X) (clip8 O)
    have hI := idsOf_len (numsT m (clip8 X) (clip8 O))
    have sv : ∀ k0 k1 k2, s_ComponentNumbers z N m (clip8 X) (clip8 O) k0 k1 k2 = (k2 (idsOf (numsT m (clip8 X) (clip8 O))).length (numsT m (clip8 X) (clip8 O)).length (cmpC m (clip8 X) (clip8 O)) 0 (idsOf (numsT m (clip8 X) (clip8 O))) (numsT m (clip8 X) (clip8 O)) : β) := fun k0 k1 k2 => by
      unfold s_ComponentNumbers
      obtain ⟨pool, d, e⟩ := s_LinkingTable_val z hN g hX0 hO0 _ _
      refine e.trans ?_
      rw [c_nne rfl, cn_l0 z hN g hX0 hO0 hc8 d, hI, hT]
    have iv : ∀ k0 k1, i_ComponentNumbers z N m (clip8 X) (clip8 O) k0 k1 = (k1 (idsOf (numsT m (clip8 X) (clip8 O))).length (numsT m (clip8 X) (clip8 O)).length (cmpC m (clip8 X) (clip8 O)) 0 (idsOf (numsT m (clip8 X) (clip8 O))) (numsT m (clip8 X) (clip8 O)) : β) := fun k0 k1 => by
      have hlo := g.lo
      have hhi := g.hi
      unfold i_ComponentNumbers i_whole_int64_s5 i_ComponentNumbers_1
      rw [i_IsGrid_val z N8 _ _ _ hX0 hO0, hg, Bool.not_true, c_false, i_Grid_component_val z N8 g hX0 hO0, e1, i_Grid_corners_val z (by omega) g hX0 hO0]
      simp only [c_and, c_true, Int.toNat_natCast]
      simp (disch := omega) only [c_le, c_ble]
      generalize hwf : (fun j => if j < m then (compS (nxtC m (clip8 X) (clip8 O)) m).1 j else 0) = wf
      have hw : ∀ i, i < m → wf i = cmpN m (clip8 X) (clip8 O) i := fun i hi => by rw [← hwf]; show (if i < m then _ else _) = _; rw [if_pos hi, e2 i hi]
      obtain ⟨h, H, f⟩ := cnI_l0 z hN g hX0 hO0 hw _
      refine f.trans ?_
      clear f
      obtain ⟨ids, pool, d, e⟩ := i_Grid_linking_val z hN g hX0 hO0 _
      refine e.trans ?_
      clear e
      rw [cnI_l1 z hN hhi hc8 H d, hI, hT]
    rw [sv]
    simp only [iv, eqTab z tp tp sm, Bool.not_true, cond_false, bne_self_eq_false]
    simp only [markTab z tp sm]
    have h0 : decide ((1 : Int) + (total (numsT m (clip8 X) (clip8 O)) (numsT m (clip8 X) (clip8 O)).length : Int) < 0) = false := decide_eq_false (by omega)
    simp only [heldTab z (markTab_spec tp) sm, h0, bne_self_eq_false, cond_false]
end
end Go.AM
