/- A part of a proof about the given program: an abstract machine, what the given functions come to, and plain laws. -/
import Derived.Test.YtoginabccpjeoaaMachB
import Derived.Test.YtoginabccpjeoaaDallLawExchanges1
set_option linter.unusedVariables false
set_option linter.unusedSimpArgs false
namespace Go.AM
section guards
variable {β : Type} {x y : β}
theorem c_and (a b : Bool) : cond (a && b) x y = cond a (cond b x y) y := by cases a <;> rfl
theorem c_or (a b : Bool) : cond (a || b) x y = cond a x (cond b x y) := by cases a <;> rfl
theorem c_not (a : Bool) : cond (!a) x y = cond a y x := by cases a <;> rfl
theorem c_lt {a b : Int} (h : a < b) : cond (decide (a < b)) x y = x := by rw [decide_eq_true h]; rfl
theorem c_nlt {a b : Int} (h : b ≤ a) : cond (decide (a < b)) x y = y := by rw [decide_eq_false (by omega)]; rfl
theorem c_le {a b : Int} (h : a ≤ b) : cond (decide (a ≤ b)) x y = x := by rw [decide_eq_true h]; rfl
theorem c_nle {a b : Int} (h : b < a) : cond (decide (a ≤ b)) x y = y := by rw [decide_eq_false (by omega)]; rfl
theorem c_ne {a b : Int} (h : a ≠ b) : cond (a != b) x y = x := by rw [show (a != b) = true by simpa using h]; rfl
theorem c_nne {a b : Int} (h : a = b) : cond (a != b) x y = y := by rw [show (a != b) = false by simpa using h]; rfl
theorem c_eq {a b : Int} (h : a = b) : cond (a == b) x y = x := by rw [show (a == b) = true by simpa using h]; rfl
theorem c_neq {a b : Int} (h : a ≠ b) : cond (a == b) x y = y := by rw [show (a == b) = false by simpa using h]; rfl
theorem c_blt {a b : Nat} (h : a < b) : cond (a.blt b) x y = x := by rw [show a.blt b = true by rwa [Nat.blt_eq]]; rfl
theorem c_nblt {a b : Nat} (h : b ≤ a) : cond (a.blt b) x y = y := by rw [show a.blt b = false by rw [← Bool.not_eq_true, Nat.blt_eq]; omega]; rfl
theorem c_ble {a b : Nat} (h : a ≤ b) : cond (a.ble b) x y = x := by rw [show a.ble b = true by rwa [Nat.ble_eq]]; rfl
theorem c_nble {a b : Nat} (h : b < a) : cond (a.ble b) x y = y := by rw [show a.ble b = false by rw [← Bool.not_eq_true, Nat.ble_eq]; omega]; rfl
theorem c_beq {a b : Nat} (h : a = b) : cond (a.beq b) x y = x := by rw [show a.beq b = true by subst h; exact Nat.beq_refl a]; rfl
theorem c_nbeq {a b : Nat} (h : a ≠ b) : cond (a.beq b) x y = y := by rw [show a.beq b = false by rw [← Bool.not_eq_true]; exact fun e => h (Nat.eq_of_beq_eq_true e)]; rfl
theorem fits64 {x : Int} (h : -9223372036854775808 ≤ x ∧ x ≤ 9223372036854775807) : fits .i64 x = true := by rw [fits_iff]; exact h
theorem c_fits {a : Int} (h : -9223372036854775808 ≤ a ∧ a ≤ 9223372036854775807) : cond (fits .i64 a) x y = x := by rw [fits64 h]; rfl
theorem c_true : cond true x y = x := rfl
theorem c_false : cond false x y = y := rfl
theorem c_same (b : Bool) : cond b x x = x := by cases b <;> rfl
/-- A test with the same text in both arms. -/
theorem c_app {γ : Type} (f : β → γ) (b : Bool) : f (cond b x y) = cond b (f x) (f y) := by cases b <;> rfl
theorem c_if (b : Bool) : cond b x y = if b = true then x else y := by cases b <;> rfl
theorem c_dec (p : Prop) [Decidable p] : cond (decide p) x y = if p then x else y := by by_cases h : p <;> simp [h]
end guards

section upd
variable {β : Type}
theorem upd_at (f : Nat → β) (i : Nat) (v : β) (j : Nat) : upd f i v j = if j = i then v else f j := by
  unfold upd
  by_cases h : j = i
  · subst h; rw [Nat.beq_refl]; simp
  · rw [show Nat.beq j i = false by rw [← Bool.not_eq_true]; exact fun e => h (Nat.eq_of_beq_eq_true e), if_neg h]; rfl
theorem upd_eq (f : Nat → β) (i : Nat) (v : β) : upd f i v = fun j => if j = i then v else f j := funext (upd_at f i v)
end upd

section loops
variable {β σ ρ : Type}
/-- So many steps, from a number on. -/
def iter (f : Nat → σ → σ) : Nat → Nat → σ → σ
  | 0, _, s => s
  | d + 1, i, s => iter f d (i + 1) (f i s)

theorem iter_succ (f : Nat → σ → σ) : ∀ (d i : Nat) (s : σ), iter f (d + 1) i s = f (i + d) (iter f d i s) := by
  intro d
  induction d with
  | zero => intro i s; rfl
  | succ d ih => intro i s; rw [iter, ih, iter]; congr 1; omega

/-- What holds along the way. -/
theorem iter_inv {f : Nat → σ → σ} {I : Nat → σ → Prop} {n : Nat} (h : ∀ i s, i < n → I i s → I (i + 1) (f i s)) : ∀ (d i : Nat) (s : σ), i + d ≤ n → I i s → I (i + d) (iter f d i s) := by
  intro d
  induction d with
  | zero => intro i s _ h0; exact h0
  | succ d ih =>
    intro i s hn h0
    have := ih (i + 1) (f i s) (by omega) (h i s (by omega) h0)
    rw [show i + 1 + d = i + (d + 1) by omega] at this
    exact this

/-- A loop that counts up to a number and goes on. -/
theorem up_to {L : Nat → Nat → σ → β} {n : Nat} {out : σ → β} {f : Nat → σ → σ} {I : Nat → σ → Prop}
    (hs : ∀ m i s, i < n → I i s → L (m + 1) i s = L m (i + 1) (f i s) ∧ I (i + 1) (f i s)) (he : ∀ m s, I n s → L (m + 1) n s = out s) :
    ∀ (d m i : Nat) (s : σ), i + d = n → d < m → I i s → L m i s = out (iter f d i s) := by
  intro d
  induction d with
  | zero =>
    intro m i s hi hm h0
    obtain ⟨m, rfl⟩ : ∃ m', m = m' + 1 := ⟨m - 1, by omega⟩
    have : i = n := by omega
    subst this
    exact he m s h0
  | succ d ih =>
    intro m i s hi hm h0
    obtain ⟨m, rfl⟩ : ∃ m', m = m' + 1 := ⟨m - 1, by omega⟩
    obtain ⟨h1, h2⟩ := hs m i s (by omega) h0
    rw [h1]
    exact ih m (i + 1) (f i s) (by omega) (by omega) h2

/-- A loop that counts up to a number comes to an end. -/
theorem up_to_ex {L : Nat → Nat → σ → β} {n : Nat} {out : σ → β} {I : Nat → σ → Prop}
    (hs : ∀ i s, i < n → I i s → ∃ s', (∀ m, L (m + 1) i s = L m (i + 1) s') ∧ I (i + 1) s') (he : ∀ m s, I n s → L (m + 1) n s = out s) :
    ∀ (d m i : Nat) (s : σ), i + d = n → d < m → I i s → ∃ s', L m i s = out s' ∧ I n s' := by
  intro d
  induction d with
  | zero =>
    intro m i s hi hm h0
    obtain ⟨m, rfl⟩ : ∃ m', m = m' + 1 := ⟨m - 1, by omega⟩
    have : i = n := by omega
    subst this
    exact ⟨s, he m s h0, h0⟩
  | succ d ih =>
    intro m i s hi hm h0
    obtain ⟨m, rfl⟩ : ∃ m', m = m' + 1 := ⟨m - 1, by omega⟩
    obtain ⟨s', h1, h2⟩ := hs i s (by omega) h0
    rw [h1]
    exact ih m (i + 1) s' (by omega) (by omega) h2

/-- A loop that counts up to a number, or is left before. -/
def iterE (f : Nat → σ → σ ⊕ ρ) : Nat → Nat → σ → σ ⊕ ρ
  | 0, _, s => .inl s
  | d + 1, i, s => match f i s with
    | .inl s' => iterE f d (i + 1) s'
    | .inr r => .inr r
def orOut (out : σ → β) (ex : ρ → β) : σ ⊕ ρ → β
  | .inl s => out s
  | .inr r => ex r
theorem up_to_E {L : Nat → Nat → σ → β} {n : Nat} {out : σ → β} {ex : ρ → β} {f : Nat → σ → σ ⊕ ρ} {I : Nat → σ → Prop}
    (hs : ∀ m i s, i < n → I i s → (∃ s', f i s = .inl s' ∧ L (m + 1) i s = L m (i + 1) s' ∧ I (i + 1) s') ∨ ∃ r, f i s = .inr r ∧ L (m + 1) i s = ex r) (he : ∀ m s, I n s → L (m + 1) n s = out s) :
    ∀ (d m i : Nat) (s : σ), i + d = n → d < m → I i s → L m i s = orOut out ex (iterE f d i s) := by
  intro d
  induction d with
  | zero =>
    intro m i s hi hm h0
    obtain ⟨m, rfl⟩ : ∃ m', m = m' + 1 := ⟨m - 1, by omega⟩
    have : i = n := by omega
    subst this
    exact he m s h0
  | succ d ih =>
    intro m i s hi hm h0
    obtain ⟨m, rfl⟩ : ∃ m', m = m' + 1 := ⟨m - 1, by omega⟩
    rcases hs m i s (by omega) h0 with ⟨s', h1, h2, h3⟩ | ⟨r, h1, h2⟩
    · rw [h2, iterE, h1]
      exact ih m (i + 1) s' (by omega) (by omega) h3
    · rw [h2, iterE, h1]; rfl

/-- A test for all numbers of a range. -/
def allFrom (p : Nat → Bool) : Nat → Nat → Bool
  | 0, _ => true
  | d + 1, i => p i && allFrom p d (i + 1)
theorem allFrom_iff {p : Nat → Bool} : ∀ (d i : Nat), allFrom p d i = true ↔ ∀ j, i ≤ j → j < i + d → p j = true := by
  intro d
  induction d with
  | zero => intro i; exact ⟨fun _ j h1 h2 => by omega, fun _ => rfl⟩
  | succ d ih =>
    intro i
    rw [allFrom, Bool.and_eq_true, ih]
    refine ⟨fun ⟨h1, h2⟩ j h3 h4 => ?_, fun h => ⟨h i (by omega) (by omega), fun j h3 h4 => h j (by omega) (by omega)⟩⟩
    by_cases e : j = i
    · subst e; exact h1
    · exact h2 j (by omega) (by omega)
theorem up_to_all {L : Nat → Nat → β} {n : Nat} {kt kf : β} {p : Nat → Bool}
    (hs : ∀ m i, i < n → L (m + 1) i = cond (p i) (L m (i + 1)) kf) (he : ∀ m, L (m + 1) n = kt) :
    ∀ (d m i : Nat), i + d = n → d < m → L m i = cond (allFrom p d i) kt kf := by
  intro d
  induction d with
  | zero =>
    intro m i hi hm
    obtain ⟨m, rfl⟩ : ∃ m', m = m' + 1 := ⟨m - 1, by omega⟩
    have : i = n := by omega
    subst this
    exact he m
  | succ d ih =>
    intro m i hi hm
    obtain ⟨m, rfl⟩ : ∃ m', m = m' + 1 := ⟨m - 1, by omega⟩
    rw [hs m i (by omega), allFrom]
    cases p i with
    | false => rfl
    | true => exact ih m (i + 1) (by omega) (by omega)
/-- Cells that are set one after the other. -/
theorem iter_set {γ : Type} (g : Nat → γ) : ∀ (d i : Nat) (h : Nat → γ), iter (fun i h => upd h i (g i)) d i h = fun j => if i ≤ j ∧ j < i + d then g j else h j := by
  intro d
  induction d with
  | zero => intro i h; funext j; rw [if_neg (by omega)]; rfl
  | succ d ih =>
    intro i h
    rw [iter, ih]
    funext j
    simp only [upd_at]
    by_cases e : j = i
    · subst e; rw [if_neg (by omega), if_pos (by omega)]; simp
    · by_cases e2 : i + 1 ≤ j ∧ j < i + 1 + d
      · rw [if_pos e2, if_pos (by omega)]
      · rw [if_neg e2, if_neg e, if_neg (by omega)]
end loops
end Go.AM

namespace Go.AM
/-- A map of the numbers below 'n' to themselves that leads no two to one leads to all. -/
theorem surj_of_inj : ∀ (n : Nat) (f : Nat → Nat), (∀ i, i < n → f i < n) → (∀ i j, i < n → j < n → f i = f j → i = j) → ∀ r, r < n → ∃ i, i < n ∧ f i = r := by
  intro n
  induction n with
  | zero => intro f _ _ r hr; omega
  | succ n ih =>
    intro f hf hi r hr
    have hg := ih (fun i => if f i = n then f n else f i) (fun i h => by
      try simp only
      split
      · rename_i e
        have h1 := hf n (by omega)
        have h2 : f n ≠ n := fun e2 => by have := hi i n (by omega) (by omega) (by omega); omega
        omega
      · have := hf i (by omega); omega) (fun i j h1 h2 e => by
      try simp only at e
      split at e <;> split at e
      · exact hi i j (by omega) (by omega) (by omega)
      · have := hi n j (by omega) (by omega) e; omega
      · have := hi i n (by omega) (by omega) e; omega
      · exact hi i j (by omega) (by omega) e)
    by_cases e : r = n
    · subst e
      by_cases e2 : f r = r
      · exact ⟨r, by omega, e2⟩
      · obtain ⟨i, h1, h2⟩ := hg (f r) (by have := hf r (by omega); omega)
        try simp only at h2
        split at h2
        · rename_i e3; exact ⟨i, by omega, e3⟩
        · have := hi i r (by omega) (by omega) h2; omega
    · obtain ⟨i, h1, h2⟩ := hg r (by omega)
      try simp only at h2
      split at h2
      · exact ⟨n, by omega, h2⟩
      · exact ⟨i, by omega, h2⟩
theorem inj_of_surj (n : Nat) (f : Nat → Nat) (hf : ∀ i, i < n → f i < n) (hs : ∀ r, r < n → ∃ i, i < n ∧ f i = r) : ∀ i j, i < n → j < n → f i = f j → i = j := by
  have hc : ∀ r, ∃ i, r < n → i < n ∧ f i = r := fun r => by
    by_cases h : r < n
    · obtain ⟨i, hi⟩ := hs r h; exact ⟨i, fun _ => hi⟩
    · exact ⟨0, fun h' => absurd h' h⟩
  obtain ⟨g, hg⟩ := Classical.axiomOfChoice hc
  have hgs := surj_of_inj n g (fun i h => (hg i h).1) (fun i j h1 h2 e => by have a := (hg i h1).2; have b := (hg j h2).2; rw [e] at a; omega)
  intro i j hi hj e
  obtain ⟨r, h1, h2⟩ := hgs i hi
  obtain ⟨s, h3, h4⟩ := hgs j hj
  have a := (hg r h1).2
  have b := (hg s h3).2
  rw [h2] at a
  rw [h4] at b
  have : r = s := by omega
  rw [← h2, ← h4, this]

theorem bitI_or_nat {a b : Nat} (ha : a < 2 ^ 63) (hb : b < 2 ^ 63) : bitI .or .i64 (a : Int) (b : Int) = ((a ||| b : Nat) : Int) := by
  have e : bitI .or .i64 (a : Int) (b : Int) = IntKind.wrap .i64 ((BitVec.ofInt 64 a ||| BitVec.ofInt 64 b).toNat : Int) := rfl
  rw [e, BitVec.ofInt_natCast, BitVec.ofInt_natCast, BitVec.toNat_or, BitVec.toNat_ofNat, BitVec.toNat_ofNat, Nat.mod_eq_of_lt (by omega), Nat.mod_eq_of_lt (by omega)]
  apply wrap_fits
  have := Nat.or_lt_two_pow ha hb
  exact fits64 (by omega)
theorem shlI_one (x : Nat) : shlI 1 (x : Int) = ((2 ^ x : Nat) : Int) := by
  unfold shlI
  simp

/-- The first 'n' of 'w' cells are the numbers below 'n' in some order; the others are 0. -/
def PermP (w n : Nat) (p : Nat → Int) : Prop := (∀ j, n ≤ j → j < w → p j = 0) ∧ (∀ j, j < n → p j < n) ∧ ∀ i j, i < n → j < n → p i = p j → i = j
noncomputable def permB (w n : Nat) (p : Nat → Int) : Bool := @decide (PermP w n p) (Classical.propDecidable _)
theorem permB_iff {w n : Nat} {p : Nat → Int} : permB w n p = true ↔ PermP w n p := by
  unfold permB; exact @decide_eq_true_iff _ (Classical.propDecidable _)
theorem permB_of {w n : Nat} {p : Nat → Int} {b : Bool} (h : b = true ↔ PermP w n p) : b = permB w n p := by
  cases b <;> cases hq : permB w n p <;> simp_all [permB_iff, ← permB_iff]

section order
variable {β : Type}
/-- The loop of the program that tests an order, for any width. -/
def ordS (w : Nat) (z : β) (n : Int) (h0 : Nat → Int) (seen : Int) (t10 : Int) (kn : Int → Int → β) (k0 : β) (k1 : Int → β) : β :=
  cond (decide (t10 < (w : Int))) (cond (decide (0 ≤ t10) && decide (t10 < (↑w : Int))) (cond (t10.toNat.blt w) (cond (decide (n ≤ t10)) (cond (h0 t10.toNat != 0) (k0) (cond (decide (n ≤ h0 t10.toNat)) (k0) (cond (decide (t10 < n)) (cond (decide (0 ≤ h0 t10.toNat) && decide (h0 t10.toNat < (↑64 : Int))) (cond (fits IntKind.i64 (shlI 1 (h0 t10.toNat))) (cond (fits IntKind.i64 (t10 + 1)) (kn (bitI BinOp.or IntKind.i64 seen (shlI 1 (h0 t10.toNat))) (t10 + 1)) (z)) (z)) (z)) (cond (fits IntKind.i64 (t10 + 1)) (kn seen (t10 + 1)) (z))))) (cond (decide (n ≤ h0 t10.toNat)) (k0) (cond (decide (t10 < n)) (cond (decide (0 ≤ h0 t10.toNat) && decide (h0 t10.toNat < (↑64 : Int))) (cond (fits IntKind.i64 (shlI 1 (h0 t10.toNat))) (cond (fits IntKind.i64 (t10 + 1)) (kn (bitI BinOp.or IntKind.i64 seen (shlI 1 (h0 t10.toNat))) (t10 + 1)) (z)) (z)) (z)) (cond (fits IntKind.i64 (t10 + 1)) (kn seen (t10 + 1)) (z))))) (z)) (z)) (k1 seen)
def ordL (w : Nat) (z : β) (n : Int) (h0 : Nat → Int) : Nat → Int → Int → β → (Int → β) → β
  | 0, _, _, _, _ => z
  | m + 1, seen, t10, k0, k1 => ordS w z n h0 seen t10 (fun seen t10 => ordL w z n h0 m seen t10 k0 k1) k0 k1

/-- A round of it. -/
def ordF (n : Nat) (p : Nat → Int) (i s : Nat) : Nat ⊕ Unit :=
  if n ≤ i then (if p i = 0 then .inl s else .inr ()) else if p i < n then .inl (s ||| 2 ^ (p i).toNat) else .inr ()
theorem ordF_inv {n i s s' : Nat} {p : Nat → Int} (hp : 0 ≤ p i) (hn : n ≤ 8) (hs : s < 256) (h : ordF n p i s = .inl s') : s' < 256 := by
  unfold ordF at h
  split at h
  · split at h
    · cases h; exact hs
    · cases h
  · split at h
    · cases h
      refine Nat.or_lt_two_pow (n := 8) hs ?_
      exact Nat.pow_lt_pow_right (by omega) (by omega)
    · cases h
theorem ordL_val (w : Nat) (hw : w ≤ 64) (z : β) (n : Nat) (hn : 1 ≤ n) (hn8 : n ≤ 8) (p : Nat → Int) (hp : ∀ j, 0 ≤ p j) (k0 : β) (k1 : Int → β) {N : Nat} (hN : w < N) :
    ordL w z n p N 0 0 k0 k1 = orOut (fun s : Nat => k1 (s : Int)) (fun _ => k0) (iterE (ordF n p) w 0 0) := by
  refine up_to_E (L := fun m i (s : Nat) => ordL w z n p m (s : Int) (i : Int) k0 k1) (n := w) (out := fun s : Nat => k1 (s : Int)) (ex := fun _ => k0) (f := ordF n p) (I := fun _ s => s < 256) ?_ ?_ w N 0 0 (by omega) hN (by omega)
  · intro m i s hi hs
    have h0 := hp i
    simp only [ordL, ordS, c_and, Int.toNat_natCast]
    by_cases h1 : n ≤ i
    · by_cases h2 : p i = 0
      · left
        refine ⟨s, by unfold ordF; rw [if_pos h1, if_pos h2], ?_, hs⟩
        simp (disch := omega) only [c_lt, c_nlt, c_le, c_nle, c_blt, c_nne, c_fits]
        rfl
      · right
        refine ⟨(), by unfold ordF; rw [if_pos h1, if_neg h2], ?_⟩
        simp (disch := omega) only [c_lt, c_nlt, c_le, c_nle, c_blt, c_ne, c_fits]
    · by_cases h2 : p i < n
      · left
        have hs2 : s ||| 2 ^ (p i).toNat < 256 := Nat.or_lt_two_pow (n := 8) hs (Nat.pow_lt_pow_right (by omega) (by omega))
        refine ⟨s ||| 2 ^ (p i).toNat, by unfold ordF; rw [if_neg h1, if_pos h2], ?_, hs2⟩
        obtain ⟨v, hv⟩ : ∃ v : Nat, p i = (v : Int) := ⟨(p i).toNat, by omega⟩
        have hv8 : v < 8 := by omega
        have hpow : 2 ^ v < 256 := Nat.pow_lt_pow_right (n := 8) (by omega) hv8
        simp only [hv, Int.toNat_natCast, shlI_one] at *
        generalize 2 ^ v = q at *
        simp (disch := omega) only [c_lt, c_nlt, c_le, c_nle, c_blt, c_ne, c_fits]
        rw [bitI_or_nat (by omega) (by omega)]
        rfl
      · right
        refine ⟨(), by unfold ordF; rw [if_neg h1, if_neg h2], ?_⟩
        simp (disch := omega) only [c_lt, c_nlt, c_le, c_nle, c_blt, c_ne, c_fits]
  · intro m s _
    simp (disch := omega) only [ordL, ordS, c_nlt]

/-- Are the cells from some on in bounds? -/
def OkFrom (w n : Nat) (p : Nat → Int) (i : Nat) : Prop := ∀ j, i ≤ j → j < w → (n ≤ j → p j = 0) ∧ (j < n → p j < n)
theorem OkFrom.step {w n i : Nat} {p : Nat → Int} (hi : i < w) : OkFrom w n p i ↔ ((n ≤ i → p i = 0) ∧ (i < n → p i < n)) ∧ OkFrom w n p (i + 1) := by
  refine ⟨fun h => ⟨h i (by omega) hi, fun j h1 h2 => h j (by omega) h2⟩, fun ⟨h1, h2⟩ j h3 h4 => ?_⟩
  by_cases e : j = i
  · subst e; exact h1
  · exact h2 j (by omega) h4
theorem ordF_run {w n : Nat} {p : Nat → Int} : ∀ (d i s : Nat), i + d = w →
    (∃ s', iterE (ordF n p) d i s = .inl s' ∧ OkFrom w n p i ∧ ∀ r, s'.testBit r = true ↔ s.testBit r = true ∨ ∃ j, i ≤ j ∧ j < n ∧ j < w ∧ (p j).toNat = r) ∨ (iterE (ordF n p) d i s = .inr () ∧ ¬ OkFrom w n p i) := by
  intro d
  induction d with
  | zero =>
    intro i s hi
    left
    refine ⟨s, rfl, fun j h1 h2 => by omega, fun r => ⟨.inl, fun h => ?_⟩⟩
    rcases h with h | ⟨j, h1, _, h2, _⟩
    · exact h
    · omega
  | succ d ih =>
    intro i s hi
    rw [OkFrom.step (by omega)]
    have key : ∀ s', ordF n p i s = .inl s' → ((n ≤ i → p i = 0) ∧ (i < n → p i < n)) → (∀ r, s'.testBit r = true ↔ s.testBit r = true ∨ (i < n ∧ (p i).toNat = r)) →
        (∃ s', iterE (ordF n p) (d + 1) i s = .inl s' ∧ (((n ≤ i → p i = 0) ∧ (i < n → p i < n)) ∧ OkFrom w n p (i + 1)) ∧ ∀ r, s'.testBit r = true ↔ s.testBit r = true ∨ ∃ j, i ≤ j ∧ j < n ∧ j < w ∧ (p j).toNat = r) ∨
        (iterE (ordF n p) (d + 1) i s = .inr () ∧ ¬ (((n ≤ i → p i = 0) ∧ (i < n → p i < n)) ∧ OkFrom w n p (i + 1))) := by
      intro s' h1 h2 h3
      rcases ih (i + 1) s' (by omega) with ⟨s2, h4, h5, h6⟩ | ⟨h4, h5⟩
      · left
        refine ⟨s2, by rw [iterE, h1]; exact h4, ⟨h2, h5⟩, fun r => ?_⟩
        rw [h6, h3]
        constructor
        · rintro ((h | ⟨h, h'⟩) | ⟨j, g1, g2, g3, g4⟩)
          · exact .inl h
          · exact .inr ⟨i, by omega, h, by omega, h'⟩
          · exact .inr ⟨j, by omega, g2, g3, g4⟩
        · rintro (h | ⟨j, g1, g2, g3, g4⟩)
          · exact .inl (.inl h)
          · by_cases e : j = i
            · subst e; exact .inl (.inr ⟨g2, g4⟩)
            · exact .inr ⟨j, by omega, g2, g3, g4⟩
      · right
        exact ⟨by rw [iterE, h1]; exact h4, fun h => h5 h.2⟩
    by_cases h1 : n ≤ i
    · by_cases h2 : p i = 0
      · exact key s (by unfold ordF; rw [if_pos h1, if_pos h2]) ⟨fun _ => h2, fun h => by omega⟩ fun r => ⟨.inl, fun h => h.elim id fun h => by omega⟩
      · right
        refine ⟨?_, fun h => h2 (h.1.1 h1)⟩
        rw [iterE]
        have : ordF n p i s = .inr () := by unfold ordF; rw [if_pos h1, if_neg h2]
        rw [this]
    · by_cases h2 : p i < n
      · refine key (s ||| 2 ^ (p i).toNat) (by unfold ordF; rw [if_neg h1, if_pos h2]) ⟨fun h => by omega, fun _ => h2⟩ fun r => ?_
        rw [Nat.testBit_or, Nat.testBit_two_pow, Bool.or_eq_true, decide_eq_true_eq]
        exact ⟨fun h => h.imp id fun h => ⟨by omega, h⟩, fun h => h.imp id fun h => h.2⟩
      · right
        refine ⟨?_, fun h => h2 (h.1.2 (by omega))⟩
        rw [iterE]
        have : ordF n p i s = .inr () := by unfold ordF; rw [if_neg h1, if_neg h2]
        rw [this]

/-- The program's test of an order. -/
theorem ord_val (w : Nat) (hw : w ≤ 64) (z : β) (n : Nat) (hn : 1 ≤ n) (hn8 : n ≤ 8) (hnw : n ≤ w) (p : Nat → Int) (hp : ∀ j, 0 ≤ p j) (k : Bool → β) {N : Nat} (hN : w < N) :
    ordL w z n p N 0 0 (k false) (fun q5 => cond (decide (0 ≤ (n : Int)) && decide ((n : Int) < (↑64 : Int))) (cond (fits IntKind.i64 (shlI 1 n)) (cond (fits IntKind.i64 (shlI 1 n - 1)) (k (q5 == shlI 1 n - 1)) (z)) (z)) (z)) = k (permB w n p) := by
  rw [ordL_val w hw z n hn hn8 p hp _ _ hN]
  have hpow : 2 ^ n ≤ 256 := Nat.pow_le_pow_right (n := 2) (by omega) hn8
  have hpos : 0 < 2 ^ n := Nat.two_pow_pos n
  rcases ordF_run (w := w) (n := n) (p := p) w 0 0 (by omega) with ⟨s, h1, h2, h3⟩ | ⟨h1, h2⟩
  · rw [h1]
    simp only [orOut, shlI_one, c_and]
    simp (disch := omega) only [c_lt, c_le, c_fits]
    refine congrArg k (permB_of ?_)
    have hb : ∀ r, s.testBit r = true ↔ ∃ j, j < n ∧ (p j).toNat = r := fun r => by
      rw [h3]
      simp only [Nat.zero_testBit, Bool.false_eq_true, false_or]
      exact ⟨fun ⟨j, _, a, _, b⟩ => ⟨j, a, b⟩, fun ⟨j, a, b⟩ => ⟨j, by omega, a, by omega, b⟩⟩
    have hf : ∀ i, i < n → (p i).toNat < n := fun i hi => by have := (h2 i (by omega) (by omega)).2 hi; omega
    have e1 : ((s : Int) == ((2 ^ n : Nat) : Int) - 1) = true ↔ ∀ r, r < n → ∃ j, j < n ∧ (p j).toNat = r := by
      constructor
      · intro h r hr
        have : s = 2 ^ n - 1 := by simp only [beq_iff_eq] at h; omega
        rw [← hb, this, Nat.testBit_two_pow_sub_one]
        exact decide_eq_true hr
      · intro h
        have : s = 2 ^ n - 1 := by
          apply Nat.eq_of_testBit_eq
          intro r
          rw [Nat.testBit_two_pow_sub_one]
          by_cases hr : r < n
          · rw [decide_eq_true hr, hb]; exact h r hr
          · rw [decide_eq_false hr, ← Bool.not_eq_true, hb]
            rintro ⟨j, a, b⟩
            have := hf j a
            omega
        simp only [beq_iff_eq]
        omega
    rw [e1]
    constructor
    · intro h
      refine ⟨fun j a b => (h2 j (by omega) b).1 a, fun j a => (h2 j (by omega) (by omega)).2 a, fun i j a b e => inj_of_surj n (fun i => (p i).toNat) hf h i j a b (by rw [e])⟩
    · rintro ⟨_, _, h⟩
      exact surj_of_inj n (fun i => (p i).toNat) hf fun i j a b e => h i j a b (by have := hp i; have := hp j; omega)
  · rw [h1]
    simp only [orOut]
    refine congrArg k (permB_of ⟨fun h => (by cases h), fun h => absurd (fun j _ b => ⟨fun a => h.1 j a b, fun a => h.2.1 j a⟩) h2⟩)
end order
end Go.AM

namespace Go.AM
section perm
variable {β : Type}
/-- The loop of the reference that tests a permutation, for any width. -/
def permS (w : Nat) (z : β) (n : Int) (h0 : Nat → Int) (i : Int) (h1 : Nat → Bool) (kn : Int → (Nat → Bool) → β) (k0 : (Nat → Bool) → β) (k1 : (Nat → Bool) → β) : β :=
  cond (decide (i < (w : Int))) (cond (decide (n ≤ i)) (cond (decide (0 ≤ i) && decide (i < (↑w : Int))) (cond (i.toNat.blt w) (cond (h0 i.toNat != 0) (k0 h1) (cond (fits IntKind.i64 (i + 1)) (kn (i + 1) h1) (z))) (z)) (z)) (cond (decide (0 ≤ i) && decide (i < (↑w : Int))) (cond (i.toNat.blt w) (cond (decide (n ≤ h0 i.toNat)) (k0 h1) (cond (decide (0 ≤ i) && decide (i < (↑w : Int))) (cond (i.toNat.blt w) (cond (decide (0 ≤ h0 i.toNat) && decide (h0 i.toNat < (↑w : Int))) (cond ((h0 i.toNat).toNat.blt w) (cond (h1 (h0 i.toNat).toNat) (k0 h1) (cond (decide (0 ≤ i) && decide (i < (↑w : Int))) (cond (i.toNat.blt w) (cond (decide (0 ≤ h0 i.toNat) && decide (h0 i.toNat < (↑w : Int))) (cond ((h0 i.toNat).toNat.blt w) (cond (fits IntKind.i64 (i + 1)) (kn (i + 1) (upd h1 (h0 i.toNat).toNat true)) (z)) (z)) (z)) (z)) (z))) (z)) (z)) (z)) (z))) (z)) (z))) (k1 h1)
def permL (w : Nat) (z : β) (n : Int) (h0 : Nat → Int) : Nat → Int → (Nat → Bool) → ((Nat → Bool) → β) → ((Nat → Bool) → β) → β
  | 0, _, _, _, _ => z
  | m + 1, i, h1, k0, k1 => permS w z n h0 i h1 (fun i h1 => permL w z n h0 m i h1 k0 k1) k0 k1

/-- A round of it. -/
def permF (n : Nat) (p : Nat → Int) (i : Nat) (met : Nat → Bool) : (Nat → Bool) ⊕ Unit :=
  if n ≤ i then (if p i = 0 then .inl met else .inr ()) else if p i < n then (if met (p i).toNat = true then .inr () else .inl (upd met (p i).toNat true)) else .inr ()
theorem permL_val (w : Nat) (hw : w ≤ 64) (z : β) (n : Nat) (hnw : n ≤ w) (p : Nat → Int) (hp : ∀ j, 0 ≤ p j) (kf kt : β) {N : Nat} (hN : w < N) (met : Nat → Bool) :
    permL w z n p N 0 met (fun _ => kf) (fun _ => kt) = orOut (fun _ => kt) (fun _ => kf) (iterE (permF n p) w 0 met) := by
  refine up_to_E (L := fun m i (s : Nat → Bool) => permL w z n p m (i : Int) s (fun _ => kf) (fun _ => kt)) (n := w) (out := fun _ => kt) (ex := fun _ => kf) (f := permF n p) (I := fun _ _ => True) ?_ ?_ w N 0 met (by omega) hN trivial
  · intro m i s hi _
    have h0 := hp i
    simp only [permL, permS, c_and, Int.toNat_natCast]
    by_cases h1 : n ≤ i
    · by_cases h2 : p i = 0
      · left
        refine ⟨s, by unfold permF; rw [if_pos h1, if_pos h2], ?_, trivial⟩
        simp (disch := omega) only [c_lt, c_nlt, c_le, c_nle, c_blt, c_nne, c_fits]
        rfl
      · right
        refine ⟨(), by unfold permF; rw [if_pos h1, if_neg h2], ?_⟩
        simp (disch := omega) only [c_lt, c_nlt, c_le, c_nle, c_blt, c_ne, c_fits]
    · by_cases h2 : p i < n
      · cases h3 : s (p i).toNat with
        | true =>
          right
          refine ⟨(), by unfold permF; rw [if_neg h1, if_pos h2, if_pos h3], ?_⟩
          simp (disch := omega) only [c_lt, c_nlt, c_le, c_nle, c_blt, c_ne, c_fits, h3, c_true]
        | false =>
          left
          refine ⟨upd s (p i).toNat true, by unfold permF; rw [if_neg h1, if_pos h2, if_neg (by simp [h3])], ?_, trivial⟩
          simp (disch := omega) only [c_lt, c_nlt, c_le, c_nle, c_blt, c_ne, c_fits, h3, c_false]
          rfl
      · right
        refine ⟨(), by unfold permF; rw [if_neg h1, if_neg h2], ?_⟩
        simp (disch := omega) only [c_lt, c_nlt, c_le, c_nle, c_blt, c_ne, c_fits]
  · intro m s _
    simp (disch := omega) only [permL, permS, c_nlt]

/-- From some cell on: in bounds, not met before, and no two alike. -/
def FreeFrom (w n : Nat) (p : Nat → Int) (i : Nat) (met : Nat → Bool) : Prop :=
  OkFrom w n p i ∧ (∀ j, i ≤ j → j < n → j < w → met (p j).toNat = false) ∧ ∀ a b, i ≤ a → a < b → b < n → b < w → (p a).toNat ≠ (p b).toNat
theorem permF_run {w n : Nat} {p : Nat → Int} : ∀ (d i : Nat) (met : Nat → Bool), i + d = w →
    ((∃ m, iterE (permF n p) d i met = .inl m) ∧ FreeFrom w n p i met) ∨ (iterE (permF n p) d i met = .inr () ∧ ¬ FreeFrom w n p i met) := by
  intro d
  induction d with
  | zero =>
    intro i met hi
    left
    exact ⟨⟨met, rfl⟩, fun j h1 h2 => by omega, fun j h1 _ h2 => by omega, fun a b h1 h2 _ h3 => by omega⟩
  | succ d ih =>
    intro i met hi
    have bad : permF n p i met = .inr () → ¬ FreeFrom w n p i met → ((∃ m, iterE (permF n p) (d + 1) i met = .inl m) ∧ FreeFrom w n p i met) ∨ (iterE (permF n p) (d + 1) i met = .inr () ∧ ¬ FreeFrom w n p i met) := by
      intro h1 h2
      right
      exact ⟨by rw [iterE, h1], h2⟩
    have good : ∀ met', permF n p i met = .inl met' → (FreeFrom w n p i met ↔ FreeFrom w n p (i + 1) met') → ((∃ m, iterE (permF n p) (d + 1) i met = .inl m) ∧ FreeFrom w n p i met) ∨ (iterE (permF n p) (d + 1) i met = .inr () ∧ ¬ FreeFrom w n p i met) := by
      intro met' h1 h2
      rw [h2, iterE, h1]
      exact ih (i + 1) met' (by omega)
    by_cases h1 : n ≤ i
    · by_cases h2 : p i = 0
      · refine good met (by unfold permF; rw [if_pos h1, if_pos h2]) ?_
        unfold FreeFrom
        rw [OkFrom.step (by omega)]
        exact ⟨fun ⟨⟨_, a⟩, b, c⟩ => ⟨a, fun j g1 g2 g3 => b j (by omega) g2 g3, fun x y g1 g2 g3 g4 => c x y (by omega) g2 g3 g4⟩,
          fun ⟨a, b, c⟩ => ⟨⟨⟨fun _ => h2, fun h => by omega⟩, a⟩, fun j g1 g2 g3 => by omega, fun x y g1 g2 g3 g4 => by omega⟩⟩
      · exact bad (by unfold permF; rw [if_pos h1, if_neg h2]) fun h => h2 ((h.1 i (by omega) (by omega)).1 h1)
    · by_cases h2 : p i < n
      · cases h3 : met (p i).toNat with
        | true => exact bad (by unfold permF; rw [if_neg h1, if_pos h2, if_pos h3]) fun h => by have := h.2.1 i (by omega) (by omega) (by omega); rw [h3] at this; cases this
        | false =>
          refine good (upd met (p i).toNat true) (by unfold permF; rw [if_neg h1, if_pos h2, if_neg (by simp [h3])]) ?_
          unfold FreeFrom
          rw [OkFrom.step (by omega)]
          constructor
          · rintro ⟨⟨_, a⟩, b, c⟩
            refine ⟨a, fun j g1 g2 g3 => ?_, fun x y g1 g2 g3 g4 => c x y (by omega) g2 g3 g4⟩
            rw [upd_at, if_neg (fun e => c i j (by omega) (by omega) g2 g3 e.symm)]
            exact b j (by omega) g2 g3
          · rintro ⟨a, b, c⟩
            have b' : ∀ j, i + 1 ≤ j → j < n → j < w → (p j).toNat ≠ (p i).toNat ∧ met (p j).toNat = false := by
              intro j g1 g2 g3
              have := b j g1 g2 g3
              rw [upd_at] at this
              split at this
              · cases this
              · rename_i e; exact ⟨e, this⟩
            refine ⟨⟨⟨fun h => by omega, fun _ => h2⟩, a⟩, fun j g1 g2 g3 => ?_, fun x y g1 g2 g3 g4 => ?_⟩
            · by_cases e : j = i
              · subst e; exact h3
              · exact (b' j (by omega) g2 g3).2
            · by_cases e : x = i
              · subst e; exact fun e => (b' y (by omega) g3 g4).1 e.symm
              · exact c x y (by omega) g2 g3 g4
      · exact bad (by unfold permF; rw [if_neg h1, if_neg h2]) fun h => h2 ((h.1 i (by omega) (by omega)).2 (by omega))

/-- The reference's test of a permutation. -/
theorem perm_val (w : Nat) (hw : w ≤ 64) (z : β) (n : Nat) (hnw : n ≤ w) (p : Nat → Int) (hp : ∀ j, 0 ≤ p j) (k : Bool → β) {N : Nat} (hN : w < N) :
    permL w z n p N 0 (fun _ => false) (fun _ => k false) (fun _ => k true) = k (permB w n p) := by
  rw [permL_val w hw z n hnw p hp _ _ hN]
  rcases permF_run (w := w) (n := n) (p := p) w 0 (fun _ => false) (by omega) with ⟨⟨m, h1⟩, h2, _, h3⟩ | ⟨h1, h2⟩
  · rw [h1]
    refine congrArg k (permB_of ⟨fun _ => ⟨fun j a b => (h2 j (by omega) b).1 a, fun j a => (h2 j (by omega) (by omega)).2 a, fun i j a b e => ?_⟩, fun _ => rfl⟩)
    rcases Nat.lt_trichotomy i j with g | g | g
    · exact absurd (by rw [e]) (h3 i j (by omega) g b (by omega))
    · exact g
    · exact absurd (by rw [e]) (h3 j i (by omega) g a (by omega))
  · rw [h1]
    refine congrArg k (permB_of ⟨fun h => (by cases h), fun h => absurd ⟨fun j _ b => ⟨fun a => h.1 j a b, fun a => h.2.1 j a⟩, fun _ _ _ _ => rfl, fun a b _ g1 g2 _ e => ?_⟩ h2⟩)
    have := h.2.2 a b (by omega) g2 (by have := hp a; have := hp b; omega)
    omega
end perm
end Go.AM

namespace Go.AM
section
variable {β : Type}
theorem i_within_val (z : β) (N : Nat) (x lo hi : Int) (k : Bool → β) : i_within z N x lo hi k = k (decide (lo ≤ x ∧ x ≤ hi)) := by
  unfold i_within
  by_cases h : lo ≤ x
  · rw [c_le h]; congr 1; exact decide_eq_decide.2 ⟨fun h2 => ⟨h, h2⟩, fun h2 => h2.2⟩
  · rw [c_nle (by omega), decide_eq_false (fun h2 => h h2.1)]
theorem s_l01In_val (z : β) (N : Nat) (x lo hi : Int) (k : Bool → β) : s_l01In z N x lo hi k = k (decide (lo ≤ x ∧ x ≤ hi)) := by
  unfold s_l01In
  by_cases h : lo ≤ x
  · rw [c_le h]; congr 1; exact decide_eq_decide.2 ⟨fun h2 => ⟨h, h2⟩, fun h2 => h2.2⟩
  · rw [c_nle (by omega), decide_eq_false (fun h2 => h h2.1)]
theorem w_toByteA64_val (z : β) {N : Nat} (hN : 64 < N) (a : Nat → Int) (k0 : (Nat → Int) → β) : w_toByteA64 z N a k0 = k0 (fun j => if j < 64 then a j else 0) := by
  unfold w_toByteA64
  have := up_to (L := fun m i h => w_toByteA64_l0 z a (fun _ => 0) m (i : Int) h k0) (n := 64) (out := k0) (f := fun i h => upd h i (a i)) (I := fun _ _ => True)
    (fun m i s hi _ => ⟨by
      simp only [w_toByteA64_l0, w_toByteA64_l0_s, c_and, Int.toNat_natCast]
      simp (disch := omega) only [c_lt, c_le, c_blt, c_fits]
      rfl, trivial⟩)
    (fun m s _ => by simp (disch := omega) only [w_toByteA64_l0, w_toByteA64_l0_s, c_nlt]) 64 N 0 (fun _ => 0) rfl hN trivial
  rw [iter_set] at this
  refine this.trans (congrArg k0 (funext fun j => ?_))
  simp
end
end Go.AM

namespace Go.AM
section
variable {β : Type}
theorem isOrder_s2_ordL (z : β) (n a : Int) (h g : Nat → Int) : ∀ m s t k0 k1, i_isOrder_l0_s2 z n a h g m s t k0 k1 = ordL 8 z n h m s t k0 k1 := by
  intro m
  induction m with
  | zero => intros; rfl
  | succ m ih => intro s t k0 k1; simp only [i_isOrder_l0_s2, ordL, ih]; rfl
theorem isOrder_s3_ordL (z : β) (n a : Int) (h g : Nat → Int) : ∀ m s t k0 k1, i_isOrder_l0_s3 z n a h g m s t k0 k1 = ordL 8 z n g m s t k0 k1 := by
  intro m
  induction m with
  | zero => intros; rfl
  | succ m ih => intro s t k0 k1; simp only [i_isOrder_l0_s3, ordL, ih]; rfl
theorem l01Perm_permL (z : β) (n : Int) (h : Nat → Int) : ∀ m i s k0 k1, s_l01Perm_l0 z n h m i s k0 k1 = permL 8 z n h m i s k0 k1 := by
  intro m
  induction m with
  | zero => intros; rfl
  | succ m ih => intro s t k0 k1; simp only [s_l01Perm_l0, permL, ih]; rfl

theorem s_l01Perm_val (z : β) {N : Nat} (hN : 8 < N) {m : Nat} (hm : m ≤ 8) (X : Nat → Int) (hX : ∀ j, 0 ≤ X j) (k : Bool → β) : s_l01Perm z N X m k = k (permB 8 m X) := by
  unfold s_l01Perm
  rw [l01Perm_permL]
  exact perm_val 8 (by omega) z m hm X hX k hN
theorem i_isOrder_s2_val (z : β) {N : Nat} (hN : 8 < N) {m : Nat} (h1 : 1 ≤ m) (hm : m ≤ 8) (a : Int) (X O : Nat → Int) (hX : ∀ j, 0 ≤ X j) (k : Bool → β) : i_isOrder_s2 z N m a X O k = k (permB 8 m X) := by
  unfold i_isOrder_s2
  rw [isOrder_s2_ordL]
  exact ord_val 8 (by omega) z m h1 hm hm X hX k hN
theorem i_isOrder_s3_val (z : β) {N : Nat} (hN : 8 < N) {m : Nat} (h1 : 1 ≤ m) (hm : m ≤ 8) (a : Int) (X O : Nat → Int) (hO : ∀ j, 0 ≤ O j) (k : Bool → β) : i_isOrder_s3 z N m a X O k = k (permB 8 m O) := by
  unfold i_isOrder_s3
  rw [isOrder_s3_ordL]
  exact ord_val 8 (by omega) z m h1 hm hm O hO k hN

/-- Cells of eight bytes. -/
def clip8 (a : Nat → Int) : Nat → Int := fun j => if j < 8 then a j else 0
theorem clip8_lt {a : Nat → Int} {j : Nat} (h : j < 8) : clip8 a j = a j := if_pos h
theorem clip8_nn {a : Nat → Int} (h : ∀ j, j < 8 → 0 ≤ a j) : ∀ j, 0 ≤ clip8 a j := fun j => by unfold clip8; split; exact h j ‹_›; omega
theorem clip8_le {a : Nat → Int} (h : ∀ j, j < 8 → a j ≤ 255) : ∀ j, clip8 a j ≤ 255 := fun j => by unfold clip8; split; exact h j ‹_›; omega
theorem w_toByteA8_val (z : β) {N : Nat} (hN : 8 < N) (a : Nat → Int) (k0 : (Nat → Int) → β) : w_toByteA8 z N a k0 = k0 (clip8 a) := by
  unfold w_toByteA8
  have := up_to (L := fun m i h => w_toByteA8_l0 z a (fun _ => 0) m (i : Int) h k0) (n := 8) (out := k0) (f := fun i h => upd h i (a i)) (I := fun _ _ => True)
    (fun m i s hi _ => ⟨by
      simp only [w_toByteA8_l0, w_toByteA8_l0_s, c_and, Int.toNat_natCast]
      simp (disch := omega) only [c_lt, c_le, c_blt, c_fits]
      rfl, trivial⟩)
    (fun m s _ => by simp (disch := omega) only [w_toByteA8_l0, w_toByteA8_l0_s, c_nlt]) 8 N 0 (fun _ => 0) rfl hN trivial
  rw [iter_set] at this
  refine this.trans (congrArg k0 (funext fun j => ?_))
  simp [clip8]
theorem w_toGrid_val (z : β) {N : Nat} (hN : 8 < N) (n : Int) (a b : Nat → Int) (k0 : (Nat → Int) → (Nat → Int) → β) : w_toGrid z N n a b k0 = k0 (clip8 a) (clip8 b) := by
  unfold w_toGrid
  rw [w_toByteA8_val z hN, w_toByteA8_val z hN]

/-- No column with both marks in one cell. -/
def apartB (n : Nat) (X O : Nat → Int) : Bool := allFrom (fun i => !(X i == O i)) n 0
/-- Is it a grid? -/
noncomputable def gridB (n : Int) (X O : Nat → Int) : Bool := decide (2 ≤ n ∧ n ≤ 8) && (permB 8 n.toNat X && (permB 8 n.toNat O && apartB n.toNat X O))
/-- A grid: its size is between 2 and 8, both lists are permutations, no column with both marks in one cell. -/
structure GridP (n : Nat) (X O : Nat → Int) : Prop where
  lo : 2 ≤ n
  hi : n ≤ 8
  px : PermP 8 n X
  po : PermP 8 n O
  ne : ∀ i, i < n → X i ≠ O i
theorem gridB_iff {n : Int} {X O : Nat → Int} : gridB n X O = true ↔ ∃ m : Nat, n = m ∧ GridP m X O := by
  unfold gridB
  simp only [Bool.and_eq_true, decide_eq_true_eq, permB_iff, apartB, allFrom_iff]
  constructor
  · rintro ⟨⟨h1, h2⟩, h3, h4, h5⟩
    refine ⟨n.toNat, by omega, by omega, by omega, h3, h4, fun i hi => ?_⟩
    have := h5 i (by omega) (by omega)
    simpa using this
  · rintro ⟨m, rfl, g⟩
    have := g.lo
    have := g.hi
    refine ⟨by omega, g.px, g.po, fun j _ h => ?_⟩
    have := g.ne j (by simpa using h)
    simpa using this
theorem gridB_false {n : Int} {X O : Nat → Int} (h : ¬ (2 ≤ n ∧ n ≤ 8)) : gridB n X O = false := by unfold gridB; rw [decide_eq_false h]; rfl

theorem s_l01Is_val (z : β) {N : Nat} (hN : 8 < N) (n : Int) (X O : Nat → Int) (hX : ∀ j, 0 ≤ X j) (hO : ∀ j, 0 ≤ O j) (k : Bool → β) : s_l01Is z N n X O k = k (gridB n X O) := by
  unfold s_l01Is
  rw [s_l01In_val]
  by_cases h : 2 ≤ n ∧ n ≤ 8
  · obtain ⟨m, rfl⟩ : ∃ m : Nat, n = (m : Int) := ⟨n.toNat, by omega⟩
    simp only [decide_eq_true h, Bool.not_true, c_false]
    rw [s_l01Perm_val z hN (by omega) X hX]
    unfold gridB
    rw [decide_eq_true h, Int.toNat_natCast]
    cases permB 8 m X with
    | false => rfl
    | true =>
      simp only [Bool.not_true, c_false, Bool.true_and]
      rw [s_l01Perm_val z hN (by omega) O hO]
      cases permB 8 m O with
      | false => rfl
      | true =>
        simp only [Bool.not_true, c_false, Bool.true_and]
        have := up_to_all (L := fun j i => s_l01Is_l0 z m X O j (i : Int) (k false) (k true)) (n := m) (kt := k true) (kf := k false) (p := fun i => !(X i == O i))
          (fun j i hi => by
            simp only [s_l01Is_l0, s_l01Is_l0_s, c_and, Int.toNat_natCast]
            simp (disch := omega) only [c_lt, c_le, c_blt, c_fits, c_not]
            rfl)
          (fun j => by simp (disch := omega) only [s_l01Is_l0, s_l01Is_l0_s, c_nlt]) m N 0 (by omega) (by omega)
        refine this.trans ?_
        unfold apartB
        cases allFrom (fun i => !(X i == O i)) m 0 <;> rfl
  · simp only [decide_eq_false h, Bool.not_false, c_true]
    rw [gridB_false h]

theorem i_IsGrid_val (z : β) {N : Nat} (hN : 8 < N) (n : Int) (X O : Nat → Int) (hX : ∀ j, 0 ≤ X j) (hO : ∀ j, 0 ≤ O j) (k : Bool → β) : i_IsGrid z N n X O k = k (gridB n X O) := by
  unfold i_IsGrid
  rw [i_within_val]
  by_cases h : 2 ≤ n ∧ n ≤ 8
  · obtain ⟨m, rfl⟩ : ∃ m : Nat, n = (m : Int) := ⟨n.toNat, by omega⟩
    simp only [decide_eq_true h, Bool.not_true, c_false, i_Grid_n]
    rw [i_isOrder_s2_val z hN (by omega) (by omega) _ X O hX]
    unfold gridB
    rw [decide_eq_true h, Int.toNat_natCast]
    cases permB 8 m X with
    | false => rfl
    | true =>
      simp only [Bool.not_true, c_false, Bool.true_and]
      rw [i_isOrder_s3_val z hN (by omega) (by omega) _ X O hO]
      cases permB 8 m O with
      | false => rfl
      | true =>
        simp only [Bool.not_true, c_false, Bool.true_and]
        have := up_to_all (L := fun j i => i_IsGrid_l0 z m m X O j (i : Int) (k false) (k true)) (n := m) (kt := k true) (kf := k false) (p := fun i => !(X i == O i))
          (fun j i hi => by
            simp only [i_IsGrid_l0, i_IsGrid_l0_s, c_and, Int.toNat_natCast]
            simp (disch := omega) only [c_lt, c_le, c_blt, c_fits, c_not]
            rfl)
          (fun j => by simp (disch := omega) only [i_IsGrid_l0, i_IsGrid_l0_s, c_nlt]) m N 0 (by omega) (by omega)
        refine this.trans ?_
        unfold apartB
        cases allFrom (fun i => !(X i == O i)) m 0 <;> rfl
  · simp only [decide_eq_false h, Bool.not_false, c_true]
    rw [gridB_false h]
/-- Equal states are equal. -/
theorem w_eqState_refl (z : β) {N : Nat} (hN : 8 < N) (a : Nat → Int) (k0 : Bool → β) : w_eqState z N a a k0 = k0 true := by
  unfold w_eqState
  have := up_to_all (L := fun k i => w_eqState_l0 z a a k (i : Int) (k0 false) (k0 true)) (n := 8) (kt := k0 true) (kf := k0 false) (p := fun _ => true)
    (fun j i hi => by
      simp only [w_eqState_l0, w_eqState_l0_s, c_and, Int.toNat_natCast]
      simp (disch := omega) only [c_lt, c_le, c_blt, c_fits, c_nne]
      rfl)
    (fun k => by simp (disch := omega) only [w_eqState_l0, w_eqState_l0_s, c_nlt]) 8 N 0 (by omega) (by omega)
  refine this.trans ?_
  rfl
end
end Go.AM

namespace Go.AM
section
variable {β : Type}
theorem w_eqByteA8_refl (z : β) {N : Nat} (hN : 8 < N) (a : Nat → Int) (k0 : Bool → β) : w_eqByteA8 z N a a k0 = k0 true := by
  unfold w_eqByteA8
  have := up_to_all (L := fun k i => w_eqByteA8_l0 z a a k (i : Int) (k0 false) (k0 true)) (n := 8) (kt := k0 true) (kf := k0 false) (p := fun _ => true)
    (fun k i hi => by
      simp only [w_eqByteA8_l0, w_eqByteA8_l0_s, c_and, Int.toNat_natCast]
      simp (disch := omega) only [c_lt, c_le, c_blt, c_fits, c_nne]
      rfl)
    (fun k => by simp (disch := omega) only [w_eqByteA8_l0, w_eqByteA8_l0_s, c_nlt]) 8 N 0 (by omega) (by omega)
  refine this.trans ?_
  rfl
theorem w_eqGrid_refl (z : β) {N : Nat} (hN : 8 < N) (n : Int) (a b : Nat → Int) (k0 : Bool → β) : w_eqGrid z N n a b n a b k0 = k0 true := by
  unfold w_eqGrid
  simp only [bne_self_eq_false, c_false, w_eqByteA8_refl z hN, Bool.not_true]
/-- Both lists after a round of the transpose. -/
def transF (X O : Nat → Int) (i : Nat) (h : (Nat → Int) × (Nat → Int)) : (Nat → Int) × (Nat → Int) :=
  (upd h.1 (O i).toNat (wrapU IntKind.u8 i), upd h.2 (X i).toNat (wrapU IntKind.u8 i))
def transP (n : Nat) (X O : Nat → Int) : (Nat → Int) × (Nat → Int) := iter (transF X O) n 0 (fun _ => 0, fun _ => 0)
theorem s_TransposeOf_loop (z : β) {N : Nat} (hN : 8 < N) {n : Nat} {X O : Nat → Int} (g : GridP n X O) (hX : ∀ j, 0 ≤ X j) (hO : ∀ j, 0 ≤ O j) (a c : Int) (f1 f2 : Nat → Int) (k0 : (Nat → Int) → (Nat → Int) → β) :
    s_TransposeOf_l0 z n X O a f1 f2 c N 0 (fun _ => 0) (fun _ => 0) k0 = k0 (transP n X O).1 (transP n X O).2 := by
  have hhi := g.hi
  refine up_to (L := fun m i (h : (Nat → Int) × (Nat → Int)) => s_TransposeOf_l0 z n X O a f1 f2 c m (i : Int) h.1 h.2 k0) (n := n) (out := fun h => k0 h.1 h.2) (f := transF X O) (I := fun _ _ => True)
    (fun m i s hi _ => ⟨?_, trivial⟩) (fun m s _ => by simp (disch := omega) only [s_TransposeOf_l0, s_TransposeOf_l0_s, c_nlt]) n N 0 (fun _ => 0, fun _ => 0) (by omega) (by omega) trivial
  have h1 := hX i
  have h2 := hO i
  have h3 := g.px.2.1 i hi
  have h4 := g.po.2.1 i hi
  simp only [s_TransposeOf_l0, s_TransposeOf_l0_s, c_and, Int.toNat_natCast]
  simp (disch := omega) only [c_lt, c_le, c_blt, c_fits]
  rfl
theorem i_led_trans (z : β) {N : Nat} (hN : 8 < N) {n : Nat} {X O : Nat → Int} (g : GridP n X O) (hX : ∀ j, 0 ≤ X j) (hO : ∀ j, 0 ≤ O j) (b a c : Int) (f1 f2 : Nat → Int) (k0 : (Nat → Int) → (Nat → Int) → β) :
    i_Grid_led_l0 z N n b X O a f1 f2 c N 0 (fun _ => 0) (fun _ => 0) k0 = k0 (transP n X O).1 (transP n X O).2 := by
  have hhi := g.hi
  refine up_to (L := fun m i (h : (Nat → Int) × (Nat → Int)) => i_Grid_led_l0 z N n b X O a f1 f2 c m (i : Int) h.1 h.2 k0) (n := n) (out := fun h => k0 h.1 h.2) (f := transF X O) (I := fun _ _ => True)
    (fun m i s hi _ => ⟨?_, trivial⟩) (fun m s _ => by simp (disch := omega) only [i_Grid_led_l0, i_Grid_led_l0_s, c_nlt]) n N 0 (fun _ => 0, fun _ => 0) (by omega) (by omega) trivial
  have h1 := hX i
  have h2 := hO i
  have h3 := g.px.2.1 i hi
  have h4 := g.po.2.1 i hi
  simp only [i_Grid_led_l0, i_Grid_led_l0_s, i_Grid_transpose_1, c_and, Int.toNat_natCast]
  simp (disch := omega) only [c_lt, c_le, c_blt, c_fits]
  rfl
theorem w_FnExactTransposeOf_val (z : β) {N : Nat} (hN : 8 < N) (n : Int) (X O : Nat → Int) (hX : ∀ j, j < 8 → 0 ≤ X j ∧ X j ≤ 255) (hO : ∀ j, j < 8 → 0 ≤ O j ∧ O j ≤ 255) (k0 : Bool → β) : w_FnExactTransposeOf z N n X O k0 = k0 true := by
  unfold w_FnExactTransposeOf
  have hX0 := clip8_nn fun j h => (hX j h).1
  have hO0 := clip8_nn fun j h => (hO j h).1
  simp only [w_toGrid_val z hN, s_TransposeOf, i_TransposeOf, i_whole_i_Grid, i_Grid_transpose, i_Grid_led, i_Grid_n, c_true, s_l01Is_val z hN _ _ _ hX0 hO0, i_IsGrid_val z hN _ _ _ hX0 hO0]
  cases hg : gridB n (clip8 X) (clip8 O) with
  | false => simp only [Bool.not_false, c_true, w_eqGrid_refl z hN, Bool.not_true, c_false, bne_self_eq_false]
  | true =>
    obtain ⟨m, rfl, g⟩ := gridB_iff.1 hg
    simp only [Bool.not_true, c_false, s_TransposeOf_loop z hN g hX0 hO0, i_led_trans z hN g hX0 hO0, w_eqGrid_refl z hN, bne_self_eq_false]
end
end Go.AM

namespace Go.AM
section
variable {β : Type}
theorem tmod_pos {a b : Int} (ha : 0 ≤ a) : a.tmod b = a % b := Int.tmod_eq_emod_of_nonneg ha
theorem tmod_bnd {a b : Int} (hb : 0 < b) : -b < a.tmod b ∧ a.tmod b < b := by
  refine ⟨?_, Int.tmod_lt_of_pos a hb⟩
  have := Int.tmod_lt_of_pos (-a) hb
  rw [Int.neg_tmod] at this
  omega
/-- A number modulo another one, as the reference reckons it. -/
theorem tmod_twice (a : Int) {n : Int} (hn : 0 < n) : (a.tmod n + n).tmod n = a % n := by
  have h := tmod_bnd (a := a) hn
  rw [tmod_pos (by omega), Int.add_emod_right]
  have h1 : a.tmod n = a - n * a.tdiv n := by have := Int.mul_tdiv_add_tmod a n; omega
  rw [h1]
  have : a - n * a.tdiv n = a + n * (-(a.tdiv n)) := by rw [Int.mul_neg]; omega
  rw [this, Int.add_mul_emod_self_left]
theorem tmod_more (a i : Int) {n : Int} (hn : 0 < n) (hi : 0 ≤ i) (ha : -100 ≤ a) : (i + (a + 100 * n).tmod n).tmod n = (i + a) % n := by
  have h0 : 0 ≤ a + 100 * n := by omega
  rw [tmod_pos h0]
  have h1 := Int.emod_nonneg (a + 100 * n) (show n ≠ 0 by omega)
  rw [tmod_pos (by omega), show a + 100 * n = a + n * 100 by omega, Int.add_mul_emod_self_left, Int.add_emod_emod]
theorem emod_bd (a : Int) {n : Int} (hn : 0 < n) : 0 ≤ a % n ∧ a % n < n := ⟨Int.emod_nonneg a (by omega), Int.emod_lt_of_pos a hn⟩

def rollF (n : Nat) (X O : Nat → Int) (v u : Int) (i : Nat) (h : (Nat → Int) × (Nat → Int)) : (Nat → Int) × (Nat → Int) :=
  (upd h.1 ((i + u) % (n : Int)).toNat (wrapU IntKind.u8 ((X i + v) % (n : Int))), upd h.2 ((i + u) % (n : Int)).toNat (wrapU IntKind.u8 ((O i + v) % (n : Int))))
def rollP (n : Nat) (X O : Nat → Int) (v u : Int) : (Nat → Int) × (Nat → Int) := iter (rollF n X O v u) n 0 (fun _ => 0, fun _ => 0)
theorem s_l01Rolled_val (z : β) {N : Nat} (hN : 8 < N) {n : Nat} {X O : Nat → Int} (h2 : 2 ≤ n) (h8 : n ≤ 8) (hX : ∀ j, 0 ≤ X j ∧ X j ≤ 255) (hO : ∀ j, 0 ≤ O j ∧ O j ≤ 255) {v u : Int} (hv : -1000 ≤ v ∧ v ≤ 1000) (hu : -1000 ≤ u ∧ u ≤ 1000) (k0 : (Nat → Int) → (Nat → Int) → β) :
    s_l01Rolled z N n X O v u k0 = k0 (rollP n X O v u).1 (rollP n X O v u).2 := by
  unfold s_l01Rolled
  refine up_to (L := fun m i (h : (Nat → Int) × (Nat → Int)) => s_l01Rolled_l0 z v u n n X O 0 (fun _ => 0) (fun _ => 0) n m (i : Int) h.1 h.2 k0) (n := n) (out := fun h => k0 h.1 h.2) (f := rollF n X O v u) (I := fun _ _ => True)
    (fun m i s hi _ => ⟨?_, trivial⟩) (fun m s _ => by simp (disch := omega) only [s_l01Rolled_l0, s_l01Rolled_l0_s, c_nlt]) n N 0 (fun _ => 0, fun _ => 0) (by omega) (by omega) trivial
  have h1 := hX i
  have h3 := hO i
  have hn : (0 : Int) < n := by omega
  have b1 := tmod_bnd (a := (i : Int) + u) hn
  have b2 := tmod_bnd (a := X i + v) hn
  have b3 := tmod_bnd (a := O i + v) hn
  have b4 := emod_bd ((i : Int) + u) hn
  simp only [s_l01Rolled_l0, s_l01Rolled_l0_s, c_and, c_not, Int.toNat_natCast, tmod_twice _ hn]
  simp (disch := omega) only [c_lt, c_le, c_blt, c_fits, c_neq]
  rfl
theorem i_Grid_shift_val (z : β) {N : Nat} (hN : 8 < N) {n : Nat} {X O : Nat → Int} (h2 : 2 ≤ n) (h8 : n ≤ 8) (hX : ∀ j, 0 ≤ X j ∧ X j ≤ 255) (hO : ∀ j, 0 ≤ O j ∧ O j ≤ 255) {v u : Int} (hv : -100 ≤ v ∧ v ≤ 100) (hu : -100 ≤ u ∧ u ≤ 100) (k0 : (Nat → Int) → (Nat → Int) → β) :
    i_Grid_shift z N n X O ((v + 100 * n).tmod n) ((u + 100 * n).tmod n) k0 = k0 (rollP n X O v u).1 (rollP n X O v u).2 := by
  unfold i_Grid_shift i_Grid_led_s2
  simp only [c_false, i_Grid_n]
  refine up_to (L := fun m i (h : (Nat → Int) × (Nat → Int)) => i_Grid_led_l0_s4 z N n ((u + 100 * n).tmod n) n X O ((v + 100 * n).tmod n) n X O 0 (fun _ => 0) (fun _ => 0) n m (i : Int) h.1 h.2 k0) (n := n) (out := fun h => k0 h.1 h.2) (f := rollF n X O v u) (I := fun _ _ => True)
    (fun m i s hi _ => ⟨?_, trivial⟩) (fun m s _ => by simp (disch := omega) only [i_Grid_led_l0_s4, i_Grid_led_l0_s4_s, c_nlt]) n N 0 (fun _ => 0, fun _ => 0) (by omega) (by omega) trivial
  have h1 := hX i
  have h3 := hO i
  have hn : (0 : Int) < n := by omega
  have a1 := tmod_more u i hn (by omega) hu.1
  have a2 := tmod_more v (X i) hn h1.1 hv.1
  have a3 := tmod_more v (O i) hn h3.1 hv.1
  have b4 := emod_bd ((i : Int) + u) hn
  have b5 := tmod_bnd (a := v + 100 * n) hn
  have b6 := tmod_bnd (a := u + 100 * n) hn
  simp only [i_Grid_led_l0_s4, i_Grid_led_l0_s4_s, i_Grid_shift_1, i_Grid_n, c_and, c_not, Int.toNat_natCast, a1, a2, a3]
  simp (disch := omega) only [c_lt, c_le, c_blt, c_fits, c_neq]
  rfl
theorem w_FnExactShiftGrid_val (z : β) {N : Nat} (hN : 8 < N) (n : Int) (X O : Nat → Int) (v u : Int) (hX : ∀ j, j < 8 → 0 ≤ X j ∧ X j ≤ 255) (hO : ∀ j, j < 8 → 0 ≤ O j ∧ O j ≤ 255) (k0 : Bool → β) : w_FnExactShiftGrid z N n X O v u k0 = k0 true := by
  unfold w_FnExactShiftGrid
  have hX0 := clip8_nn fun j h => (hX j h).1
  have hO0 := clip8_nn fun j h => (hO j h).1
  have hX1 := clip8_le fun j h => (hX j h).2
  have hO1 := clip8_le fun j h => (hO j h).2
  simp only [w_toGrid_val z hN, s_ShiftGrid, i_ShiftGrid, s_l01Is_val z hN _ _ _ hX0 hO0, i_IsGrid_val z hN _ _ _ hX0 hO0, s_l01In_val, i_within_val]
  cases hg : gridB n (clip8 X) (clip8 O) with
  | false => simp only [Bool.not_false, c_true, w_eqGrid_refl z hN, Bool.not_true, c_false, bne_self_eq_false]
  | true =>
    obtain ⟨m, rfl, g⟩ := gridB_iff.1 hg
    have hlo := g.lo
    have hhi := g.hi
    simp only [Bool.not_true, c_false]
    by_cases hv : -100 ≤ v ∧ v ≤ 100
    · simp only [decide_eq_true hv, Bool.not_true, c_false]
      by_cases hu : -100 ≤ u ∧ u ≤ 100
      · simp only [decide_eq_true hu, Bool.not_true, c_false, c_not]
        have hX2 : ∀ j, 0 ≤ clip8 X j ∧ clip8 X j ≤ 255 := fun j => ⟨hX0 j, hX1 j⟩
        have hO2 : ∀ j, 0 ≤ clip8 O j ∧ clip8 O j ≤ 255 := fun j => ⟨hO0 j, hO1 j⟩
        simp (disch := omega) only [s_l01Rolled_val z hN hlo hhi hX2 hO2 (v := v) (u := u) (by omega) (by omega), c_fits, c_neq, i_Grid_shift_val z hN hlo hhi hX2 hO2 hv hu, w_eqGrid_refl z hN, bne_self_eq_false, c_false, c_true]
      · simp only [decide_eq_false hu, Bool.not_false, c_true, w_eqGrid_refl z hN, Bool.not_true, c_false, bne_self_eq_false]
    · simp only [decide_eq_false hv, Bool.not_false, c_true, w_eqGrid_refl z hN, Bool.not_true, c_false, bne_self_eq_false]
end
end Go.AM

namespace Go.AM
section
variable {β : Type}
/-! draws: whatever is drawn lies within bounds -/
theorem wrapD {x : Int} (h : 0 ≤ x ∧ x ≤ 255) : wrapU IntKind.u8 x = x := by
  show x % 256 = x
  omega
/-- The text that is drawn from. -/
structure Src (hn : Nat) (h : Nat → Int) (n l : Nat) : Prop where
  eq : n = hn
  le : l ≤ hn
  sm : l ≤ 4096
  b : ∀ j, j < hn → 0 ≤ h j ∧ h j ≤ 255
theorem and_bd (x : Int) : 0 ≤ bitI .and .u64 x 16777215 ∧ bitI .and .u64 x 16777215 ≤ 16777215 := by
  rw [bitI_eq]
  have e : bitJ .and .u64 x 16777215 = IntKind.wrap .u64 ((BitVec.ofInt 64 x &&& BitVec.ofInt 64 16777215).toNat : Int) := rfl
  have e2 : (BitVec.ofInt 64 16777215).toNat = 16777215 := by decide
  have h : (BitVec.ofInt 64 x &&& BitVec.ofInt 64 16777215).toNat ≤ 16777215 := by
    rw [BitVec.toNat_and, e2]
    exact Nat.and_le_right
  rw [e, wrap_fits]
  · omega
  · rw [fits_iff]
    show (0 : Int) ≤ _ ∧ _ ≤ (18446744073709551615 : Int)
    omega
theorem next_val (z : β) (N : Nat) {hn n l : Nat} {h : Nat → Int} (S : Src hn h n l) (c : Nat) (m : Int) {a : Int} (ha : 0 ≤ a) (b : Int) :
    ∃ v a' b' : Int, 0 ≤ a' ∧ (1 ≤ m → 0 ≤ v ∧ v < m) ∧ (m < 1 → v = 0) ∧ ∀ k, s_l01Next_s2 z N m hn h n l c a b k = k v a' b' := by
  have hq := S.eq
  have hl := S.le
  have hs := S.sm
  have hb := S.b
  by_cases hm : m < 1
  · exact ⟨0, a, b, ha, fun h => by omega, fun _ => rfl, fun k => by unfold s_l01Next_s2; rw [c_lt hm]⟩
  · obtain ⟨b', hb'⟩ : ∃ b', wrapU IntKind.u64 (wrapU IntKind.u64 (b * 6364136223846793005) + 1442695040888963407) = b' := ⟨_, rfl⟩
    obtain ⟨x, hxe⟩ : ∃ x, bitI BinOp.and IntKind.u64 (shrI b' 33) 16777215 = x := ⟨_, rfl⟩
    have hx := and_bd (shrI b' 33)
    rw [hxe] at hx
    by_cases e : a < l
    · have hc := hb a.toNat (by omega)
      refine ⟨(x + h a.toNat).tmod m, a + 1, b', by omega, fun _ => ⟨Int.tmod_nonneg _ (by omega), Int.tmod_lt_of_pos _ (by omega)⟩, fun h => absurd h hm, fun k => ?_⟩
      unfold s_l01Next_s2
      simp only [c_and, c_not, hb', hxe]
      simp (disch := omega) only [c_nlt, c_lt, c_le, c_ble, c_blt, c_beq, c_fits, c_neq]
    · refine ⟨x.tmod m, a, b', ha, fun _ => ⟨Int.tmod_nonneg _ (by omega), Int.tmod_lt_of_pos _ (by omega)⟩, fun h => absurd h hm, fun k => ?_⟩
      unfold s_l01Next_s2
      simp only [c_and, c_not, hb', hxe]
      simp (disch := omega) only [c_nlt, c_lt, c_le, c_ble, c_blt, c_beq, c_fits, c_neq]
theorem from_val (z : β) {N : Nat} (hN : 5000 < N) {hn n l : Nat} {h : Nat → Int} (S : Src hn h n l) (c : Nat) : ∃ b : Int, ∀ k, s_l01From z N n l c hn h k = k 0 b := by
  have hq := S.eq
  have hl := S.le
  have hs := S.sm
  refine ⟨iter (fun i b => wrapU IntKind.u64 (wrapU IntKind.u64 (wrapU IntKind.u64 (b * 1099511628211) + h i) + 43)) l 0 (wrapU IntKind.u64 (10711 + wrapU IntKind.u64 (↑l : Int))), fun k => ?_⟩
  · unfold s_l01From
    rw [c_ble (by omega)]
    exact up_to (L := fun m i b => s_l01From_l0 z n l c hn h n l c 0 m (i : Int) b fun q8 => k 0 q8) (n := l) (out := fun b => k 0 b) (f := fun i b => wrapU IntKind.u64 (wrapU IntKind.u64 (wrapU IntKind.u64 (b * 1099511628211) + h i) + 43)) (I := fun _ _ => True)
      (fun m i s hi _ => ⟨by
        rw [s_l01From_l0, s_l01From_l0_s]
        simp only [c_and, Int.toNat_natCast]
        simp (disch := omega) only [c_lt, c_le, c_ble, c_blt, c_beq, c_fits]
        rfl, trivial⟩)
      (fun m s _ => by
        rw [s_l01From_l0, s_l01From_l0_s]
        simp (disch := omega) only [c_ble, c_nlt]) l N 0 _ (by omega) (by omega) trivial
/-- Cells below a number, and none beyond it. -/
structure BndC (n : Nat) (f : Nat → Int) : Prop where
  b : ∀ j, j < n → 0 ≤ f j ∧ f j < n
  z : ∀ j, n ≤ j → f j = 0
theorem BndC.upd {n i : Nat} {f : Nat → Int} {v : Int} (h : BndC n f) (hi : i < n) (hv : 0 ≤ v ∧ v < n) : BndC n (upd f i v) :=
  ⟨fun j hj => by rw [upd_at]; split; exact hv; exact h.b j hj, fun j hj => by rw [upd_at, if_neg (by omega)]; exact h.z j hj⟩
theorem BndC.nn {n : Nat} {f : Nat → Int} (h : BndC n f) (j : Nat) : 0 ≤ f j := by
  rcases Nat.lt_or_ge j n with hj | hj
  · exact (h.b j hj).1
  · rw [h.z j hj]; exact Int.le_refl 0
theorem BndC.le {n : Nat} {f : Nat → Int} (h : BndC n f) (h8 : n ≤ 256) (j : Nat) : f j ≤ 255 := by
  rcases Nat.lt_or_ge j n with hj | hj
  · have := h.b j hj; omega
  · rw [h.z j hj]; omega
theorem BndC.zero (n : Nat) (h : 1 ≤ n) : BndC n fun _ => 0 := ⟨fun _ _ => by constructor <;> simp <;> omega, fun _ _ => rfl⟩
/-- A loop that comes to an end, whatever comes behind it. -/
theorem up_to_exD {σ κ : Type} {L : κ → Nat → Nat → σ → β} {n : Nat} {out : κ → σ → β} {I : Nat → σ → Prop}
    (hs : ∀ i s, i < n → I i s → ∃ s', (∀ k m, L k (m + 1) i s = L k m (i + 1) s') ∧ I (i + 1) s') (he : ∀ k m s, I n s → L k (m + 1) n s = out k s) :
    ∀ (d i : Nat) (s : σ), i + d = n → I i s → ∃ s', I n s' ∧ ∀ k m, d < m → L k m i s = out k s' := by
  intro d
  induction d with
  | zero =>
    intro i s hi h0
    have : i = n := by omega
    subst this
    refine ⟨s, h0, fun k m hm => ?_⟩
    obtain ⟨m, rfl⟩ : ∃ m', m = m' + 1 := ⟨m - 1, by omega⟩
    exact he k m s h0
  | succ d ih =>
    intro i s hi h0
    obtain ⟨s', h1, h2⟩ := hs i s (by omega) h0
    obtain ⟨s'', h3, h4⟩ := ih (i + 1) s' (by omega) h2
    refine ⟨s'', h3, fun k m hm => ?_⟩
    obtain ⟨m, rfl⟩ : ∃ m', m = m' + 1 := ⟨m - 1, by omega⟩
    rw [h1]
    exact h4 k m (by omega)
theorem mixed_l0 (z : β) {N n : Nat} (hN : 8 < N) (h1 : 1 ≤ n) (h8 : n ≤ 8) (hn : Nat) (h : Nat → Int) (n' l c : Nat) (a b : Int) (h2 : Nat → Int) :
    ∃ f, BndC n f ∧ ∀ k, s_l01Mixed_l0_s2 z n hn h n' l c a b h2 N 0 (fun (x : Nat) => 0) k = k f := by
  obtain ⟨f, i1, i2⟩ := up_to_exD (κ := (Nat → Int) → β) (L := fun k m i f => s_l01Mixed_l0_s2 z n hn h n' l c a b h2 m (i : Int) f k) (n := n) (out := fun k => k) (I := fun _ f => BndC n f)
    (fun i s hi hs => ⟨upd s i i, fun k m => by
      rw [s_l01Mixed_l0_s2, s_l01Mixed_l0_s2_s]
      simp only [c_and, Int.toNat_natCast]
      simp (disch := omega) only [c_lt, c_le, c_blt, c_fits]
      rw [wrapD (by omega)]
      rfl, hs.upd hi (by omega)⟩)
    (fun k m s _ => by rw [s_l01Mixed_l0_s2, s_l01Mixed_l0_s2_s, c_nlt (by omega)]) n 0 (fun _ => 0) (by omega) (BndC.zero n h1)
  exact ⟨f, i1, fun k => i2 k N (by omega)⟩
theorem mixed_l1 (z : β) {N : Nat} {hn n' l : Nat} {h : Nat → Int} (S : Src hn h n' l) (c : Nat) {n : Nat} (h8 : n ≤ 8) (h2 : Nat → Int) :
    ∀ (i : Nat), i < n → ∀ (f : Nat → Int) (a b : Int), BndC n f → 0 ≤ a → ∃ a' b' f', 0 ≤ a' ∧ BndC n f' ∧ ∀ k m, i < m → s_l01Mixed_l1_s2 z N hn h n' l c h2 m i a b f k = k a' b' f' := by
  intro i
  induction i with
  | zero =>
    intro hi f a b hf ha
    refine ⟨a, b, f, ha, hf, fun k m hm => ?_⟩
    obtain ⟨m, rfl⟩ : ∃ m', m = m' + 1 := ⟨m - 1, by omega⟩
    rw [s_l01Mixed_l1_s2, s_l01Mixed_l1_s2_s, c_nlt (by omega)]
  | succ i ih =>
    intro hi f a b hf ha
    obtain ⟨v, a1, b1, ha1, hv, _, e⟩ := next_val z N S c (((i + 1 : Nat) : Int) + 1) ha b
    have hv := hv (by omega)
    obtain ⟨q, rfl⟩ : ∃ q : Nat, v = q := ⟨v.toNat, by omega⟩
    obtain ⟨a', b', f', ha', hf', e'⟩ := ih (by omega) (upd (upd f (i + 1) (f q)) q (f (i + 1))) a1 b1 ((hf.upd hi (hf.b q (by omega))).upd (by omega) (hf.b (i + 1) hi)) ha1
    refine ⟨a', b', f', ha', hf', fun k m hm => ?_⟩
    obtain ⟨m, rfl⟩ : ∃ m', m = m' + 1 := ⟨m - 1, by omega⟩
    rw [s_l01Mixed_l1_s2, s_l01Mixed_l1_s2_s, c_lt (by omega), c_fits (by omega), e]
    simp only [c_and, Int.toNat_natCast]
    simp (disch := omega) only [c_lt, c_le, c_blt, c_fits]
    rw [show ((i + 1 : Nat) : Int) - 1 = i by omega]
    exact e' k m (by omega)
theorem mixed_val (z : β) {N : Nat} (hN : 100 < N) {hn n' l : Nat} {h : Nat → Int} (S : Src hn h n' l) (c : Nat) {n : Nat} (h1 : 1 ≤ n) (h8 : n ≤ 8) {a : Int} (ha : 0 ≤ a) (b : Int) :
    ∃ f a' b', BndC n f ∧ 0 ≤ a' ∧ ∀ k, s_l01Mixed_s2 z N n hn h n' l c a b k = k f a' b' := by
  obtain ⟨f0, i1, e1⟩ := mixed_l0 z (N := N) (by omega) h1 h8 hn h n' l c a b (fun (x : Nat) => 0)
  obtain ⟨a', b', f', ha', hf', e'⟩ := mixed_l1 z (N := N) S c h8 (fun (x : Nat) => 0) (n - 1) (by omega) f0 a b i1 ha
  refine ⟨f', a', b', hf', ha', fun k => ?_⟩
  unfold s_l01Mixed_s2
  rw [e1, c_fits (by omega), show ((n : Int) - 1) = ((n - 1 : Nat) : Int) by omega, e' _ N (by omega)]
theorem ds_l0 (z : β) {N n : Nat} (hN : 100 < N) (h2 : 2 ≤ n) (h8 : n ≤ 8) (hn : Nat) (h : Nat → Int) (n' l c : Nat) (a b y0 : Int) (y1 y2 x : Nat → Int) {f : Nat → Int} (hf : BndC n f) :
    ∃ f', BndC n f' ∧ ∀ k, s_l01DrawSize_l0_s2 z n hn h n' l c a b y0 y1 y2 x N 0 f k = k f' := by
  obtain ⟨f', i1, i2⟩ := up_to_exD (κ := (Nat → Int) → β) (L := fun k m i f => s_l01DrawSize_l0_s2 z n hn h n' l c a b y0 y1 y2 x m (i : Int) f k) (n := 3 * n) (out := fun k => k) (I := fun _ f => BndC n f)
    (fun i s hi hs => by
      have t1 : ((i : Int)).tmod n = ((i % n : Nat) : Int) := by rw [Int.tmod_eq_emod_of_nonneg (by omega)]; rfl
      have t2 : (((i % n : Nat) : Int) + 1).tmod n = (((i % n + 1) % n : Nat) : Int) := by rw [Int.tmod_eq_emod_of_nonneg (by omega)]; rfl
      have l1 : i % n < n := Nat.mod_lt _ (by omega)
      have l2 : (i % n + 1) % n < n := Nat.mod_lt _ (by omega)
      generalize i % n = p at *
      generalize hq : (p + 1) % n = q at *
      by_cases e : x p = s p
      · refine ⟨upd (upd s p (s q)) q (s p), fun k m => ?_, (hs.upd l1 (hs.b q l2)).upd l2 (hs.b p l1)⟩
        rw [s_l01DrawSize_l0_s2, s_l01DrawSize_l0_s2_s]
        simp only [c_and, c_not, t1, t2, Int.toNat_natCast]
        simp (disch := omega) only [c_lt, c_le, c_blt, c_fits, c_neq, c_eq]
        rfl
      · refine ⟨s, fun k m => ?_, hs⟩
        rw [s_l01DrawSize_l0_s2, s_l01DrawSize_l0_s2_s]
        simp only [c_and, c_not, t1, t2, Int.toNat_natCast]
        have e2 : cond (x p == s p) = fun (a b : β) => b := by funext a b; exact c_neq e
        simp (disch := omega) only [c_lt, c_le, c_blt, c_fits, e2]
        rw [c_neq (by omega)]
        rfl)
    (fun k m s _ => by rw [s_l01DrawSize_l0_s2, s_l01DrawSize_l0_s2_s, c_fits (by omega), c_nlt (by omega)]) (3 * n) 0 f (by omega) hf
  exact ⟨f', i1, fun k => i2 k N (by omega)⟩
theorem ds_l1 (z : β) {N n : Nat} (hN : 100 < N) (h2 : 2 ≤ n) (h8 : n ≤ 8) (hn : Nat) (h : Nat → Int) (n' l c : Nat) (a b y0 y5 : Int) (y1 y2 y4 y6 : Nat → Int) {x f : Nat → Int} (hx : BndC n x) (hf : BndC n f) :
    ∃ f', BndC n f' ∧ ∀ k, s_l01DrawSize_l1_s2 z n hn h n' l c a b y0 y1 y2 x y4 y5 y6 N 0 f k = k f' := by
  obtain ⟨f', i1, i2⟩ := up_to_exD (κ := (Nat → Int) → β) (L := fun k m i f => s_l01DrawSize_l1_s2 z n hn h n' l c a b y0 y1 y2 x y4 y5 y6 m (i : Int) f k) (n := n) (out := fun k => k) (I := fun _ f => BndC n f)
    (fun i s hi hs => by
      have hb := hx.b i hi
      have q1 : 0 ≤ (x i + 1).tmod n ∧ (x i + 1).tmod n < n := ⟨Int.tmod_nonneg _ (by omega), Int.tmod_lt_of_pos _ (by omega)⟩
      refine ⟨upd s i ((x i + 1).tmod n), fun k m => ?_, hs.upd hi q1⟩
      rw [s_l01DrawSize_l1_s2, s_l01DrawSize_l1_s2_s]
      simp only [c_and, c_not, Int.toNat_natCast, wrapD (show 0 ≤ (x i + 1).tmod n ∧ (x i + 1).tmod n ≤ 255 by omega)]
      simp (disch := omega) only [c_lt, c_le, c_blt, c_fits, c_neq]
      rfl)
    (fun k m s _ => by rw [s_l01DrawSize_l1_s2, s_l01DrawSize_l1_s2_s, c_nlt (by omega)]) n 0 f (by omega) hf
  exact ⟨f', i1, fun k => i2 k N (by omega)⟩
theorem size_val (z : β) {N : Nat} (hN : 100 < N) {hn n' l : Nat} {h : Nat → Int} (S : Src hn h n' l) (c : Nat) {n : Nat} (h2 : 2 ≤ n) (h8 : n ≤ 8) {a : Int} (ha : 0 ≤ a) (b : Int) :
    ∃ X O a' b', BndC n X ∧ BndC n O ∧ 0 ≤ a' ∧ ∀ k, s_l01DrawSize_s2 z N n hn h n' l c a b k = k X O a' b' := by
  obtain ⟨X, a1, b1, hX, ha1, e1⟩ := mixed_val z hN S c (by omega : 1 ≤ n) h8 ha b
  obtain ⟨O, a2, b2, hO, ha2, e2⟩ := mixed_val z hN S c (by omega : 1 ≤ n) h8 ha1 b1
  obtain ⟨O2, hO2, e3⟩ := ds_l0 z (N := N) hN h2 h8 hn h n' l c a2 b2 0 (fun (x : Nat) => 0) (fun (x : Nat) => 0) X hO
  cases hg : gridB n X O2 with
  | true =>
    refine ⟨X, O2, a2, b2, hX, hO2, ha2, fun k => ?_⟩
    unfold s_l01DrawSize_s2
    rw [e1, e2, e3, s_l01Is_val z (by omega) _ _ _ hX.nn hO2.nn, hg]
    rfl
  | false =>
    obtain ⟨O3, hO3, e4⟩ := ds_l1 z (N := N) hN h2 h8 hn h n' l c a2 b2 0 n (fun (x : Nat) => 0) (fun (x : Nat) => 0) O2 X hX hO2
    refine ⟨X, O3, a2, b2, hX, hO3, ha2, fun k => ?_⟩
    unfold s_l01DrawSize_s2
    rw [e1, e2, e3, s_l01Is_val z (by omega) _ _ _ hX.nn hO2.nn, hg, Bool.not_false, c_true, e4]
theorem pick3_val (z : β) (N : Nat) {hn n' l : Nat} {h : Nat → Int} (S : Src hn h n' l) (c : Nat) {a : Int} (ha : 0 ≤ a) (b : Int) {xs : List Int} (hx : xs.length = 3) :
    ∃ (i : Nat) (a' b' : Int), i < 3 ∧ 0 ≤ a' ∧ ∀ k, s_l01Pick_s3 z N hn h n' l c a b xs k = k (xs[i]?.getD 0) a' b' := by
  obtain ⟨v, a1, b1, ha1, hv, _, e⟩ := next_val z N S c 3 ha b
  have hv := hv (by omega)
  obtain ⟨q, rfl⟩ : ∃ q : Nat, v = q := ⟨v.toNat, by omega⟩
  refine ⟨q, a1, b1, by omega, ha1, fun k => ?_⟩
  unfold s_l01Pick_s3
  rw [e]
  simp only [c_and, Int.toNat_natCast, hx]
  simp (disch := omega) only [c_lt, c_le, c_blt, c_beq]
theorem pick5_val (z : β) (N : Nat) {hn n' l : Nat} {h : Nat → Int} (S : Src hn h n' l) (c : Nat) {a : Int} (ha : 0 ≤ a) (b : Int) {xs : List Int} (hx : xs.length = 5) :
    ∃ (i : Nat) (a' b' : Int), i < 5 ∧ 0 ≤ a' ∧ ∀ k, s_l01Pick_s4 z N hn h n' l c a b xs k = k (xs[i]?.getD 0) a' b' := by
  obtain ⟨v, a1, b1, ha1, hv, _, e⟩ := next_val z N S c 5 ha b
  have hv := hv (by omega)
  obtain ⟨q, rfl⟩ : ∃ q : Nat, v = q := ⟨v.toNat, by omega⟩
  refine ⟨q, a1, b1, by omega, ha1, fun k => ?_⟩
  unfold s_l01Pick_s4
  rw [e]
  simp only [c_and, Int.toNat_natCast, hx]
  simp (disch := omega) only [c_lt, c_le, c_blt, c_beq]
theorem draw_l0 (z : β) {N n : Nat} (hN : 100 < N) (h1 : 1 ≤ n) (h8 : n ≤ 8) {p : Int} (hp : 0 ≤ p ∧ p ≤ 8) (hn : Nat) (h : Nat → Int) (n' l c : Nat) (a b y0 y3 : Int) (y1 y2 : Nat → Int) :
    ∃ X O, BndC n X ∧ BndC n O ∧ ∀ k, s_l01Draw_l0_s2 z p n hn h n' l c a b y0 y1 y2 y3 N 0 (fun (x : Nat) => 0) (fun (x : Nat) => 0) k = k X O := by
  obtain ⟨s, ⟨i1, i2⟩, e⟩ := up_to_exD (κ := (Nat → Int) → (Nat → Int) → β) (L := fun k m i (s : (Nat → Int) × (Nat → Int)) => s_l01Draw_l0_s2 z p n hn h n' l c a b y0 y1 y2 y3 m (i : Int) s.1 s.2 k) (n := n) (out := fun k s => k s.1 s.2) (I := fun _ s => BndC n s.1 ∧ BndC n s.2)
    (fun i s hi ⟨h1, h2⟩ => by
      have q1 : 0 ≤ ((i : Int) + p).tmod n ∧ ((i : Int) + p).tmod n < n := ⟨Int.tmod_nonneg _ (by omega), Int.tmod_lt_of_pos _ (by omega)⟩
      refine ⟨(upd s.1 i i, upd s.2 i (((i : Int) + p).tmod n)), fun k m => ?_, h1.upd hi (by omega), h2.upd hi q1⟩
      rw [s_l01Draw_l0_s2, s_l01Draw_l0_s2_s]
      simp only [c_and, c_not, Int.toNat_natCast, wrapD (show 0 ≤ ((i : Int) + p).tmod n ∧ ((i : Int) + p).tmod n ≤ 255 by omega), wrapD (show 0 ≤ (i : Int) ∧ (i : Int) ≤ 255 by omega)]
      simp (disch := omega) only [c_lt, c_le, c_blt, c_fits, c_neq]
      rfl)
    (fun k m s _ => by rw [s_l01Draw_l0_s2, s_l01Draw_l0_s2_s, c_nlt (by omega)]) n 0 (fun _ => 0, fun _ => 0) (by omega) ⟨BndC.zero n h1, BndC.zero n h1⟩
  exact ⟨s.1, s.2, i1, i2, fun k => e k N (by omega)⟩
theorem roll_bnd {n : Nat} (h1 : 1 ≤ n) (X O : Nat → Int) (v u : Int) (h8 : n ≤ 8) : BndC n (rollP n X O v u).1 ∧ BndC n (rollP n X O v u).2 := by
  have := iter_inv (f := rollF n X O v u) (n := n) (I := fun _ s => BndC n s.1 ∧ BndC n s.2) (fun i s _ ⟨a, b⟩ => by
    have hn : (0 : Int) < n := by omega
    have e1 := emod_bd ((i : Int) + u) hn
    have e2 := emod_bd (X i + v) hn
    have e3 := emod_bd (O i + v) hn
    unfold rollF
    rw [wrapD (by omega), wrapD (by omega)]
    exact ⟨a.upd (by omega) e2, b.upd (by omega) e3⟩) n 0 (fun _ => 0, fun _ => 0) (by omega) ⟨BndC.zero n h1, BndC.zero n h1⟩
  exact this
/-- A grid is drawn: it has two to eight columns. -/
theorem draw_val (z : β) {N : Nat} (hN : 100 < N) {hn n' l : Nat} {h : Nat → Int} (S : Src hn h n' l) (c : Nat) {a : Int} (ha : 0 ≤ a) (b : Int) :
    ∃ (n : Nat) (X O : Nat → Int) (a' b' : Int), 2 ≤ n ∧ n ≤ 8 ∧ BndC n X ∧ BndC n O ∧ 0 ≤ a' ∧ ∀ k, s_l01Draw_s2 z N hn h n' l c a b k = k n X O a' b' := by
  obtain ⟨v, a1, b1, ha1, hv, _, e⟩ := next_val z N S c 6 ha b
  have hv := hv (by omega)
  by_cases v0 : v = 0
  · obtain ⟨p, a2, b2, ha2, hp, _, e2⟩ := next_val z N S c 3 ha1 b1
    have hp := hp (by omega)
    obtain ⟨u, a3, b3, ha3, hu, _, e3⟩ := next_val z N S c (5 - (1 + p)) ha2 b2
    have hu := hu (by omega)
    obtain ⟨n, hn'⟩ : ∃ n : Nat, 1 + p + 1 + u = n := ⟨(1 + p + 1 + u).toNat, by omega⟩
    obtain ⟨X, O, hX, hO, e4⟩ := draw_l0 z (N := N) hN (by omega : 1 ≤ n) (by omega) (p := 1 + p) (by omega) hn h n' l c a3 b3 0 n (fun (x : Nat) => 0) (fun (x : Nat) => 0)
    obtain ⟨v1, a4, b4, ha4, hv1, _, e5⟩ := next_val z N S c n ha3 b3
    have hv1 := hv1 (by omega)
    obtain ⟨v2, a5, b5, ha5, hv2, _, e6⟩ := next_val z N S c n ha4 b4
    have hv2 := hv2 (by omega)
    obtain ⟨r1, r2⟩ := roll_bnd (by omega : 1 ≤ n) X O v1 v2 (by omega)
    refine ⟨n, (rollP n X O v1 v2).1, (rollP n X O v1 v2).2, a5, b5, by omega, by omega, r1, r2, ha5, fun k => ?_⟩
    unfold s_l01Draw_s2
    rw [e, c_eq v0, e2, c_fits (by omega), c_fits (by omega), c_fits (by omega), e3, hn', c_fits (by omega), e4, e5, e6, s_l01Rolled_val z (by omega) (by omega) (by omega) (fun j => ⟨hX.nn j, hX.le (by omega) j⟩) (fun j => ⟨hO.nn j, hO.le (by omega) j⟩) (by omega) (by omega)]
  · have size : ∀ (n : Nat) (a b : Int), 2 ≤ n → n ≤ 8 → 0 ≤ a → ∃ X O a' b', BndC n X ∧ BndC n O ∧ 0 ≤ a' ∧ ∀ k : Int → (Nat → Int) → (Nat → Int) → Int → Int → β, s_l01DrawSize_s2 z N n hn h n' l c a b (fun q16 q17 q18 q19 => k n q16 q17 q18 q19) = k n X O a' b' := fun n a b h2 h8 ha => by
      obtain ⟨X, O, a', b', h1, h2, h3, h4⟩ := size_val z hN S c h2 h8 ha b
      exact ⟨X, O, a', b', h1, h2, h3, fun k => h4 _⟩
    by_cases v1 : v = 1
    · obtain ⟨i, a2, b2, hi, ha2, e2⟩ := pick3_val z N S c ha1 b1 (xs := (((List.replicate 3 (0 : Int)).set 0 6).set 1 7).set 2 8) rfl
      obtain ⟨n, hn', h2, h8⟩ : ∃ n : Nat, ((((List.replicate 3 (0 : Int)).set 0 6).set 1 7).set 2 8)[i]?.getD 0 = n ∧ 2 ≤ n ∧ n ≤ 8 := by
        have : i = 0 ∨ i = 1 ∨ i = 2 := by omega
        rcases this with rfl | rfl | rfl
        · exact ⟨6, rfl, by omega, by omega⟩
        · exact ⟨7, rfl, by omega, by omega⟩
        · exact ⟨8, rfl, by omega, by omega⟩
      obtain ⟨X, O, a3, b3, hX, hO, ha3, e3⟩ := size n a2 b2 h2 h8 ha2
      refine ⟨n, X, O, a3, b3, h2, h8, hX, hO, ha3, fun k => ?_⟩
      unfold s_l01Draw_s2
      rw [e, c_neq v0, c_eq v1, e2, hn', e3]
    · obtain ⟨i, a2, b2, hi, ha2, e2⟩ := pick5_val z N S c ha1 b1 (xs := (((((List.replicate 5 (0 : Int)).set 0 2).set 1 3).set 2 4).set 3 5).set 4 5) rfl
      obtain ⟨n, hn', h2, h8⟩ : ∃ n : Nat, ((((((List.replicate 5 (0 : Int)).set 0 2).set 1 3).set 2 4).set 3 5).set 4 5)[i]?.getD 0 = n ∧ 2 ≤ n ∧ n ≤ 8 := by
        have : i = 0 ∨ i = 1 ∨ i = 2 ∨ i = 3 ∨ i = 4 := by omega
        rcases this with rfl | rfl | rfl | rfl | rfl
        · exact ⟨2, rfl, by omega, by omega⟩
        · exact ⟨3, rfl, by omega, by omega⟩
        · exact ⟨4, rfl, by omega, by omega⟩
        · exact ⟨5, rfl, by omega, by omega⟩
        · exact ⟨5, rfl, by omega, by omega⟩
      obtain ⟨X, O, a3, b3, hX, hO, ha3, e3⟩ := size n a2 b2 h2 h8 ha2
      refine ⟨n, X, O, a3, b3, h2, h8, hX, hO, ha3, fun k => ?_⟩
      unfold s_l01Draw_s2
      rw [e, c_neq v0, c_neq v1, e2, hn', e3]
/-- Cells that are bytes, and none beyond the eighth. -/
structure Byt (f : Nat → Int) : Prop where
  b : ∀ j, 0 ≤ f j ∧ f j ≤ 255
  z : ∀ j, 8 ≤ j → f j = 0
theorem BndC.byt {n : Nat} {f : Nat → Int} (h : BndC n f) (h8 : n ≤ 8) : Byt f := ⟨fun j => ⟨h.nn j, h.le (by omega) j⟩, fun j hj => h.z j (by omega)⟩
/-- A grid that is spoiled, or not. -/
theorem broken_val (z : β) (N : Nat) {hn n' l : Nat} {h : Nat → Int} (S : Src hn h n' l) (c : Nat) {n : Nat} (hn8 : n ≤ 8) {X O : Nat → Int} (hX : Byt X) (hO : Byt O) {a : Int} (ha : 0 ≤ a) (b : Int) :
    ∃ (m : Int) (Y P : Nat → Int) (a' b' : Int), (-1 ≤ m ∧ m ≤ 9) ∧ Byt Y ∧ Byt P ∧ 0 ≤ a' ∧ ∀ k, s_l01Broken_s2 z N n X O hn h n' l c a b k = k m Y P a' b' := by
  obtain ⟨v, a1, b1, ha1, hv, _, e⟩ := next_val z N S c 40 ha b
  by_cases v0 : v = 0
  · obtain ⟨i, a2, b2, hi, ha2, e2⟩ := pick5_val z N S c ha1 b1 (xs := (((((List.replicate 5 (0 : Int)).set 0 0).set 1 1).set 2 9).set 3 (-1)).set 4 ((n : Int) - 1)) rfl
    refine ⟨((((((List.replicate 5 (0 : Int)).set 0 0).set 1 1).set 2 9).set 3 (-1)).set 4 ((n : Int) - 1))[i]?.getD 0, X, O, a2, b2, ?_, hX, hO, ha2, fun k => ?_⟩
    rotate_left 1
    · unfold s_l01Broken_s2
      rw [e, c_eq v0, c_fits (by omega), e2]
    · have : i = 0 ∨ i = 1 ∨ i = 2 ∨ i = 3 ∨ i = 4 := by omega
      rcases this with rfl | rfl | rfl | rfl | rfl
      · show (-1 : Int) ≤ 0 ∧ (0 : Int) ≤ 9; omega
      · show (-1 : Int) ≤ 1 ∧ (1 : Int) ≤ 9; omega
      · show (-1 : Int) ≤ 9 ∧ (9 : Int) ≤ 9; omega
      · show (-1 : Int) ≤ -1 ∧ (-1 : Int) ≤ 9; omega
      · show (-1 : Int) ≤ (n : Int) - 1 ∧ (n : Int) - 1 ≤ 9; omega
  · by_cases v1 : v = 1
    · obtain ⟨q, a2, b2, ha2, hq, _, e2⟩ := next_val z N S c 8 ha1 b1
      have hq := hq (by omega)
      obtain ⟨w, a3, b3, ha3, hw, _, e3⟩ := next_val z N S c 9 ha2 b2
      have hw := hw (by omega)
      refine ⟨n, X, upd O q.toNat w, a3, b3, by omega, hX, ⟨fun j => ?_, fun j hj => ?_⟩, ha3, fun k => ?_⟩
      · rw [upd_at]; split
        · omega
        · exact hO.b j
      · rw [upd_at, if_neg (by omega)]; exact hO.z j hj
      · unfold s_l01Broken_s2
        rw [e, c_neq v0, c_eq v1, e2, e3]
        simp only [c_and, wrapD (show 0 ≤ w ∧ w ≤ 255 by omega)]
        simp (disch := omega) only [c_lt, c_le, c_blt]
    · by_cases v2 : v = 2
      · exact ⟨n, O, O, a1, b1, by omega, hO, hO, ha1, fun k => by unfold s_l01Broken_s2; rw [e, c_neq v0, c_neq v1, c_eq v2]⟩
      · exact ⟨n, X, O, a1, b1, by omega, hX, hO, ha1, fun k => by unfold s_l01Broken_s2; rw [e, c_neq v0, c_neq v1, c_neq v2]⟩
end
end Go.AM

namespace Go.AM
section
variable {β : Type}
theorem perm_surj {n : Nat} {X : Nat → Int} (h : PermP 8 n X) (hX : ∀ j, 0 ≤ X j) {r : Nat} (hr : r < n) : ∃ i, i < n ∧ X i = r := by
  obtain ⟨i, h1, h2⟩ := surj_of_inj n (fun i => (X i).toNat) (fun i hi => by have := h.2.1 i hi; have := hX i; omega) (fun i j hi hj e => h.2.2 i j hi hj (by have := hX i; have := hX j; omega)) r hr
  exact ⟨i, h1, by have := hX i; omega⟩
/-- The column of a row. -/
noncomputable def rowOf (n : Nat) (X : Nat → Int) (r : Nat) : Nat := @dite _ (∃ i, i < n ∧ X i = r) (Classical.propDecidable _) (fun h => Classical.choose h) (fun _ => 0)
theorem rowOf_spec {n : Nat} {X : Nat → Int} (h : PermP 8 n X) (hX : ∀ j, 0 ≤ X j) {r : Nat} (hr : r < n) : rowOf n X r < n ∧ X (rowOf n X r) = r := by
  have hx := perm_surj h hX hr
  unfold rowOf
  rw [dif_pos hx]
  exact Classical.choose_spec hx
theorem rowOf_eq {n : Nat} {X : Nat → Int} (h : PermP 8 n X) (hX : ∀ j, 0 ≤ X j) {r i : Nat} (hi : i < n) (hr : X i = r) : rowOf n X r = i := by
  have := h.2.1 i hi
  have h2 := rowOf_spec h hX (r := r) (by omega)
  exact h.2.2 _ _ h2.1 hi (by omega)
theorem s_l01Row_val (z : β) {N : Nat} (hN : 8 < N) {n : Nat} (h8 : n ≤ 8) {X : Nat → Int} (h : PermP 8 n X) (hX : ∀ j, 0 ≤ X j) {r : Nat} (hr : r < n) (k : Int → β) : s_l01Row z N X n r k = k (rowOf n X r) := by
  unfold s_l01Row
  obtain ⟨h1, h2⟩ := rowOf_spec h hX hr
  have key : ∀ (d i m : Nat), i + d = rowOf n X r → d < m → s_l01Row_l0 z n r X m (i : Int) k (k 0) = k (rowOf n X r) := by
    intro d
    induction d with
    | zero =>
      intro i m hi hm
      obtain ⟨m, rfl⟩ : ∃ m', m = m' + 1 := ⟨m - 1, by omega⟩
      have e : i = rowOf n X r := by omega
      subst e
      simp only [s_l01Row_l0, s_l01Row_l0_s, c_and, Int.toNat_natCast]
      simp (disch := omega) only [c_lt, c_le, c_blt, c_eq]
    | succ d ih =>
      intro i m hi hm
      obtain ⟨m, rfl⟩ : ∃ m', m = m' + 1 := ⟨m - 1, by omega⟩
      have hne : X i ≠ (r : Int) := fun e => by have := rowOf_eq h hX (by omega) e; omega
      simp only [s_l01Row_l0, s_l01Row_l0_s, c_and, Int.toNat_natCast]
      simp (disch := omega) only [c_lt, c_le, c_blt, c_neq, c_fits]
      exact ih (i + 1) m (by omega) (by omega)
  exact key (rowOf n X r) 0 N (by omega) (by omega)
/-- The columns of all rows. -/
def plc (n : Nat) (X : Nat → Int) : Nat → Int := iter (fun i h => upd h (X i).toNat (i : Int)) n 0 (fun _ => 0)
theorem plc_spec {n : Nat} {X : Nat → Int} (h : PermP 8 n X) (hX : ∀ j, 0 ≤ X j) {r : Nat} (hr : r < n) : plc n X r = rowOf n X r := by
  have := iter_inv (f := fun i (h : Nat → Int) => upd h (X i).toNat (i : Int)) (I := fun i h => ∀ j, j < i → h (X j).toNat = j) (n := n)
    (fun i s hi hs j hj => by
      simp only [upd_at]
      by_cases e : (X j).toNat = (X i).toNat
      · rw [if_pos e]
        have := h.2.2 j i (by omega) hi (by have := hX i; have := hX j; omega)
        omega
      · rw [if_neg e]
        exact hs j (by by_cases e2 : j = i; (· subst e2; exact absurd rfl e); omega)) n 0 (fun _ => 0) (by omega) (fun j hj => by omega)
  rw [Nat.zero_add] at this
  obtain ⟨h1, h2⟩ := rowOf_spec h hX hr
  have h3 := this _ h1
  rw [h2, Int.toNat_natCast] at h3
  exact h3
theorem i_Grid_places_val (z : β) {N : Nat} (hN : 8 < N) {n : Nat} (h8 : n ≤ 8) {Y : Nat → Int} (h : PermP 8 n Y) (hY : ∀ j, 0 ≤ Y j) (X O : Nat → Int) (k : (Nat → Int) → β) : i_Grid_places z N n X O Y k = k (plc n Y) := by
  unfold i_Grid_places i_Grid_n
  refine up_to (L := fun m i h => i_Grid_places_l0 z n n X O Y (fun _ => 0) m (i : Int) h k) (n := n) (out := k) (f := fun i h => upd h (Y i).toNat (i : Int)) (I := fun _ _ => True)
    (fun m i s hi _ => ⟨?_, trivial⟩) (fun m s _ => by simp (disch := omega) only [i_Grid_places_l0, i_Grid_places_l0_s, c_nlt]) n N 0 (fun _ => 0) (by omega) (by omega) trivial
  have h1 := hY i
  have h3 := h.2.1 i hi
  simp only [i_Grid_places_l0, i_Grid_places_l0_s, c_and, Int.toNat_natCast]
  simp (disch := omega) only [c_lt, c_le, c_blt, c_fits]
  rfl
end
end Go.AM

namespace Go.AM
section
variable {β : Type}
theorem min_bif (a b : Int) : (bif decide (b < a) then b else a) = min a b := by rw [c_dec]; split <;> omega
theorem max_bif (a b : Int) : (bif decide (a < b) then b else a) = max a b := by rw [c_dec]; split <;> omega
/-- Do two spans lie apart? -/
def apart2 (a b c d : Int) : Bool := !(a == c) && (!(a == d) && (!(b == c) && (!(b == d) && ((decide (min a b < c) && decide (c < max a b)) == (decide (min a b < d) && decide (d < max a b))))))
theorem i_areApart_val (z : β) (N : Nat) (a b c d : Int) (k : Bool → β) : i_areApart z N a b c d k = k (apart2 a b c d) := by
  unfold i_areApart apart2
  simp only [min_bif, max_bif]
  cases a == c <;> cases a == d <;> cases b == c <;> cases b == d <;> cases decide (min a b < c) <;> cases decide (min a b < d) <;> cases decide (c < max a b) <;> cases decide (d < max a b) <;> rfl
theorem s_l02Free_val (z : β) (N : Nat) {a b c d : Int} (hab : a ≠ b) (hcd : c ≠ d) (k : Bool → β) : s_l02Free z N a b c d k = k (apart2 a b c d) := by
  have key : apart2 a b c d = (!(a == c) && (!(a == d) && (!(b == c) && (!(b == d) && (((decide (min a b < c) && decide (c < max a b)) == (decide (min a b < d) && decide (d < max a b))) || ((decide (min c d < a) && decide (a < max c d)) == (decide (min c d < b) && decide (b < max c d)))))))) := by
    unfold apart2
    by_cases h1 : a = c
    · simp [h1]
    by_cases h2 : a = d
    · simp [h2]
    by_cases h3 : b = c
    · simp [h3]
    by_cases h4 : b = d
    · simp [h4]
    have e : ((decide (min c d < a) && decide (a < max c d)) == (decide (min c d < b) && decide (b < max c d))) = ((decide (min a b < c) && decide (c < max a b)) == (decide (min a b < d) && decide (d < max a b))) := by
      have q : ∀ p q r s : Bool, ((p == q) = (r == s)) ↔ ((p = true ↔ q = true) ↔ (r = true ↔ s = true)) := by decide
      rw [q]
      simp only [Bool.and_eq_true, decide_eq_true_eq]
      constructor <;> intro h <;> constructor <;> intro h' <;> omega
    rw [e, Bool.or_self]
  rw [key]
  unfold s_l02Free
  simp only [min_bif, max_bif]
  cases a == c <;> cases a == d <;> cases b == c <;> cases b == d <;> first | rfl | skip
  cases decide (min a b < c) <;> cases decide (min a b < d) <;> cases decide (c < max a b) <;> cases decide (d < max a b) <;> cases decide (min c d < a) <;> cases decide (min c d < b) <;> cases decide (a < max c d) <;> cases decide (b < max c d) <;> rfl
/-- May two neighbouring rows be exchanged? -/
noncomputable def rowsB (n : Nat) (X O : Nat → Int) (r : Nat) : Bool := apart2 (rowOf n X r) (rowOf n O r) (rowOf n X (r + 1)) (rowOf n O (r + 1))
theorem rowOf_ne {n : Nat} {X O : Nat → Int} (g : GridP n X O) (hX : ∀ j, 0 ≤ X j) (hO : ∀ j, 0 ≤ O j) {r : Nat} (hr : r < n) : (rowOf n X r : Int) ≠ rowOf n O r := by
  intro e
  have h1 := rowOf_spec g.px hX hr
  have h2 := rowOf_spec g.po hO hr
  have := g.ne _ h1.1
  rw [h1.2, show rowOf n X r = rowOf n O r by omega, h2.2] at this
  exact this rfl
theorem s_l02Rows_val (z : β) {N : Nat} (hN : 8 < N) {n : Nat} {X O : Nat → Int} (g : GridP n X O) (hX : ∀ j, 0 ≤ X j) (hO : ∀ j, 0 ≤ O j) {r : Nat} (hr : r + 1 < n) (k : Bool → β) : s_l02Rows z N n X O r k = k (rowsB n X O r) := by
  unfold s_l02Rows
  have h8 := g.hi
  have hr0 : r < n := by omega
  have e : ((r : Int) + 1) = ((r + 1 : Nat) : Int) := by omega
  rw [s_l01Row_val z hN h8 g.px hX hr0, s_l01Row_val z hN h8 g.po hO hr0, c_fits (by omega)]
  rw [e, s_l01Row_val z hN h8 g.px hX hr]
  rw [c_fits (by omega), s_l01Row_val z hN h8 g.po hO hr, s_l02Free_val z N (rowOf_ne g hX hO hr0) (rowOf_ne g hX hO hr)]
  rfl
theorem i_Grid_canRows_val (z : β) {N : Nat} (hN : 8 < N) {n : Nat} {X O : Nat → Int} (g : GridP n X O) (hX : ∀ j, 0 ≤ X j) (hO : ∀ j, 0 ≤ O j) {r : Nat} (hr : r + 1 < n) (k : Bool → β) : i_Grid_canRows z N n X O r k = k (rowsB n X O r) := by
  unfold i_Grid_canRows
  have h8 := g.hi
  have hr0 : r < n := by omega
  have e : ((r : Int) + 1).toNat = r + 1 := by omega
  simp only [i_Grid_places_val z hN h8 g.px hX, i_Grid_places_val z hN h8 g.po hO, c_and, e, Int.toNat_natCast, plc_spec g.px hX hr0, plc_spec g.po hO hr0, plc_spec g.px hX hr, plc_spec g.po hO hr]
  simp (disch := omega) only [c_lt, c_le, c_blt, c_fits, i_areApart_val]
  rfl
/-- A row when two neighbouring rows have been exchanged. -/
def swapR (r : Nat) (v : Int) : Int := if v = r then r + 1 else if v = r + 1 then r else v
def swapF (n : Nat) (r : Nat) (X : Nat → Int) : Nat → Int := fun i => if i < n then swapR r (X i) else X i
theorem wrap8 {x : Int} (h : 0 ≤ x ∧ x ≤ 255) : wrapU IntKind.u8 x = x := by unfold wrapU kmod; simp only; omega
theorem s_l02SwapRows_val (z : β) {N : Nat} (hN : 8 < N) {n : Nat} (h8 : n ≤ 8) (X O : Nat → Int) {r : Nat} (hr : r + 1 < n) (k : (Nat → Int) → (Nat → Int) → β) : s_l02SwapRows z N n X O r k = k (swapF n r X) (swapF n r O) := by
  unfold s_l02SwapRows
  rw [c_fits (by omega), wrap8 (by omega), wrap8 (by omega)]
  have := up_to (L := fun m i (h : (Nat → Int) × (Nat → Int)) => s_l02SwapRows_l0 z r ((r : Int) + 1) n 0 (fun _ => 0) (fun _ => 0) m (i : Int) h.1 h.2 k) (n := n) (out := fun h => k h.1 h.2) (f := fun i h => (upd h.1 i (swapR r (h.1 i)), upd h.2 i (swapR r (h.2 i)))) (I := fun _ _ => True)
    (fun m i s hi _ => ⟨?_, trivial⟩) (fun m s _ => by simp (disch := omega) only [s_l02SwapRows_l0, s_l02SwapRows_l0_s, c_nlt]) n N 0 (X, O) (by omega) (by omega) trivial
  · refine this.trans ?_
    have e : ∀ Y : Nat → Int, ∀ d i : Nat, ∀ h : Nat → Int, (∀ j, i ≤ j → h j = Y j) → iter (fun i (h : Nat → Int) => upd h i (swapR r (h i))) d i h = fun j => if i ≤ j ∧ j < i + d then swapR r (Y j) else h j := by
      intro Y d
      induction d with
      | zero => intro i h _; funext j; rw [if_neg (by omega)]; rfl
      | succ d ih =>
        intro i h hh
        rw [iter, ih (i + 1) _ (fun j hj => by rw [upd_at, if_neg (by omega)]; exact hh j (by omega))]
        funext j
        simp only [upd_at]
        by_cases e : j = i
        · subst e; rw [if_neg (by omega), if_pos rfl, if_pos (by omega), hh j (by omega)]
        · by_cases e2 : i + 1 ≤ j ∧ j < i + 1 + d
          · rw [if_pos e2, if_pos (by omega)]
          · rw [if_neg e2, if_neg e, if_neg (by omega)]
    have e2 : ∀ d i : Nat, ∀ s : (Nat → Int) × (Nat → Int), iter (fun i (h : (Nat → Int) × (Nat → Int)) => (upd h.1 i (swapR r (h.1 i)), upd h.2 i (swapR r (h.2 i)))) d i s = (iter (fun i (h : Nat → Int) => upd h i (swapR r (h i))) d i s.1, iter (fun i (h : Nat → Int) => upd h i (swapR r (h i))) d i s.2) := by
      intro d
      induction d with
      | zero => intro i s; rfl
      | succ d ih => intro i s; rw [iter, ih]; rfl
    rw [e2, e X n 0 X (fun _ _ => rfl), e O n 0 O (fun _ _ => rfl)]
    unfold swapF
    simp only [Nat.zero_le, true_and, Nat.zero_add]
  · simp only [s_l02SwapRows_l0, s_l02SwapRows_l0_s, c_and, Int.toNat_natCast]
    have self : ∀ h : Nat → Int, upd h i (h i) = h := fun h => by funext j; rw [upd_at]; split; (· subst_vars; rfl); rfl
    unfold swapR
    by_cases a1 : s.1 i = r <;> by_cases a2 : s.1 i = (r : Int) + 1 <;> by_cases b1 : s.2 i = r <;> by_cases b2 : s.2 i = (r : Int) + 1 <;> first
      | omega
      | (simp (disch := omega) only [c_lt, c_le, c_blt, c_fits, c_eq, c_neq, if_pos, if_neg, a1, a2, b1, b2, self, reduceIte]; try rfl)
theorem swapR_bd {n r : Nat} (hr : r + 1 < n) (h8 : n ≤ 8) {v : Int} (h0 : 0 ≤ v) (hv : v < n) : 0 ≤ swapR r v ∧ swapR r v < n := by unfold swapR; split; omega; split <;> omega
theorem i_Grid_swapRows_val (z : β) {N : Nat} (hN : 8 < N) {n : Nat} {X O : Nat → Int} (g : GridP n X O) (hX : ∀ j, 0 ≤ X j) (hO : ∀ j, 0 ≤ O j) (zX : ∀ j, 8 ≤ j → X j = 0) (zO : ∀ j, 8 ≤ j → O j = 0) {r : Nat} (hr : r + 1 < n) (k : (Nat → Int) → (Nat → Int) → β) :
    i_Grid_swapRows z N n X O r k = k (swapF n r X) (swapF n r O) := by
  have h8 := g.hi
  unfold i_Grid_swapRows i_Grid_led_s3 i_Grid_n
  rw [c_false]
  have := up_to (L := fun m i (h : (Nat → Int) × (Nat → Int)) => i_Grid_led_l0_s6 z N n r n X O 0 (fun _ => 0) (fun _ => 0) n m (i : Int) h.1 h.2 k) (n := n) (out := fun h => k h.1 h.2) (f := fun i h => (upd h.1 i (swapR r (X i)), upd h.2 i (swapR r (O i)))) (I := fun _ _ => True)
    (fun m i s hi _ => ⟨?_, trivial⟩) (fun m s _ => by simp (disch := omega) only [i_Grid_led_l0_s6, i_Grid_led_l0_s6_s, c_nlt]) n N 0 (fun _ => 0, fun _ => 0) (by omega) (by omega) trivial
  · refine this.trans ?_
    have e2 : ∀ d i : Nat, ∀ s : (Nat → Int) × (Nat → Int), iter (fun i (h : (Nat → Int) × (Nat → Int)) => (upd h.1 i (swapR r (X i)), upd h.2 i (swapR r (O i)))) d i s = (iter (fun i (h : Nat → Int) => upd h i (swapR r (X i))) d i s.1, iter (fun i (h : Nat → Int) => upd h i (swapR r (O i))) d i s.2) := by
      intro d
      induction d with
      | zero => intro i s; rfl
      | succ d ih => intro i s; rw [iter, ih]; rfl
    rw [e2, iter_set (fun i => swapR r (X i)), iter_set (fun i => swapR r (O i))]
    have e3 : ∀ Y : Nat → Int, PermP 8 n Y → (∀ j, 8 ≤ j → Y j = 0) → (fun j => if 0 ≤ j ∧ j < 0 + n then swapR r (Y j) else 0) = swapF n r Y := by
      intro Y hp hz
      funext j
      unfold swapF
      simp only [Nat.zero_le, true_and, Nat.zero_add]
      split
      · rfl
      · by_cases h : j < 8
        · exact (hp.1 j (by omega) h).symm
        · exact (hz j (by omega)).symm
    rw [e3 X g.px zX, e3 O g.po zO]
  · have a1 := hX i
    have a2 := g.px.2.1 i hi
    have b1 := hO i
    have b2 := g.po.2.1 i hi
    have sw : ∀ v : Int, 0 ≤ v → v < n → ∀ kk : Int → β, i_Grid_swapRows_1 z N i v r kk = kk (swapR r v) := by
      intro v h0 h1 kk
      unfold i_Grid_swapRows_1 swapR
      by_cases e1 : v = r
      · rw [c_eq e1, c_fits (by omega), if_pos e1]
      · rw [c_neq e1, c_fits (by omega), if_neg e1]
        by_cases e2 : v = (r : Int) + 1
        · rw [c_eq e2, if_pos e2]
        · rw [c_neq e2, if_neg e2]
    have c1 := swapR_bd hr h8 a1 a2
    have c2 := swapR_bd hr h8 b1 b2
    simp only [i_Grid_led_l0_s6, i_Grid_led_l0_s6_s, c_and, Int.toNat_natCast, sw _ a1 a2, sw _ b1 b2, wrap8 (show 0 ≤ swapR r (X i) ∧ swapR r (X i) ≤ 255 by omega), wrap8 (show 0 ≤ swapR r (O i) ∧ swapR r (O i) ≤ 255 by omega)]
    simp (disch := omega) only [c_lt, c_le, c_blt, c_fits]
    rfl
theorem s_place1 (z : β) {N : Nat} (hN : 8 < N) {n : Int} {X O : Nat → Int} (hX : ∀ j, 0 ≤ X j) (hO : ∀ j, 0 ≤ O j) (r : Int) (k : Int → β) :
    s_l02Place z N n X O ((List.replicate 1 0).set 0 r) k = cond (gridB n X O) (cond (decide (0 ≤ r ∧ r ≤ n - 2)) (k 0) (k 2)) (k 1) := by
  unfold s_l02Place
  rw [s_l01Is_val z hN _ _ _ hX hO]
  cases hg : gridB n X O with
  | false => rfl
  | true =>
    obtain ⟨m, rfl, g⟩ := gridB_iff.1 hg
    have h8 := g.hi
    obtain ⟨N, rfl⟩ : ∃ M, N = M + 2 := ⟨N - 2, by omega⟩
    simp only [Bool.not_true, c_false, c_true, s_l02Place_l0, s_l02Place_l0_s, c_and, s_l01In_val]
    have e : ((List.replicate 1 0).set 0 r).length = 1 := by simp
    rw [e]
    simp (disch := omega) only [c_lt, c_le, c_blt, c_fits, c_beq]
    by_cases h : 0 ≤ r ∧ r ≤ (m : Int) - 2
    · simp [h, List.set, c_if, fits64]
    · simp [h, List.set, c_if]
theorem i_place1 (z : β) {N : Nat} (hN : 8 < N) {n : Int} {X O : Nat → Int} (hX : ∀ j, 0 ≤ X j) (hO : ∀ j, 0 ≤ O j) (r : Int) (k : Int → β) :
    i_isPair z N n X O ((List.replicate 1 0).set 0 r) k = cond (gridB n X O) (cond (decide (0 ≤ r ∧ r ≤ n - 2)) (k 0) (k 2)) (k 1) := by
  unfold i_isPair
  rw [i_IsGrid_val z hN _ _ _ hX hO]
  cases hg : gridB n X O with
  | false => rfl
  | true =>
    obtain ⟨m, rfl, g⟩ := gridB_iff.1 hg
    have h8 := g.hi
    obtain ⟨N, rfl⟩ : ∃ M, N = M + 2 := ⟨N - 2, by omega⟩
    simp only [Bool.not_true, c_false, c_true, i_isPair_l0, i_isPair_l0_s, c_and, i_within_val]
    have e : ((List.replicate 1 0).set 0 r).length = 1 := by simp
    rw [e]
    simp (disch := omega) only [c_lt, c_le, c_blt, c_fits, c_beq]
    by_cases h : 0 ≤ r ∧ r ≤ (m : Int) - 2
    · simp [h, List.set, c_if, fits64]
    · simp [h, List.set, c_if]
theorem w_FnExactExchangeRows_val (z : β) {N : Nat} (hN : 8 < N) (n : Int) (X O : Nat → Int) (r : Int) (hX : ∀ j, j < 8 → 0 ≤ X j ∧ X j ≤ 255) (hO : ∀ j, j < 8 → 0 ≤ O j ∧ O j ≤ 255) (k0 : Bool → β) : w_FnExactExchangeRows z N n X O r k0 = k0 true := by
  unfold w_FnExactExchangeRows
  have hX0 := clip8_nn fun j h => (hX j h).1
  have hO0 := clip8_nn fun j h => (hO j h).1
  have zX : ∀ j, 8 ≤ j → clip8 X j = 0 := fun j h => if_neg (by omega)
  have zO : ∀ j, 8 ≤ j → clip8 O j = 0 := fun j h => if_neg (by omega)
  simp only [w_toGrid_val z hN, s_ExchangeRows, i_ExchangeRows, i_CanExchangeRows, s_place1 z hN hX0 hO0, i_place1 z hN hX0 hO0]
  cases hg : gridB n (clip8 X) (clip8 O) with
  | false =>
    simp only [c_false]
    simp (disch := omega) only [c_ne, w_eqGrid_refl z hN, Bool.not_true, c_false, bne_self_eq_false]
  | true =>
    obtain ⟨m, rfl, g⟩ := gridB_iff.1 hg
    simp only [c_true]
    by_cases h : 0 ≤ r ∧ r ≤ (m : Int) - 2
    · obtain ⟨q, rfl⟩ : ∃ q : Nat, r = (q : Int) := ⟨r.toNat, by omega⟩
      have hq : q + 1 < m := by omega
      simp only [decide_eq_true h, c_true, bne_self_eq_false, c_false, s_l02Rows_val z hN g hX0 hO0 hq, i_Grid_canRows_val z hN g hX0 hO0 hq]
      cases rowsB m (clip8 X) (clip8 O) q with
      | false => simp only [Bool.not_false, c_true, w_eqGrid_refl z hN, Bool.not_true, c_false, bne_self_eq_false]
      | true => simp only [Bool.not_true, c_false, s_l02SwapRows_val z hN g.hi _ _ hq, i_Grid_swapRows_val z hN g hX0 hO0 zX zO hq, w_eqGrid_refl z hN, bne_self_eq_false]
    · simp only [decide_eq_false h, c_false]
      simp (disch := omega) only [c_ne, w_eqGrid_refl z hN, Bool.not_true, c_false, bne_self_eq_false]
end
end Go.AM

namespace Go.AM
section
variable {β : Type}
theorem upd_upd {γ : Type} (h : Nat → γ) (c : Nat) (a b : γ) : upd (upd h c a) c b = upd h c b := by
  funext j
  simp only [upd_at]
  split <;> rfl
theorem upd_same {γ : Type} (h : Nat → γ) (c : Nat) (a : γ) : upd h c a c = a := by rw [upd_at, if_pos rfl]
theorem wrapB {x : Int} (h : 0 ≤ x ∧ x < 256) : wrapU .u8 x = x := by
  show x % 256 = x
  omega
/-- Where a column goes to when a column is put in behind, or in front of, the column i. -/
def colT (i right c : Nat) : Nat := if c = i then i + right else if i < c then c + 1 else c
def liftV (r u x : Int) : Int := if r < x then x + 1 else if x = r then r + u else x
def lift1 (r x : Int) : Int := if r < x then x + 1 else x
def growF (P Q : Nat → Int) (i right : Nat) (r u : Int) (c : Nat) (s : (Nat → Int) × (Nat → Int)) : (Nat → Int) × (Nat → Int) :=
  (upd s.1 (colT i right c) (lift1 r (P c)), upd s.2 (colT i right c) (liftV r u (Q c)))
/-- Columns of a grown grid: own marks, the others. -/
def growO (n : Nat) (P Q : Nat → Int) (i right : Nat) (u : Int) : (Nat → Int) × (Nat → Int) :=
  let s := iter (growF P Q i right (P i) u) n 0 (fun _ => 0, fun _ => 0)
  (upd (upd s.1 (i + right) (P i + (1 - u))) (i + 1 - right) (P i + u), upd s.2 (i + 1 - right) (P i + (1 - u)))
theorem grown_l0_s2_val (z : β) {N n i right : Nat} (hN : 8 < N) (hn : n < 8) (hi : i < n) (hr : right ≤ 1) {u : Int} (hu : 0 ≤ u ∧ u ≤ 1) {P Q : Nat → Int} (hP : ∀ c, c < n → 0 ≤ P c ∧ P c < n) (hQ : ∀ c, c < n → 0 ≤ Q c ∧ Q c < n)
    {a : Nat → Int} (a0 : a 0 = i) (a2 : a 2 = right) (a3 : a 3 = u) (n0 b0 c0 : Int) (X O b1 b2 : Nat → Int) (k : (Nat → Int) → (Nat → Int) → β) :
    i_Grid_grown_l0_s2 z (P i) n n0 X O a b0 b1 b2 P Q c0 N 0 (fun _ => 0) (fun _ => 0) k = k (iter (growF P Q i right (P i) u) n 0 (fun _ => 0, fun _ => 0)).1 (iter (growF P Q i right (P i) u) n 0 (fun _ => 0, fun _ => 0)).2 := by
  refine up_to (L := fun m c (s : (Nat → Int) × (Nat → Int)) => i_Grid_grown_l0_s2 z (P i) n n0 X O a b0 b1 b2 P Q c0 m (c : Int) s.1 s.2 k) (n := n) (out := fun s => k s.1 s.2) (f := growF P Q i right (P i) u) (I := fun _ _ => True)
    (fun m c s hc _ => ⟨?_, trivial⟩) (fun m s _ => by simp (disch := omega) only [i_Grid_grown_l0_s2, i_Grid_grown_l0_s2_s, c_nlt]) n N 0 (fun _ => 0, fun _ => 0) (by omega) (by omega) trivial
  have p := hP c hc
  have q := hQ c hc
  have pi := hP i hi
  have w1 := wrapB (x := P c + 1) (by omega)
  have w2 := wrapB (x := Q c + 1) (by omega)
  have w3 := wrapB (x := u) (by omega)
  have w4 := wrapB (x := P i + u) (by omega)
  rw [i_Grid_grown_l0_s2, i_Grid_grown_l0_s2_s, a0, a2, a3]
  unfold growF colT lift1 liftV
  have t1 : ((i : Int) + (right : Int)).toNat = i + right := by omega
  have t2 : ((c : Int) + 1).toNat = c + 1 := by omega
  rcases Nat.lt_trichotomy c i with hci | hci | hci
  · rw [if_neg (by omega), if_neg (by omega)]
    simp only [c_and, Int.toNat_natCast, t1, t2]
    simp (disch := omega) only [c_lt, c_nlt, c_le, c_blt, c_fits, c_neq, c_eq]
    by_cases h1 : P i < P c
    · rw [if_pos h1, c_lt h1]
      by_cases h2 : P i < Q c
      · rw [if_pos h2, c_lt h2]
        simp only [upd_upd, upd_same, w1, w2]; rfl
      · rw [if_neg h2, c_nlt (by omega)]
        by_cases h3 : Q c = P i
        · rw [if_pos h3, c_eq h3]
          simp only [upd_upd, upd_same, w1, w3, h3, w4]; rfl
        · rw [if_neg h3, c_neq h3]
          simp only [upd_upd, upd_same, w1]; rfl
    · rw [if_neg h1, c_nlt (by omega)]
      by_cases h2 : P i < Q c
      · rw [if_pos h2, c_lt h2]
        simp only [upd_upd, upd_same, w2]; rfl
      · rw [if_neg h2, c_nlt (by omega)]
        by_cases h3 : Q c = P i
        · rw [if_pos h3, c_eq h3]
          simp only [upd_upd, upd_same, w3, h3, w4]; rfl
        · rw [if_neg h3, c_neq h3]
          rfl
  · subst hci
    rw [if_pos rfl]
    simp only [c_and, Int.toNat_natCast, t1, t2]
    simp (disch := omega) only [c_lt, c_nlt, c_le, c_blt, c_fits, c_neq, c_eq]
    rw [if_neg (show ¬ P c < P c by omega)]
    by_cases h2 : P c < Q c
    · rw [if_pos h2, c_lt h2]
      simp only [upd_upd, upd_same, w2]; rfl
    · rw [if_neg h2, c_nlt (by omega)]
      by_cases h3 : Q c = P c
      · rw [if_pos h3, c_eq h3]
        simp only [upd_upd, upd_same, w3, h3, w4]; rfl
      · rw [if_neg h3, c_neq h3]
        rfl
  · rw [if_neg (by omega), if_pos hci]
    simp only [c_and, Int.toNat_natCast, t1, t2]
    simp (disch := omega) only [c_lt, c_nlt, c_le, c_blt, c_fits, c_neq, c_eq]
    by_cases h1 : P i < P c
    · rw [if_pos h1, c_lt h1]
      by_cases h2 : P i < Q c
      · rw [if_pos h2, c_lt h2]
        simp only [upd_upd, upd_same, w1, w2]; rfl
      · rw [if_neg h2, c_nlt (by omega)]
        by_cases h3 : Q c = P i
        · rw [if_pos h3, c_eq h3]
          simp only [upd_upd, upd_same, w1, w3, h3, w4]; rfl
        · rw [if_neg h3, c_neq h3]
          simp only [upd_upd, upd_same, w1]; rfl
    · rw [if_neg h1, c_nlt (by omega)]
      by_cases h2 : P i < Q c
      · rw [if_pos h2, c_lt h2]
        simp only [upd_upd, upd_same, w2]; rfl
      · rw [if_neg h2, c_nlt (by omega)]
        by_cases h3 : Q c = P i
        · rw [if_pos h3, c_eq h3]
          simp only [upd_upd, upd_same, w3, h3, w4]; rfl
        · rw [if_neg h3, c_neq h3]
          rfl
theorem grown_l0_s3_val (z : β) {N n i right : Nat} (hN : 8 < N) (hn : n < 8) (hi : i < n) (hr : right ≤ 1) {u : Int} (hu : 0 ≤ u ∧ u ≤ 1) {P Q : Nat → Int} (hP : ∀ c, c < n → 0 ≤ P c ∧ P c < n) (hQ : ∀ c, c < n → 0 ≤ Q c ∧ Q c < n)
    {a : Nat → Int} (a0 : a 0 = i) (a2 : a 2 = right) (a3 : a 3 = u) (n0 b0 c0 : Int) (X O b1 b2 : Nat → Int) (k : (Nat → Int) → (Nat → Int) → β) :
    i_Grid_grown_l0_s3 z (P i) n n0 X O a b0 b1 b2 P Q c0 N 0 (fun _ => 0) (fun _ => 0) k = k (iter (growF P Q i right (P i) u) n 0 (fun _ => 0, fun _ => 0)).2 (iter (growF P Q i right (P i) u) n 0 (fun _ => 0, fun _ => 0)).1 := by
  refine up_to (L := fun m c (s : (Nat → Int) × (Nat → Int)) => i_Grid_grown_l0_s3 z (P i) n n0 X O a b0 b1 b2 P Q c0 m (c : Int) s.2 s.1 k) (n := n) (out := fun s => k s.2 s.1) (f := growF P Q i right (P i) u) (I := fun _ _ => True)
    (fun m c s hc _ => ⟨?_, trivial⟩) (fun m s _ => by simp (disch := omega) only [i_Grid_grown_l0_s3, i_Grid_grown_l0_s3_s, c_nlt]) n N 0 (fun _ => 0, fun _ => 0) (by omega) (by omega) trivial
  have p := hP c hc
  have q := hQ c hc
  have pi := hP i hi
  have w1 := wrapB (x := P c + 1) (by omega)
  have w2 := wrapB (x := Q c + 1) (by omega)
  have w3 := wrapB (x := u) (by omega)
  have w4 := wrapB (x := P i + u) (by omega)
  rw [i_Grid_grown_l0_s3, i_Grid_grown_l0_s3_s, a0, a2, a3]
  unfold growF colT lift1 liftV
  have t1 : ((i : Int) + (right : Int)).toNat = i + right := by omega
  have t2 : ((c : Int) + 1).toNat = c + 1 := by omega
  rcases Nat.lt_trichotomy c i with hci | hci | hci
  · rw [if_neg (by omega), if_neg (by omega)]
    simp only [c_and, Int.toNat_natCast, t1, t2]
    simp (disch := omega) only [c_lt, c_nlt, c_le, c_blt, c_fits, c_neq, c_eq]
    by_cases h1 : P i < P c
    · rw [if_pos h1, c_lt h1]
      by_cases h2 : P i < Q c
      · rw [if_pos h2, c_lt h2]
        simp only [upd_upd, upd_same, w1, w2]; rfl
      · rw [if_neg h2, c_nlt (by omega)]
        by_cases h3 : Q c = P i
        · rw [if_pos h3, c_eq h3]
          simp only [upd_upd, upd_same, w1, w3, h3, w4]; rfl
        · rw [if_neg h3, c_neq h3]
          simp only [upd_upd, upd_same, w1]; rfl
    · rw [if_neg h1, c_nlt (by omega)]
      by_cases h2 : P i < Q c
      · rw [if_pos h2, c_lt h2]
        simp only [upd_upd, upd_same, w2]; rfl
      · rw [if_neg h2, c_nlt (by omega)]
        by_cases h3 : Q c = P i
        · rw [if_pos h3, c_eq h3]
          simp only [upd_upd, upd_same, w3, h3, w4]; rfl
        · rw [if_neg h3, c_neq h3]
          rfl
  · subst hci
    rw [if_pos rfl]
    simp only [c_and, Int.toNat_natCast, t1, t2]
    simp (disch := omega) only [c_lt, c_nlt, c_le, c_blt, c_fits, c_neq, c_eq]
    rw [if_neg (show ¬ P c < P c by omega)]
    by_cases h2 : P c < Q c
    · rw [if_pos h2, c_lt h2]
      simp only [upd_upd, upd_same, w2]; rfl
    · rw [if_neg h2, c_nlt (by omega)]
      by_cases h3 : Q c = P c
      · rw [if_pos h3, c_eq h3]
        simp only [upd_upd, upd_same, w3, h3, w4]; rfl
      · rw [if_neg h3, c_neq h3]
        rfl
  · rw [if_neg (by omega), if_pos hci]
    simp only [c_and, Int.toNat_natCast, t1, t2]
    simp (disch := omega) only [c_lt, c_nlt, c_le, c_blt, c_fits, c_neq, c_eq]
    by_cases h1 : P i < P c
    · rw [if_pos h1, c_lt h1]
      by_cases h2 : P i < Q c
      · rw [if_pos h2, c_lt h2]
        simp only [upd_upd, upd_same, w1, w2]; rfl
      · rw [if_neg h2, c_nlt (by omega)]
        by_cases h3 : Q c = P i
        · rw [if_pos h3, c_eq h3]
          simp only [upd_upd, upd_same, w1, w3, h3, w4]; rfl
        · rw [if_neg h3, c_neq h3]
          simp only [upd_upd, upd_same, w1]; rfl
    · rw [if_neg h1, c_nlt (by omega)]
      by_cases h2 : P i < Q c
      · rw [if_pos h2, c_lt h2]
        simp only [upd_upd, upd_same, w2]; rfl
      · rw [if_neg h2, c_nlt (by omega)]
        by_cases h3 : Q c = P i
        · rw [if_pos h3, c_eq h3]
          simp only [upd_upd, upd_same, w3, h3, w4]; rfl
        · rw [if_neg h3, c_neq h3]
          rfl
theorem i_Grid_grown_val0 (z : β) {N n i right : Nat} (hN : 8 < N) (hn : n < 8) (hi : i < n) (hr : right ≤ 1) {u : Int} (hu : 0 ≤ u ∧ u ≤ 1) {X O : Nat → Int} (hX : ∀ c, c < n → 0 ≤ X c ∧ X c < n) (hO : ∀ c, c < n → 0 ≤ O c ∧ O c < n)
    {a : Nat → Int} (a0 : a 0 = i) (a1 : a 1 = 0) (a2 : a 2 = right) (a3 : a 3 = u) (k : Int → (Nat → Int) → (Nat → Int) → β) :
    i_Grid_grown z N n X O a k = k ((n : Int) + 1) (growO n X O i right u).1 (growO n X O i right u).2 := by
  have pi := hX i hi
  unfold i_Grid_grown
  have e0 : ∀ (c : Int) (p q : Nat → Int) (x y : β), c = 0 → i_Grid_rows z N c n p q x y = x := fun c p q x y h => by unfold i_Grid_rows; rw [c_eq h]
  have e1 : ∀ (c : Int) (p q : Nat → Int) (x y : β), c = 1 → i_Grid_rows z N c n p q x y = y := fun c p q x y h => by unfold i_Grid_rows; rw [c_neq (by omega)]
  have f0 : ∀ (c : Int) (p q : Nat → Int) (x y : β), c = 0 → i_Grid_rows z N c ((n : Int) + 1) p q x y = x := fun c p q x y h => by unfold i_Grid_rows; rw [c_eq h]
  have f1 : ∀ (c : Int) (p q : Nat → Int) (x y : β), c = 1 → i_Grid_rows z N c ((n : Int) + 1) p q x y = y := fun c p q x y h => by unfold i_Grid_rows; rw [c_neq (by omega)]
  have t1 : ((i : Int) + (right : Int)).toNat = i + right := by omega
  have t2 : ((i : Int) + 1 - (right : Int)).toNat = i + 1 - right := by omega
  have w1 := wrapB (x := 1 - u) (by omega)
  have w2 := wrapB (x := u) (by omega)
  have w3 := wrapB (x := X i + (1 - u)) (by omega)
  have w4 := wrapB (x := X i + u) (by omega)
  rw [a1]
  simp (disch := omega) only [e0, e1, f0, f1, c_fits, a0, a2, a3, i_Grid_n]
  simp only [c_and, Int.toNat_natCast, t1, t2]
  simp (disch := omega) only [c_lt, c_le, c_blt, c_fits]
  rw [grown_l0_s2_val z hN hn hi hr hu hX hO a0 a2 a3]
  simp (disch := omega) only [c_lt, c_le, c_blt, c_fits, w1, w2, w3, w4]
  rfl
theorem i_Grid_grown_val1 (z : β) {N n i right : Nat} (hN : 8 < N) (hn : n < 8) (hi : i < n) (hr : right ≤ 1) {u : Int} (hu : 0 ≤ u ∧ u ≤ 1) {X O : Nat → Int} (hX : ∀ c, c < n → 0 ≤ X c ∧ X c < n) (hO : ∀ c, c < n → 0 ≤ O c ∧ O c < n)
    {a : Nat → Int} (a0 : a 0 = i) (a1 : a 1 = 1) (a2 : a 2 = right) (a3 : a 3 = u) (k : Int → (Nat → Int) → (Nat → Int) → β) :
    i_Grid_grown z N n X O a k = k ((n : Int) + 1) (growO n O X i right u).2 (growO n O X i right u).1 := by
  have pi := hO i hi
  unfold i_Grid_grown
  have e0 : ∀ (c : Int) (p q : Nat → Int) (x y : β), c = 0 → i_Grid_rows z N c n p q x y = x := fun c p q x y h => by unfold i_Grid_rows; rw [c_eq h]
  have e1 : ∀ (c : Int) (p q : Nat → Int) (x y : β), c = 1 → i_Grid_rows z N c n p q x y = y := fun c p q x y h => by unfold i_Grid_rows; rw [c_neq (by omega)]
  have f0 : ∀ (c : Int) (p q : Nat → Int) (x y : β), c = 0 → i_Grid_rows z N c ((n : Int) + 1) p q x y = x := fun c p q x y h => by unfold i_Grid_rows; rw [c_eq h]
  have f1 : ∀ (c : Int) (p q : Nat → Int) (x y : β), c = 1 → i_Grid_rows z N c ((n : Int) + 1) p q x y = y := fun c p q x y h => by unfold i_Grid_rows; rw [c_neq (by omega)]
  have t1 : ((i : Int) + (right : Int)).toNat = i + right := by omega
  have t2 : ((i : Int) + 1 - (right : Int)).toNat = i + 1 - right := by omega
  have w1 := wrapB (x := 1 - u) (by omega)
  have w2 := wrapB (x := u) (by omega)
  have w3 := wrapB (x := O i + (1 - u)) (by omega)
  have w4 := wrapB (x := O i + u) (by omega)
  rw [a1]
  simp (disch := omega) only [e0, e1, f0, f1, c_fits, a0, a2, a3, i_Grid_n]
  simp only [c_and, Int.toNat_natCast, t1, t2]
  simp (disch := omega) only [c_lt, c_le, c_blt, c_fits]
  rw [grown_l0_s3_val z hN hn hi hr hu hO hX a0 a2 a3]
  simp (disch := omega) only [c_lt, c_le, c_blt, c_fits, w1, w2, w3, w4]
  rfl
end
end Go.AM

namespace Go.AM
section
variable {β : Type}
/-- Cells that are set at places of their own. -/
theorem iter_upd {col : Nat → Nat} {v : Nat → Int} {ok : Nat → Bool} (hinj : ∀ a b, ok a = true → ok b = true → col a = col b → a = b) (h : Nat → Int) : ∀ d,
    (∀ c, c < d → ok c = true → iter (fun c (s : Nat → Int) => cond (ok c) (upd s (col c) (v c)) s) d 0 h (col c) = v c) ∧
    ∀ j, (∀ c, c < d → ok c = true → col c ≠ j) → iter (fun c (s : Nat → Int) => cond (ok c) (upd s (col c) (v c)) s) d 0 h j = h j := by
  intro d
  induction d with
  | zero => exact ⟨fun c hc => by omega, fun j _ => rfl⟩
  | succ d ih =>
    rw [iter_succ, Nat.zero_add]
    generalize iter (fun c (s : Nat → Int) => cond (ok c) (upd s (col c) (v c)) s) d 0 h = s at *
    obtain ⟨i1, i2⟩ := ih
    cases hok : ok d with
    | false =>
      rw [cond_false]
      refine ⟨fun c hc ho => i1 c ?_ ho, fun j hj => i2 j fun c hc ho => hj c (by omega) ho⟩
      rcases Nat.lt_or_ge c d with h | h
      · exact h
      · have : c = d := by omega
        subst this
        rw [hok] at ho
        cases ho
    | true =>
      rw [cond_true]
      refine ⟨fun c hc ho => ?_, fun j hj => ?_⟩
      · rw [upd_at]
        by_cases e : col c = col d
        · have := hinj c d ho hok e
          subst this
          rw [if_pos rfl]
        · rw [if_neg e]
          refine i1 c ?_ ho
          rcases Nat.lt_or_ge c d with h | h
          · exact h
          · have : c = d := by omega
            subst this
            exact absurd rfl e
      · rw [upd_at, if_neg (fun e => hj d (by omega) hok e.symm)]
        exact i2 j fun c hc ho => hj c (by omega) ho
theorem iter_fst {σ τ : Type} {f : Nat → σ × τ → σ × τ} {g : Nat → σ → σ} (h : ∀ c s, (f c s).1 = g c s.1) : ∀ d i s, (iter f d i s).1 = iter g d i s.1 := by
  intro d
  induction d with
  | zero => intro i s; rfl
  | succ d ih => intro i s; rw [iter, iter, ih, h]
theorem iter_snd {σ τ : Type} {f : Nat → σ × τ → σ × τ} {g : Nat → τ → τ} (h : ∀ c s, (f c s).2 = g c s.2) : ∀ d i s, (iter f d i s).2 = iter g d i s.2 := by
  intro d
  induction d with
  | zero => intro i s; rfl
  | succ d ih => intro i s; rw [iter, iter, ih, h]
theorem colT_inj {i right : Nat} (hr : right ≤ 1) {a b : Nat} (h : colT i right a = colT i right b) : a = b := by
  unfold colT at h
  by_cases h1 : a = i <;> by_cases h2 : b = i <;> by_cases h3 : i < a <;> by_cases h4 : i < b <;> simp only [h1, h2, h3, h4, if_true, if_false] at h <;> omega
/-- The cells of a grown grid. -/
theorem growO_at {n i right : Nat} (hi : i < n) (hr : right ≤ 1) {u : Int} (P Q : Nat → Int) :
    (growO n P Q i right u).1 (i + right) = P i + (1 - u) ∧ (growO n P Q i right u).1 (i + 1 - right) = P i + u ∧ (growO n P Q i right u).2 (i + 1 - right) = P i + (1 - u) ∧ (growO n P Q i right u).2 (i + right) = liftV (P i) u (Q i) ∧
    (∀ j, j < i → (growO n P Q i right u).1 j = lift1 (P i) (P j) ∧ (growO n P Q i right u).2 j = liftV (P i) u (Q j)) ∧
    (∀ j, i < j → j < n → (growO n P Q i right u).1 (j + 1) = lift1 (P i) (P j) ∧ (growO n P Q i right u).2 (j + 1) = liftV (P i) u (Q j)) ∧
    ∀ j, n < j → (growO n P Q i right u).1 j = 0 ∧ (growO n P Q i right u).2 j = 0 := by
  unfold growO
  simp only
  have e1 := iter_fst (f := growF P Q i right (P i) u) (g := fun c s => upd s (colT i right c) (lift1 (P i) (P c))) (fun c s => rfl) n 0 (fun _ => 0, fun _ => 0)
  have e2 := iter_snd (f := growF P Q i right (P i) u) (g := fun c s => upd s (colT i right c) (liftV (P i) u (Q c))) (fun c s => rfl) n 0 (fun _ => 0, fun _ => 0)
  have k1 := iter_upd (col := colT i right) (v := fun c => lift1 (P i) (P c)) (ok := fun _ => true) (fun a b _ _ h => colT_inj hr h) (fun _ => 0) n
  have k2 := iter_upd (col := colT i right) (v := fun c => liftV (P i) u (Q c)) (ok := fun _ => true) (fun a b _ _ h => colT_inj hr h) (fun _ => 0) n
  simp only [cond_true] at k1 k2
  rw [e1, e2]
  obtain ⟨a1, a2⟩ := k1
  obtain ⟨b1, b2⟩ := k2
  simp only at a1 a2 b1 b2 ⊢
  generalize iter (fun c s => upd s (colT i right c) (lift1 (P i) (P c))) n 0 (fun _ => 0) = s at *
  generalize iter (fun c s => upd s (colT i right c) (liftV (P i) u (Q c))) n 0 (fun _ => 0) = t at *
  have ci : colT i right i = i + right := if_pos rfl
  have cl : ∀ j, j < i → colT i right j = j := fun j hj => by unfold colT; rw [if_neg (by omega), if_neg (by omega)]
  have cg : ∀ j, i < j → colT i right j = j + 1 := fun j hj => by unfold colT; rw [if_neg (by omega), if_pos hj]
  refine ⟨?_, ?_, ?_, ?_, fun j hj => ⟨?_, ?_⟩, fun j hj1 hj2 => ⟨?_, ?_⟩, fun j hj => ⟨?_, ?_⟩⟩
  · rw [upd_at, if_neg (by omega), upd_at, if_pos rfl]
  · rw [upd_at, if_pos rfl]
  · rw [upd_at, if_pos rfl]
  · rw [upd_at, if_neg (by omega), ← ci]; exact b1 i hi trivial
  · rw [upd_at, if_neg (by omega), upd_at, if_neg (by omega)]
    have := a1 j (by omega) trivial
    rwa [cl j hj] at this
  · rw [upd_at, if_neg (by omega)]
    have := b1 j (by omega) trivial
    rwa [cl j hj] at this
  · rw [upd_at, if_neg (by omega), upd_at, if_neg (by omega)]
    have := a1 j hj2 trivial
    rwa [cg j hj1] at this
  · rw [upd_at, if_neg (by omega)]
    have := b1 j hj2 trivial
    rwa [cg j hj1] at this
  · rw [upd_at, if_neg (by omega), upd_at, if_neg (by omega)]
    refine a2 j fun c hc _ e => ?_
    unfold colT at e
    split at e
    · omega
    · split at e <;> omega
  · rw [upd_at, if_neg (by omega)]
    refine b2 j fun c hc _ e => ?_
    unfold colT at e
    split at e
    · omega
    · split at e <;> omega
/-- The spec's stabilization. -/
def colS (i c : Nat) : Nat := if i < c then c + 1 else c
def stabF (P Q : Nat → Int) (i : Nat) (r u : Int) (c : Nat) (s : (Nat → Int) × (Nat → Int)) : (Nat → Int) × (Nat → Int) :=
  cond (c != i) (upd s.1 (colS i c) (liftV r u (P c)), upd s.2 (colS i c) (liftV r u (Q c))) s
def stabO (n : Nat) (P Q : Nat → Int) (i right : Nat) (u : Int) : (Nat → Int) × (Nat → Int) :=
  let s := iter (stabF P Q i (P i) u) n 0 (fun _ => 0, fun _ => 0)
  (upd (upd s.1 (i + right) (P i + 1 - u)) (i + 1 - right) (P i + u), upd (upd s.2 (i + 1 - right) (P i + 1 - u)) (i + right) (liftV (P i) u (Q i)))
theorem stab_grow {n i right : Nat} (hi : i < n) (hr : right ≤ 1) {u : Int} {P Q : Nat → Int} (hP : ∀ a b, a < n → b < n → P a = P b → a = b) : stabO n P Q i right u = growO n P Q i right u := by
  obtain ⟨g1, g2, g3, g4, g5, g6, g7⟩ := growO_at (n := n) hi hr (u := u) P Q
  unfold stabO
  simp only
  have e1 := iter_fst (f := stabF P Q i (P i) u) (g := fun c s => cond (c != i) (upd s (colS i c) (liftV (P i) u (P c))) s) (fun c s => by unfold stabF; cases (c != i) <;> rfl) n 0 (fun _ => 0, fun _ => 0)
  have e2 := iter_snd (f := stabF P Q i (P i) u) (g := fun c s => cond (c != i) (upd s (colS i c) (liftV (P i) u (Q c))) s) (fun c s => by unfold stabF; cases (c != i) <;> rfl) n 0 (fun _ => 0, fun _ => 0)
  have inj : ∀ a b, (a != i) = true → (b != i) = true → colS i a = colS i b → a = b := fun a b h1 h2 h => by
    have h1 : a ≠ i := by simpa using h1
    have h2 : b ≠ i := by simpa using h2
    unfold colS at h
    by_cases h3 : i < a <;> by_cases h4 : i < b <;> simp only [h3, h4, if_true, if_false] at h <;> omega
  have k1 := iter_upd (col := colS i) (v := fun c => liftV (P i) u (P c)) (ok := fun c => c != i) inj (fun _ => 0) n
  have k2 := iter_upd (col := colS i) (v := fun c => liftV (P i) u (Q c)) (ok := fun c => c != i) inj (fun _ => 0) n
  rw [e1, e2]
  obtain ⟨a1, a2⟩ := k1
  obtain ⟨b1, b2⟩ := k2
  simp only at a1 a2 b1 b2 ⊢
  generalize iter (fun c (s : Nat → Int) => cond (c != i) (upd s (colS i c) (liftV (P i) u (P c))) s) n 0 (fun _ => 0) = s at *
  generalize iter (fun c (s : Nat → Int) => cond (c != i) (upd s (colS i c) (liftV (P i) u (Q c))) s) n 0 (fun _ => 0) = t at *
  have hl : ∀ j, j < n → j ≠ i → liftV (P i) u (P j) = lift1 (P i) (P j) := fun j hj hne => by
    unfold liftV lift1
    rw [if_neg (show ¬ P j = P i from fun e => hne (hP j i hj hi e))]
  have cl : ∀ j, j < i → colS i j = j := fun j hj => by unfold colS; rw [if_neg (by omega)]
  have cg : ∀ j, i < j → colS i j = j + 1 := fun j hj => by unfold colS; rw [if_pos hj]
  have nb : ∀ j, j ≠ i → (j != i) = true := fun j hj => by simpa using hj
  refine Prod.ext (funext fun j => ?_) (funext fun j => ?_)
  · simp only
    rw [upd_at, upd_at]
    by_cases h1 : j = i + 1 - right
    · rw [if_pos h1, h1, g2]
    · rw [if_neg h1]
      by_cases h2 : j = i + right
      · rw [if_pos h2, h2, g1]; omega
      · rw [if_neg h2]
        rcases Nat.lt_or_ge j i with h3 | h3
        · have := a1 j (by omega) (nb j (by omega))
          rw [cl j h3] at this
          rw [this, (g5 j h3).1, hl j (by omega) (by omega)]
        · rcases Nat.lt_or_ge n j with h4 | h4
          · rw [(g7 j h4).1]
            exact a2 j fun c hc _ e => by unfold colS at e; split at e <;> omega
          · obtain ⟨q, rfl⟩ : ∃ q, j = q + 1 := ⟨j - 1, by omega⟩
            have := a1 q (by omega) (nb q (by omega))
            rw [cg q (by omega)] at this
            rw [this, (g6 q (by omega) (by omega)).1, hl q (by omega) (by omega)]
  · simp only
    rw [upd_at, upd_at]
    by_cases h2 : j = i + right
    · rw [if_pos h2, h2, g4]
    · rw [if_neg h2]
      by_cases h1 : j = i + 1 - right
      · rw [if_pos h1, h1, g3]; omega
      · rw [if_neg h1]
        rcases Nat.lt_or_ge j i with h3 | h3
        · have := b1 j (by omega) (nb j (by omega))
          rw [cl j h3] at this
          rw [this, (g5 j h3).2]
        · rcases Nat.lt_or_ge n j with h4 | h4
          · rw [(g7 j h4).2]
            exact b2 j fun c hc _ e => by unfold colS at e; split at e <;> omega
          · obtain ⟨q, rfl⟩ : ∃ q, j = q + 1 := ⟨j - 1, by omega⟩
            have := b1 q (by omega) (nb q (by omega))
            rw [cg q (by omega)] at this
            rw [this, (g6 q (by omega) (by omega)).2]
theorem s_l02Lifted_val (z : β) (N : Nat) {x r u : Int} (hx : 0 ≤ x ∧ x < 200) (hr : 0 ≤ r ∧ r < 200) (hu : 0 ≤ u ∧ u ≤ 1) (k : Int → β) : s_l02Lifted z N x r u k = k (liftV r u x) := by
  have w1 := wrapB (x := x + 1) (by omega)
  have w2 := wrapB (x := r + u) (by omega)
  unfold s_l02Lifted liftV
  by_cases h1 : r < x
  · rw [if_pos h1, c_lt h1, w1]
  · rw [if_neg h1, c_nlt (by omega)]
    by_cases h2 : x = r
    · rw [if_pos h2, c_eq h2, c_fits (by omega), w2]
    · rw [if_neg h2, c_neq h2]
theorem liftV_bd {r u x : Int} (hx : 0 ≤ x ∧ x < 200) (hr : 0 ≤ r ∧ r < 200) (hu : 0 ≤ u ∧ u ≤ 1) : 0 ≤ liftV r u x ∧ liftV r u x < 256 := by
  unfold liftV
  split
  · omega
  · split <;> omega
theorem s_Stab_l0_val (z : β) {N n i : Nat} (hN : 8 < N) (hn : n < 8) (hi : i < n) {u r : Int} (hu : 0 ≤ u ∧ u ≤ 1) {P Q : Nat → Int} (hP : ∀ c, c < n → 0 ≤ P c ∧ P c < n) (hQ : ∀ c, c < n → 0 ≤ Q c ∧ Q c < n) (hr : 0 ≤ r ∧ r < n)
    (t2 t3 : Int) (X O a0 a1 : Nat → Int) (b0 : Int) (k : (Nat → Int) → (Nat → Int) → β) :
    s_l02Stabilize_l0 z N i t2 t3 u r n X O b0 a0 a1 P Q N 0 (fun _ => 0) (fun _ => 0) k = k (iter (stabF P Q i r u) n 0 (fun _ => 0, fun _ => 0)).1 (iter (stabF P Q i r u) n 0 (fun _ => 0, fun _ => 0)).2 := by
  refine up_to (L := fun m c (s : (Nat → Int) × (Nat → Int)) => s_l02Stabilize_l0 z N i t2 t3 u r n X O b0 a0 a1 P Q m (c : Int) s.1 s.2 k) (n := n) (out := fun s => k s.1 s.2) (f := stabF P Q i r u) (I := fun _ _ => True)
    (fun m c s hc _ => ⟨?_, trivial⟩) (fun m s _ => by simp (disch := omega) only [s_l02Stabilize_l0, s_l02Stabilize_l0_s, c_nlt]) n N 0 (fun _ => 0, fun _ => 0) (by omega) (by omega) trivial
  have p := hP c hc
  have q := hQ c hc
  have t1 : ((c : Int) + 1).toNat = c + 1 := by omega
  rw [s_l02Stabilize_l0, s_l02Stabilize_l0_s]
  unfold stabF colS
  rcases Nat.lt_trichotomy c i with hci | hci | hci
  · rw [show (c != i) = true by simp; omega, cond_true, if_neg (by omega)]
    simp only [c_and, Int.toNat_natCast, t1, s_l02Lifted_val z N (x := P c) (r := r) (u := u) (by omega) (by omega) hu, s_l02Lifted_val z N (x := Q c) (r := r) (u := u) (by omega) (by omega) hu]
    simp (disch := omega) only [c_lt, c_nlt, c_le, c_blt, c_fits, c_ne]
    rfl
  · subst hci
    rw [show (c != c) = false by simp, cond_false]
    simp (disch := omega) only [c_lt, c_nlt, c_fits, c_nne]
    rfl
  · rw [show (c != i) = true by simp; omega, cond_true, if_pos hci]
    simp only [c_and, Int.toNat_natCast, t1, s_l02Lifted_val z N (x := P c) (r := r) (u := u) (by omega) (by omega) hu, s_l02Lifted_val z N (x := Q c) (r := r) (u := u) (by omega) (by omega) hu]
    simp (disch := omega) only [c_lt, c_nlt, c_le, c_blt, c_fits, c_ne]
    rfl
theorem s_l02Stabilize_val0 (z : β) {N n i right : Nat} (hN : 8 < N) (hn : n < 8) (hi : i < n) (hr : right ≤ 1) {u : Int} (hu : 0 ≤ u ∧ u ≤ 1) {X O : Nat → Int} (hX : ∀ c, c < n → 0 ≤ X c ∧ X c < n) (hO : ∀ c, c < n → 0 ≤ O c ∧ O c < n) (k : Int → (Nat → Int) → (Nat → Int) → β) :
    s_l02Stabilize z N n X O i 0 right u k = k ((n : Int) + 1) (stabO n X O i right u).1 (stabO n X O i right u).2 := by
  have pi := hX i hi
  have qi := hO i hi
  have t1 : ((i : Int) + (right : Int)).toNat = i + right := by omega
  have t2 : ((i : Int) + 1 - (right : Int)).toNat = i + 1 - right := by omega
  have w3 := wrapB (x := X i + 1 - u) (by omega)
  have w4 := wrapB (x := X i + u) (by omega)
  unfold s_l02Stabilize
  rw [show ((0 : Int) == 1) = false from rfl, cond_false]
  simp only [c_and, Int.toNat_natCast, t1, t2, cond_false]
  simp (disch := omega) only [c_lt, c_le, c_blt, c_fits]
  rw [s_Stab_l0_val z hN hn hi hu hX hO pi]
  simp only [s_l02Lifted_val z N (x := O i) (r := X i) (u := u) (by omega) (by omega) hu]
  simp (disch := omega) only [c_lt, c_le, c_blt, c_fits, w3, w4]
  rfl
theorem s_l02Stabilize_val1 (z : β) {N n i right : Nat} (hN : 8 < N) (hn : n < 8) (hi : i < n) (hr : right ≤ 1) {u : Int} (hu : 0 ≤ u ∧ u ≤ 1) {X O : Nat → Int} (hX : ∀ c, c < n → 0 ≤ X c ∧ X c < n) (hO : ∀ c, c < n → 0 ≤ O c ∧ O c < n) (k : Int → (Nat → Int) → (Nat → Int) → β) :
    s_l02Stabilize z N n X O i 1 right u k = k ((n : Int) + 1) (stabO n O X i right u).2 (stabO n O X i right u).1 := by
  have pi := hO i hi
  have qi := hX i hi
  have t1 : ((i : Int) + (right : Int)).toNat = i + right := by omega
  have t2 : ((i : Int) + 1 - (right : Int)).toNat = i + 1 - right := by omega
  have w3 := wrapB (x := O i + 1 - u) (by omega)
  have w4 := wrapB (x := O i + u) (by omega)
  unfold s_l02Stabilize
  rw [show ((1 : Int) == 1) = true from rfl, cond_true]
  simp only [c_and, Int.toNat_natCast, t1, t2, cond_true]
  simp (disch := omega) only [c_lt, c_le, c_blt, c_fits]
  rw [s_Stab_l0_val z hN hn hi hu hO hX pi]
  simp only [s_l02Lifted_val z N (x := X i) (r := O i) (u := u) (by omega) (by omega) hu]
  simp (disch := omega) only [c_lt, c_le, c_blt, c_fits, w3, w4]
  rfl
end
end Go.AM

namespace Go.AM
section
variable {β : Type}
def lowr (r x : Int) : Int := if r < x then x - 1 else x
def recol (b j : Nat) : Nat := if j < b then j else j + 1
/-- The marks of a kind without the column b and a row. -/
def oldF (n : Nat) (P : Nat → Int) (b : Nat) (r : Int) : Nat → Int := fun j => if j + 1 < n then lowr r (P (recol b j)) else 0
/-- The three marks of a stabilization stand at the columns i and i + 1 and the rows r and r + 1. -/
def Fit (P Q : Nat → Int) (i right : Nat) (r u : Int) : Prop :=
  P (i + right) = r + 1 - u ∧ P (i + 1 - right) = r + u ∧ Q (i + 1 - right) = r + 1 - u ∧ Q (i + right) ≠ r + u
instance (P Q : Nat → Int) (i right : Nat) (r u : Int) : Decidable (Fit P Q i right r u) := by unfold Fit; infer_instance
def colW (b c : Nat) : Nat := if b < c then c - 1 else c
theorem without_iter {n b : Nat} (hb : b < n) (P : Nat → Int) (r : Int) :
    iter (fun c (s : Nat → Int) => cond (c != b) (upd s (colW b c) (lowr r (P c))) s) n 0 (fun _ => 0) = oldF n P b r := by
  obtain ⟨k1, k2⟩ := iter_upd (col := colW b) (v := fun c => lowr r (P c)) (ok := fun c => c != b) (fun x y hx hy h => by
    unfold colW at h
    have hx' : x ≠ b := by simpa using hx
    have hy' : y ≠ b := by simpa using hy
    by_cases h1 : b < x <;> by_cases h2 : b < y <;> simp only [h1, h2, if_true, if_false] at h <;> omega) (fun _ => 0) n
  funext j
  unfold oldF
  by_cases hj : j + 1 < n
  · rw [if_pos hj]
    have hc : recol b j < n := by unfold recol; split <;> omega
    have hn : (recol b j != b) = true := by
      have : recol b j ≠ b := by unfold recol; split <;> omega
      simpa using this
    have := k1 (recol b j) hc hn
    rwa [show colW b (recol b j) = j by unfold colW recol; split <;> split <;> omega] at this
  · rw [if_neg hj]
    refine k2 j fun c hc ho e => ?_
    have ho' : c ≠ b := by simpa using ho
    unfold colW at e
    split at e <;> omega
theorem lowr_ru {r u : Int} (hu : 0 ≤ u ∧ u ≤ 1) : lowr (r + 1 - u) (r + u) = lowr r (r + 1 - u) := by
  unfold lowr; split <;> split <;> omega
theorem lowr_ne {r u x : Int} (hu : 0 ≤ u ∧ u ≤ 1) (hx : x ≠ r + 1 - u) : lowr (r + 1 - u) x = lowr r x := by
  unfold lowr; split <;> split <;> omega
/-- The spec takes another row away, after it has set the mark. -/
theorem old_changed {n i right : Nat} {r u : Int} {P Q : Nat → Int} (hu : 0 ≤ u ∧ u ≤ 1) (hi : i + 1 < n) (hr : right ≤ 1) (hP : PermP 8 n P) (hf : Fit P Q i right r u) :
    oldF n (upd P (i + right) (r + u)) (i + 1 - right) (r + 1 - u) = oldF n P (i + 1 - right) r := by
  obtain ⟨f1, f2, f3, f4⟩ := hf
  funext j
  unfold oldF
  by_cases hj : j + 1 < n
  · rw [if_pos hj, if_pos hj, upd_at]
    have hc : recol (i + 1 - right) j < n := by unfold recol; split <;> omega
    have hb : recol (i + 1 - right) j ≠ i + 1 - right := by unfold recol; split <;> omega
    generalize recol (i + 1 - right) j = c at *
    by_cases e : c = i + right
    · rw [if_pos e, e, f1]; exact lowr_ru hu
    · rw [if_neg e]
      refine lowr_ne hu fun h => e (hP.2.2 c (i + right) hc (by omega) (by rw [h, f1]))
  · rw [if_neg hj, if_neg hj]
theorem old_other {n i right : Nat} {r u : Int} {P Q : Nat → Int} (hu : 0 ≤ u ∧ u ≤ 1) (hi : i + 1 < n) (hr : right ≤ 1) (hQ : PermP 8 n Q) (hf : Fit P Q i right r u) :
    oldF n Q (i + 1 - right) (r + 1 - u) = oldF n Q (i + 1 - right) r := by
  obtain ⟨f1, f2, f3, f4⟩ := hf
  funext j
  unfold oldF
  by_cases hj : j + 1 < n
  · rw [if_pos hj, if_pos hj]
    have hc : recol (i + 1 - right) j < n := by unfold recol; split <;> omega
    have hb : recol (i + 1 - right) j ≠ i + 1 - right := by unfold recol; split <;> omega
    generalize recol (i + 1 - right) j = c at *
    exact lowr_ne hu fun h => hb (hQ.2.2 c (i + 1 - right) hc (by omega) (by rw [h, f3]))
  · rw [if_neg hj, if_neg hj]
theorem oldF_bd {n b : Nat} {r : Int} {P : Nat → Int} (hn : 2 ≤ n) (hP : PermP 8 n P) (h0 : ∀ j, 0 ≤ P j) (hr : 0 ≤ r ∧ r + 1 < n) : ∀ j, 0 ≤ oldF n P b r j ∧ oldF n P b r j < (n : Int) - 1 := by
  intro j
  unfold oldF
  by_cases hj : j + 1 < n
  · rw [if_pos hj]
    have hc : recol b j < n := by unfold recol; split <;> omega
    have h1 := h0 (recol b j)
    have h2 := hP.2.1 (recol b j) hc
    unfold lowr
    split <;> omega
  · rw [if_neg hj]; omega
theorem oldF_perm {n b : Nat} {r : Int} {P : Nat → Int} (hn : 2 ≤ n) (hb : b < n) (hP : PermP 8 n P) (h0 : ∀ j, 0 ≤ P j) (hr : 0 ≤ r ∧ r + 1 < n) (hv : P b = r ∨ P b = r + 1) : PermP 8 (n - 1) (oldF n P b r) := by
  refine ⟨fun j h1 _ => ?_, fun j hj => ?_, fun x y hx hy e => ?_⟩
  · unfold oldF; rw [if_neg (by omega)]
  · have := (oldF_bd (b := b) hn hP h0 hr j).2
    omega
  · unfold oldF at e
    rw [if_pos (by omega), if_pos (by omega)] at e
    have cx : recol b x < n := by unfold recol; split <;> omega
    have cy : recol b y < n := by unfold recol; split <;> omega
    have bx : recol b x ≠ b := by unfold recol; split <;> omega
    have by_ : recol b y ≠ b := by unfold recol; split <;> omega
    have nx : P (recol b x) ≠ P b := fun h => bx (hP.2.2 _ _ cx hb h)
    have ny : P (recol b y) ≠ P b := fun h => by_ (hP.2.2 _ _ cy hb h)
    have : recol b x = recol b y := by
      refine hP.2.2 _ _ cx cy ?_
      unfold lowr at e
      split at e <;> split at e <;> omega
    unfold recol at this
    split at this <;> split at this <;> omega
/-- A grid without the three marks' column and row is a grid. -/
theorem fit_perms {n i right : Nat} {r u : Int} {P Q : Nat → Int} (hn : 3 ≤ n) (hu : 0 ≤ u ∧ u ≤ 1) (hi : i + 1 < n) (hr : right ≤ 1) (hP : PermP 8 n P) (hQ : PermP 8 n Q) (hne : ∀ c, c < n → P c ≠ Q c)
    (p0 : ∀ j, 0 ≤ P j) (q0 : ∀ j, 0 ≤ Q j) (hr1 : 0 ≤ r ∧ r + 1 < n) (hf : Fit P Q i right r u) :
    PermP 8 (n - 1) (oldF n P (i + 1 - right) r) ∧ PermP 8 (n - 1) (oldF n Q (i + 1 - right) r) ∧ (∀ j, j < n - 1 → oldF n P (i + 1 - right) r j ≠ oldF n Q (i + 1 - right) r j) ∧ oldF n P (i + 1 - right) r i = r := by
  obtain ⟨f1, f2, f3, f4⟩ := hf
  refine ⟨oldF_perm (by omega) (by omega) hP p0 hr1 (by omega), oldF_perm (by omega) (by omega) hQ q0 hr1 (by omega), fun j hj e => ?_, ?_⟩
  · unfold oldF at e
    rw [if_pos (by omega), if_pos (by omega)] at e
    have hc : recol (i + 1 - right) j < n := by unfold recol; split <;> omega
    have hb : recol (i + 1 - right) j ≠ i + 1 - right := by unfold recol; split <;> omega
    generalize recol (i + 1 - right) j = c at *
    have n1 : P c ≠ P (i + 1 - right) := fun h => hb (hP.2.2 _ _ hc (by omega) h)
    have n2 : Q c ≠ Q (i + 1 - right) := fun h => hb (hQ.2.2 _ _ hc (by omega) h)
    have n3 := hne c hc
    by_cases e1 : c = i + right
    · subst e1
      unfold lowr at e
      split at e <;> split at e <;> omega
    · have n4 : P c ≠ P (i + right) := fun h => e1 (hP.2.2 _ _ hc (by omega) h)
      unfold lowr at e
      split at e <;> split at e <;> omega
  · unfold oldF
    rw [if_pos (by omega), show recol (i + 1 - right) i = i + right by unfold recol; split <;> omega, f1]
    unfold lowr
    split <;> omega
theorem lift_low {r x : Int} (h1 : x ≠ r) (h2 : x ≠ r + 1) : lift1 r (lowr r x) = x := by
  unfold lowr
  by_cases h : r < x
  · rw [if_pos h, lift1, if_pos (by omega)]; omega
  · rw [if_neg h, lift1, if_neg h]
theorem liftV_low {r u x : Int} (hu : 0 ≤ u ∧ u ≤ 1) (h : x ≠ r + 1 - u) : liftV r u (lowr r x) = x := by
  unfold lowr
  by_cases h1 : r < x
  · rw [if_pos h1, liftV]
    by_cases h2 : r < x - 1
    · rw [if_pos h2]; omega
    · rw [if_neg h2, if_pos (by omega)]; omega
  · rw [if_neg h1, liftV, if_neg h1]
    by_cases h2 : x = r
    · rw [if_pos h2]; omega
    · rw [if_neg h2]
/-- It grows to the grid again. -/
theorem fit_grow {n i right : Nat} {r u : Int} {P Q : Nat → Int} (hn : 3 ≤ n) (hu : 0 ≤ u ∧ u ≤ 1) (hi : i + 1 < n) (hr : right ≤ 1) (hP : PermP 8 n P) (hQ : PermP 8 n Q) (hne : ∀ c, c < n → P c ≠ Q c)
    (p0 : ∀ j, 0 ≤ P j) (q0 : ∀ j, 0 ≤ Q j) (hr1 : 0 ≤ r ∧ r + 1 < n) (hf : Fit P Q i right r u) :
    ∀ j, j < 8 → (growO (n - 1) (oldF n P (i + 1 - right) r) (oldF n Q (i + 1 - right) r) i right u).1 j = P j ∧ (growO (n - 1) (oldF n P (i + 1 - right) r) (oldF n Q (i + 1 - right) r) i right u).2 j = Q j := by
  obtain ⟨_, _, _, hi0⟩ := fit_perms hn hu hi hr hP hQ hne p0 q0 hr1 hf
  obtain ⟨f1, f2, f3, f4⟩ := hf
  obtain ⟨g1, g2, g3, g4, g5, g6, g7⟩ := growO_at (n := n - 1) (i := i) (by omega) hr (u := u) (oldF n P (i + 1 - right) r) (oldF n Q (i + 1 - right) r)
  rw [hi0] at g1 g2 g3 g4 g5 g6
  have key : ∀ c, c < n → c ≠ i + right → c ≠ i + 1 - right → lift1 r (lowr r (P c)) = P c ∧ liftV r u (lowr r (Q c)) = Q c := fun c hc c1 c2 => by
    have n1 : P c ≠ P (i + 1 - right) := fun h => c2 (hP.2.2 _ _ hc (by omega) h)
    have n2 : Q c ≠ Q (i + 1 - right) := fun h => c2 (hQ.2.2 _ _ hc (by omega) h)
    have n3 : P c ≠ P (i + right) := fun h => c1 (hP.2.2 _ _ hc (by omega) h)
    exact ⟨lift_low (by omega) (by omega), liftV_low hu (by omega)⟩
  intro j hj
  by_cases e1 : j = i + right
  · subst e1
    refine ⟨by rw [g1]; omega, ?_⟩
    rw [g4]
    unfold oldF
    rw [if_pos (by omega), show recol (i + 1 - right) i = i + right by unfold recol; split <;> omega]
    have n2 : Q (i + right) ≠ Q (i + 1 - right) := fun h => by have := hQ.2.2 _ _ (by omega) (by omega) h; omega
    exact liftV_low hu (by omega)
  · by_cases e2 : j = i + 1 - right
    · subst e2
      exact ⟨by rw [g2, f2], by rw [g3, f3]; omega⟩
    · rcases Nat.lt_or_ge j i with h | h
      · obtain ⟨a, b⟩ := g5 j h
        rw [a, b]
        unfold oldF
        rw [if_pos (by omega), if_pos (by omega), show recol (i + 1 - right) j = j by unfold recol; split <;> omega]
        exact key j (by omega) e1 e2
      · rcases Nat.lt_or_ge j n with h2 | h2
        · obtain ⟨q, rfl⟩ : ∃ q, j = q + 1 := ⟨j - 1, by omega⟩
          obtain ⟨a, b⟩ := g6 q (by omega) (by omega)
          rw [a, b]
          unfold oldF
          rw [if_pos (by omega), if_pos (by omega), show recol (i + 1 - right) q = q + 1 by unfold recol; split <;> omega]
          exact key (q + 1) h2 e1 e2
        · obtain ⟨a, b⟩ := g7 j (by omega)
          rw [a, b, hP.1 j h2 hj, hQ.1 j h2 hj]
          exact ⟨rfl, rfl⟩
/-- What grows to a grid has left the three marks. -/
theorem grow_fit {n i right : Nat} {r u : Int} {P Q P0 Q0 : Nat → Int} (hi : i + 1 < n) (hn8 : n ≤ 8) (hr : right ≤ 1) (hu : 0 ≤ u ∧ u ≤ 1) (h0 : P0 i = r) (hne : P0 i ≠ Q0 i)
    (hg : ∀ j, j < 8 → (growO (n - 1) P0 Q0 i right u).1 j = P j ∧ (growO (n - 1) P0 Q0 i right u).2 j = Q j) : Fit P Q i right r u := by
  obtain ⟨g1, g2, g3, g4, _⟩ := growO_at (n := n - 1) (i := i) (by omega) hr (u := u) P0 Q0
  have a := hg (i + right) (by omega)
  have b := hg (i + 1 - right) (by omega)
  rw [h0] at g1 g2 g3 g4 hne
  refine ⟨by rw [← a.1, g1]; omega, by rw [← b.1, g2], by rw [← b.2, g3]; omega, ?_⟩
  rw [← a.2, g4]
  unfold liftV
  split
  · omega
  · split <;> omega
/-- Only one stabilization leads to a grid at these columns and rows. -/
def FitM (m : Nat) (X O : Nat → Int) (i right : Nat) (r u : Int) : Prop := if m = 0 then Fit X O i right r u else Fit O X i right r u
instance (m : Nat) (X O : Nat → Int) (i right : Nat) (r u : Int) : Decidable (FitM m X O i right r u) := by unfold FitM; infer_instance
theorem fit_right {X O : Nat → Int} {n i r : Nat} {ρ ρ' m m' : Nat} {u u' : Int} (hi : i + 1 < n) (hX : PermP 8 n X) (hO : PermP 8 n O) (hr : ρ ≤ 1) (hr' : ρ' ≤ 1) (hu : 0 ≤ u ∧ u ≤ 1) (hu' : 0 ≤ u' ∧ u' ≤ 1)
    (h : FitM m X O i ρ r u) (h' : FitM m' X O i ρ' r u') : ρ = ρ' := by
  have : ρ = 0 ∨ ρ = 1 := by omega
  have : ρ' = 0 ∨ ρ' = 1 := by omega
  have nX : X i ≠ X (i + 1) := fun e => by have := hX.2.2 _ _ (by omega) hi e; omega
  have nO : O i ≠ O (i + 1) := fun e => by have := hO.2.2 _ _ (by omega) hi e; omega
  unfold FitM Fit at h h'
  rcases ‹ρ = 0 ∨ ρ = 1› with rfl | rfl <;> rcases ‹ρ' = 0 ∨ ρ' = 1› with rfl | rfl
  · rfl
  · simp only [Nat.add_zero, Nat.sub_zero, Nat.add_sub_cancel] at h h'
    split at h <;> split at h' <;> omega
  · simp only [Nat.add_zero, Nat.sub_zero, Nat.add_sub_cancel] at h h'
    split at h <;> split at h' <;> omega
  · rfl
end
end Go.AM

namespace Go.AM
section
variable {β : Type}
theorem s_l02Lowered_val (z : β) (N : Nat) {x r : Int} (hx : 0 ≤ x ∧ x < 256) (hr : 0 ≤ r) (k : Int → β) : s_l02Lowered z N x r k = k (lowr r x) := by
  unfold s_l02Lowered lowr
  by_cases h : r < x
  · have w := wrapB (x := x - 1) (by omega)
    rw [if_pos h, c_lt h, w]
  · rw [if_neg h, c_nlt (by omega)]
def woF (X O : Nat → Int) (b : Nat) (r : Int) (c : Nat) (s : (Nat → Int) × (Nat → Int)) : (Nat → Int) × (Nat → Int) :=
  (cond (c != b) (upd s.1 (colW b c) (lowr r (X c))) s.1, cond (c != b) (upd s.2 (colW b c) (lowr r (O c))) s.2)
theorem woF_iter {n b : Nat} (hb : b < n) (X O : Nat → Int) (r : Int) : iter (woF X O b r) n 0 (fun _ => 0, fun _ => 0) = (oldF n X b r, oldF n O b r) := by
  refine Prod.ext ?_ ?_
  · rw [← without_iter hb X r]
    exact iter_fst (f := woF X O b r) (g := fun c s => cond (c != b) (upd s (colW b c) (lowr r (X c))) s) (fun c s => rfl) n 0 (fun _ => 0, fun _ => 0)
  · rw [← without_iter hb O r]
    exact iter_snd (f := woF X O b r) (g := fun c s => cond (c != b) (upd s (colW b c) (lowr r (O c))) s) (fun c s => rfl) n 0 (fun _ => 0, fun _ => 0)
theorem s_l02Without_val (z : β) {N n b : Nat} (hN : 8 < N) (hn : n ≤ 8) (hb : b < n) {r : Int} (hr : 0 ≤ r) {X O : Nat → Int} (hX : ∀ c, 0 ≤ X c ∧ X c < 256) (hO : ∀ c, 0 ≤ O c ∧ O c < 256) (k : Int → (Nat → Int) → (Nat → Int) → β) :
    s_l02Without z N n X O b r k = k ((n : Int) - 1) (oldF n X b r) (oldF n O b r) := by
  unfold s_l02Without
  rw [c_fits (by omega)]
  have := up_to (L := fun m c (s : (Nat → Int) × (Nat → Int)) => s_l02Without_l0 z N b r n X O 0 (fun (x : Nat) => 0) (fun (x : Nat) => 0) ((n : Int) - 1) m (c : Int) s.1 s.2 (fun q8 q9 => k ((n : Int) - 1) q8 q9)) (n := n) (out := fun s => k ((n : Int) - 1) s.1 s.2) (f := woF X O b r) (I := fun _ _ => True)
    (fun m c s hc _ => ⟨by
      have p := hX c
      have q := hO c
      have t1 : ((c : Int) - 1).toNat = c - 1 := by omega
      rw [s_l02Without_l0, s_l02Without_l0_s]
      unfold woF colW
      rcases Nat.lt_trichotomy c b with hcb | hcb | hcb
      · rw [show (c != b) = true by simp; omega, cond_true, if_neg (by omega), cond_true]
        simp only [c_and, Int.toNat_natCast, s_l02Lowered_val z N p hr, s_l02Lowered_val z N q hr]
        simp (disch := omega) only [c_lt, c_nlt, c_le, c_blt, c_fits, c_ne]
        rfl
      · subst hcb
        rw [show (c != c) = false by simp, cond_false, cond_false]
        simp (disch := omega) only [c_lt, c_nlt, c_fits, c_nne]
        rfl
      · rw [show (c != b) = true by simp; omega, cond_true, if_pos hcb, cond_true]
        simp only [c_and, Int.toNat_natCast, t1, s_l02Lowered_val z N p hr, s_l02Lowered_val z N q hr]
        simp (disch := omega) only [c_lt, c_nlt, c_le, c_blt, c_fits, c_ne]
        rfl, trivial⟩) (fun m s _ => by simp (disch := omega) only [s_l02Without_l0, s_l02Without_l0_s, c_nlt]) n N 0 (fun _ => 0, fun _ => 0) (by omega) (by omega) trivial
  rw [woF_iter hb] at this
  exact this
theorem shrunk_l1_val (z : β) {N n i ρ : Nat} (hN : 8 < N) (hn : n ≤ 8) (hi : i + 1 < n) (hρ : ρ ≤ 1) {r : Int} (hr : 0 ≤ r ∧ r < 256) {X O : Nat → Int} (hX : ∀ c, 0 ≤ X c ∧ X c < 256) (hO : ∀ c, 0 ≤ O c ∧ O c < 256)
    {h3 : Nat → Int} (h32 : h3 2 = ρ) (t14 b0 h40 : Int) (a0 a1 h2 : Nat → Int) (k : (Nat → Int) → (Nat → Int) → β) :
    i_Grid_shrunk_l1 z i r t14 n n X O b0 a0 a1 h2 h3 h40 N 0 (fun _ => 0) (fun _ => 0) k = k (oldF n X (i + 1 - ρ) r) (oldF n O (i + 1 - ρ) r) := by
  have := up_to (L := fun m c (s : (Nat → Int) × (Nat → Int)) => i_Grid_shrunk_l1 z i r t14 n n X O b0 a0 a1 h2 h3 h40 m (c : Int) s.1 s.2 k) (n := n) (out := fun s => k s.1 s.2) (f := woF X O (i + 1 - ρ) r) (I := fun _ _ => True)
    (fun m c s hc _ => ⟨by
      have p := hX c
      have q := hO c
      have t1 : ((c : Int) - 1).toNat = c - 1 := by omega
      rw [i_Grid_shrunk_l1, i_Grid_shrunk_l1_s]
      unfold woF colW lowr
      rw [h32]
      rcases Nat.lt_trichotomy c (i + 1 - ρ) with hcb | hcb | hcb
      · rw [show (c != i + 1 - ρ) = true by simp; omega, cond_true, if_neg (by omega), cond_true]
        simp only [c_and, Int.toNat_natCast, upd_same, upd_upd]
        by_cases h1 : r < X c <;> by_cases h2 : r < O c
        · have w1 := wrapB (x := X c - 1) (by omega)
          have w2 := wrapB (x := O c - 1) (by omega)
          rw [if_pos h1, if_pos h2]
          simp (disch := omega) only [c_lt, c_nlt, c_le, c_blt, c_fits, c_neq, w1, w2]
          rfl
        · have w1 := wrapB (x := X c - 1) (by omega)
          rw [if_pos h1, if_neg h2]
          simp (disch := omega) only [c_lt, c_nlt, c_le, c_blt, c_fits, c_neq, w1]
          rfl
        · have w2 := wrapB (x := O c - 1) (by omega)
          rw [if_neg h1, if_pos h2]
          simp (disch := omega) only [c_lt, c_nlt, c_le, c_blt, c_fits, c_neq, w2]
          rfl
        · rw [if_neg h1, if_neg h2]
          simp (disch := omega) only [c_lt, c_nlt, c_le, c_blt, c_fits, c_neq]
          rfl
      · rw [show (c != i + 1 - ρ) = false by simp; omega, cond_false, cond_false]
        simp (disch := omega) only [c_lt, c_fits, c_eq]
        rfl
      · rw [show (c != i + 1 - ρ) = true by simp; omega, cond_true, if_pos hcb, cond_true]
        simp only [c_and, Int.toNat_natCast, t1, upd_same, upd_upd]
        by_cases h1 : r < X c <;> by_cases h2 : r < O c
        · have w1 := wrapB (x := X c - 1) (by omega)
          have w2 := wrapB (x := O c - 1) (by omega)
          rw [if_pos h1, if_pos h2]
          simp (disch := omega) only [c_lt, c_nlt, c_le, c_blt, c_fits, c_neq, w1, w2]
          rfl
        · have w1 := wrapB (x := X c - 1) (by omega)
          rw [if_pos h1, if_neg h2]
          simp (disch := omega) only [c_lt, c_nlt, c_le, c_blt, c_fits, c_neq, w1]
          rfl
        · have w2 := wrapB (x := O c - 1) (by omega)
          rw [if_neg h1, if_pos h2]
          simp (disch := omega) only [c_lt, c_nlt, c_le, c_blt, c_fits, c_neq, w2]
          rfl
        · rw [if_neg h1, if_neg h2]
          simp (disch := omega) only [c_lt, c_nlt, c_le, c_blt, c_fits, c_neq]
          rfl, trivial⟩) (fun m s _ => by simp (disch := omega) only [i_Grid_shrunk_l1, i_Grid_shrunk_l1_s, c_nlt]) n N 0 (fun _ => 0, fun _ => 0) (by omega) (by omega) trivial
  rw [woF_iter (by omega)] at this
  exact this
end
end Go.AM

namespace Go.AM
section
variable {β : Type}
def mvS (i : Int) (m ρ u : Nat) : Nat → Int := upd (upd (upd (upd (upd (fun (x : Nat) => 0) 0 2) 1 i) 3 (m : Int)) 4 (ρ : Int)) 5 (u : Int)
def mvI (i : Int) (m ρ u : Nat) : Nat → Int := upd (upd (upd (upd (fun (x : Nat) => 0) 0 i) 1 (m : Int)) 2 (ρ : Int)) 3 (u : Int)
theorem m01 {m : Nat} (h : m ≤ 1) : m = 0 ∨ m = 1 := by omega
theorem back_step (z : β) {N n i : Nat} (hN : 8 < N) (hn : n ≤ 8) (hi : i + 1 < n) {r : Nat} (hr : r + 1 < n) {X O : Nat → Int} (hX : ∀ c, 0 ≤ X c ∧ X c < 256) (hO : ∀ c, 0 ≤ O c ∧ O c < 256) (pX : PermP 8 n X) (pO : PermP 8 n O)
    (m ρ u : Nat) (hm : m ≤ 1) (hρ : ρ ≤ 1) (hu : u ≤ 1) (M : Nat) (b0 : Int) (a0 a1 h2 : Nat → Int) (k0 : Int → (Nat → Int) → (Nat → Int) → (Nat → Int) → β) (k1 : β) :
    s_l02Back_l2 z N i r m ρ n X O b0 a0 a1 h2 (M + 1) u k0 k1 =
      if FitM m X O i ρ r u then k0 ((n : Int) - 1) (oldF n X (i + 1 - ρ) r) (oldF n O (i + 1 - ρ) r) (mvS i m ρ u) else s_l02Back_l2 z N i r m ρ n X O b0 a0 a1 h2 M ((u : Int) + 1) k0 k1 := by
  have t1 : ((i : Int) + (ρ : Int)).toNat = i + ρ := by omega
  have t2 : ((i : Int) + 1 - (ρ : Int)).toNat = i + 1 - ρ := by omega
  have e2 : (i : Int) + 1 - (ρ : Int) = ((i + 1 - ρ : Nat) : Int) := by omega
  have w := wrapB (x := (r : Int) + u) (by omega)
  rw [s_l02Back_l2, s_l02Back_l2_s]
  rcases m01 hm with rfl | rfl
  · simp only [c_and, t1, t2, w]
    simp (disch := omega) only [c_lt, c_le, c_blt, c_fits, c_neq]
    have hf : FitM 0 X O i ρ r u ↔ Fit X O i ρ r u := by unfold FitM; rw [if_pos rfl]
    by_cases f1 : X (i + ρ) = (r : Int) + 1 - u
    · rw [c_nne f1]
      by_cases f2 : X (i + 1 - ρ) = (r : Int) + u
      · rw [c_nne f2]
        by_cases f3 : O (i + 1 - ρ) = (r : Int) + 1 - u
        · rw [c_nne f3]
          by_cases f4 : O (i + ρ) = (r : Int) + u
          · rw [c_eq f4, if_neg (fun h => (hf.mp h).2.2.2 f4)]
          · have ff : Fit X O i ρ r u := ⟨f1, f2, f3, f4⟩
            rw [c_neq f4, if_pos (hf.mpr ff), e2]
            have hX' : ∀ c, 0 ≤ upd X (i + ρ) ((r : Int) + u) c ∧ upd X (i + ρ) ((r : Int) + u) c < 256 := fun c => by
              rw [upd_at]; split
              · omega
              · exact hX c
            rw [s_l02Without_val z hN hn (by omega) (by omega) hX' hO, old_changed (by omega) hi hρ pX ff, old_other (by omega) hi hρ pO ff]
            rfl
        · rw [c_ne f3, if_neg (fun h => f3 (hf.mp h).2.2.1)]
      · rw [c_ne f2, if_neg (fun h => f2 (hf.mp h).2.1)]
    · rw [c_ne f1, if_neg (fun h => f1 (hf.mp h).1)]
  · simp only [c_and, t1, t2, w]
    simp (disch := omega) only [c_lt, c_le, c_blt, c_fits, c_eq]
    have hf : FitM 1 X O i ρ r u ↔ Fit O X i ρ r u := by unfold FitM; rw [if_neg (by omega)]
    by_cases f1 : O (i + ρ) = (r : Int) + 1 - u
    · rw [c_nne f1]
      by_cases f2 : O (i + 1 - ρ) = (r : Int) + u
      · rw [c_nne f2]
        by_cases f3 : X (i + 1 - ρ) = (r : Int) + 1 - u
        · rw [c_nne f3]
          by_cases f4 : X (i + ρ) = (r : Int) + u
          · rw [c_eq f4, if_neg (fun h => (hf.mp h).2.2.2 f4)]
          · have ff : Fit O X i ρ r u := ⟨f1, f2, f3, f4⟩
            rw [c_neq f4, if_pos (hf.mpr ff), e2]
            have hO' : ∀ c, 0 ≤ upd O (i + ρ) ((r : Int) + u) c ∧ upd O (i + ρ) ((r : Int) + u) c < 256 := fun c => by
              rw [upd_at]; split
              · omega
              · exact hO c
            rw [s_l02Without_val z hN hn (by omega) (by omega) hX hO', old_changed (by omega) hi hρ pO ff, old_other (by omega) hi hρ pX ff]
            rfl
        · rw [c_ne f3, if_neg (fun h => f3 (hf.mp h).2.2.1)]
      · rw [c_ne f2, if_neg (fun h => f2 (hf.mp h).2.1)]
    · rw [c_ne f1, if_neg (fun h => f1 (hf.mp h).1)]
/-- The spec's search of the marks of a stabilization. -/
theorem s_back_all (z : β) {N n i : Nat} (hN : 8 < N) (h3 : 3 ≤ n) (hn : n ≤ 8) (hi : i + 1 < n) {r : Nat} (hr : r + 1 < n) {X O : Nat → Int} (hX : ∀ c, 0 ≤ X c ∧ X c < 256) (hO : ∀ c, 0 ≤ O c ∧ O c < 256) (pX : PermP 8 n X) (pO : PermP 8 n O)
    (k : Int → (Nat → Int) → (Nat → Int) → (Nat → Int) → Bool → β) :
    s_l02Back z N n X O i r k =
      let G := fun m ρ u (e : β) => if FitM m X O i ρ r (u : Nat) then k ((n : Int) - 1) (oldF n X (i + 1 - ρ) r) (oldF n O (i + 1 - ρ) r) (mvS i m ρ u) true else e
      G 0 0 0 (G 0 0 1 (G 0 1 0 (G 0 1 1 (G 1 0 0 (G 1 0 1 (G 1 1 0 (G 1 1 1 (k 0 (fun _ => 0) (fun _ => 0) (fun _ => 0) false)))))))) := by
  obtain ⟨N, rfl⟩ : ∃ N', N = N' + 3 := ⟨N - 3, by omega⟩
  have two : ∀ (m ρ : Nat) (hm : m ≤ 1) (hρ : ρ ≤ 1) (b0 : Int) (a0 a1 h2 : Nat → Int) (k0 : Int → (Nat → Int) → (Nat → Int) → (Nat → Int) → β) (k1 : β),
      s_l02Back_l2 z (N + 3) i r m ρ n X O b0 a0 a1 h2 (N + 3) 0 k0 k1 =
        if FitM m X O i ρ r (0 : Nat) then k0 ((n : Int) - 1) (oldF n X (i + 1 - ρ) r) (oldF n O (i + 1 - ρ) r) (mvS i m ρ 0) else
        if FitM m X O i ρ r (1 : Nat) then k0 ((n : Int) - 1) (oldF n X (i + 1 - ρ) r) (oldF n O (i + 1 - ρ) r) (mvS i m ρ 1) else k1 := by
    intro m ρ hm hρ b0 a0 a1 h2 k0 k1
    have s0 := back_step z hN hn hi hr hX hO pX pO m ρ 0 hm hρ (by omega) (N + 2) b0 a0 a1 h2 k0 k1
    have s1 := back_step z hN hn hi hr hX hO pX pO m ρ 1 hm hρ (by omega) (N + 1) b0 a0 a1 h2 k0 k1
    have s2 : s_l02Back_l2 z (N + 3) i r m ρ n X O b0 a0 a1 h2 (N + 1) 2 k0 k1 = k1 := by rw [s_l02Back_l2, s_l02Back_l2_s, c_nlt (by omega)]
    refine s0.trans ?_
    congr 1
  unfold s_l02Back
  rw [c_nlt (by omega)]
  have one : ∀ (m : Nat) (hm : m ≤ 1) (b0 : Int) (a0 a1 h2 : Nat → Int) (k0 : Int → (Nat → Int) → (Nat → Int) → (Nat → Int) → β) (k1 : β),
      s_l02Back_l1 z (N + 3) i r m n X O b0 a0 a1 h2 (N + 3) 0 k0 k1 =
        s_l02Back_l2 z (N + 3) i r m (0 : Nat) n X O b0 a0 a1 h2 (N + 3) 0 k0 (s_l02Back_l2 z (N + 3) i r m (1 : Nat) n X O b0 a0 a1 h2 (N + 3) 0 k0 k1) := by
    intro m hm b0 a0 a1 h2 k0 k1
    rw [s_l02Back_l1, s_l02Back_l1_s, c_lt (by omega), c_fits (by omega)]
    rw [show (0 : Int) + 1 = 1 from rfl, s_l02Back_l1, s_l02Back_l1_s, c_lt (by omega), c_fits (by omega)]
    rw [show (1 : Int) + 1 = 2 from rfl, s_l02Back_l1, s_l02Back_l1_s, c_nlt (by omega)]
    rfl
  rw [s_l02Back_l0, s_l02Back_l0_s, c_lt (by omega), c_fits (by omega)]
  rw [show (0 : Int) + 1 = 1 from rfl, s_l02Back_l0, s_l02Back_l0_s, c_lt (by omega), c_fits (by omega)]
  rw [show (1 : Int) + 1 = 2 from rfl, s_l02Back_l0, s_l02Back_l0_s, c_nlt (by omega)]
  rw [show (1 : Int) = ((1 : Nat) : Int) from rfl, show s_l02Back_l1 z (N + 3) i r 0 = s_l02Back_l1 z (N + 3) i r ((0 : Nat) : Int) from rfl, one 0 (by omega), one 1 (by omega)]
  rw [two 0 0 (by omega) (by omega), two 0 1 (by omega) (by omega), two 1 0 (by omega) (by omega), two 1 1 (by omega) (by omega)]
  rfl
end
end Go.AM

namespace Go.AM
section
variable {β : Type}
/-- Two grids are compared cell by cell. -/
def eqG (p q : Int) (a b c d : Nat → Int) : Bool := (p == q && (a 0 == b 0 && (a 1 == b 1 && (a 2 == b 2 && (a 3 == b 3 && (a 4 == b 4 && (a 5 == b 5 && (a 6 == b 6 && (a 7 == b 7 && (c 0 == d 0 && (c 1 == d 1 && (c 2 == d 2 && (c 3 == d 3 && (c 4 == d 4 && (c 5 == d 5 && (c 6 == d 6 && (c 7 == d 7 && true)))))))))))))))))
theorem lt8 {P : Nat → Prop} : (∀ j, j < 8 → P j) ↔ P 0 ∧ P 1 ∧ P 2 ∧ P 3 ∧ P 4 ∧ P 5 ∧ P 6 ∧ P 7 := by
  constructor
  · intro h; exact ⟨h 0 (by omega), h 1 (by omega), h 2 (by omega), h 3 (by omega), h 4 (by omega), h 5 (by omega), h 6 (by omega), h 7 (by omega)⟩
  · rintro ⟨h0, h1, h2, h3, h4, h5, h6, h7⟩ j hj
    have : j = 0 ∨ j = 1 ∨ j = 2 ∨ j = 3 ∨ j = 4 ∨ j = 5 ∨ j = 6 ∨ j = 7 := by omega
    rcases this with rfl | rfl | rfl | rfl | rfl | rfl | rfl | rfl <;> assumption
theorem eqG_iff {p q : Int} {a b c d : Nat → Int} : eqG p q a b c d = true ↔ p = q ∧ ∀ j, j < 8 → a j = b j ∧ c j = d j := by
  rw [lt8]
  unfold eqG
  simp only [Bool.and_eq_true, beq_iff_eq, Bool.and_true]
  constructor
  · rintro ⟨h, h0, h1, h2, h3, h4, h5, h6, h7, g0, g1, g2, g3, g4, g5, g6, g7⟩
    exact ⟨h, ⟨h0, g0⟩, ⟨h1, g1⟩, ⟨h2, g2⟩, ⟨h3, g3⟩, ⟨h4, g4⟩, ⟨h5, g5⟩, ⟨h6, g6⟩, ⟨h7, g7⟩⟩
  · rintro ⟨h, ⟨h0, g0⟩, ⟨h1, g1⟩, ⟨h2, g2⟩, ⟨h3, g3⟩, ⟨h4, g4⟩, ⟨h5, g5⟩, ⟨h6, g6⟩, ⟨h7, g7⟩⟩
    exact ⟨h, h0, h1, h2, h3, h4, h5, h6, h7, g0, g1, g2, g3, g4, g5, g6, g7⟩
theorem oldF_zero {n b : Nat} {r : Int} {P : Nat → Int} : ∀ j, n - 1 ≤ j → oldF n P b r j = 0 := fun j hj => by
  unfold oldF; rw [if_neg (by omega)]
theorem shrunk_step (z : β) {N n i : Nat} (hN : 8 < N) (hi : i + 1 < n) {r : Nat} (hr : r + 1 < n) {X O : Nat → Int} (g : GridP n X O) (hX : ∀ c, 0 ≤ X c ∧ X c < 256) (hO : ∀ c, 0 ≤ O c ∧ O c < 256)
    (t m ρ u : Nat) (ht : t < 8) (hm : m ≤ 1) (hρ : ρ ≤ 1) (hu : u ≤ 1) (e1 : bitI BinOp.and IntKind.i64 (t : Int) 1 = m) (e2 : bitI BinOp.and IntKind.i64 (shrI (t : Int) 1) 1 = ρ) (e3 : shrI (t : Int) 2 = u)
    (M : Nat) (b0 : Int) (a0 a1 h2 : Nat → Int) (k0 : Int → (Nat → Int) → (Nat → Int) → (Nat → Int) → β) (k1 : β) :
    i_Grid_shrunk_l0 z N i r n X O b0 a0 a1 h2 (M + 1) t k0 k1 =
      if 3 ≤ n ∧ FitM m X O i ρ r u then k0 ((n : Int) - 1) (oldF n X (i + 1 - ρ) r) (oldF n O (i + 1 - ρ) r) (mvI i m ρ u) else i_Grid_shrunk_l0 z N i r n X O b0 a0 a1 h2 M ((t : Int) + 1) k0 k1 := by
  have hn := g.hi
  have n2 := g.lo
  rw [i_Grid_shrunk_l0, i_Grid_shrunk_l0_s, c_lt (by omega), c_fits (by omega), e1, e2, e3]
  unfold i_Grid_n
  have hw : upd (upd (upd (upd (fun (x : Nat) => (0 : Int)) 0 (i : Int)) 1 (m : Int)) 2 (ρ : Int)) 3 (u : Int) = mvI i m ρ u := rfl
  rw [hw]
  have w0 : mvI i m ρ u 0 = i := rfl
  have w1 : mvI i m ρ u 1 = m := rfl
  have w2 : mvI i m ρ u 2 = ρ := rfl
  have w3 : mvI i m ρ u 3 = u := rfl
  rw [shrunk_l1_val z hN hn hi hρ (by omega) hX hO w2]
  have pX := g.px
  have pO := g.po
  have x0 : ∀ j, 0 ≤ X j := fun j => (hX j).1
  have o0 : ∀ j, 0 ≤ O j := fun j => (hO j).1
  have bX := oldF_bd (b := i + 1 - ρ) n2 pX x0 (r := r) (by omega)
  have bO := oldF_bd (b := i + 1 - ρ) n2 pO o0 (r := r) (by omega)
  have cn : ((n : Int) - 1) = ((n - 1 : Nat) : Int) := by omega
  rw [i_IsGrid_val z hN _ _ _ (fun j => (bX j).1) (fun j => (bO j).1), cn]
  have fits : 3 ≤ n ∧ FitM m X O i ρ r u → GridP (n - 1) (oldF n X (i + 1 - ρ) r) (oldF n O (i + 1 - ρ) r) ∧
      (if m = 0 then oldF n X (i + 1 - ρ) r else oldF n O (i + 1 - ρ) r) i = r := by
    rintro ⟨h3, hf⟩
    unfold FitM at hf
    rcases m01 hm with rfl | rfl
    · rw [if_pos rfl] at hf
      obtain ⟨p1, p2, p3, p4⟩ := fit_perms h3 (by omega) hi hρ pX pO g.ne x0 o0 (by omega) hf
      exact ⟨⟨by omega, by omega, p1, p2, p3⟩, by rw [if_pos rfl]; exact p4⟩
    · rw [if_neg (by omega)] at hf
      obtain ⟨p1, p2, p3, p4⟩ := fit_perms h3 (by omega) hi hρ pO pX (fun c hc e => g.ne c hc e.symm) o0 x0 (by omega) hf
      exact ⟨⟨by omega, by omega, p2, p1, fun j hj e => p3 j hj e.symm⟩, by rw [if_neg (by omega)]; exact p4⟩
  cases hgb : gridB ((n - 1 : Nat) : Int) (oldF n X (i + 1 - ρ) r) (oldF n O (i + 1 - ρ) r) with
  | false =>
    rw [cond_false, c_fits (by omega), if_neg]
    intro h
    have : gridB ((n - 1 : Nat) : Int) (oldF n X (i + 1 - ρ) r) (oldF n O (i + 1 - ρ) r) = true := gridB_iff.mpr ⟨n - 1, rfl, (fits h).1⟩
    rw [hgb] at this
    cases this
  | true =>
    obtain ⟨q, hq, gq⟩ := gridB_iff.mp hgb
    have hq' : q = n - 1 := by omega
    subst hq'
    have h3 : 3 ≤ n := by have := gq.lo; omega
    rw [cond_true]
    have bX' : ∀ c, c < n - 1 → 0 ≤ oldF n X (i + 1 - ρ) r c ∧ oldF n X (i + 1 - ρ) r c < ((n - 1 : Nat) : Int) := fun c _ => by have := bX c; omega
    have bO' : ∀ c, c < n - 1 → 0 ≤ oldF n O (i + 1 - ρ) r c ∧ oldF n O (i + 1 - ρ) r c < ((n - 1 : Nat) : Int) := fun c _ => by have := bO c; omega
    have nn : ((n - 1 : Nat) : Int) + 1 = n := by omega
    unfold i_Grid_rows
    rw [w1]
    rcases m01 hm with rfl | rfl
    · rw [c_eq (by omega)]
      simp only [c_and, Int.toNat_natCast]
      rw [c_le (by omega), c_lt (by omega), c_blt (by omega)]
      by_cases hi0 : oldF n X (i + 1 - ρ) r i = r
      · rw [c_eq hi0]
        rw [i_Grid_grown_val0 z (n := n - 1) (i := i) (right := ρ) (u := (u : Int)) hN (by omega) (by omega) hρ (by omega) bX' bO' w0 (by rw [w1]; rfl) w2 w3]
        rw [nn]
        by_cases hf : FitM 0 X O i ρ r u
        · rw [if_pos ⟨h3, hf⟩]
          unfold FitM at hf
          rw [if_pos rfl] at hf
          have := fit_grow h3 (by omega) hi hρ pX pO g.ne x0 o0 (by omega) hf
          have hE : eqG (n : Int) n (growO (n - 1) (oldF n X (i + 1 - ρ) r) (oldF n O (i + 1 - ρ) r) i ρ u).1 X (growO (n - 1) (oldF n X (i + 1 - ρ) r) (oldF n O (i + 1 - ρ) r) i ρ u).2 O = true := eqG_iff.mpr ⟨rfl, this⟩
          unfold eqG at hE
          simp only [← c_and]
          rw [hE, cond_true]
        · rw [if_neg fun h => hf h.2]
          have hE : eqG (n : Int) n (growO (n - 1) (oldF n X (i + 1 - ρ) r) (oldF n O (i + 1 - ρ) r) i ρ u).1 X (growO (n - 1) (oldF n X (i + 1 - ρ) r) (oldF n O (i + 1 - ρ) r) i ρ u).2 O = false := by
            rw [← Bool.not_eq_true, eqG_iff]
            intro h
            refine hf ?_
            unfold FitM
            rw [if_pos rfl]
            exact grow_fit hi hn hρ (by omega) hi0 (gq.ne i (by omega)) h.2
          unfold eqG at hE
          simp only [← c_and]
          rw [hE, cond_false, c_fits (by omega)]
      · rw [c_neq hi0, c_fits (by omega), if_neg]
        intro h
        have := (fits h).2
        rw [if_pos rfl] at this
        exact hi0 this
    · rw [c_neq (by omega)]
      simp only [c_and, Int.toNat_natCast]
      rw [c_le (by omega), c_lt (by omega), c_blt (by omega)]
      by_cases hi0 : oldF n O (i + 1 - ρ) r i = r
      · rw [c_eq hi0]
        rw [i_Grid_grown_val1 z (n := n - 1) (i := i) (right := ρ) (u := (u : Int)) hN (by omega) (by omega) hρ (by omega) bX' bO' w0 (by rw [w1]; rfl) w2 w3]
        rw [nn]
        by_cases hf : FitM 1 X O i ρ r u
        · rw [if_pos ⟨h3, hf⟩]
          unfold FitM at hf
          rw [if_neg (by omega)] at hf
          have := fit_grow h3 (by omega) hi hρ pO pX (fun c hc e => g.ne c hc e.symm) o0 x0 (by omega) hf
          have hE : eqG (n : Int) n (growO (n - 1) (oldF n O (i + 1 - ρ) r) (oldF n X (i + 1 - ρ) r) i ρ u).2 X (growO (n - 1) (oldF n O (i + 1 - ρ) r) (oldF n X (i + 1 - ρ) r) i ρ u).1 O = true := eqG_iff.mpr ⟨rfl, fun j hj => (this j hj).symm⟩
          unfold eqG at hE
          simp only [← c_and]
          rw [hE, cond_true]
        · rw [if_neg fun h => hf h.2]
          have hE : eqG (n : Int) n (growO (n - 1) (oldF n O (i + 1 - ρ) r) (oldF n X (i + 1 - ρ) r) i ρ u).2 X (growO (n - 1) (oldF n O (i + 1 - ρ) r) (oldF n X (i + 1 - ρ) r) i ρ u).1 O = false := by
            rw [← Bool.not_eq_true, eqG_iff]
            intro h
            refine hf ?_
            unfold FitM
            rw [if_neg (by omega)]
            exact grow_fit hi hn hρ (by omega) hi0 (fun e => gq.ne i (by omega) e.symm) fun j hj => (h.2 j hj).symm
          unfold eqG at hE
          simp only [← c_and]
          rw [hE, cond_false, c_fits (by omega)]
      · rw [c_neq hi0, c_fits (by omega), if_neg]
        intro h
        have := (fits h).2
        rw [if_neg (by omega)] at this
        exact hi0 this
/-- The program's search. -/
theorem i_shrunk_all (z : β) {N n i : Nat} (hN : 8 < N) (hi : i + 1 < n) {r : Nat} (hr : r + 1 < n) {X O : Nat → Int} (g : GridP n X O) (hX : ∀ c, 0 ≤ X c ∧ X c < 256) (hO : ∀ c, 0 ≤ O c ∧ O c < 256)
    (k : Int → (Nat → Int) → (Nat → Int) → (Nat → Int) → Bool → β) :
    i_Grid_shrunk z N n X O i r k =
      let G := fun m ρ u (e : β) => if 3 ≤ n ∧ FitM m X O i ρ r (u : Nat) then k ((n : Int) - 1) (oldF n X (i + 1 - ρ) r) (oldF n O (i + 1 - ρ) r) (mvI i m ρ u) true else e
      G 0 0 0 (G 1 0 0 (G 0 1 0 (G 1 1 0 (G 0 0 1 (G 1 0 1 (G 0 1 1 (G 1 1 1 (k 0 (fun _ => 0) (fun _ => 0) (fun _ => 0) false)))))))) := by
  obtain ⟨N, rfl⟩ : ∃ N', N = N' + 9 := ⟨N - 9, by omega⟩
  unfold i_Grid_shrunk
  have st := fun t m ρ u ht hm hρ hu e1 e2 e3 M => shrunk_step z hN hi hr g hX hO t m ρ u ht hm hρ hu e1 e2 e3 M 0 (fun _ => 0) (fun _ => 0) (fun _ => 0) (fun q8 q9 q10 q11 => k q8 q9 q10 q11 true) (k 0 (fun _ => 0) (fun _ => 0) (fun _ => 0) false)
  refine (st 0 0 0 0 (by omega) (by omega) (by omega) (by omega) rfl rfl rfl (N + 8)).trans ?_
  refine congrArg (fun e => ite _ _ e) ?_
  refine (st 1 1 0 0 (by omega) (by omega) (by omega) (by omega) rfl rfl rfl (N + 7)).trans ?_
  refine congrArg (fun e => ite _ _ e) ?_
  refine (st 2 0 1 0 (by omega) (by omega) (by omega) (by omega) rfl rfl rfl (N + 6)).trans ?_
  refine congrArg (fun e => ite _ _ e) ?_
  refine (st 3 1 1 0 (by omega) (by omega) (by omega) (by omega) rfl rfl rfl (N + 5)).trans ?_
  refine congrArg (fun e => ite _ _ e) ?_
  refine (st 4 0 0 1 (by omega) (by omega) (by omega) (by omega) rfl rfl rfl (N + 4)).trans ?_
  refine congrArg (fun e => ite _ _ e) ?_
  refine (st 5 1 0 1 (by omega) (by omega) (by omega) (by omega) rfl rfl rfl (N + 3)).trans ?_
  refine congrArg (fun e => ite _ _ e) ?_
  refine (st 6 0 1 1 (by omega) (by omega) (by omega) (by omega) rfl rfl rfl (N + 2)).trans ?_
  refine congrArg (fun e => ite _ _ e) ?_
  refine (st 7 1 1 1 (by omega) (by omega) (by omega) (by omega) rfl rfl rfl (N + 1)).trans ?_
  refine congrArg (fun e => ite _ _ e) ?_
  rw [show ((7 : Nat) : Int) + 1 = 8 from rfl, i_Grid_shrunk_l0, i_Grid_shrunk_l0_s, c_nlt (by omega)]
end
end Go.AM

namespace Go.AM
section
variable {β : Type}
def Any (X O : Nat → Int) (i : Nat) (r : Int) : Prop := ∃ m ρ u : Nat, m ≤ 1 ∧ ρ ≤ 1 ∧ u ≤ 1 ∧ FitM m X O i ρ r (u : Nat)
theorem s_back_hit (z : β) {N n i : Nat} (hN : 8 < N) (h3 : 3 ≤ n) (hn : n ≤ 8) (hi : i + 1 < n) {r : Nat} (hr : r + 1 < n) {X O : Nat → Int} (hX : ∀ c, 0 ≤ X c ∧ X c < 256) (hO : ∀ c, 0 ≤ O c ∧ O c < 256) (pX : PermP 8 n X) (pO : PermP 8 n O)
    {m ρ u : Nat} (hm : m ≤ 1) (hρ : ρ ≤ 1) (hu : u ≤ 1) (hf : FitM m X O i ρ r (u : Nat)) : ∃ mv, ∀ (k : Int → (Nat → Int) → (Nat → Int) → (Nat → Int) → Bool → β), s_l02Back z N n X O i r k = k ((n : Int) - 1) (oldF n X (i + 1 - ρ) r) (oldF n O (i + 1 - ρ) r) mv true := by
  have fr : ∀ m' ρ' u' : Nat, ρ' ≤ 1 → u' ≤ 1 → FitM m' X O i ρ' r (u' : Nat) → ρ' = ρ := fun m' ρ' u' h1 h2 h => fit_right hi pX pO h1 hρ (by omega) (by omega) h hf
  by_cases f0 : FitM 0 X O i 0 r (0 : Nat)
  · have := fr _ _ _ (by omega) (by omega) f0; subst this
    exact ⟨_, fun k => by rw [s_back_all z hN h3 hn hi hr hX hO pX pO]; simp only; rw [if_pos f0]⟩
  by_cases f1 : FitM 0 X O i 0 r (1 : Nat)
  · have := fr _ _ _ (by omega) (by omega) f1; subst this
    exact ⟨_, fun k => by rw [s_back_all z hN h3 hn hi hr hX hO pX pO]; simp only; rw [if_neg f0, if_pos f1]⟩
  by_cases f2 : FitM 0 X O i 1 r (0 : Nat)
  · have := fr _ _ _ (by omega) (by omega) f2; subst this
    exact ⟨_, fun k => by rw [s_back_all z hN h3 hn hi hr hX hO pX pO]; simp only; rw [if_neg f0, if_neg f1, if_pos f2]⟩
  by_cases f3 : FitM 0 X O i 1 r (1 : Nat)
  · have := fr _ _ _ (by omega) (by omega) f3; subst this
    exact ⟨_, fun k => by rw [s_back_all z hN h3 hn hi hr hX hO pX pO]; simp only; rw [if_neg f0, if_neg f1, if_neg f2, if_pos f3]⟩
  by_cases f4 : FitM 1 X O i 0 r (0 : Nat)
  · have := fr _ _ _ (by omega) (by omega) f4; subst this
    exact ⟨_, fun k => by rw [s_back_all z hN h3 hn hi hr hX hO pX pO]; simp only; rw [if_neg f0, if_neg f1, if_neg f2, if_neg f3, if_pos f4]⟩
  by_cases f5 : FitM 1 X O i 0 r (1 : Nat)
  · have := fr _ _ _ (by omega) (by omega) f5; subst this
    exact ⟨_, fun k => by rw [s_back_all z hN h3 hn hi hr hX hO pX pO]; simp only; rw [if_neg f0, if_neg f1, if_neg f2, if_neg f3, if_neg f4, if_pos f5]⟩
  by_cases f6 : FitM 1 X O i 1 r (0 : Nat)
  · have := fr _ _ _ (by omega) (by omega) f6; subst this
    exact ⟨_, fun k => by rw [s_back_all z hN h3 hn hi hr hX hO pX pO]; simp only; rw [if_neg f0, if_neg f1, if_neg f2, if_neg f3, if_neg f4, if_neg f5, if_pos f6]⟩
  by_cases f7 : FitM 1 X O i 1 r (1 : Nat)
  · have := fr _ _ _ (by omega) (by omega) f7; subst this
    exact ⟨_, fun k => by rw [s_back_all z hN h3 hn hi hr hX hO pX pO]; simp only; rw [if_neg f0, if_neg f1, if_neg f2, if_neg f3, if_neg f4, if_neg f5, if_neg f6, if_pos f7]⟩
  exfalso
  rcases m01 hm with rfl | rfl <;> rcases m01 hρ with rfl | rfl <;> rcases m01 hu with rfl | rfl <;> contradiction
theorem s_back_miss (z : β) {N n i : Nat} (hN : 8 < N) (hn : n ≤ 8) (hi : i + 1 < n) {r : Nat} (hr : r + 1 < n) {X O : Nat → Int} (hX : ∀ c, 0 ≤ X c ∧ X c < 256) (hO : ∀ c, 0 ≤ O c ∧ O c < 256) (pX : PermP 8 n X) (pO : PermP 8 n O)
    (h : ¬ (3 ≤ n ∧ Any X O i r)) (k : Int → (Nat → Int) → (Nat → Int) → (Nat → Int) → Bool → β) : s_l02Back z N n X O i r k = k 0 (fun _ => 0) (fun _ => 0) (fun _ => 0) false := by
  rcases Nat.lt_or_ge n 3 with h3 | h3
  · unfold s_l02Back; rw [c_lt (by omega)]
  · have no : ∀ m ρ u : Nat, m ≤ 1 → ρ ≤ 1 → u ≤ 1 → ¬ FitM m X O i ρ r (u : Nat) := fun m ρ u h1 h2 h4 hf => h ⟨h3, m, ρ, u, h1, h2, h4, hf⟩
    rw [s_back_all z hN h3 hn hi hr hX hO pX pO]
    simp only
    rw [if_neg (no 0 0 0 (by omega) (by omega) (by omega)), if_neg (no 0 0 1 (by omega) (by omega) (by omega)), if_neg (no 0 1 0 (by omega) (by omega) (by omega)), if_neg (no 0 1 1 (by omega) (by omega) (by omega)), if_neg (no 1 0 0 (by omega) (by omega) (by omega)), if_neg (no 1 0 1 (by omega) (by omega) (by omega)), if_neg (no 1 1 0 (by omega) (by omega) (by omega)), if_neg (no 1 1 1 (by omega) (by omega) (by omega))]
theorem i_shrunk_hit (z : β) {N n i : Nat} (hN : 8 < N) (h3 : 3 ≤ n) (hi : i + 1 < n) {r : Nat} (hr : r + 1 < n) {X O : Nat → Int} (g : GridP n X O) (hX : ∀ c, 0 ≤ X c ∧ X c < 256) (hO : ∀ c, 0 ≤ O c ∧ O c < 256)
    {m ρ u : Nat} (hm : m ≤ 1) (hρ : ρ ≤ 1) (hu : u ≤ 1) (hf : FitM m X O i ρ r (u : Nat)) : ∃ mv, ∀ (k : Int → (Nat → Int) → (Nat → Int) → (Nat → Int) → Bool → β), i_Grid_shrunk z N n X O i r k = k ((n : Int) - 1) (oldF n X (i + 1 - ρ) r) (oldF n O (i + 1 - ρ) r) mv true := by
  have fr : ∀ m' ρ' u' : Nat, ρ' ≤ 1 → u' ≤ 1 → FitM m' X O i ρ' r (u' : Nat) → ρ' = ρ := fun m' ρ' u' h1 h2 h => fit_right hi g.px g.po h1 hρ (by omega) (by omega) h hf
  by_cases f0 : FitM 0 X O i 0 r (0 : Nat)
  · have := fr _ _ _ (by omega) (by omega) f0; subst this
    exact ⟨_, fun k => by rw [i_shrunk_all z hN hi hr g hX hO]; simp only; rw [if_pos ⟨h3, f0⟩]⟩
  by_cases f1 : FitM 1 X O i 0 r (0 : Nat)
  · have := fr _ _ _ (by omega) (by omega) f1; subst this
    exact ⟨_, fun k => by rw [i_shrunk_all z hN hi hr g hX hO]; simp only; rw [if_neg (fun h => f0 h.2), if_pos ⟨h3, f1⟩]⟩
  by_cases f2 : FitM 0 X O i 1 r (0 : Nat)
  · have := fr _ _ _ (by omega) (by omega) f2; subst this
    exact ⟨_, fun k => by rw [i_shrunk_all z hN hi hr g hX hO]; simp only; rw [if_neg (fun h => f0 h.2), if_neg (fun h => f1 h.2), if_pos ⟨h3, f2⟩]⟩
  by_cases f3 : FitM 1 X O i 1 r (0 : Nat)
  · have := fr _ _ _ (by omega) (by omega) f3; subst this
    exact ⟨_, fun k => by rw [i_shrunk_all z hN hi hr g hX hO]; simp only; rw [if_neg (fun h => f0 h.2), if_neg (fun h => f1 h.2), if_neg (fun h => f2 h.2), if_pos ⟨h3, f3⟩]⟩
  by_cases f4 : FitM 0 X O i 0 r (1 : Nat)
  · have := fr _ _ _ (by omega) (by omega) f4; subst this
    exact ⟨_, fun k => by rw [i_shrunk_all z hN hi hr g hX hO]; simp only; rw [if_neg (fun h => f0 h.2), if_neg (fun h => f1 h.2), if_neg (fun h => f2 h.2), if_neg (fun h => f3 h.2), if_pos ⟨h3, f4⟩]⟩
  by_cases f5 : FitM 1 X O i 0 r (1 : Nat)
  · have := fr _ _ _ (by omega) (by omega) f5; subst this
    exact ⟨_, fun k => by rw [i_shrunk_all z hN hi hr g hX hO]; simp only; rw [if_neg (fun h => f0 h.2), if_neg (fun h => f1 h.2), if_neg (fun h => f2 h.2), if_neg (fun h => f3 h.2), if_neg (fun h => f4 h.2), if_pos ⟨h3, f5⟩]⟩
  by_cases f6 : FitM 0 X O i 1 r (1 : Nat)
  · have := fr _ _ _ (by omega) (by omega) f6; subst this
    exact ⟨_, fun k => by rw [i_shrunk_all z hN hi hr g hX hO]; simp only; rw [if_neg (fun h => f0 h.2), if_neg (fun h => f1 h.2), if_neg (fun h => f2 h.2), if_neg (fun h => f3 h.2), if_neg (fun h => f4 h.2), if_neg (fun h => f5 h.2), if_pos ⟨h3, f6⟩]⟩
  by_cases f7 : FitM 1 X O i 1 r (1 : Nat)
  · have := fr _ _ _ (by omega) (by omega) f7; subst this
    exact ⟨_, fun k => by rw [i_shrunk_all z hN hi hr g hX hO]; simp only; rw [if_neg (fun h => f0 h.2), if_neg (fun h => f1 h.2), if_neg (fun h => f2 h.2), if_neg (fun h => f3 h.2), if_neg (fun h => f4 h.2), if_neg (fun h => f5 h.2), if_neg (fun h => f6 h.2), if_pos ⟨h3, f7⟩]⟩
  exfalso
  rcases m01 hm with rfl | rfl <;> rcases m01 hρ with rfl | rfl <;> rcases m01 hu with rfl | rfl <;> contradiction
theorem i_shrunk_miss (z : β) {N n i : Nat} (hN : 8 < N) (hi : i + 1 < n) {r : Nat} (hr : r + 1 < n) {X O : Nat → Int} (g : GridP n X O) (hX : ∀ c, 0 ≤ X c ∧ X c < 256) (hO : ∀ c, 0 ≤ O c ∧ O c < 256)
    (h : ¬ (3 ≤ n ∧ Any X O i r)) (k : Int → (Nat → Int) → (Nat → Int) → (Nat → Int) → Bool → β) : i_Grid_shrunk z N n X O i r k = k 0 (fun _ => 0) (fun _ => 0) (fun _ => 0) false := by
  have no : ∀ m ρ u : Nat, m ≤ 1 → ρ ≤ 1 → u ≤ 1 → ¬ (3 ≤ n ∧ FitM m X O i ρ r (u : Nat)) := fun m ρ u h1 h2 h4 hf => h ⟨hf.1, m, ρ, u, h1, h2, h4, hf.2⟩
  rw [i_shrunk_all z hN hi hr g hX hO]
  simp only
  rw [if_neg (no 0 0 0 (by omega) (by omega) (by omega)), if_neg (no 1 0 0 (by omega) (by omega) (by omega)), if_neg (no 0 1 0 (by omega) (by omega) (by omega)), if_neg (no 1 1 0 (by omega) (by omega) (by omega)), if_neg (no 0 0 1 (by omega) (by omega) (by omega)), if_neg (no 1 0 1 (by omega) (by omega) (by omega)), if_neg (no 0 1 1 (by omega) (by omega) (by omega)), if_neg (no 1 1 1 (by omega) (by omega) (by omega))]
end
end Go.AM

namespace Go.AM
section
variable {β : Type}
def swC (i : Nat) (X : Nat → Int) : Nat → Int := upd (upd X i (X (i + 1))) (i + 1) (X i)
/-- A grid in eight cells. -/
structure GridZ (n : Nat) (X O : Nat → Int) : Prop where
  g : GridP n X O
  x : ∀ c, 0 ≤ X c ∧ X c < 256
  o : ∀ c, 0 ≤ O c ∧ O c < 256
  zx : ∀ j, 8 ≤ j → X j = 0
  zo : ∀ j, 8 ≤ j → O j = 0
theorem swC_at (i : Nat) (X : Nat → Int) (j : Nat) : swC i X j = X (if j = i then i + 1 else if j = i + 1 then i else j) := by
  unfold swC
  rw [upd_at, upd_at]
  by_cases h1 : j = i + 1
  · rw [if_pos h1, if_neg (by omega), if_pos h1]
  · by_cases h2 : j = i
    · rw [if_neg h1, if_pos h2, if_pos h2]
    · rw [if_neg h1, if_neg h2, if_neg h2, if_neg h1]
theorem swC_perm {n i : Nat} (hi : i + 1 < n) {X : Nat → Int} (h : PermP 8 n X) : PermP 8 n (swC i X) := by
  refine ⟨fun j h1 h2 => ?_, fun j hj => ?_, fun a b ha hb e => ?_⟩
  · rw [swC_at, if_neg (by omega), if_neg (by omega)]; exact h.1 j h1 h2
  · rw [swC_at]; refine h.2.1 _ ?_; split
    · omega
    · split <;> omega
  · rw [swC_at, swC_at] at e
    have := h.2.2 _ _ ?_ ?_ e
    · split at this
      · split at this
        · omega
        · split at this <;> omega
      · split at this
        · split at this
          · omega
          · split at this <;> omega
        · split at this
          · omega
          · split at this <;> omega
    · split
      · omega
      · split <;> omega
    · split
      · omega
      · split <;> omega
theorem swC_grid {n i : Nat} (hi : i + 1 < n) {X O : Nat → Int} (G : GridZ n X O) : GridZ n (swC i X) (swC i O) := by
  have g := G.g
  have h8 := g.hi
  refine ⟨⟨g.lo, g.hi, swC_perm hi g.px, swC_perm hi g.po, fun j hj => ?_⟩, fun c => ?_, fun c => ?_, fun j hj => ?_, fun j hj => ?_⟩
  · rw [swC_at, swC_at]; refine g.ne _ ?_; split
    · omega
    · split <;> omega
  · rw [swC_at]; exact G.x _
  · rw [swC_at]; exact G.o _
  · rw [swC_at, if_neg (by omega), if_neg (by omega)]; exact G.zx j hj
  · rw [swC_at, if_neg (by omega), if_neg (by omega)]; exact G.zo j hj
theorem swapR_inj {r : Nat} {x y : Int} (e : swapR r x = swapR r y) : x = y := by
  unfold swapR at e
  split at e
  · split at e
    · omega
    · split at e <;> omega
  · split at e
    · split at e
      · omega
      · split at e <;> omega
    · split at e
      · omega
      · split at e <;> omega
theorem swapF_perm {n r : Nat} (h8 : n ≤ 8) (hr : r + 1 < n) {X : Nat → Int} (h : PermP 8 n X) (h0 : ∀ j, 0 ≤ X j) : PermP 8 n (swapF n r X) := by
  refine ⟨fun j h1 h2 => ?_, fun j hj => ?_, fun a b ha hb e => ?_⟩
  · unfold swapF; rw [if_neg (by omega)]; exact h.1 j h1 h2
  · unfold swapF; rw [if_pos hj]; exact (swapR_bd hr h8 (h0 j) (h.2.1 j hj)).2
  · unfold swapF at e; rw [if_pos ha, if_pos hb] at e; exact h.2.2 a b ha hb (swapR_inj e)
theorem swapF_grid {n r : Nat} (hr : r + 1 < n) {X O : Nat → Int} (G : GridZ n X O) : GridZ n (swapF n r X) (swapF n r O) := by
  have g := G.g
  have h8 := g.hi
  refine ⟨⟨g.lo, g.hi, swapF_perm h8 hr g.px fun j => (G.x j).1, swapF_perm h8 hr g.po fun j => (G.o j).1, fun j hj => ?_⟩, fun c => ?_, fun c => ?_, fun j hj => ?_, fun j hj => ?_⟩
  · unfold swapF; rw [if_pos hj, if_pos hj]; exact fun e => g.ne j hj (swapR_inj e)
  · unfold swapF; split
    · have := swapR_bd hr h8 (G.x c).1 (g.px.2.1 c ‹_›); omega
    · exact G.x c
  · unfold swapF; split
    · have := swapR_bd hr h8 (G.o c).1 (g.po.2.1 c ‹_›); omega
    · exact G.o c
  · unfold swapF; rw [if_neg (by omega)]; exact G.zx j hj
  · unfold swapF; rw [if_neg (by omega)]; exact G.zo j hj
def src (i j : Nat) : Nat := if j ≤ i then j else j - 1
theorem growO_src {n i ρ : Nat} (hi : i < n) (hρ : ρ ≤ 1) {u : Int} (P Q : Nat → Int) (j : Nat) (hj : j ≤ n) (hb : j ≠ i + 1 - ρ) :
    (growO n P Q i ρ u).1 j = (if j = i + ρ then P i + 1 - u else lift1 (P i) (P (src i j))) ∧ (growO n P Q i ρ u).2 j = liftV (P i) u (Q (src i j)) := by
  obtain ⟨g1, g2, g3, g4, g5, g6, g7⟩ := growO_at (n := n) (i := i) hi hρ (u := u) P Q
  by_cases e : j = i + ρ
  · subst e
    rw [if_pos rfl, g1, g4, show src i (i + ρ) = i by unfold src; split <;> omega]
    exact ⟨by omega, rfl⟩
  · rw [if_neg e]
    rcases Nat.lt_or_ge j i with h | h
    · rw [show src i j = j by unfold src; rw [if_pos (by omega)]]
      exact g5 j h
    · obtain ⟨q, rfl⟩ : ∃ q, j = q + 1 := ⟨j - 1, by omega⟩
      rw [show src i (q + 1) = q by unfold src; rw [if_neg (by omega)]; omega]
      exact g6 q (by omega) (by omega)
theorem lift1_ne {r x : Int} (h : x ≠ r) : lift1 r x ≠ r ∧ lift1 r x ≠ r + 1 := by unfold lift1; split <;> omega
theorem lift1_inj {r x y : Int} (e : lift1 r x = lift1 r y) : x = y := by
  unfold lift1 at e; split at e <;> split at e <;> omega
theorem liftV_ne {r u x : Int} (hu : 0 ≤ u ∧ u ≤ 1) : liftV r u x ≠ r + 1 - u := by
  unfold liftV; split
  · omega
  · split <;> omega
theorem liftV_inj {r u x y : Int} (hu : 0 ≤ u ∧ u ≤ 1) (e : liftV r u x = liftV r u y) : x = y := by
  unfold liftV at e
  split at e
  · split at e
    · omega
    · split at e <;> omega
  · split at e
    · split at e
      · omega
      · split at e <;> omega
    · split at e
      · omega
      · split at e <;> omega
theorem lift1_V {r u x y : Int} (hu : 0 ≤ u ∧ u ≤ 1) (hx : x ≠ r) (hxy : x ≠ y) : lift1 r x ≠ liftV r u y := by
  unfold lift1 liftV
  split
  · split
    · omega
    · split <;> omega
  · split
    · omega
    · split <;> omega
theorem liftV_le {r u x m : Int} (hu : 0 ≤ u ∧ u ≤ 1) (hr : 0 ≤ r ∧ r < m) (hx : 0 ≤ x ∧ x < m) : 0 ≤ liftV r u x ∧ liftV r u x ≤ m := by
  unfold liftV
  split
  · omega
  · split <;> omega
theorem grow_perms {n i ρ : Nat} (hn : n < 8) (hi : i < n) (hρ : ρ ≤ 1) {u : Int} (hu : 0 ≤ u ∧ u ≤ 1) {P Q : Nat → Int} (hP : PermP 8 n P) (hQ : PermP 8 n Q) (p0 : ∀ j, 0 ≤ P j) (q0 : ∀ j, 0 ≤ Q j) (hne : ∀ c, c < n → P c ≠ Q c) :
    PermP 8 (n + 1) (growO n P Q i ρ u).1 ∧ PermP 8 (n + 1) (growO n P Q i ρ u).2 ∧ (∀ j, j < n + 1 → (growO n P Q i ρ u).1 j ≠ (growO n P Q i ρ u).2 j) ∧
    (∀ j, 0 ≤ (growO n P Q i ρ u).1 j ∧ (growO n P Q i ρ u).1 j ≤ n) ∧ (∀ j, 0 ≤ (growO n P Q i ρ u).2 j ∧ (growO n P Q i ρ u).2 j ≤ n) ∧ ∀ j, n < j → (growO n P Q i ρ u).1 j = 0 ∧ (growO n P Q i ρ u).2 j = 0 := by
  obtain ⟨g1, g2, g3, g4, g5, g6, g7⟩ := growO_at (n := n) (i := i) hi hρ (u := u) P Q
  have S := fun j hj hb => growO_src (n := n) (u := u) hi hρ P Q j hj hb
  have hr : 0 ≤ P i ∧ P i < n := ⟨p0 i, hP.2.1 i hi⟩
  have sl : ∀ j, j ≤ n → j ≠ i + 1 - ρ → src i j < n := fun j h1 h2 => by unfold src; split <;> omega
  have si : ∀ j, j ≤ n → j ≠ i + 1 - ρ → j ≠ i + ρ → src i j ≠ i := fun j h1 h2 h3 => by unfold src; split <;> omega
  have sj : ∀ a b, a ≠ i + 1 - ρ → b ≠ i + 1 - ρ → src i a = src i b → a = b := fun a b h1 h2 h => by unfold src at h; split at h <;> split at h <;> omega
  have ne : ∀ c, c < n → c ≠ i → P c ≠ P i := fun c h1 h2 e => h2 (hP.2.2 _ _ h1 hi e)
  have b1 : ∀ j, j ≤ n → 0 ≤ (growO n P Q i ρ u).1 j ∧ (growO n P Q i ρ u).1 j ≤ n := fun j hj => by
    by_cases e : j = i + 1 - ρ
    · rw [e, g2]; omega
    · rw [(S j hj e).1]
      split
      · omega
      · have := hP.2.1 _ (sl j hj e)
        have := p0 (src i j)
        unfold lift1; split <;> omega
  have b2 : ∀ j, j ≤ n → 0 ≤ (growO n P Q i ρ u).2 j ∧ (growO n P Q i ρ u).2 j ≤ n := fun j hj => by
    by_cases e : j = i + 1 - ρ
    · rw [e, g3]; omega
    · rw [(S j hj e).2]
      exact liftV_le hu hr ⟨q0 _, hQ.2.1 _ (sl j hj e)⟩
  refine ⟨⟨fun j h1 h2 => (g7 j (by omega)).1, fun j hj => by have := b1 j (by omega); omega, fun a b ha hb e => ?_⟩, ⟨fun j h1 h2 => (g7 j (by omega)).2, fun j hj => by have := b2 j (by omega); omega, fun a b ha hb e => ?_⟩, fun j hj => ?_, fun j => ?_, fun j => ?_, g7⟩
  · by_cases ea : a = i + 1 - ρ
    · by_cases eb : b = i + 1 - ρ
      · omega
      · rw [ea, g2, (S b (by omega) eb).1] at e
        split at e
        · omega
        · have := lift1_ne (ne _ (sl b (by omega) eb) (si b (by omega) eb ‹_›)); omega
    · by_cases eb : b = i + 1 - ρ
      · rw [eb, g2, (S a (by omega) ea).1] at e
        split at e
        · omega
        · have := lift1_ne (ne _ (sl a (by omega) ea) (si a (by omega) ea ‹_›)); omega
      · rw [(S a (by omega) ea).1, (S b (by omega) eb).1] at e
        split at e
        · split at e
          · omega
          · have := lift1_ne (ne _ (sl b (by omega) eb) (si b (by omega) eb ‹_›)); omega
        · split at e
          · have := lift1_ne (ne _ (sl a (by omega) ea) (si a (by omega) ea ‹_›)); omega
          · exact sj a b ea eb (hP.2.2 _ _ (sl a (by omega) ea) (sl b (by omega) eb) (lift1_inj e))
  · by_cases ea : a = i + 1 - ρ
    · by_cases eb : b = i + 1 - ρ
      · omega
      · rw [ea, g3, (S b (by omega) eb).2] at e
        exact absurd e.symm (by have := liftV_ne (r := P i) (x := Q (src i b)) hu; omega)
    · by_cases eb : b = i + 1 - ρ
      · rw [eb, g3, (S a (by omega) ea).2] at e
        exact absurd e (by have := liftV_ne (r := P i) (x := Q (src i a)) hu; omega)
      · rw [(S a (by omega) ea).2, (S b (by omega) eb).2] at e
        exact sj a b ea eb (hQ.2.2 _ _ (sl a (by omega) ea) (sl b (by omega) eb) (liftV_inj hu e))
  · by_cases e : j = i + 1 - ρ
    · rw [e, g2, g3]; omega
    · rw [(S j (by omega) e).1, (S j (by omega) e).2]
      split
      · exact fun h => liftV_ne hu h.symm
      · exact lift1_V hu (ne _ (sl j (by omega) e) (si j (by omega) e ‹_›)) (hne _ (sl j (by omega) e))
  · rcases Nat.lt_or_ge n j with h | h
    · rw [(g7 j h).1]; omega
    · exact b1 j h
  · rcases Nat.lt_or_ge n j with h | h
    · rw [(g7 j h).2]; omega
    · exact b2 j h
theorem grow_grid0 {n i ρ : Nat} (hn : n < 8) (hi : i < n) (hρ : ρ ≤ 1) {u : Int} (hu : 0 ≤ u ∧ u ≤ 1) {X O : Nat → Int} (G : GridZ n X O) : GridZ (n + 1) (growO n X O i ρ u).1 (growO n X O i ρ u).2 := by
  have g := G.g
  have h2 := g.lo
  obtain ⟨p1, p2, p3, p4, p5, p6⟩ := grow_perms hn hi hρ hu g.px g.po (fun j => (G.x j).1) (fun j => (G.o j).1) g.ne
  exact ⟨⟨by omega, by omega, p1, p2, p3⟩, fun c => by have := p4 c; omega, fun c => by have := p5 c; omega, fun j hj => (p6 j (by omega)).1, fun j hj => (p6 j (by omega)).2⟩
theorem grow_grid1 {n i ρ : Nat} (hn : n < 8) (hi : i < n) (hρ : ρ ≤ 1) {u : Int} (hu : 0 ≤ u ∧ u ≤ 1) {X O : Nat → Int} (G : GridZ n X O) : GridZ (n + 1) (growO n O X i ρ u).2 (growO n O X i ρ u).1 := by
  have g := G.g
  have h2 := g.lo
  obtain ⟨p1, p2, p3, p4, p5, p6⟩ := grow_perms hn hi hρ hu g.po g.px (fun j => (G.o j).1) (fun j => (G.x j).1) (fun c hc e => g.ne c hc e.symm)
  exact ⟨⟨by omega, by omega, p2, p1, fun j hj e => p3 j hj e.symm⟩, fun c => by have := p5 c; omega, fun c => by have := p4 c; omega, fun j hj => (p6 j (by omega)).2, fun j hj => (p6 j (by omega)).1⟩
theorem old_grid {n i : Nat} (h3 : 3 ≤ n) (hi : i + 1 < n) {r : Nat} (hr : r + 1 < n) {X O : Nat → Int} (G : GridZ n X O) {m ρ u : Nat} (hm : m ≤ 1) (hρ : ρ ≤ 1) (hu : u ≤ 1) (hf : FitM m X O i ρ r (u : Nat)) :
    GridZ (n - 1) (oldF n X (i + 1 - ρ) r) (oldF n O (i + 1 - ρ) r) := by
  have g := G.g
  have h8 := g.hi
  have x0 : ∀ j, 0 ≤ X j := fun j => (G.x j).1
  have o0 : ∀ j, 0 ≤ O j := fun j => (G.o j).1
  have b1 := oldF_bd (b := i + 1 - ρ) g.lo g.px x0 (r := r) (by omega)
  have b2 := oldF_bd (b := i + 1 - ρ) g.lo g.po o0 (r := r) (by omega)
  refine ⟨?_, fun c => by have := b1 c; omega, fun c => by have := b2 c; omega, fun j hj => oldF_zero j (by omega), fun j hj => oldF_zero j (by omega)⟩
  unfold FitM at hf
  rcases m01 hm with rfl | rfl
  · rw [if_pos rfl] at hf
    obtain ⟨p1, p2, p3, p4⟩ := fit_perms h3 (by omega) hi hρ g.px g.po g.ne x0 o0 (by omega) hf
    exact ⟨by omega, by omega, p1, p2, p3⟩
  · rw [if_neg (by omega)] at hf
    obtain ⟨p1, p2, p3, p4⟩ := fit_perms h3 (by omega) hi hρ g.po g.px (fun c hc e => g.ne c hc e.symm) o0 x0 (by omega) hf
    exact ⟨by omega, by omega, p2, p1, fun j hj e => p3 j hj e.symm⟩
end
end Go.AM

namespace Go.AM
section
variable {β : Type}
theorem stab_iter_bnd {n i : Nat} (hi : i < n) {P Q : Nat → Int} (hP : BndC n P) (hQ : BndC n Q) {u : Int} (hu : 0 ≤ u ∧ u ≤ 1) :
    BndC (n + 1) (iter (stabF P Q i (P i) u) n 0 (fun _ => 0, fun _ => 0)).1 ∧ BndC (n + 1) (iter (stabF P Q i (P i) u) n 0 (fun _ => 0, fun _ => 0)).2 := by
  have hr := hP.b i hi
  have := iter_inv (f := stabF P Q i (P i) u) (n := n) (I := fun _ s => BndC (n + 1) s.1 ∧ BndC (n + 1) s.2) (fun c s hc ⟨a, b⟩ => by
    have e1 := liftV_le hu hr (hP.b c hc)
    have e2 := liftV_le hu hr (hQ.b c hc)
    have e3 : colS i c < n + 1 := by unfold colS; split <;> omega
    unfold stabF
    cases (c != i)
    · exact ⟨a, b⟩
    · exact ⟨a.upd e3 (by omega), b.upd e3 (by omega)⟩) n 0 (fun _ => 0, fun _ => 0) (by omega) ⟨BndC.zero _ (by omega), BndC.zero _ (by omega)⟩
  exact this
theorem stabO_bnd {n i ρ : Nat} (hi : i < n) (hρ : ρ ≤ 1) {P Q : Nat → Int} (hP : BndC n P) (hQ : BndC n Q) {u : Int} (hu : 0 ≤ u ∧ u ≤ 1) : BndC (n + 1) (stabO n P Q i ρ u).1 ∧ BndC (n + 1) (stabO n P Q i ρ u).2 := by
  obtain ⟨a, b⟩ := stab_iter_bnd hi hP hQ hu
  have hr := hP.b i hi
  have e2 := liftV_le hu hr (hQ.b i hi)
  exact ⟨(a.upd (by omega) (by omega)).upd (by omega) (by omega), (b.upd (by omega) (by omega)).upd (by omega) (by omega)⟩
theorem stab_val (z : β) {N n : Nat} (hN : 8 < N) (hn : n < 8) {i m ρ u : Int} (hi : 0 ≤ i ∧ i < n) (hm : 0 ≤ m ∧ m < 2) (hρ : 0 ≤ ρ ∧ ρ < 2) (hu : 0 ≤ u ∧ u < 2) {X O : Nat → Int} (hX : BndC n X) (hO : BndC n O) :
    ∃ Y P, BndC (n + 1) Y ∧ BndC (n + 1) P ∧ ∀ k, s_l02Stabilize z N n X O i m ρ u k = k ((n : Int) + 1) Y P := by
  obtain ⟨i, rfl⟩ : ∃ q : Nat, i = q := ⟨i.toNat, by omega⟩
  obtain ⟨ρ, rfl⟩ : ∃ q : Nat, ρ = q := ⟨ρ.toNat, by omega⟩
  have h0 : m = 0 ∨ m = 1 := by omega
  rcases h0 with rfl | rfl
  · obtain ⟨a, b⟩ := stabO_bnd (i := i) (ρ := ρ) (by omega) (by omega) hX hO (u := u) (by omega)
    exact ⟨_, _, a, b, fun k => s_l02Stabilize_val0 z hN hn (by omega) (by omega) (by omega) hX.b hO.b k⟩
  · obtain ⟨a, b⟩ := stabO_bnd (i := i) (ρ := ρ) (by omega) (by omega) hO hX (u := u) (by omega)
    exact ⟨_, _, b, a, fun k => s_l02Stabilize_val1 z hN hn (by omega) (by omega) (by omega) hX.b hO.b k⟩
theorem draw2_l0 (z : β) {N : Nat} (hN : 100 < N) {hn n' l : Nat} {h : Nat → Int} (S : Src hn h n' l) (c : Nat) (y0 : Int) (y1 y2 : Nat → Int) :
    ∀ (k n : Nat) (X O : Nat → Int) (a b : Int), k ≤ 100 → 2 ≤ n → n ≤ 8 → BndC n X → BndC n O → 0 ≤ a → ∃ (n2 : Nat) (Y P : Nat → Int) (a' b' : Int), 2 ≤ n2 ∧ n2 ≤ 8 ∧ BndC n2 Y ∧ BndC n2 P ∧ 0 ≤ a' ∧
      ∀ K m, k < m → s_l02Draw_l0_s2 z N hn h n' l c y0 y1 y2 m k a b n X O K = K a' b' n2 Y P := by
  intro k
  induction k with
  | zero =>
    intro n X O a b hk h2 h8 hX hO ha
    refine ⟨n, X, O, a, b, h2, h8, hX, hO, ha, fun K m hm => ?_⟩
    obtain ⟨m, rfl⟩ : ∃ m', m = m' + 1 := ⟨m - 1, by omega⟩
    rw [s_l02Draw_l0_s2, s_l02Draw_l0_s2_s, c_nlt (by omega)]
  | succ k ih =>
    intro n X O a b hk h2 h8 hX hO ha
    by_cases e8 : n = 8
    · refine ⟨n, X, O, a, b, h2, h8, hX, hO, ha, fun K m hm => ?_⟩
      obtain ⟨m, rfl⟩ : ∃ m', m = m' + 1 := ⟨m - 1, by omega⟩
      rw [s_l02Draw_l0_s2, s_l02Draw_l0_s2_s, c_lt (by omega), c_nlt (by omega)]
    · obtain ⟨v1, a1, b1, ha1, hv1, _, e1⟩ := next_val z N S c n ha b
      obtain ⟨v2, a2, b2, ha2, hv2, _, e2⟩ := next_val z N S c 2 ha1 b1
      obtain ⟨v3, a3, b3, ha3, hv3, _, e3⟩ := next_val z N S c 2 ha2 b2
      obtain ⟨v4, a4, b4, ha4, hv4, _, e4⟩ := next_val z N S c 2 ha3 b3
      obtain ⟨Y, P, hY, hP, e5⟩ := stab_val z (N := N) (by omega) (by omega : n < 8) (hv1 (by omega)) (hv2 (by omega)) (hv3 (by omega)) (hv4 (by omega)) hX hO
      obtain ⟨n2, Y2, P2, a', b', g1, g2, g3, g4, g5, g6⟩ := ih (n + 1) Y P a4 b4 (by omega) (by omega) (by omega) hY hP ha4
      refine ⟨n2, Y2, P2, a', b', g1, g2, g3, g4, g5, fun K m hm => ?_⟩
      obtain ⟨m, rfl⟩ : ∃ m', m = m' + 1 := ⟨m - 1, by omega⟩
      rw [s_l02Draw_l0_s2, s_l02Draw_l0_s2_s, c_lt (by omega), c_lt (by omega), e1, e2, e3, e4, e5, c_fits (by omega), show ((k + 1 : Nat) : Int) - 1 = k by omega]
      exact g6 K m (by omega)
theorem draw2_val (z : β) {N : Nat} (hN : 100 < N) {hn n' l : Nat} {h : Nat → Int} (S : Src hn h n' l) (c : Nat) {a : Int} (ha : 0 ≤ a) (b : Int) :
    ∃ (n : Nat) (X O : Nat → Int) (a' b' : Int), 2 ≤ n ∧ n ≤ 8 ∧ BndC n X ∧ BndC n O ∧ 0 ≤ a' ∧ ∀ k, s_l02Draw_s2 z N hn h n' l c a b k = k n X O a' b' := by
  obtain ⟨n, X, O, a1, b1, h2, h8, hX, hO, ha1, e1⟩ := draw_val z hN S c ha b
  obtain ⟨v, a2, b2, ha2, hv, _, e2⟩ := next_val z N S c 3 ha1 b1
  have hv := hv (by omega)
  obtain ⟨q, rfl⟩ : ∃ q : Nat, v = q := ⟨v.toNat, by omega⟩
  obtain ⟨n2, Y, P, a', b', g1, g2, g3, g4, g5, g6⟩ := draw2_l0 z hN S c 0 (fun (x : Nat) => 0) (fun (x : Nat) => 0) q n X O a2 b2 (by omega) h2 h8 hX hO ha2
  refine ⟨n2, Y, P, a', b', g1, g2, g3, g4, g5, fun k => ?_⟩
  unfold s_l02Draw_s2
  rw [e1, e2, g6 _ N (by omega)]
theorem spoil2_val (z : β) {N : Nat} (hN : 100 < N) {hn n' l : Nat} {h : Nat → Int} (S : Src hn h n' l) (c : Nat) {a : Int} (ha : 0 ≤ a) (b : Int) :
    ∃ (m : Int) (X O : Nat → Int) (a' b' : Int), (-1 ≤ m ∧ m ≤ 9) ∧ Byt X ∧ Byt O ∧ 0 ≤ a' ∧ ∀ k, s_l02Spoil z N hn h n' l c a b k = k m X O a' b' := by
  obtain ⟨n, X, O, a1, b1, h2, h8, hX, hO, ha1, e1⟩ := draw2_val z hN S c ha b
  obtain ⟨m, Y, P, a', b', g1, g2, g3, g4, g5⟩ := broken_val z N S c h8 (hX.byt h8) (hO.byt h8) ha1 b1
  refine ⟨m, Y, P, a', b', g1, g2, g3, g4, fun k => ?_⟩
  unfold s_l02Spoil
  rw [e1, g5]
/-- A grid and a place. -/
theorem two_val (z : β) {N : Nat} (hN : 5000 < N) {hn n l : Nat} {h : Nat → Int} (S : Src hn h n l) (c : Nat) :
    ∃ (m : Int) (X O : Nat → Int) (i : Int), (-1 ≤ m ∧ m ≤ 9) ∧ Byt X ∧ Byt O ∧ (-10 ≤ i ∧ i ≤ 10) ∧ ∀ k, s_l02Two z N n l c hn h k = k m X O i := by
  obtain ⟨b, e0⟩ := from_val z hN S c
  obtain ⟨m, X, O, a1, b1, hm, hX, hO, ha1, e1⟩ := spoil2_val z (by omega : 100 < N) S c (Int.le_refl 0) b
  obtain ⟨v1, a2, b2, ha2, hv1, _, e2⟩ := next_val z N S c 16 ha1 b1
  have hv1 := hv1 (by omega)
  have t1 : 0 ≤ v1.tdiv 15 ∧ v1.tdiv 15 ≤ 1 := by rw [Int.tdiv_eq_ediv_of_nonneg (by omega)]; omega
  obtain ⟨v2, a3, b3, ha3, hv2, hv2', e3⟩ := next_val z N S c (m - 1 + v1.tdiv 15) ha2 b2
  obtain ⟨v3, a4, b4, ha4, hv3, _, e4⟩ := next_val z N S c 24 ha3 b3
  have hv3 := hv3 (by omega)
  have t3 : 0 ≤ v3.tdiv 23 ∧ v3.tdiv 23 ≤ 1 := by rw [Int.tdiv_eq_ediv_of_nonneg (by omega)]; omega
  have hv2b : 0 ≤ v2 ∧ v2 ≤ 9 := by
    rcases Int.lt_or_le (m - 1 + v1.tdiv 15) 1 with h1 | h1
    · rw [hv2' h1]; omega
    · have := hv2 h1; omega
  refine ⟨m, X, O, v2 - v3.tdiv 23, hm, hX, hO, by omega, fun k => ?_⟩
  unfold s_l02Two
  rw [e0, e1, c_fits (by omega), e2, c_fits (by omega), c_fits (by omega), e3, e4, c_fits (by omega), c_fits (by omega)]
end
end Go.AM

namespace Go.AM
section
/-! exchanges undo themselves, and transposes of exchanged columns -/
theorem swC_inv (i : Nat) (X : Nat → Int) : swC i (swC i X) = X := by
  funext j
  rw [swC_at, swC_at]
  congr 1
  by_cases h1 : j = i
  · rw [if_pos h1, if_neg (by omega), if_pos rfl]; omega
  · rw [if_neg h1]
    by_cases h2 : j = i + 1
    · rw [if_pos h2, if_pos rfl]; omega
    · rw [if_neg h2, if_neg h1, if_neg h2]
theorem swapR_inv (r : Nat) (v : Int) : swapR r (swapR r v) = v := by
  unfold swapR
  by_cases h1 : v = r
  · rw [if_pos h1, if_neg (by omega), if_pos rfl]; omega
  · rw [if_neg h1]
    by_cases h2 : v = r + 1
    · rw [if_pos h2, if_pos rfl]; omega
    · rw [if_neg h2, if_neg h1, if_neg h2]
theorem swapF_inv (n r : Nat) (X : Nat → Int) : swapF n r (swapF n r X) = X := by
  funext j
  unfold swapF
  by_cases h : j < n
  · rw [if_pos h, if_pos h, swapR_inv]
  · rw [if_neg h, if_neg h]
theorem apart2_iff (a b c d : Int) : apart2 a b c d = true ↔ a ≠ c ∧ a ≠ d ∧ b ≠ c ∧ b ≠ d ∧ ((min a b < c ∧ c < max a b) ↔ (min a b < d ∧ d < max a b)) := by
  unfold apart2
  generalize min a b = p
  generalize max a b = q
  have e : ∀ x y : Bool, (x == y) = true ↔ (x = true ↔ y = true) := by decide
  rw [Bool.and_eq_true, Bool.and_eq_true, Bool.and_eq_true, Bool.and_eq_true, e, Bool.and_eq_true, Bool.and_eq_true]
  simp
theorem apart2_swap (a b c d : Int) : apart2 b a d c = apart2 a b c d := by
  rw [Bool.eq_iff_iff, apart2_iff, apart2_iff]
  omega
theorem apart2_turn (a b c d : Int) : apart2 c d a b = apart2 a b c d := by
  rw [Bool.eq_iff_iff, apart2_iff, apart2_iff]
  omega
theorem rowOf_swapF {n r : Nat} {X : Nat → Int} (h8 : n ≤ 8) (hr : r + 1 < n) (h : PermP 8 n X) (hX : ∀ j, 0 ≤ X j) : rowOf n (swapF n r X) r = rowOf n X (r + 1) ∧ rowOf n (swapF n r X) (r + 1) = rowOf n X r := by
  have hp := swapF_perm h8 hr h hX
  have h0 : ∀ j, 0 ≤ swapF n r X j := fun j => by
    have := hX j
    unfold swapF swapR
    split
    · split
      · omega
      · split <;> omega
    · exact this
  obtain ⟨a1, a2⟩ := rowOf_spec h hX (r := r) (by omega)
  obtain ⟨b1, b2⟩ := rowOf_spec h hX (r := r + 1) (by omega)
  refine ⟨rowOf_eq hp h0 b1 ?_, rowOf_eq hp h0 a1 ?_⟩
  · unfold swapF swapR
    rw [if_pos b1, b2, if_neg (by omega), if_pos (by omega)]
  · unfold swapF swapR
    rw [if_pos a1, a2, if_pos rfl]
    omega
theorem rowsB_swapF {n r : Nat} {X O : Nat → Int} (G : GridZ n X O) (hr : r + 1 < n) : rowsB n (swapF n r X) (swapF n r O) r = rowsB n X O r := by
  have g := G.g
  obtain ⟨a1, a2⟩ := rowOf_swapF g.hi hr g.px fun j => (G.x j).1
  obtain ⟨b1, b2⟩ := rowOf_swapF g.hi hr g.po fun j => (G.o j).1
  unfold rowsB
  rw [a1, a2, b1, b2, apart2_turn]
theorem trans_inv {n : Nat} {X O : Nat → Int} (G : GridZ n X O) : ∀ d, d ≤ n → ∀ r, ((iter (transF X O) d 0 (fun _ => 0, fun _ => 0)).1 r = if r < n ∧ rowOf n O r < d then (rowOf n O r : Int) else 0) ∧ ((iter (transF X O) d 0 (fun _ => 0, fun _ => 0)).2 r = if r < n ∧ rowOf n X r < d then (rowOf n X r : Int) else 0) := by
  have g := G.g
  have h8 := g.hi
  have hX := fun j => (G.x j).1
  have hO := fun j => (G.o j).1
  intro d
  induction d with
  | zero => intro _ r; simp [iter]
  | succ d ih =>
    intro hd r
    obtain ⟨i1, i2⟩ := ih (by omega) r
    rw [iter_succ, Nat.zero_add]
    have hx := g.px.2.1 d (by omega)
    have ho := g.po.2.1 d (by omega)
    have hx0 := hX d
    have ho0 := hO d
    have w : wrapU IntKind.u8 (d : Int) = d := wrap8 (by omega)
    generalize iter (transF X O) d 0 (fun _ => 0, fun _ => 0) = hh at *
    refine ⟨?_, ?_⟩
    · show upd hh.1 (O d).toNat (wrapU IntKind.u8 (d : Int)) r = _
      rw [upd_at, i1, w]
      by_cases e : r = (O d).toNat
      · have := rowOf_eq (r := r) g.po hO (by omega : d < n) (by omega)
        rw [if_pos e, this, if_pos (by omega)]
      · rw [if_neg e]
        by_cases hr : r < n
        · obtain ⟨a1, a2⟩ := rowOf_spec g.po hO hr
          have : rowOf n O r ≠ d := fun h => by rw [h] at a2; omega
          by_cases h2 : rowOf n O r < d
          · rw [if_pos ⟨hr, h2⟩, if_pos ⟨hr, by omega⟩]
          · rw [if_neg (fun h => h2 h.2), if_neg (by omega)]
        · rw [if_neg (by omega), if_neg (by omega)]
    · show upd hh.2 (X d).toNat (wrapU IntKind.u8 (d : Int)) r = _
      rw [upd_at, i2, w]
      by_cases e : r = (X d).toNat
      · have := rowOf_eq (r := r) g.px hX (by omega : d < n) (by omega)
        rw [if_pos e, this, if_pos (by omega)]
      · rw [if_neg e]
        by_cases hr : r < n
        · obtain ⟨a1, a2⟩ := rowOf_spec g.px hX hr
          have : rowOf n X r ≠ d := fun h => by rw [h] at a2; omega
          by_cases h2 : rowOf n X r < d
          · rw [if_pos ⟨hr, h2⟩, if_pos ⟨hr, by omega⟩]
          · rw [if_neg (fun h => h2 h.2), if_neg (by omega)]
        · rw [if_neg (by omega), if_neg (by omega)]
theorem trans_at {n : Nat} {X O : Nat → Int} (G : GridZ n X O) (r : Nat) : ((transP n X O).1 r = if r < n then (rowOf n O r : Int) else 0) ∧ ((transP n X O).2 r = if r < n then (rowOf n X r : Int) else 0) := by
  have g := G.g
  have hX := fun j => (G.x j).1
  have hO := fun j => (G.o j).1
  obtain ⟨h1, h2⟩ := trans_inv G n (Nat.le_refl n) r
  by_cases hr : r < n
  · rw [if_pos ⟨hr, (rowOf_spec g.po hO hr).1⟩] at h1
    rw [if_pos ⟨hr, (rowOf_spec g.px hX hr).1⟩] at h2
    rw [if_pos hr, if_pos hr]
    exact ⟨h1, h2⟩
  · rw [if_neg (by omega)] at h1 h2
    rw [if_neg hr, if_neg hr]
    exact ⟨h1, h2⟩
theorem rowOf_perm {n : Nat} {X f : Nat → Int} (h : PermP 8 n X) (hX : ∀ j, 0 ≤ X j) (hf : ∀ r, f r = if r < n then (rowOf n X r : Int) else 0) : PermP 8 n f := by
  refine ⟨fun j h1 h2 => by rw [hf, if_neg (by omega)], fun j hj => ?_, fun a b ha hb e => ?_⟩
  · rw [hf, if_pos hj]
    have := (rowOf_spec h hX hj).1
    omega
  · rw [hf, hf, if_pos ha, if_pos hb] at e
    have e : rowOf n X a = rowOf n X b := by omega
    have h1 := (rowOf_spec h hX ha).2
    have h2 := (rowOf_spec h hX hb).2
    rw [e] at h1
    omega
theorem trans_grid {n : Nat} {X O : Nat → Int} (G : GridZ n X O) : GridZ n (transP n X O).1 (transP n X O).2 := by
  have g := G.g
  have h8 := g.hi
  have hX := fun j => (G.x j).1
  have hO := fun j => (G.o j).1
  have e1 := fun r => (trans_at G r).1
  have e2 := fun r => (trans_at G r).2
  refine ⟨⟨g.lo, g.hi, rowOf_perm g.po hO e1, rowOf_perm g.px hX e2, fun r hr => ?_⟩, fun r => ?_, fun r => ?_, fun r hr => ?_, fun r hr => ?_⟩
  · rw [e1, e2, if_pos hr, if_pos hr]
    exact fun e => rowOf_ne g hX hO hr e.symm
  · rw [e1]; split
    · have := (rowOf_spec g.po hO (by assumption)).1; omega
    · omega
  · rw [e2]; split
    · have := (rowOf_spec g.px hX (by assumption)).1; omega
    · omega
  · rw [e1, if_neg (by omega)]
  · rw [e2, if_neg (by omega)]
theorem rowOf_trans {n : Nat} {X O : Nat → Int} (G : GridZ n X O) {i : Nat} (hi : i < n) : (rowOf n (transP n X O).1 i : Int) = O i ∧ (rowOf n (transP n X O).2 i : Int) = X i := by
  have g := G.g
  have T := trans_grid G
  have hX := fun j => (G.x j).1
  have hO := fun j => (G.o j).1
  have x1 := g.px.2.1 i hi
  have o1 := g.po.2.1 i hi
  have x0 := hX i
  have o0 := hO i
  have a := rowOf_eq (r := i) T.g.px (fun j => (T.x j).1) (i := (O i).toNat) (by omega) (by
    rw [(trans_at G _).1, if_pos (by omega), rowOf_eq g.po hO hi (by omega)])
  have b := rowOf_eq (r := i) T.g.po (fun j => (T.o j).1) (i := (X i).toNat) (by omega) (by
    rw [(trans_at G _).2, if_pos (by omega), rowOf_eq g.px hX hi (by omega)])
  omega
theorem trans_rows {n : Nat} {X O : Nat → Int} (G : GridZ n X O) {i : Nat} (hi : i + 1 < n) : rowsB n (transP n X O).1 (transP n X O).2 i = apart2 (X i) (O i) (X (i + 1)) (O (i + 1)) := by
  unfold rowsB
  rw [(rowOf_trans G (by omega)).1, (rowOf_trans G (by omega)).2, (rowOf_trans G hi).1, (rowOf_trans G hi).2, apart2_swap]
theorem rowOf_swC {n i r : Nat} {X : Nat → Int} (hi : i + 1 < n) (h : PermP 8 n X) (hX : ∀ j, 0 ≤ X j) (hr : r < n) : (rowOf n (swC i X) r : Int) = swapR i (rowOf n X r) := by
  obtain ⟨a1, a2⟩ := rowOf_spec h hX hr
  have h0 : ∀ j, 0 ≤ swC i X j := fun j => by rw [swC_at]; exact hX _
  have hp := swC_perm hi h
  unfold swapR
  by_cases e : rowOf n X r = i
  · rw [if_pos (by omega), rowOf_eq hp h0 hi (by rw [swC_at, if_neg (by omega), if_pos rfl, ← e, a2])]; rfl
  · rw [if_neg (by omega)]
    by_cases e2 : rowOf n X r = i + 1
    · rw [if_pos (by omega), rowOf_eq hp h0 (by omega : i < n) (by rw [swC_at, if_pos rfl, ← e2, a2])]
    · rw [if_neg (by omega), rowOf_eq hp h0 a1 (by rw [swC_at, if_neg e, if_neg e2, a2])]
theorem trans_swap {n : Nat} {X O : Nat → Int} (G : GridZ n X O) {i : Nat} (hi : i + 1 < n) : transP n (swC i X) (swC i O) = (swapF n i (transP n X O).1, swapF n i (transP n X O).2) := by
  have g := G.g
  have hX := fun j => (G.x j).1
  have hO := fun j => (G.o j).1
  have S := swC_grid hi G
  refine Prod.ext (funext fun r => ?_) (funext fun r => ?_)
  · rw [(trans_at S r).1]
    show _ = swapF n i (transP n X O).1 r
    unfold swapF
    rw [(trans_at G r).1]
    by_cases hr : r < n
    · rw [if_pos hr, if_pos hr, if_pos hr, rowOf_swC hi g.po hO hr]
    · rw [if_neg hr, if_neg hr, if_neg hr]
  · rw [(trans_at S r).2]
    show _ = swapF n i (transP n X O).2 r
    unfold swapF
    rw [(trans_at G r).2]
    by_cases hr : r < n
    · rw [if_pos hr, if_pos hr, if_pos hr, rowOf_swC hi g.px hX hr]
    · rw [if_neg hr, if_neg hr, if_neg hr]
end
end Go.AM

namespace Go.AM
section
variable {β : Type}
theorem s_swapC_val (z : β) (N : Nat) {i : Nat} (hi : i + 1 < 8) (X O : Nat → Int) (n : Int) (k : (Nat → Int) → (Nat → Int) → β) : s_l02SwapColumns z N n X O i k = k (swC i X) (swC i O) := by
  have t : ((i : Int) + 1).toNat = i + 1 := by omega
  unfold s_l02SwapColumns
  simp only [c_and, Int.toNat_natCast, t]
  simp (disch := omega) only [c_lt, c_le, c_blt, c_fits]
  rfl
theorem i_swapC_val (z : β) (N : Nat) {i : Nat} (hi : i + 1 < 8) (X O : Nat → Int) (n : Int) (k : (Nat → Int) → (Nat → Int) → β) : i_Grid_swapColumns z N n X O i k = k (swC i X) (swC i O) := by
  have t : ((i : Int) + 1).toNat = i + 1 := by omega
  unfold i_Grid_swapColumns
  simp only [c_and, Int.toNat_natCast, t]
  simp (disch := omega) only [c_lt, c_le, c_blt, c_fits]
  rfl
theorem s_cols_val (z : β) (N : Nat) {n : Nat} {X O : Nat → Int} (g : GridP n X O) {i : Nat} (hi : i + 1 < n) (k : Bool → β) : s_l02Columns z N n X O i k = k (apart2 (X i) (O i) (X (i + 1)) (O (i + 1))) := by
  have h8 := g.hi
  have t : ((i : Int) + 1).toNat = i + 1 := by omega
  unfold s_l02Columns
  simp only [c_and, Int.toNat_natCast, t]
  simp (disch := omega) only [c_lt, c_le, c_blt, c_fits]
  rw [s_l02Free_val z N (g.ne i (by omega)) (g.ne (i + 1) hi)]
theorem i_cols_val (z : β) (N : Nat) {n : Nat} {X O : Nat → Int} (g : GridP n X O) {i : Nat} (hi : i + 1 < n) (k : Bool → β) : i_Grid_canColumns z N n X O i k = k (apart2 (X i) (O i) (X (i + 1)) (O (i + 1))) := by
  have h8 := g.hi
  have t : ((i : Int) + 1).toNat = i + 1 := by omega
  unfold i_Grid_canColumns
  simp only [c_and, Int.toNat_natCast, t]
  simp (disch := omega) only [c_lt, c_le, c_blt, c_fits]
  rw [i_areApart_val]
theorem i_pair2 (z : β) {N : Nat} (hN : 8 < N) {n : Nat} {X O : Nat → Int} (g : GridP n X O) (hX : ∀ j, 0 ≤ X j) (hO : ∀ j, 0 ≤ O j) (i r : Int) (k : Int → β) :
    i_isPair_s2 z N n X O (((List.replicate 2 0).set 0 i).set 1 r) k = cond (decide (0 ≤ i ∧ i ≤ (n : Int) - 2)) (cond (decide (0 ≤ r ∧ r ≤ (n : Int) - 2)) (k 0) (k 2)) (k 2) := by
  have h8 := g.hi
  unfold i_isPair_s2
  rw [i_IsGrid_val z hN _ _ _ hX hO, gridB_iff.mpr ⟨n, rfl, g⟩, Bool.not_true, c_false]
  obtain ⟨N, rfl⟩ : ∃ M, N = M + 3 := ⟨N - 3, by omega⟩
  have e : (((List.replicate 2 (0 : Int)).set 0 i).set 1 r).length = 2 := by simp
  rw [i_isPair_l0_s2, i_isPair_l0_s2_s, e]
  simp only [c_and, i_within_val]
  simp (disch := omega) only [c_lt, c_le, c_blt, c_fits, c_beq]
  rw [show (((List.replicate 2 (0 : Int)).set 0 i).set 1 r)[Int.toNat 0]?.getD 0 = i from rfl]
  by_cases h : 0 ≤ i ∧ i ≤ (n : Int) - 2
  · rw [decide_eq_true h, Bool.not_true, c_false, c_true]
    rw [show (0 : Int) + 1 = 1 from rfl, i_isPair_l0_s2, i_isPair_l0_s2_s, e]
    simp only [c_and, i_within_val]
    simp (disch := omega) only [c_lt, c_le, c_blt, c_fits, c_beq]
    rw [show (((List.replicate 2 (0 : Int)).set 0 i).set 1 r)[Int.toNat 1]?.getD 0 = r from rfl]
    by_cases h' : 0 ≤ r ∧ r ≤ (n : Int) - 2
    · rw [decide_eq_true h', Bool.not_true, c_false, c_true]
      rw [show (1 : Int) + 1 = 2 from rfl, i_isPair_l0_s2, i_isPair_l0_s2_s, c_nlt (by omega)]
    · rw [decide_eq_false h', Bool.not_false, c_true, c_false]
  · rw [decide_eq_false h, Bool.not_false, c_true, c_false]
def mE0 (a1 : Nat → Int) : Bool := a1 0 == upd (fun (x : Nat) => 0) 1 (a1 1) 0 && (a1 1 == upd (fun (x : Nat) => 0) 1 (a1 1) 1 && (a1 2 == upd (fun (x : Nat) => 0) 1 (a1 1) 2 && (a1 3 == upd (fun (x : Nat) => 0) 1 (a1 1) 3 && (a1 4 == upd (fun (x : Nat) => 0) 1 (a1 1) 4 && (a1 5 == upd (fun (x : Nat) => 0) 1 (a1 1) 5 && true)))))
def mE1 (a1 : Nat → Int) : Bool := a1 0 == upd (upd (fun (x : Nat) => 0) 0 1) 2 (a1 2) 0 && (a1 1 == upd (upd (fun (x : Nat) => 0) 0 1) 2 (a1 2) 1 && (a1 2 == upd (upd (fun (x : Nat) => 0) 0 1) 2 (a1 2) 2 && (a1 3 == upd (upd (fun (x : Nat) => 0) 0 1) 2 (a1 2) 3 && (a1 4 == upd (upd (fun (x : Nat) => 0) 0 1) 2 (a1 2) 4 && (a1 5 == upd (upd (fun (x : Nat) => 0) 0 1) 2 (a1 2) 5 && true)))))
def mE3 (a1 : Nat → Int) : Bool := a1 0 == upd (upd (upd (fun (x : Nat) => 0) 0 3) 1 (a1 1)) 2 (a1 2) 0 && (a1 1 == upd (upd (upd (fun (x : Nat) => 0) 0 3) 1 (a1 1)) 2 (a1 2) 1 && (a1 2 == upd (upd (upd (fun (x : Nat) => 0) 0 3) 1 (a1 1)) 2 (a1 2) 2 && (a1 3 == upd (upd (upd (fun (x : Nat) => 0) 0 3) 1 (a1 1)) 2 (a1 2) 3 && (a1 4 == upd (upd (upd (fun (x : Nat) => 0) 0 3) 1 (a1 1)) 2 (a1 2) 4 && (a1 5 == upd (upd (upd (fun (x : Nat) => 0) 0 3) 1 (a1 1)) 2 (a1 2) 5 && true)))))
/-- Both sides tell alike whether a move fits, and what it makes. -/
theorem move_both (z : β) {N : Nat} (hN : 8 < N) {n : Nat} {X O : Nat → Int} (G : GridZ n X O) (a : Nat → Int) :
    ∃ b : Bool, (∀ k, s_l02Fits z N n X O a k = k b) ∧ (∀ k, i_Grid_fits z N n X O a k = k b) ∧ (b = true → ∃ (n' : Nat) (X' O' : Nat → Int), (∀ k, s_l02Apply z N n X O a k = k n' X' O') ∧ (∀ k, i_Grid_moved z N n X O a k = k n' X' O') ∧ GridZ n' X' O') := by
  have g := G.g
  have h8 := g.hi
  have h2 := g.lo
  have x0 : ∀ j, 0 ≤ X j := fun j => (G.x j).1
  have o0 : ∀ j, 0 ≤ O j := fun j => (G.o j).1
  by_cases a0 : a 0 = 0
  · have s : ∀ k, s_l02Fits z N n X O a k = cond (mE0 a) (cond (decide (0 ≤ a 1 ∧ a 1 ≤ (n : Int) - 2)) (s_l02Columns z N n X O (a 1) k) (k false)) (k false) := fun k => by
      unfold s_l02Fits
      rw [c_eq a0, c_fits (by omega), s_l01In_val]
      rfl
    have t : ∀ k, i_Grid_fits z N n X O a k = cond (mE0 a) (cond (decide (0 ≤ a 1 ∧ a 1 ≤ (n : Int) - 2)) (i_Grid_canColumns z N n X O (a 1) k) (k false)) (k false) := fun k => by
      unfold i_Grid_fits
      rw [c_eq a0, c_fits (by omega), i_within_val]
      rfl
    cases hE : mE0 a with
    | false => exact ⟨false, fun k => by rw [s, hE]; rfl, fun k => by rw [t, hE]; rfl, fun h => by cases h⟩
    | true =>
      by_cases h : 0 ≤ a 1 ∧ a 1 ≤ (n : Int) - 2
      · obtain ⟨i, hi⟩ : ∃ i : Nat, a 1 = i := ⟨(a 1).toNat, by omega⟩
        refine ⟨apart2 (X i) (O i) (X (i + 1)) (O (i + 1)), fun k => ?_, fun k => ?_, fun _ => ⟨n, swC i X, swC i O, fun k => ?_, fun k => ?_, swC_grid (by omega) G⟩⟩
        · rw [s, hE, decide_eq_true h, hi, s_cols_val z N g (by omega)]; rfl
        · rw [t, hE, decide_eq_true h, hi, i_cols_val z N g (by omega)]; rfl
        · unfold s_l02Apply; rw [c_eq a0, hi, s_swapC_val z N (by omega)]
        · unfold i_Grid_moved; rw [c_eq a0, hi, i_swapC_val z N (by omega)]
      · exact ⟨false, fun k => by rw [s, hE, decide_eq_false h]; rfl, fun k => by rw [t, hE, decide_eq_false h]; rfl, fun h => by cases h⟩
  by_cases a1 : a 0 = 1
  · have s : ∀ k, s_l02Fits z N n X O a k = cond (mE1 a) (cond (decide (0 ≤ a 2 ∧ a 2 ≤ (n : Int) - 2)) (s_l02Rows z N n X O (a 2) k) (k false)) (k false) := fun k => by
      unfold s_l02Fits
      rw [c_neq a0, c_eq a1, c_fits (by omega), s_l01In_val]
      rfl
    have t : ∀ k, i_Grid_fits z N n X O a k = cond (mE1 a) (cond (decide (0 ≤ a 2 ∧ a 2 ≤ (n : Int) - 2)) (i_Grid_canRows z N n X O (a 2) k) (k false)) (k false) := fun k => by
      unfold i_Grid_fits
      rw [c_neq a0, c_eq a1, c_fits (by omega), i_within_val]
      rfl
    cases hE : mE1 a with
    | false => exact ⟨false, fun k => by rw [s, hE]; rfl, fun k => by rw [t, hE]; rfl, fun h => by cases h⟩
    | true =>
      by_cases h : 0 ≤ a 2 ∧ a 2 ≤ (n : Int) - 2
      · obtain ⟨i, hi⟩ : ∃ i : Nat, a 2 = i := ⟨(a 2).toNat, by omega⟩
        refine ⟨rowsB n X O i, fun k => ?_, fun k => ?_, fun _ => ⟨n, swapF n i X, swapF n i O, fun k => ?_, fun k => ?_, swapF_grid (by omega) G⟩⟩
        · rw [s, hE, decide_eq_true h, hi, s_l02Rows_val z hN g x0 o0 (by omega)]; rfl
        · rw [t, hE, decide_eq_true h, hi, i_Grid_canRows_val z hN g x0 o0 (by omega)]; rfl
        · unfold s_l02Apply; rw [c_neq a0, c_eq a1, hi, s_l02SwapRows_val z hN h8 _ _ (by omega)]
        · unfold i_Grid_moved; rw [c_neq a0, c_eq a1, hi, i_Grid_swapRows_val z hN g x0 o0 G.zx G.zo (by omega)]
      · exact ⟨false, fun k => by rw [s, hE, decide_eq_false h]; rfl, fun k => by rw [t, hE, decide_eq_false h]; rfl, fun h => by cases h⟩
  by_cases a2 : a 0 = 2
  · have s : ∀ k, s_l02Fits z N n X O a k = k (decide ((n : Int) < 8 ∧ a 2 = 0 ∧ (0 ≤ a 1 ∧ a 1 ≤ (n : Int) - 1) ∧ (0 ≤ a 3 ∧ a 3 ≤ 1) ∧ (0 ≤ a 4 ∧ a 4 ≤ 1) ∧ (0 ≤ a 5 ∧ a 5 ≤ 1))) := fun k => by
      unfold s_l02Fits
      rw [c_neq a0, c_neq a1, c_eq a2]
      simp only [s_l01In_val]
      rw [c_fits (by omega)]
      by_cases p1 : (n : Int) < 8
      · rw [c_lt p1]
        by_cases p2 : a 2 = 0
        · rw [c_eq p2]
          by_cases p3 : 0 ≤ a 1 ∧ a 1 ≤ (n : Int) - 1 <;> by_cases p4 : 0 ≤ a 3 ∧ a 3 ≤ 1 <;> by_cases p5 : 0 ≤ a 4 ∧ a 4 ≤ 1 <;> by_cases p6 : 0 ≤ a 5 ∧ a 5 ≤ 1 <;> simp [p1, p2, p3, p4, p5, p6]
        · rw [c_neq p2]; simp [p2]
      · rw [c_nlt (by omega)]; simp [p1]
    have t : ∀ k, i_Grid_fits z N n X O a k = k (decide ((n : Int) < 8 ∧ a 2 = 0 ∧ (0 ≤ a 1 ∧ a 1 ≤ (n : Int) - 1) ∧ (0 ≤ a 3 ∧ a 3 ≤ 1) ∧ (0 ≤ a 4 ∧ a 4 ≤ 1) ∧ (0 ≤ a 5 ∧ a 5 ≤ 1))) := fun k => by
      unfold i_Grid_fits
      rw [c_neq a0, c_neq a1, c_eq a2]
      simp only [i_within_val]
      rw [c_fits (by omega)]
      by_cases p2 : a 2 = 0
      · rw [c_eq p2]
        by_cases p1 : (n : Int) < 8
        · rw [c_lt p1]
          by_cases p3 : 0 ≤ a 1 ∧ a 1 ≤ (n : Int) - 1 <;> by_cases p4 : 0 ≤ a 3 ∧ a 3 ≤ 1 <;> by_cases p5 : 0 ≤ a 4 ∧ a 4 ≤ 1 <;> by_cases p6 : 0 ≤ a 5 ∧ a 5 ≤ 1 <;> simp [p1, p2, p3, p4, p5, p6]
        · rw [c_nlt (by omega)]; simp [p1]
      · rw [c_neq p2]; simp [p2]
    refine ⟨_, s, t, fun hb => ?_⟩
    obtain ⟨p1, p2, p3, p4, p5, p6⟩ := of_decide_eq_true hb
    obtain ⟨i, hi⟩ : ∃ i : Nat, a 1 = i := ⟨(a 1).toNat, by omega⟩
    obtain ⟨ρ, hρ⟩ : ∃ i : Nat, a 4 = i := ⟨(a 4).toNat, by omega⟩
    have bX : ∀ c, c < n → 0 ≤ X c ∧ X c < n := fun c hc => ⟨x0 c, g.px.2.1 c hc⟩
    have bO : ∀ c, c < n → 0 ≤ O c ∧ O c < n := fun c hc => ⟨o0 c, g.po.2.1 c hc⟩
    have hm : a 3 = 0 ∨ a 3 = 1 := by omega
    have q0 : upd (upd (upd (upd (fun (x : Nat) => (0 : Int)) 0 (a 1)) 1 (a 3)) 2 (a 4)) 3 (a 5) 0 = i := hi
    have q2 : upd (upd (upd (upd (fun (x : Nat) => (0 : Int)) 0 (a 1)) 1 (a 3)) 2 (a 4)) 3 (a 5) 2 = ρ := hρ
    have q3 : upd (upd (upd (upd (fun (x : Nat) => (0 : Int)) 0 (a 1)) 1 (a 3)) 2 (a 4)) 3 (a 5) 3 = a 5 := rfl
    rcases hm with hm | hm
    · refine ⟨n + 1, (growO n X O i ρ (a 5)).1, (growO n X O i ρ (a 5)).2, fun k => ?_, fun k => ?_, grow_grid0 (by omega) (by omega) (by omega) p6 G⟩
      · unfold s_l02Apply
        rw [c_neq a0, c_neq a1, c_eq a2, hi, hm, hρ, s_l02Stabilize_val0 z hN (by omega) (by omega) (by omega) p6 bX bO, stab_grow (by omega) (by omega) g.px.2.2]; rfl
      · unfold i_Grid_moved i_Move_growth
        rw [c_neq a0, c_neq a1, c_eq a2]
        exact (i_Grid_grown_val0 z (i := i) (right := ρ) (u := a 5) hN (by omega) (by omega) (by omega) p6 bX bO q0 hm q2 q3 _)
    · refine ⟨n + 1, (growO n O X i ρ (a 5)).2, (growO n O X i ρ (a 5)).1, fun k => ?_, fun k => ?_, grow_grid1 (by omega) (by omega) (by omega) p6 G⟩
      · unfold s_l02Apply
        rw [c_neq a0, c_neq a1, c_eq a2, hi, hm, hρ, s_l02Stabilize_val1 z hN (by omega) (by omega) (by omega) p6 bX bO, stab_grow (by omega) (by omega) g.po.2.2]; rfl
      · unfold i_Grid_moved i_Move_growth
        rw [c_neq a0, c_neq a1, c_eq a2]
        exact (i_Grid_grown_val1 z (i := i) (right := ρ) (u := a 5) hN (by omega) (by omega) (by omega) p6 bX bO q0 hm q2 q3 _)
  by_cases a3 : a 0 = 3
  · have s : ∀ k, s_l02Fits z N n X O a k = cond (!mE3 a) (k false) (cond (decide (0 ≤ a 1 ∧ a 1 ≤ (n : Int) - 2)) (cond (decide (0 ≤ a 2 ∧ a 2 ≤ (n : Int) - 2)) (s_l02Back z N n X O (a 1) (a 2) (fun q9 q10 q11 q12 q13 => k q13)) (k false)) (k false)) := fun k => by
      unfold s_l02Fits
      rw [c_neq a0, c_neq a1, c_neq a2, c_eq a3]
      simp only [s_l01In_val]
      rw [c_fits (by omega), c_fits (by omega)]
      simp only [c_not]
      rfl
    have t : ∀ k, i_Grid_fits z N n X O a k = cond (!mE3 a) (k false) (cond (decide (0 ≤ a 1 ∧ a 1 ≤ (n : Int) - 2)) (cond (decide (0 ≤ a 2 ∧ a 2 ≤ (n : Int) - 2)) (i_Grid_shrunk z N n X O (a 1) (a 2) (fun q9 q10 q11 q12 q13 => k q13)) (k false)) (k false)) := fun k => by
      unfold i_Grid_fits i_CanDestabilize
      rw [c_neq a0, c_neq a1, c_neq a2, c_eq a3, i_pair2 z hN g x0 o0]
      simp only [show ((0 : Int) != 0) = false from rfl, show ((2 : Int) != 0) = true from rfl, c_false, c_true]
      rfl
    cases hE : mE3 a with
    | false => exact ⟨false, fun k => by rw [s, hE]; rfl, fun k => by rw [t, hE]; rfl, fun h => by cases h⟩
    | true =>
      by_cases h : 0 ≤ a 1 ∧ a 1 ≤ (n : Int) - 2
      · by_cases h' : 0 ≤ a 2 ∧ a 2 ≤ (n : Int) - 2
        · obtain ⟨i, hi⟩ : ∃ i : Nat, a 1 = i := ⟨(a 1).toNat, by omega⟩
          obtain ⟨r, hr⟩ : ∃ i : Nat, a 2 = i := ⟨(a 2).toNat, by omega⟩
          by_cases hA : 3 ≤ n ∧ Any X O i r
          · obtain ⟨h3, m, ρ, u, u1, u2, u3, hf⟩ := hA
            obtain ⟨mv, e1⟩ := s_back_hit z hN h3 h8 (by omega) (by omega) G.x G.o g.px g.po u1 u2 u3 hf
            obtain ⟨mv', e2⟩ := i_shrunk_hit z hN h3 (by omega) (by omega) g G.x G.o u1 u2 u3 hf
            refine ⟨true, fun k => ?_, fun k => ?_, fun _ => ⟨n - 1, oldF n X (i + 1 - ρ) r, oldF n O (i + 1 - ρ) r, fun k => ?_, fun k => ?_, old_grid h3 (by omega) (by omega) G u1 u2 u3 hf⟩⟩
            · rw [s, hE, decide_eq_true h, decide_eq_true h', hi, hr, e1]; rfl
            · rw [t, hE, decide_eq_true h, decide_eq_true h', hi, hr, e2]; rfl
            · unfold s_l02Apply; rw [c_neq a0, c_neq a1, c_neq a2, hi, hr, e1, show ((n - 1 : Nat) : Int) = (n : Int) - 1 by omega]
            · unfold i_Grid_moved; rw [c_neq a0, c_neq a1, c_neq a2, hi, hr, e2, show ((n - 1 : Nat) : Int) = (n : Int) - 1 by omega]
          · refine ⟨false, fun k => ?_, fun k => ?_, fun h => by cases h⟩
            · rw [s, hE, decide_eq_true h, decide_eq_true h', hi, hr, s_back_miss z hN h8 (by omega) (by omega) G.x G.o g.px g.po hA]; rfl
            · rw [t, hE, decide_eq_true h, decide_eq_true h', hi, hr, i_shrunk_miss z hN (by omega) (by omega) g G.x G.o hA]; rfl
        · exact ⟨false, fun k => by rw [s, hE, decide_eq_true h, decide_eq_false h']; rfl, fun k => by rw [t, hE, decide_eq_true h, decide_eq_false h']; rfl, fun h => by cases h⟩
      · exact ⟨false, fun k => by rw [s, hE, decide_eq_false h]; rfl, fun k => by rw [t, hE, decide_eq_false h]; rfl, fun h => by cases h⟩
  refine ⟨false, fun k => ?_, fun k => ?_, fun h => by cases h⟩
  · unfold s_l02Fits; rw [c_neq a0, c_neq a1, c_neq a2, c_neq a3]
  · unfold i_Grid_fits; rw [c_neq a0, c_neq a1, c_neq a2, c_neq a3]
theorem w_FnExactApplyMove_val (z : β) {N : Nat} (hN : 8 < N) (n : Int) (X O : Nat → Int) (a : Nat → Int) (hX : ∀ j, j < 8 → 0 ≤ X j ∧ X j ≤ 255) (hO : ∀ j, j < 8 → 0 ≤ O j ∧ O j ≤ 255) (k0 : Bool → β) : w_FnExactApplyMove z N n X O a k0 = k0 true := by
  unfold w_FnExactApplyMove
  have hX0 := clip8_nn fun j h => (hX j h).1
  have hO0 := clip8_nn fun j h => (hO j h).1
  have hX1 := clip8_le fun j h => (hX j h).2
  have hO1 := clip8_le fun j h => (hO j h).2
  simp only [w_toGrid_val z hN, s_ApplyMove, i_ApplyMove, i_RunMoves, s_l02Code, w_toMove, s_l01Is_val z hN _ _ _ hX0 hO0, i_IsGrid_val z hN _ _ _ hX0 hO0]
  cases hg : gridB n (clip8 X) (clip8 O) with
  | false =>
    simp only [Bool.not_false, c_true, show ((1 : Int) != 0) = true from rfl]
    rw [w_eqGrid_refl z hN]
    rfl
  | true =>
    obtain ⟨m, rfl, g⟩ := gridB_iff.1 hg
    have G : GridZ m (clip8 X) (clip8 O) := ⟨g, fun c => ⟨hX0 c, by have := hX1 c; omega⟩, fun c => ⟨hO0 c, by have := hO1 c; omega⟩, fun j h => if_neg (by omega), fun j h => if_neg (by omega)⟩
    simp only [Bool.not_true, c_false]
    obtain ⟨N, rfl⟩ : ∃ M, N = M + 2 := ⟨N - 2, by omega⟩
    have sh : ∀ f : Nat → Int, shiftF f (Int.toNat 0 * 6) = f := fun f => rfl
    generalize upd (upd (upd (upd (upd (upd (fun (x : Nat) => (0 : Int)) 0 (a 0)) 1 (a 1)) 2 (a 2)) 3 (a 3)) 4 (a 4)) 5 (a 5) = v
    obtain ⟨b, s, t, mv⟩ := move_both z hN G v
    rw [s]
    cases b with
    | false =>
      simp only [Bool.not_false, c_true, show ((5 : Int) != 0) = true from rfl]
      rw [i_RunMoves_l0, i_RunMoves_l0_s, c_lt (by omega)]
      simp only [c_and]
      rw [c_le (by omega), c_lt (by omega), c_ble (by decide), sh, t]
      simp only [Bool.not_false, c_true]
      rw [w_eqGrid_refl z hN]
      rfl
    | true =>
      obtain ⟨n', X', O', e1, e2, _⟩ := mv rfl
      simp only [Bool.not_true, c_false, show ((0 : Int) != 0) = false from rfl]
      rw [e1, i_RunMoves_l0, i_RunMoves_l0_s, c_lt (by omega)]
      simp only [c_and]
      rw [c_le (by omega), c_lt (by omega), c_ble (by decide), sh, t]
      simp only [Bool.not_true, c_false]
      rw [e2, c_fits (by omega), show (0 : Int) + 1 = 1 from rfl, i_RunMoves_l0, i_RunMoves_l0_s, c_nlt (by omega), w_eqGrid_refl z hN]
      rfl
end
end Go.AM

namespace Go.AM
section
variable {β : Type}
/-! exchanges in four cases: no grid, no place, columns that can be exchanged, and columns that cannot -/
noncomputable def bP (p : Prop) : Bool := @decide p (Classical.propDecidable p)
theorem bP_true {p : Prop} (h : p) : bP p = true := @decide_eq_true p (Classical.propDecidable p) h
theorem cond_some {α : Type} {p : Prop} {x : Option α} {r : α} (h : cond (bP p) x none = some r) : p ∧ x = some r := by
  cases hb : bP p with
  | false => rw [hb] at h; cases h
  | true => rw [hb] at h; exact ⟨@of_decide_eq_true p (Classical.propDecidable p) hb, h⟩
theorem c_bP {p : Prop} (h : p) {x y : β} : cond (bP p) x y = x := by rw [bP_true h]; rfl
theorem exC_i (z : β) {N : Nat} (hN : 8 < N) {n q : Nat} {X O : Nat → Int} (G : GridZ n X O) (hq : q + 1 < n) (k : Int → (Nat → Int) → (Nat → Int) → Int → β) :
    i_ExchangeColumns z N n X O q k = cond (apart2 (X q) (O q) (X (q + 1)) (O (q + 1))) (k n (swC q X) (swC q O) 0) (k 0 (fun _ => 0) (fun _ => 0) 5) := by
  have g := G.g
  have h8 := g.hi
  unfold i_ExchangeColumns i_CanExchangeColumns
  rw [i_place1 z hN (fun j => (G.x j).1) (fun j => (G.o j).1), gridB_iff.2 ⟨n, rfl, g⟩, c_true, decide_eq_true (by omega), c_true, c_nne rfl, i_cols_val z N g hq]
  dsimp only
  rw [c_nne rfl]
  cases apart2 (X q) (O q) (X (q + 1)) (O (q + 1))
  · rfl
  · rw [Bool.not_true, c_false, i_swapC_val z N (by omega)]; rfl
theorem exC_s (z : β) {N : Nat} (hN : 8 < N) {n q : Nat} {X O : Nat → Int} (G : GridZ n X O) (hq : q + 1 < n) (k : Int → (Nat → Int) → (Nat → Int) → Int → β) :
    s_ExchangeColumns z N n X O q k = cond (apart2 (X q) (O q) (X (q + 1)) (O (q + 1))) (k n (swC q X) (swC q O) 0) (k 0 (fun _ => 0) (fun _ => 0) 5) := by
  have g := G.g
  have h8 := g.hi
  unfold s_ExchangeColumns
  rw [s_place1 z hN (fun j => (G.x j).1) (fun j => (G.o j).1), gridB_iff.2 ⟨n, rfl, g⟩, c_true, decide_eq_true (by omega), c_true, c_nne rfl, s_cols_val z N g hq]
  cases apart2 (X q) (O q) (X (q + 1)) (O (q + 1))
  · rfl
  · rw [Bool.not_true, c_false, s_swapC_val z N (by omega)]; rfl
theorem canC_i (z : β) {N : Nat} (hN : 8 < N) {n q : Nat} {X O : Nat → Int} (G : GridZ n X O) (hq : q + 1 < n) (k : Bool → Int → β) :
    i_CanExchangeColumns z N n X O q k = k (apart2 (X q) (O q) (X (q + 1)) (O (q + 1))) 0 := by
  have g := G.g
  unfold i_CanExchangeColumns
  rw [i_place1 z hN (fun j => (G.x j).1) (fun j => (G.o j).1), gridB_iff.2 ⟨n, rfl, g⟩, c_true, decide_eq_true (by omega), c_true, c_nne rfl, i_cols_val z N g hq]
theorem canC_s (z : β) {N : Nat} (hN : 8 < N) {n q : Nat} {X O : Nat → Int} (G : GridZ n X O) (hq : q + 1 < n) (k : Bool → Int → β) :
    s_CanExchangeColumns z N n X O q k = k (apart2 (X q) (O q) (X (q + 1)) (O (q + 1))) 0 := by
  have g := G.g
  unfold s_CanExchangeColumns
  rw [s_place1 z hN (fun j => (G.x j).1) (fun j => (G.o j).1), gridB_iff.2 ⟨n, rfl, g⟩, c_true, decide_eq_true (by omega), c_true, c_nne rfl, s_cols_val z N g hq]
theorem exR_i (z : β) {N : Nat} (hN : 8 < N) {n q : Nat} {X O : Nat → Int} (G : GridZ n X O) (hq : q + 1 < n) (k : Int → (Nat → Int) → (Nat → Int) → Int → β) :
    i_ExchangeRows z N n X O q k = cond (rowsB n X O q) (k n (swapF n q X) (swapF n q O) 0) (k 0 (fun _ => 0) (fun _ => 0) 5) := by
  have g := G.g
  have x0 := fun j => (G.x j).1
  have o0 := fun j => (G.o j).1
  unfold i_ExchangeRows i_CanExchangeRows
  rw [i_place1 z hN x0 o0, gridB_iff.2 ⟨n, rfl, g⟩, c_true, decide_eq_true (by omega), c_true, c_nne rfl, i_Grid_canRows_val z hN g x0 o0 hq]
  dsimp only
  rw [c_nne rfl]
  cases rowsB n X O q
  · rfl
  · rw [Bool.not_true, c_false, i_Grid_swapRows_val z hN g x0 o0 G.zx G.zo hq]; rfl
theorem exR_s (z : β) {N : Nat} (hN : 8 < N) {n q : Nat} {X O : Nat → Int} (G : GridZ n X O) (hq : q + 1 < n) (k : Int → (Nat → Int) → (Nat → Int) → Int → β) :
    s_ExchangeRows z N n X O q k = cond (rowsB n X O q) (k n (swapF n q X) (swapF n q O) 0) (k 0 (fun _ => 0) (fun _ => 0) 5) := by
  have g := G.g
  have x0 := fun j => (G.x j).1
  have o0 := fun j => (G.o j).1
  unfold s_ExchangeRows
  rw [s_place1 z hN x0 o0, gridB_iff.2 ⟨n, rfl, g⟩, c_true, decide_eq_true (by omega), c_true, c_nne rfl, s_l02Rows_val z hN g x0 o0 hq]
  cases rowsB n X O q
  · rfl
  · rw [Bool.not_true, c_false, s_l02SwapRows_val z hN g.hi _ _ hq]; rfl
theorem canR_i (z : β) {N : Nat} (hN : 8 < N) {n q : Nat} {X O : Nat → Int} (G : GridZ n X O) (hq : q + 1 < n) (k : Bool → Int → β) : i_CanExchangeRows z N n X O q k = k (rowsB n X O q) 0 := by
  have g := G.g
  have x0 := fun j => (G.x j).1
  have o0 := fun j => (G.o j).1
  unfold i_CanExchangeRows
  rw [i_place1 z hN x0 o0, gridB_iff.2 ⟨n, rfl, g⟩, c_true, decide_eq_true (by omega), c_true, c_nne rfl, i_Grid_canRows_val z hN g x0 o0 hq]
theorem canR_s (z : β) {N : Nat} (hN : 8 < N) {n q : Nat} {X O : Nat → Int} (G : GridZ n X O) (hq : q + 1 < n) (k : Bool → Int → β) : s_CanExchangeRows z N n X O q k = k (rowsB n X O q) 0 := by
  have g := G.g
  have x0 := fun j => (G.x j).1
  have o0 := fun j => (G.o j).1
  unfold s_CanExchangeRows
  rw [s_place1 z hN x0 o0, gridB_iff.2 ⟨n, rfl, g⟩, c_true, decide_eq_true (by omega), c_true, c_nne rfl, s_l02Rows_val z hN g x0 o0 hq]
theorem trans_i (z : β) {N : Nat} (hN : 8 < N) {n : Nat} {X O : Nat → Int} (G : GridZ n X O) (k : Int → (Nat → Int) → (Nat → Int) → Int → β) : i_TransposeOf z N n X O k = k n (transP n X O).1 (transP n X O).2 0 := by
  have g := G.g
  have x0 := fun j => (G.x j).1
  have o0 := fun j => (G.o j).1
  unfold i_TransposeOf i_whole_i_Grid i_Grid_transpose i_Grid_led i_Grid_n
  rw [i_IsGrid_val z hN _ _ _ x0 o0, gridB_iff.2 ⟨n, rfl, g⟩, Bool.not_true, c_false, c_true, i_led_trans z hN g x0 o0]
/-- No grid. -/
def ExA (N : Nat) (m : Int) (X O : Nat → Int) (_i : Int) : Prop := 8 < N ∧ Byt X ∧ Byt O ∧ gridB m X O = false
/-- A grid, but no place. -/
def ExB (N : Nat) (m : Int) (X O : Nat → Int) (i : Int) : Prop := 8 < N ∧ Byt X ∧ Byt O ∧ gridB m X O = true ∧ ¬ (0 ≤ i ∧ i ≤ m - 2)
/-- A grid and a place. -/
structure ExP (N : Nat) (m : Int) (X O : Nat → Int) (i : Int) (n q : Nat) : Prop where
  N8 : 8 < N
  m : m = n
  i : i = q
  lt : q + 1 < n
  G : GridZ n X O
def ExT (b : Bool) (N : Nat) (m : Int) (X O : Nat → Int) (i : Int) : Prop := ∃ n q, ExP N m X O i n q ∧ apart2 (X q) (O q) (X (q + 1)) (O (q + 1)) = b
def ExG (N : Nat) (m : Int) (X O : Nat → Int) : Prop := 8 < N ∧ ∃ n : Nat, m = n ∧ GridZ n X O
def ExR (b : Bool) (N : Nat) (m : Int) (X O : Nat → Int) (i : Int) : Prop := ∃ n q, ExP N m X O i n q ∧ rowsB n X O q = b
theorem exA_all {N : Nat} {m i : Int} {X O : Nat → Int} (h : ExA N m X O i) (z : β) : (∀ k : Int → β, s_l02Place z N m X O ((List.replicate 1 0).set 0 i) k = k 1) ∧ ∀ k : Int → β, i_isPair z N m X O ((List.replicate 1 0).set 0 i) k = k 1 := by
  obtain ⟨hN, hX, hO, hg⟩ := h
  exact ⟨fun k => by rw [s_place1 z hN (fun j => (hX.b j).1) (fun j => (hO.b j).1), hg]; rfl, fun k => by rw [i_place1 z hN (fun j => (hX.b j).1) (fun j => (hO.b j).1), hg]; rfl⟩
theorem exB_all {N : Nat} {m i : Int} {X O : Nat → Int} (h : ExB N m X O i) (z : β) : (∀ k : Int → β, s_l02Place z N m X O ((List.replicate 1 0).set 0 i) k = k 2) ∧ ∀ k : Int → β, i_isPair z N m X O ((List.replicate 1 0).set 0 i) k = k 2 := by
  obtain ⟨hN, hX, hO, hg, hi⟩ := h
  exact ⟨fun k => by rw [s_place1 z hN (fun j => (hX.b j).1) (fun j => (hO.b j).1), hg, c_true, decide_eq_false hi]; rfl, fun k => by rw [i_place1 z hN (fun j => (hX.b j).1) (fun j => (hO.b j).1), hg, c_true, decide_eq_false hi]; rfl⟩
noncomputable def ca_i_ExchangeColumns (z : β) (N : Nat) (g_0 : Int) (g_1 : Nat → Int) (g_2 : Nat → Int) (i : Int) (k0 : β) : β := cond (bP (ExA N g_0 g_1 g_2 i)) k0 z
theorem ca_i_ExchangeColumns_mono {α : Type} {N : Nat} {g_0 : Int} {g_1 g_2 : Nat → Int} {i : Int} {k0 : Int → (Nat → Int) → (Nat → Int) → Int → Option α} {r : α} (h : ca_i_ExchangeColumns none N g_0 g_1 g_2 i (k0 0 (fun (x : Nat) => (0 : Int)) (fun (x : Nat) => (0 : Int)) 1) = some r) : i_ExchangeColumns none N g_0 g_1 g_2 i k0 = some r := by
  obtain ⟨hp, hk⟩ := cond_some h
  unfold i_ExchangeColumns i_CanExchangeColumns
  rw [(exA_all hp none).2, c_ne (by omega)]
  dsimp only
  rw [c_ne (by omega)]
  exact hk
noncomputable def ca_s_ExchangeColumns (z : β) (N : Nat) (g_0 : Int) (g_1 : Nat → Int) (g_2 : Nat → Int) (i : Int) (k0 : β) : β := cond (bP (ExA N g_0 g_1 g_2 i)) k0 z
theorem ca_s_ExchangeColumns_mono {α : Type} {N : Nat} {g_0 : Int} {g_1 g_2 : Nat → Int} {i : Int} {k0 : Int → (Nat → Int) → (Nat → Int) → Int → Option α} {r : α} (h : ca_s_ExchangeColumns none N g_0 g_1 g_2 i (k0 0 (fun (x : Nat) => (0 : Int)) (fun (x : Nat) => (0 : Int)) 1) = some r) : s_ExchangeColumns none N g_0 g_1 g_2 i k0 = some r := by
  obtain ⟨hp, hk⟩ := cond_some h
  unfold s_ExchangeColumns
  rw [(exA_all hp none).1, c_ne (by omega)]
  exact hk
noncomputable def ca_i_ExchangeRows (z : β) (N : Nat) (g_0 : Int) (g_1 : Nat → Int) (g_2 : Nat → Int) (i : Int) (k0 : β) : β := cond (bP (ExA N g_0 g_1 g_2 i)) k0 z
theorem ca_i_ExchangeRows_mono {α : Type} {N : Nat} {g_0 : Int} {g_1 g_2 : Nat → Int} {i : Int} {k0 : Int → (Nat → Int) → (Nat → Int) → Int → Option α} {r : α} (h : ca_i_ExchangeRows none N g_0 g_1 g_2 i (k0 0 (fun (x : Nat) => (0 : Int)) (fun (x : Nat) => (0 : Int)) 1) = some r) : i_ExchangeRows none N g_0 g_1 g_2 i k0 = some r := by
  obtain ⟨hp, hk⟩ := cond_some h
  unfold i_ExchangeRows i_CanExchangeRows
  rw [(exA_all hp none).2, c_ne (by omega)]
  dsimp only
  rw [c_ne (by omega)]
  exact hk
noncomputable def ca_s_ExchangeRows (z : β) (N : Nat) (g_0 : Int) (g_1 : Nat → Int) (g_2 : Nat → Int) (i : Int) (k0 : β) : β := cond (bP (ExA N g_0 g_1 g_2 i)) k0 z
theorem ca_s_ExchangeRows_mono {α : Type} {N : Nat} {g_0 : Int} {g_1 g_2 : Nat → Int} {i : Int} {k0 : Int → (Nat → Int) → (Nat → Int) → Int → Option α} {r : α} (h : ca_s_ExchangeRows none N g_0 g_1 g_2 i (k0 0 (fun (x : Nat) => (0 : Int)) (fun (x : Nat) => (0 : Int)) 1) = some r) : s_ExchangeRows none N g_0 g_1 g_2 i k0 = some r := by
  obtain ⟨hp, hk⟩ := cond_some h
  unfold s_ExchangeRows
  rw [(exA_all hp none).1, c_ne (by omega)]
  exact hk
noncomputable def ca_i_CanExchangeColumns (z : β) (N : Nat) (g_0 : Int) (g_1 : Nat → Int) (g_2 : Nat → Int) (i : Int) (k0 : β) : β := cond (bP (ExA N g_0 g_1 g_2 i)) k0 z
theorem ca_i_CanExchangeColumns_mono {α : Type} {N : Nat} {g_0 : Int} {g_1 g_2 : Nat → Int} {i : Int} {k0 : Bool → Int → Option α} {r : α} (h : ca_i_CanExchangeColumns none N g_0 g_1 g_2 i (k0 false 1) = some r) : i_CanExchangeColumns none N g_0 g_1 g_2 i k0 = some r := by
  obtain ⟨hp, hk⟩ := cond_some h
  unfold i_CanExchangeColumns
  rw [(exA_all hp none).2, c_ne (by omega)]
  exact hk
noncomputable def ca_s_CanExchangeColumns (z : β) (N : Nat) (g_0 : Int) (g_1 : Nat → Int) (g_2 : Nat → Int) (i : Int) (k0 : β) : β := cond (bP (ExA N g_0 g_1 g_2 i)) k0 z
theorem ca_s_CanExchangeColumns_mono {α : Type} {N : Nat} {g_0 : Int} {g_1 g_2 : Nat → Int} {i : Int} {k0 : Bool → Int → Option α} {r : α} (h : ca_s_CanExchangeColumns none N g_0 g_1 g_2 i (k0 false 1) = some r) : s_CanExchangeColumns none N g_0 g_1 g_2 i k0 = some r := by
  obtain ⟨hp, hk⟩ := cond_some h
  unfold s_CanExchangeColumns
  rw [(exA_all hp none).1, c_ne (by omega)]
  exact hk
noncomputable def ca_i_CanExchangeRows (z : β) (N : Nat) (g_0 : Int) (g_1 : Nat → Int) (g_2 : Nat → Int) (i : Int) (k0 : β) : β := cond (bP (ExA N g_0 g_1 g_2 i)) k0 z
theorem ca_i_CanExchangeRows_mono {α : Type} {N : Nat} {g_0 : Int} {g_1 g_2 : Nat → Int} {i : Int} {k0 : Bool → Int → Option α} {r : α} (h : ca_i_CanExchangeRows none N g_0 g_1 g_2 i (k0 false 1) = some r) : i_CanExchangeRows none N g_0 g_1 g_2 i k0 = some r := by
  obtain ⟨hp, hk⟩ := cond_some h
  unfold i_CanExchangeRows
  rw [(exA_all hp none).2, c_ne (by omega)]
  exact hk
noncomputable def ca_s_CanExchangeRows (z : β) (N : Nat) (g_0 : Int) (g_1 : Nat → Int) (g_2 : Nat → Int) (i : Int) (k0 : β) : β := cond (bP (ExA N g_0 g_1 g_2 i)) k0 z
theorem ca_s_CanExchangeRows_mono {α : Type} {N : Nat} {g_0 : Int} {g_1 g_2 : Nat → Int} {i : Int} {k0 : Bool → Int → Option α} {r : α} (h : ca_s_CanExchangeRows none N g_0 g_1 g_2 i (k0 false 1) = some r) : s_CanExchangeRows none N g_0 g_1 g_2 i k0 = some r := by
  obtain ⟨hp, hk⟩ := cond_some h
  unfold s_CanExchangeRows
  rw [(exA_all hp none).1, c_ne (by omega)]
  exact hk
noncomputable def cb_i_ExchangeColumns (z : β) (N : Nat) (g_0 : Int) (g_1 : Nat → Int) (g_2 : Nat → Int) (i : Int) (k0 : β) : β := cond (bP (ExB N g_0 g_1 g_2 i)) k0 z
theorem cb_i_ExchangeColumns_mono {α : Type} {N : Nat} {g_0 : Int} {g_1 g_2 : Nat → Int} {i : Int} {k0 : Int → (Nat → Int) → (Nat → Int) → Int → Option α} {r : α} (h : cb_i_ExchangeColumns none N g_0 g_1 g_2 i (k0 0 (fun (x : Nat) => (0 : Int)) (fun (x : Nat) => (0 : Int)) 2) = some r) : i_ExchangeColumns none N g_0 g_1 g_2 i k0 = some r := by
  obtain ⟨hp, hk⟩ := cond_some h
  unfold i_ExchangeColumns i_CanExchangeColumns
  rw [(exB_all hp none).2, c_ne (by omega)]
  dsimp only
  rw [c_ne (by omega)]
  exact hk
noncomputable def cb_s_ExchangeColumns (z : β) (N : Nat) (g_0 : Int) (g_1 : Nat → Int) (g_2 : Nat → Int) (i : Int) (k0 : β) : β := cond (bP (ExB N g_0 g_1 g_2 i)) k0 z
theorem cb_s_ExchangeColumns_mono {α : Type} {N : Nat} {g_0 : Int} {g_1 g_2 : Nat → Int} {i : Int} {k0 : Int → (Nat → Int) → (Nat → Int) → Int → Option α} {r : α} (h : cb_s_ExchangeColumns none N g_0 g_1 g_2 i (k0 0 (fun (x : Nat) => (0 : Int)) (fun (x : Nat) => (0 : Int)) 2) = some r) : s_ExchangeColumns none N g_0 g_1 g_2 i k0 = some r := by
  obtain ⟨hp, hk⟩ := cond_some h
  unfold s_ExchangeColumns
  rw [(exB_all hp none).1, c_ne (by omega)]
  exact hk
noncomputable def cb_i_ExchangeRows (z : β) (N : Nat) (g_0 : Int) (g_1 : Nat → Int) (g_2 : Nat → Int) (i : Int) (k0 : β) : β := cond (bP (ExB N g_0 g_1 g_2 i)) k0 z
theorem cb_i_ExchangeRows_mono {α : Type} {N : Nat} {g_0 : Int} {g_1 g_2 : Nat → Int} {i : Int} {k0 : Int → (Nat → Int) → (Nat → Int) → Int → Option α} {r : α} (h : cb_i_ExchangeRows none N g_0 g_1 g_2 i (k0 0 (fun (x : Nat) => (0 : Int)) (fun (x : Nat) => (0 : Int)) 2) = some r) : i_ExchangeRows none N g_0 g_1 g_2 i k0 = some r := by
  obtain ⟨hp, hk⟩ := cond_some h
  unfold i_ExchangeRows i_CanExchangeRows
  rw [(exB_all hp none).2, c_ne (by omega)]
  dsimp only
  rw [c_ne (by omega)]
  exact hk
noncomputable def cb_s_ExchangeRows (z : β) (N : Nat) (g_0 : Int) (g_1 : Nat → Int) (g_2 : Nat → Int) (i : Int) (k0 : β) : β := cond (bP (ExB N g_0 g_1 g_2 i)) k0 z
theorem cb_s_ExchangeRows_mono {α : Type} {N : Nat} {g_0 : Int} {g_1 g_2 : Nat → Int} {i : Int} {k0 : Int → (Nat → Int) → (Nat → Int) → Int → Option α} {r : α} (h : cb_s_ExchangeRows none N g_0 g_1 g_2 i (k0 0 (fun (x : Nat) => (0 : Int)) (fun (x : Nat) => (0 : Int)) 2) = some r) : s_ExchangeRows none N g_0 g_1 g_2 i k0 = some r := by
  obtain ⟨hp, hk⟩ := cond_some h
  unfold s_ExchangeRows
  rw [(exB_all hp none).1, c_ne (by omega)]
  exact hk
noncomputable def cb_i_CanExchangeColumns (z : β) (N : Nat) (g_0 : Int) (g_1 : Nat → Int) (g_2 : Nat → Int) (i : Int) (k0 : β) : β := cond (bP (ExB N g_0 g_1 g_2 i)) k0 z
theorem cb_i_CanExchangeColumns_mono {α : Type} {N : Nat} {g_0 : Int} {g_1 g_2 : Nat → Int} {i : Int} {k0 : Bool → Int → Option α} {r : α} (h : cb_i_CanExchangeColumns none N g_0 g_1 g_2 i (k0 false 2) = some r) : i_CanExchangeColumns none N g_0 g_1 g_2 i k0 = some r := by
  obtain ⟨hp, hk⟩ := cond_some h
  unfold i_CanExchangeColumns
  rw [(exB_all hp none).2, c_ne (by omega)]
  exact hk
noncomputable def cb_s_CanExchangeColumns (z : β) (N : Nat) (g_0 : Int) (g_1 : Nat → Int) (g_2 : Nat → Int) (i : Int) (k0 : β) : β := cond (bP (ExB N g_0 g_1 g_2 i)) k0 z
theorem cb_s_CanExchangeColumns_mono {α : Type} {N : Nat} {g_0 : Int} {g_1 g_2 : Nat → Int} {i : Int} {k0 : Bool → Int → Option α} {r : α} (h : cb_s_CanExchangeColumns none N g_0 g_1 g_2 i (k0 false 2) = some r) : s_CanExchangeColumns none N g_0 g_1 g_2 i k0 = some r := by
  obtain ⟨hp, hk⟩ := cond_some h
  unfold s_CanExchangeColumns
  rw [(exB_all hp none).1, c_ne (by omega)]
  exact hk
noncomputable def cb_i_CanExchangeRows (z : β) (N : Nat) (g_0 : Int) (g_1 : Nat → Int) (g_2 : Nat → Int) (i : Int) (k0 : β) : β := cond (bP (ExB N g_0 g_1 g_2 i)) k0 z
theorem cb_i_CanExchangeRows_mono {α : Type} {N : Nat} {g_0 : Int} {g_1 g_2 : Nat → Int} {i : Int} {k0 : Bool → Int → Option α} {r : α} (h : cb_i_CanExchangeRows none N g_0 g_1 g_2 i (k0 false 2) = some r) : i_CanExchangeRows none N g_0 g_1 g_2 i k0 = some r := by
  obtain ⟨hp, hk⟩ := cond_some h
  unfold i_CanExchangeRows
  rw [(exB_all hp none).2, c_ne (by omega)]
  exact hk
noncomputable def cb_s_CanExchangeRows (z : β) (N : Nat) (g_0 : Int) (g_1 : Nat → Int) (g_2 : Nat → Int) (i : Int) (k0 : β) : β := cond (bP (ExB N g_0 g_1 g_2 i)) k0 z
theorem cb_s_CanExchangeRows_mono {α : Type} {N : Nat} {g_0 : Int} {g_1 g_2 : Nat → Int} {i : Int} {k0 : Bool → Int → Option α} {r : α} (h : cb_s_CanExchangeRows none N g_0 g_1 g_2 i (k0 false 2) = some r) : s_CanExchangeRows none N g_0 g_1 g_2 i k0 = some r := by
  obtain ⟨hp, hk⟩ := cond_some h
  unfold s_CanExchangeRows
  rw [(exB_all hp none).1, c_ne (by omega)]
  exact hk
theorem cond2_some {α : Type} {p q : Prop} {x y : Option α} {r : α} (h : cond (bP p) x (cond (bP q) y none) = some r) : (p ∧ x = some r) ∨ (q ∧ y = some r) := by
  cases hb : bP p with
  | false => rw [hb] at h; exact .inr (cond_some h)
  | true => rw [hb] at h; exact .inl ⟨@of_decide_eq_true p (Classical.propDecidable p) hb, h⟩
theorem c_nbP {p : Prop} (h : ¬ p) {x y : β} : cond (bP p) x y = y := by
  unfold bP
  rw [@decide_eq_false p (Classical.propDecidable p) h]
  rfl
noncomputable def xt_i_ExchangeColumns (z : β) (N : Nat) (g_0 : Int) (g_1 : Nat → Int) (g_2 : Nat → Int) (i : Int) (k0 : Int → (Nat → Int) → (Nat → Int) → β) : β := cond (bP (ExT true N g_0 g_1 g_2 i)) (k0 g_0 (swC i.toNat g_1) (swC i.toNat g_2)) z
theorem xt_i_ExchangeColumns_mono {α : Type} {N : Nat} {g_0 : Int} {g_1 g_2 : Nat → Int} {i : Int} {k0 : Int → (Nat → Int) → (Nat → Int) → Int → Option α} {r : α} (h : xt_i_ExchangeColumns none N g_0 g_1 g_2 i (fun a b c => k0 a b c 0) = some r) : i_ExchangeColumns none N g_0 g_1 g_2 i k0 = some r := by
  obtain ⟨⟨n, q, ⟨hN, rfl, rfl, hq, G⟩, ha⟩, hk⟩ := cond_some h
  rw [exC_i none hN G hq, ha]
  exact hk
noncomputable def xt_s_ExchangeColumns (z : β) (N : Nat) (g_0 : Int) (g_1 : Nat → Int) (g_2 : Nat → Int) (i : Int) (k0 : Int → (Nat → Int) → (Nat → Int) → β) : β := cond (bP (ExT true N g_0 g_1 g_2 i)) (k0 g_0 (swC i.toNat g_1) (swC i.toNat g_2)) z
theorem xt_s_ExchangeColumns_mono {α : Type} {N : Nat} {g_0 : Int} {g_1 g_2 : Nat → Int} {i : Int} {k0 : Int → (Nat → Int) → (Nat → Int) → Int → Option α} {r : α} (h : xt_s_ExchangeColumns none N g_0 g_1 g_2 i (fun a b c => k0 a b c 0) = some r) : s_ExchangeColumns none N g_0 g_1 g_2 i k0 = some r := by
  obtain ⟨⟨n, q, ⟨hN, rfl, rfl, hq, G⟩, ha⟩, hk⟩ := cond_some h
  rw [exC_s none hN G hq, ha]
  exact hk
noncomputable def xt_i_CanExchangeColumns (z : β) (N : Nat) (g_0 : Int) (g_1 : Nat → Int) (g_2 : Nat → Int) (i : Int) (k0 : β) : β := cond (bP (ExT true N g_0 g_1 g_2 i)) k0 z
theorem xt_i_CanExchangeColumns_mono {α : Type} {N : Nat} {g_0 : Int} {g_1 g_2 : Nat → Int} {i : Int} {k0 : Bool → Int → Option α} {r : α} (h : xt_i_CanExchangeColumns none N g_0 g_1 g_2 i (k0 true 0) = some r) : i_CanExchangeColumns none N g_0 g_1 g_2 i k0 = some r := by
  obtain ⟨⟨n, q, ⟨hN, rfl, rfl, hq, G⟩, ha⟩, hk⟩ := cond_some h
  rw [canC_i none hN G hq, ha]
  exact hk
noncomputable def xt_s_CanExchangeColumns (z : β) (N : Nat) (g_0 : Int) (g_1 : Nat → Int) (g_2 : Nat → Int) (i : Int) (k0 : β) : β := cond (bP (ExT true N g_0 g_1 g_2 i)) k0 z
theorem xt_s_CanExchangeColumns_mono {α : Type} {N : Nat} {g_0 : Int} {g_1 g_2 : Nat → Int} {i : Int} {k0 : Bool → Int → Option α} {r : α} (h : xt_s_CanExchangeColumns none N g_0 g_1 g_2 i (k0 true 0) = some r) : s_CanExchangeColumns none N g_0 g_1 g_2 i k0 = some r := by
  obtain ⟨⟨n, q, ⟨hN, rfl, rfl, hq, G⟩, ha⟩, hk⟩ := cond_some h
  rw [canC_s none hN G hq, ha]
  exact hk
noncomputable def xt_i_ExchangeRows (z : β) (N : Nat) (g_0 : Int) (g_1 : Nat → Int) (g_2 : Nat → Int) (i : Int) (k0 : Int → (Nat → Int) → (Nat → Int) → β) (k1 : β) : β := cond (bP (ExR true N g_0 g_1 g_2 i)) (k0 g_0 (swapF g_0.toNat i.toNat g_1) (swapF g_0.toNat i.toNat g_2)) (cond (bP (ExR false N g_0 g_1 g_2 i)) k1 z)
theorem xt_i_ExchangeRows_mono {α : Type} {N : Nat} {g_0 : Int} {g_1 g_2 : Nat → Int} {i : Int} {k0 : Int → (Nat → Int) → (Nat → Int) → Int → Option α} {r : α} (h : xt_i_ExchangeRows none N g_0 g_1 g_2 i (fun a b c => k0 a b c 0) (k0 0 (fun (x : Nat) => (0 : Int)) (fun (x : Nat) => (0 : Int)) 5) = some r) : i_ExchangeRows none N g_0 g_1 g_2 i k0 = some r := by
  rcases cond2_some h with ⟨⟨n, q, ⟨hN, rfl, rfl, hq, G⟩, ha⟩, hk⟩ | ⟨⟨n, q, ⟨hN, rfl, rfl, hq, G⟩, ha⟩, hk⟩
  · rw [exR_i none hN G hq, ha]
    exact hk
  · rw [exR_i none hN G hq, ha]
    exact hk
noncomputable def xt_s_ExchangeRows (z : β) (N : Nat) (g_0 : Int) (g_1 : Nat → Int) (g_2 : Nat → Int) (i : Int) (k0 : Int → (Nat → Int) → (Nat → Int) → β) (k1 : β) : β := cond (bP (ExR true N g_0 g_1 g_2 i)) (k0 g_0 (swapF g_0.toNat i.toNat g_1) (swapF g_0.toNat i.toNat g_2)) (cond (bP (ExR false N g_0 g_1 g_2 i)) k1 z)
theorem xt_s_ExchangeRows_mono {α : Type} {N : Nat} {g_0 : Int} {g_1 g_2 : Nat → Int} {i : Int} {k0 : Int → (Nat → Int) → (Nat → Int) → Int → Option α} {r : α} (h : xt_s_ExchangeRows none N g_0 g_1 g_2 i (fun a b c => k0 a b c 0) (k0 0 (fun (x : Nat) => (0 : Int)) (fun (x : Nat) => (0 : Int)) 5) = some r) : s_ExchangeRows none N g_0 g_1 g_2 i k0 = some r := by
  rcases cond2_some h with ⟨⟨n, q, ⟨hN, rfl, rfl, hq, G⟩, ha⟩, hk⟩ | ⟨⟨n, q, ⟨hN, rfl, rfl, hq, G⟩, ha⟩, hk⟩
  · rw [exR_s none hN G hq, ha]
    exact hk
  · rw [exR_s none hN G hq, ha]
    exact hk
noncomputable def xt_i_CanExchangeRows (z : β) (N : Nat) (g_0 : Int) (g_1 : Nat → Int) (g_2 : Nat → Int) (i : Int) (k0 : β) (k1 : β) : β := cond (bP (ExR true N g_0 g_1 g_2 i)) k0 (cond (bP (ExR false N g_0 g_1 g_2 i)) k1 z)
theorem xt_i_CanExchangeRows_mono {α : Type} {N : Nat} {g_0 : Int} {g_1 g_2 : Nat → Int} {i : Int} {k0 : Bool → Int → Option α} {r : α} (h : xt_i_CanExchangeRows none N g_0 g_1 g_2 i (k0 true 0) (k0 false 0) = some r) : i_CanExchangeRows none N g_0 g_1 g_2 i k0 = some r := by
  rcases cond2_some h with ⟨⟨n, q, ⟨hN, rfl, rfl, hq, G⟩, ha⟩, hk⟩ | ⟨⟨n, q, ⟨hN, rfl, rfl, hq, G⟩, ha⟩, hk⟩
  · rw [canR_i none hN G hq, ha]
    exact hk
  · rw [canR_i none hN G hq, ha]
    exact hk
noncomputable def xt_s_CanExchangeRows (z : β) (N : Nat) (g_0 : Int) (g_1 : Nat → Int) (g_2 : Nat → Int) (i : Int) (k0 : β) (k1 : β) : β := cond (bP (ExR true N g_0 g_1 g_2 i)) k0 (cond (bP (ExR false N g_0 g_1 g_2 i)) k1 z)
theorem xt_s_CanExchangeRows_mono {α : Type} {N : Nat} {g_0 : Int} {g_1 g_2 : Nat → Int} {i : Int} {k0 : Bool → Int → Option α} {r : α} (h : xt_s_CanExchangeRows none N g_0 g_1 g_2 i (k0 true 0) (k0 false 0) = some r) : s_CanExchangeRows none N g_0 g_1 g_2 i k0 = some r := by
  rcases cond2_some h with ⟨⟨n, q, ⟨hN, rfl, rfl, hq, G⟩, ha⟩, hk⟩ | ⟨⟨n, q, ⟨hN, rfl, rfl, hq, G⟩, ha⟩, hk⟩
  · rw [canR_s none hN G hq, ha]
    exact hk
  · rw [canR_s none hN G hq, ha]
    exact hk
noncomputable def xt_i_TransposeOf (z : β) (N : Nat) (g_0 : Int) (g_1 : Nat → Int) (g_2 : Nat → Int) (k0 : Int → (Nat → Int) → (Nat → Int) → β) : β := cond (bP (ExG N g_0 g_1 g_2)) (k0 g_0 (transP g_0.toNat g_1 g_2).1 (transP g_0.toNat g_1 g_2).2) z
theorem xt_i_TransposeOf_mono {α : Type} {N : Nat} {g_0 : Int} {g_1 g_2 : Nat → Int} {k0 : Int → (Nat → Int) → (Nat → Int) → Int → Option α} {r : α} (h : xt_i_TransposeOf none N g_0 g_1 g_2 (fun a b c => k0 a b c 0) = some r) : i_TransposeOf none N g_0 g_1 g_2 k0 = some r := by
  obtain ⟨⟨hN, n, rfl, G⟩, hk⟩ := cond_some h
  rw [trans_i none hN G]
  exact hk
noncomputable def xf_i_ExchangeColumns (z : β) (N : Nat) (g_0 : Int) (g_1 : Nat → Int) (g_2 : Nat → Int) (i : Int) (k0 : β) : β := cond (bP (ExT false N g_0 g_1 g_2 i)) k0 z
theorem xf_i_ExchangeColumns_mono {α : Type} {N : Nat} {g_0 : Int} {g_1 g_2 : Nat → Int} {i : Int} {k0 : Int → (Nat → Int) → (Nat → Int) → Int → Option α} {r : α} (h : xf_i_ExchangeColumns none N g_0 g_1 g_2 i (k0 0 (fun (x : Nat) => (0 : Int)) (fun (x : Nat) => (0 : Int)) 5) = some r) : i_ExchangeColumns none N g_0 g_1 g_2 i k0 = some r := by
  obtain ⟨⟨n, q, ⟨hN, rfl, rfl, hq, G⟩, ha⟩, hk⟩ := cond_some h
  rw [exC_i none hN G hq, ha]
  exact hk
noncomputable def xf_s_ExchangeColumns (z : β) (N : Nat) (g_0 : Int) (g_1 : Nat → Int) (g_2 : Nat → Int) (i : Int) (k0 : β) : β := cond (bP (ExT false N g_0 g_1 g_2 i)) k0 z
theorem xf_s_ExchangeColumns_mono {α : Type} {N : Nat} {g_0 : Int} {g_1 g_2 : Nat → Int} {i : Int} {k0 : Int → (Nat → Int) → (Nat → Int) → Int → Option α} {r : α} (h : xf_s_ExchangeColumns none N g_0 g_1 g_2 i (k0 0 (fun (x : Nat) => (0 : Int)) (fun (x : Nat) => (0 : Int)) 5) = some r) : s_ExchangeColumns none N g_0 g_1 g_2 i k0 = some r := by
  obtain ⟨⟨n, q, ⟨hN, rfl, rfl, hq, G⟩, ha⟩, hk⟩ := cond_some h
  rw [exC_s none hN G hq, ha]
  exact hk
noncomputable def xf_i_CanExchangeColumns (z : β) (N : Nat) (g_0 : Int) (g_1 : Nat → Int) (g_2 : Nat → Int) (i : Int) (k0 : β) : β := cond (bP (ExT false N g_0 g_1 g_2 i)) k0 z
theorem xf_i_CanExchangeColumns_mono {α : Type} {N : Nat} {g_0 : Int} {g_1 g_2 : Nat → Int} {i : Int} {k0 : Bool → Int → Option α} {r : α} (h : xf_i_CanExchangeColumns none N g_0 g_1 g_2 i (k0 false 0) = some r) : i_CanExchangeColumns none N g_0 g_1 g_2 i k0 = some r := by
  obtain ⟨⟨n, q, ⟨hN, rfl, rfl, hq, G⟩, ha⟩, hk⟩ := cond_some h
  rw [canC_i none hN G hq, ha]
  exact hk
noncomputable def xf_s_CanExchangeColumns (z : β) (N : Nat) (g_0 : Int) (g_1 : Nat → Int) (g_2 : Nat → Int) (i : Int) (k0 : β) : β := cond (bP (ExT false N g_0 g_1 g_2 i)) k0 z
theorem xf_s_CanExchangeColumns_mono {α : Type} {N : Nat} {g_0 : Int} {g_1 g_2 : Nat → Int} {i : Int} {k0 : Bool → Int → Option α} {r : α} (h : xf_s_CanExchangeColumns none N g_0 g_1 g_2 i (k0 false 0) = some r) : s_CanExchangeColumns none N g_0 g_1 g_2 i k0 = some r := by
  obtain ⟨⟨n, q, ⟨hN, rfl, rfl, hq, G⟩, ha⟩, hk⟩ := cond_some h
  rw [canC_s none hN G hq, ha]
  exact hk
noncomputable def xf_i_ExchangeRows (z : β) (N : Nat) (g_0 : Int) (g_1 : Nat → Int) (g_2 : Nat → Int) (i : Int) (k0 : Int → (Nat → Int) → (Nat → Int) → β) (k1 : β) : β := cond (bP (ExR true N g_0 g_1 g_2 i)) (k0 g_0 (swapF g_0.toNat i.toNat g_1) (swapF g_0.toNat i.toNat g_2)) (cond (bP (ExR false N g_0 g_1 g_2 i)) k1 z)
theorem xf_i_ExchangeRows_mono {α : Type} {N : Nat} {g_0 : Int} {g_1 g_2 : Nat → Int} {i : Int} {k0 : Int → (Nat → Int) → (Nat → Int) → Int → Option α} {r : α} (h : xf_i_ExchangeRows none N g_0 g_1 g_2 i (fun a b c => k0 a b c 0) (k0 0 (fun (x : Nat) => (0 : Int)) (fun (x : Nat) => (0 : Int)) 5) = some r) : i_ExchangeRows none N g_0 g_1 g_2 i k0 = some r := by
  rcases cond2_some h with ⟨⟨n, q, ⟨hN, rfl, rfl, hq, G⟩, ha⟩, hk⟩ | ⟨⟨n, q, ⟨hN, rfl, rfl, hq, G⟩, ha⟩, hk⟩
  · rw [exR_i none hN G hq, ha]
    exact hk
  · rw [exR_i none hN G hq, ha]
    exact hk
noncomputable def xf_s_ExchangeRows (z : β) (N : Nat) (g_0 : Int) (g_1 : Nat → Int) (g_2 : Nat → Int) (i : Int) (k0 : Int → (Nat → Int) → (Nat → Int) → β) (k1 : β) : β := cond (bP (ExR true N g_0 g_1 g_2 i)) (k0 g_0 (swapF g_0.toNat i.toNat g_1) (swapF g_0.toNat i.toNat g_2)) (cond (bP (ExR false N g_0 g_1 g_2 i)) k1 z)
theorem xf_s_ExchangeRows_mono {α : Type} {N : Nat} {g_0 : Int} {g_1 g_2 : Nat → Int} {i : Int} {k0 : Int → (Nat → Int) → (Nat → Int) → Int → Option α} {r : α} (h : xf_s_ExchangeRows none N g_0 g_1 g_2 i (fun a b c => k0 a b c 0) (k0 0 (fun (x : Nat) => (0 : Int)) (fun (x : Nat) => (0 : Int)) 5) = some r) : s_ExchangeRows none N g_0 g_1 g_2 i k0 = some r := by
  rcases cond2_some h with ⟨⟨n, q, ⟨hN, rfl, rfl, hq, G⟩, ha⟩, hk⟩ | ⟨⟨n, q, ⟨hN, rfl, rfl, hq, G⟩, ha⟩, hk⟩
  · rw [exR_s none hN G hq, ha]
    exact hk
  · rw [exR_s none hN G hq, ha]
    exact hk
noncomputable def xf_i_CanExchangeRows (z : β) (N : Nat) (g_0 : Int) (g_1 : Nat → Int) (g_2 : Nat → Int) (i : Int) (k0 : β) (k1 : β) : β := cond (bP (ExR true N g_0 g_1 g_2 i)) k0 (cond (bP (ExR false N g_0 g_1 g_2 i)) k1 z)
theorem xf_i_CanExchangeRows_mono {α : Type} {N : Nat} {g_0 : Int} {g_1 g_2 : Nat → Int} {i : Int} {k0 : Bool → Int → Option α} {r : α} (h : xf_i_CanExchangeRows none N g_0 g_1 g_2 i (k0 true 0) (k0 false 0) = some r) : i_CanExchangeRows none N g_0 g_1 g_2 i k0 = some r := by
  rcases cond2_some h with ⟨⟨n, q, ⟨hN, rfl, rfl, hq, G⟩, ha⟩, hk⟩ | ⟨⟨n, q, ⟨hN, rfl, rfl, hq, G⟩, ha⟩, hk⟩
  · rw [canR_i none hN G hq, ha]
    exact hk
  · rw [canR_i none hN G hq, ha]
    exact hk
noncomputable def xf_s_CanExchangeRows (z : β) (N : Nat) (g_0 : Int) (g_1 : Nat → Int) (g_2 : Nat → Int) (i : Int) (k0 : β) (k1 : β) : β := cond (bP (ExR true N g_0 g_1 g_2 i)) k0 (cond (bP (ExR false N g_0 g_1 g_2 i)) k1 z)
theorem xf_s_CanExchangeRows_mono {α : Type} {N : Nat} {g_0 : Int} {g_1 g_2 : Nat → Int} {i : Int} {k0 : Bool → Int → Option α} {r : α} (h : xf_s_CanExchangeRows none N g_0 g_1 g_2 i (k0 true 0) (k0 false 0) = some r) : s_CanExchangeRows none N g_0 g_1 g_2 i k0 = some r := by
  rcases cond2_some h with ⟨⟨n, q, ⟨hN, rfl, rfl, hq, G⟩, ha⟩, hk⟩ | ⟨⟨n, q, ⟨hN, rfl, rfl, hq, G⟩, ha⟩, hk⟩
  · rw [canR_s none hN G hq, ha]
    exact hk
  · rw [canR_s none hN G hq, ha]
    exact hk
noncomputable def xf_i_TransposeOf (z : β) (N : Nat) (g_0 : Int) (g_1 : Nat → Int) (g_2 : Nat → Int) (k0 : Int → (Nat → Int) → (Nat → Int) → β) : β := cond (bP (ExG N g_0 g_1 g_2)) (k0 g_0 (transP g_0.toNat g_1 g_2).1 (transP g_0.toNat g_1 g_2).2) z
theorem xf_i_TransposeOf_mono {α : Type} {N : Nat} {g_0 : Int} {g_1 g_2 : Nat → Int} {k0 : Int → (Nat → Int) → (Nat → Int) → Int → Option α} {r : α} (h : xf_i_TransposeOf none N g_0 g_1 g_2 (fun a b c => k0 a b c 0) = some r) : i_TransposeOf none N g_0 g_1 g_2 k0 = some r := by
  obtain ⟨⟨hN, n, rfl, G⟩, hk⟩ := cond_some h
  rw [trans_i none hN G]
  exact hk
end
end Go.AM

set_option maxRecDepth 100000
namespace Go.AM
/-- laws.FnExchanges -/
noncomputable def ca_w_FnExchanges {β : Type} (z : β) (N : Nat) (code_n : Nat) (code_l : Nat) (code_c : Nat) (h0_n : Nat) (h0 : Nat → Int) (k0 : Bool → β) : β :=
  w_big z N code_n code_l code_c h0_n h0 (fun q8 => cond (q8) (k0 true) (s_DrawExchangeColumns z N code_n code_l code_c h0_n h0 (fun q9 q10 q11 q12 => ca_i_ExchangeColumns z N q9 q10 q11 q12 (ca_s_ExchangeColumns z N q9 q10 q11 q12 (ca_i_CanExchangeColumns z N q9 q10 q11 q12 (ca_s_CanExchangeColumns z N q9 q10 q11 q12 (s_DrawExchangeRows z N code_n code_l code_c h0_n h0 (fun q13 q14 q15 q16 => ca_i_ExchangeRows z N q13 q14 q15 q16 (ca_s_ExchangeRows z N q13 q14 q15 q16 (ca_i_CanExchangeRows z N q13 q14 q15 q16 (ca_s_CanExchangeRows z N q13 q14 q15 q16 (k0 true))))))))))))
end Go.AM

set_option maxRecDepth 100000
namespace Go.AM
/-- laws.FnExchanges -/
noncomputable def cb_w_FnExchanges {β : Type} (z : β) (N : Nat) (code_n : Nat) (code_l : Nat) (code_c : Nat) (h0_n : Nat) (h0 : Nat → Int) (k0 : Bool → β) : β :=
  w_big z N code_n code_l code_c h0_n h0 (fun q8 => cond (q8) (k0 true) (s_DrawExchangeColumns z N code_n code_l code_c h0_n h0 (fun q9 q10 q11 q12 => cb_i_ExchangeColumns z N q9 q10 q11 q12 (cb_s_ExchangeColumns z N q9 q10 q11 q12 (cb_i_CanExchangeColumns z N q9 q10 q11 q12 (cb_s_CanExchangeColumns z N q9 q10 q11 q12 (s_DrawExchangeRows z N code_n code_l code_c h0_n h0 (fun q13 q14 q15 q16 => cb_i_ExchangeRows z N q13 q14 q15 q16 (cb_s_ExchangeRows z N q13 q14 q15 q16 (cb_i_CanExchangeRows z N q13 q14 q15 q16 (cb_s_CanExchangeRows z N q13 q14 q15 q16 (k0 true))))))))))))
end Go.AM
