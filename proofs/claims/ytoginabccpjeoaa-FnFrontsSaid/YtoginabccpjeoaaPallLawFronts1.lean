/- A part of a proof about the given program: an abstract machine, what the given functions come to, and plain laws. -/
import Derived.Test.YtoginabccpjeoaaMachB
import Derived.Test.YtoginabccpjeoaaDallLawFronts1
set_option linter.unusedVariables false
set_option linter.unusedSimpArgs false
namespace Go.AM
section guards
variable {β : Type} {x y : β}
theorem c_and (a b : Bool) : cond (a && b) x y = cond a (cond b x y) y := by cases a <;> rfl
theorem c_not (a : Bool) : cond (!a) x y = cond a y x := by cases a <;> rfl
theorem c_lt {a b : Int} (h : a < b) : cond (decide (a < b)) x y = x := by rw [decide_eq_true h]; rfl
theorem c_nlt {a b : Int} (h : b ≤ a) : cond (decide (a < b)) x y = y := by rw [decide_eq_false (by omega)]; rfl
theorem c_le {a b : Int} (h : a ≤ b) : cond (decide (a ≤ b)) x y = x := by rw [decide_eq_true h]; rfl
theorem c_nle {a b : Int} (h : b < a) : cond (decide (a ≤ b)) x y = y := by rw [decide_eq_false (by omega)]; rfl
theorem c_ne {a b : Int} (h : a ≠ b) : cond (a != b) x y = x := by rw [show (a != b) = true by simpa using h]; rfl
theorem c_nne {a b : Int} (h : a = b) : cond (a != b) x y = y := by rw [show (a != b) = false by simpa using h]; rfl
theorem c_eq {a b : Int} (h : a = b) : cond (a == b) x y = x := by rw [show (a == b) = true by simpa using h]; rfl
theorem c_neq {a b : Int} (h : a ≠ b) : cond (a == b) x y = y := by rw [show (a == b) = false by simpa using h]; rfl
theorem c_blt {a b : Nat} (h : a < b) : cond (a.blt b) x y = x := by rw [show a.blt b = true by rwa [Nat.blt_eq]]; rfl
theorem c_ble {a b : Nat} (h : a ≤ b) : cond (a.ble b) x y = x := by rw [show a.ble b = true by rwa [Nat.ble_eq]]; rfl
theorem c_nble {a b : Nat} (h : b < a) : cond (a.ble b) x y = y := by rw [show a.ble b = false by rw [← Bool.not_eq_true, Nat.ble_eq]; omega]; rfl
theorem c_beq {a b : Nat} (h : a = b) : cond (a.beq b) x y = x := by rw [show a.beq b = true by subst h; exact Nat.beq_refl a]; rfl
theorem fits64 {x : Int} (h : -9223372036854775808 ≤ x ∧ x ≤ 9223372036854775807) : fits .i64 x = true := by rw [fits_iff]; exact h
theorem c_fits {a : Int} (h : -9223372036854775808 ≤ a ∧ a ≤ 9223372036854775807) : cond (fits .i64 a) x y = x := by rw [fits64 h]; rfl
theorem c_true : cond true x y = x := rfl
theorem c_false : cond false x y = y := rfl
theorem c_dec (p : Prop) [Decidable p] : cond (decide p) x y = if p then x else y := by by_cases h : p <;> simp [h]
end guards

section upd
variable {β : Type}
theorem upd_at (f : Nat → β) (i : Nat) (v : β) (j : Nat) : upd f i v j = if j = i then v else f j := by
  unfold upd
  by_cases h : j = i
  · subst h; rw [Nat.beq_refl]; simp
  · rw [show Nat.beq j i = false by rw [← Bool.not_eq_true]; exact fun e => h (Nat.eq_of_beq_eq_true e), if_neg h]; rfl
end upd

section loops
variable {β σ ρ : Type}
/-- So many steps, from a number on. -/
def iter (f : Nat → σ → σ) : Nat → Nat → σ → σ
  | 0, _, s => s
  | d + 1, i, s => iter f d (i + 1) (f i s)

theorem iter_succ (f : Nat → σ → σ) : ∀ (d i : Nat) (s : σ), iter f (d + 1) i s = f (i + d) (iter f d i s) := by
  intro d
  induction d with
  | zero => intro i s; rfl
  | succ d ih => intro i s; rw [iter, ih, iter]; congr 1; omega

/-- What holds along the way. -/
theorem iter_inv {f : Nat → σ → σ} {I : Nat → σ → Prop} {n : Nat} (h : ∀ i s, i < n → I i s → I (i + 1) (f i s)) : ∀ (d i : Nat) (s : σ), i + d ≤ n → I i s → I (i + d) (iter f d i s) := by
  intro d
  induction d with
  | zero => intro i s _ h0; exact h0
  | succ d ih =>
    intro i s hn h0
    have := ih (i + 1) (f i s) (by omega) (h i s (by omega) h0)
    rw [show i + 1 + d = i + (d + 1) by omega] at this
    exact this

/-- A loop that counts up to a number and goes on. -/
theorem up_to {L : Nat → Nat → σ → β} {n : Nat} {out : σ → β} {f : Nat → σ → σ} {I : Nat → σ → Prop}
    (hs : ∀ m i s, i < n → I i s → L (m + 1) i s = L m (i + 1) (f i s) ∧ I (i + 1) (f i s)) (he : ∀ m s, I n s → L (m + 1) n s = out s) :
    ∀ (d m i : Nat) (s : σ), i + d = n → d < m → I i s → L m i s = out (iter f d i s) := by
  intro d
  induction d with
  | zero =>
    intro m i s hi hm h0
    obtain ⟨m, rfl⟩ : ∃ m', m = m' + 1 := ⟨m - 1, by omega⟩
    have : i = n := by omega
    subst this
    exact he m s h0
  | succ d ih =>
    intro m i s hi hm h0
    obtain ⟨m, rfl⟩ : ∃ m', m = m' + 1 := ⟨m - 1, by omega⟩
    obtain ⟨h1, h2⟩ := hs m i s (by omega) h0
    rw [h1]
    exact ih m (i + 1) (f i s) (by omega) (by omega) h2

/-- A loop that counts up to a number, or is left before. -/
def iterE (f : Nat → σ → σ ⊕ ρ) : Nat → Nat → σ → σ ⊕ ρ
  | 0, _, s => .inl s
  | d + 1, i, s => match f i s with
    | .inl s' => iterE f d (i + 1) s'
    | .inr r => .inr r
def orOut (out : σ → β) (ex : ρ → β) : σ ⊕ ρ → β
  | .inl s => out s
  | .inr r => ex r
theorem up_to_E {L : Nat → Nat → σ → β} {n : Nat} {out : σ → β} {ex : ρ → β} {f : Nat → σ → σ ⊕ ρ} {I : Nat → σ → Prop}
    (hs : ∀ m i s, i < n → I i s → (∃ s', f i s = .inl s' ∧ L (m + 1) i s = L m (i + 1) s' ∧ I (i + 1) s') ∨ ∃ r, f i s = .inr r ∧ L (m + 1) i s = ex r) (he : ∀ m s, I n s → L (m + 1) n s = out s) :
    ∀ (d m i : Nat) (s : σ), i + d = n → d < m → I i s → L m i s = orOut out ex (iterE f d i s) := by
  intro d
  induction d with
  | zero =>
    intro m i s hi hm h0
    obtain ⟨m, rfl⟩ : ∃ m', m = m' + 1 := ⟨m - 1, by omega⟩
    have : i = n := by omega
    subst this
    exact he m s h0
  | succ d ih =>
    intro m i s hi hm h0
    obtain ⟨m, rfl⟩ : ∃ m', m = m' + 1 := ⟨m - 1, by omega⟩
    rcases hs m i s (by omega) h0 with ⟨s', h1, h2, h3⟩ | ⟨r, h1, h2⟩
    · rw [h2, iterE, h1]
      exact ih m (i + 1) s' (by omega) (by omega) h3
    · rw [h2, iterE, h1]; rfl

/-- A test for all numbers of a range. -/
def allFrom (p : Nat → Bool) : Nat → Nat → Bool
  | 0, _ => true
  | d + 1, i => p i && allFrom p d (i + 1)
theorem allFrom_iff {p : Nat → Bool} : ∀ (d i : Nat), allFrom p d i = true ↔ ∀ j, i ≤ j → j < i + d → p j = true := by
  intro d
  induction d with
  | zero => intro i; exact ⟨fun _ j h1 h2 => by omega, fun _ => rfl⟩
  | succ d ih =>
    intro i
    rw [allFrom, Bool.and_eq_true, ih]
    refine ⟨fun ⟨h1, h2⟩ j h3 h4 => ?_, fun h => ⟨h i (by omega) (by omega), fun j h3 h4 => h j (by omega) (by omega)⟩⟩
    by_cases e : j = i
    · subst e; exact h1
    · exact h2 j (by omega) (by omega)
theorem up_to_all {L : Nat → Nat → β} {n : Nat} {kt kf : β} {p : Nat → Bool}
    (hs : ∀ m i, i < n → L (m + 1) i = cond (p i) (L m (i + 1)) kf) (he : ∀ m, L (m + 1) n = kt) :
    ∀ (d m i : Nat), i + d = n → d < m → L m i = cond (allFrom p d i) kt kf := by
  intro d
  induction d with
  | zero =>
    intro m i hi hm
    obtain ⟨m, rfl⟩ : ∃ m', m = m' + 1 := ⟨m - 1, by omega⟩
    have : i = n := by omega
    subst this
    exact he m
  | succ d ih =>
    intro m i hi hm
    obtain ⟨m, rfl⟩ : ∃ m', m = m' + 1 := ⟨m - 1, by omega⟩
    rw [hs m i (by omega), allFrom]
    cases p i with
    | false => rfl
    | true => exact ih m (i + 1) (by omega) (by omega)
/-- Cells that are set one after the other. -/
theorem iter_set {γ : Type} (g : Nat → γ) : ∀ (d i : Nat) (h : Nat → γ), iter (fun i h => upd h i (g i)) d i h = fun j => if i ≤ j ∧ j < i + d then g j else h j := by
  intro d
  induction d with
  | zero => intro i h; funext j; rw [if_neg (by omega)]; rfl
  | succ d ih =>
    intro i h
    rw [iter, ih]
    funext j
    simp only [upd_at]
    by_cases e : j = i
    · subst e; rw [if_neg (by omega), if_pos (by omega)]; simp
    · by_cases e2 : i + 1 ≤ j ∧ j < i + 1 + d
      · rw [if_pos e2, if_pos (by omega)]
      · rw [if_neg e2, if_neg e, if_neg (by omega)]
end loops
end Go.AM

namespace Go.AM
/-- A map of the numbers below 'n' to themselves that leads no two to one leads to all. -/
theorem surj_of_inj : ∀ (n : Nat) (f : Nat → Nat), (∀ i, i < n → f i < n) → (∀ i j, i < n → j < n → f i = f j → i = j) → ∀ r, r < n → ∃ i, i < n ∧ f i = r := by
  intro n
  induction n with
  | zero => intro f _ _ r hr; omega
  | succ n ih =>
    intro f hf hi r hr
    have hg := ih (fun i => if f i = n then f n else f i) (fun i h => by
      try simp only
      split
      · rename_i e
        have h1 := hf n (by omega)
        have h2 : f n ≠ n := fun e2 => by have := hi i n (by omega) (by omega) (by omega); omega
        omega
      · have := hf i (by omega); omega) (fun i j h1 h2 e => by
      try simp only at e
      split at e <;> split at e
      · exact hi i j (by omega) (by omega) (by omega)
      · have := hi n j (by omega) (by omega) e; omega
      · have := hi i n (by omega) (by omega) e; omega
      · exact hi i j (by omega) (by omega) e)
    by_cases e : r = n
    · subst e
      by_cases e2 : f r = r
      · exact ⟨r, by omega, e2⟩
      · obtain ⟨i, h1, h2⟩ := hg (f r) (by have := hf r (by omega); omega)
        try simp only at h2
        split at h2
        · rename_i e3; exact ⟨i, by omega, e3⟩
        · have := hi i r (by omega) (by omega) h2; omega
    · obtain ⟨i, h1, h2⟩ := hg r (by omega)
      try simp only at h2
      split at h2
      · exact ⟨n, by omega, h2⟩
      · exact ⟨i, by omega, h2⟩
theorem inj_of_surj (n : Nat) (f : Nat → Nat) (hf : ∀ i, i < n → f i < n) (hs : ∀ r, r < n → ∃ i, i < n ∧ f i = r) : ∀ i j, i < n → j < n → f i = f j → i = j := by
  have hc : ∀ r, ∃ i, r < n → i < n ∧ f i = r := fun r => by
    by_cases h : r < n
    · obtain ⟨i, hi⟩ := hs r h; exact ⟨i, fun _ => hi⟩
    · exact ⟨0, fun h' => absurd h' h⟩
  obtain ⟨g, hg⟩ := Classical.axiomOfChoice hc
  have hgs := surj_of_inj n g (fun i h => (hg i h).1) (fun i j h1 h2 e => by have a := (hg i h1).2; have b := (hg j h2).2; rw [e] at a; omega)
  intro i j hi hj e
  obtain ⟨r, h1, h2⟩ := hgs i hi
  obtain ⟨s, h3, h4⟩ := hgs j hj
  have a := (hg r h1).2
  have b := (hg s h3).2
  rw [h2] at a
  rw [h4] at b
  have : r = s := by omega
  rw [← h2, ← h4, this]

theorem bitI_or_nat {a b : Nat} (ha : a < 2 ^ 63) (hb : b < 2 ^ 63) : bitI .or .i64 (a : Int) (b : Int) = ((a ||| b : Nat) : Int) := by
  have e : bitI .or .i64 (a : Int) (b : Int) = IntKind.wrap .i64 ((BitVec.ofInt 64 a ||| BitVec.ofInt 64 b).toNat : Int) := rfl
  rw [e, BitVec.ofInt_natCast, BitVec.ofInt_natCast, BitVec.toNat_or, BitVec.toNat_ofNat, BitVec.toNat_ofNat, Nat.mod_eq_of_lt (by omega), Nat.mod_eq_of_lt (by omega)]
  apply wrap_fits
  have := Nat.or_lt_two_pow ha hb
  exact fits64 (by omega)
theorem shlI_one (x : Nat) : shlI 1 (x : Int) = ((2 ^ x : Nat) : Int) := by
  unfold shlI
  simp

/-- The first 'n' of 'w' cells are the numbers below 'n' in some order; the others are 0. -/
def PermP (w n : Nat) (p : Nat → Int) : Prop := (∀ j, n ≤ j → j < w → p j = 0) ∧ (∀ j, j < n → p j < n) ∧ ∀ i j, i < n → j < n → p i = p j → i = j
noncomputable def permB (w n : Nat) (p : Nat → Int) : Bool := @decide (PermP w n p) (Classical.propDecidable _)
theorem permB_iff {w n : Nat} {p : Nat → Int} : permB w n p = true ↔ PermP w n p := by
  unfold permB; exact @decide_eq_true_iff _ (Classical.propDecidable _)
theorem permB_of {w n : Nat} {p : Nat → Int} {b : Bool} (h : b = true ↔ PermP w n p) : b = permB w n p := by
  cases b <;> cases hq : permB w n p <;> simp_all [permB_iff, ← permB_iff]

section order
variable {β : Type}
/-- The loop of the program that tests an order, for any width. -/
def ordS (w : Nat) (z : β) (n : Int) (h0 : Nat → Int) (seen : Int) (t10 : Int) (kn : Int → Int → β) (k0 : β) (k1 : Int → β) : β :=
  cond (decide (t10 < (w : Int))) (cond (decide (0 ≤ t10) && decide (t10 < (↑w : Int))) (cond (t10.toNat.blt w) (cond (decide (n ≤ t10)) (cond (h0 t10.toNat != 0) (k0) (cond (decide (n ≤ h0 t10.toNat)) (k0) (cond (decide (t10 < n)) (cond (decide (0 ≤ h0 t10.toNat) && decide (h0 t10.toNat < (↑64 : Int))) (cond (fits IntKind.i64 (shlI 1 (h0 t10.toNat))) (cond (fits IntKind.i64 (t10 + 1)) (kn (bitI BinOp.or IntKind.i64 seen (shlI 1 (h0 t10.toNat))) (t10 + 1)) (z)) (z)) (z)) (cond (fits IntKind.i64 (t10 + 1)) (kn seen (t10 + 1)) (z))))) (cond (decide (n ≤ h0 t10.toNat)) (k0) (cond (decide (t10 < n)) (cond (decide (0 ≤ h0 t10.toNat) && decide (h0 t10.toNat < (↑64 : Int))) (cond (fits IntKind.i64 (shlI 1 (h0 t10.toNat))) (cond (fits IntKind.i64 (t10 + 1)) (kn (bitI BinOp.or IntKind.i64 seen (shlI 1 (h0 t10.toNat))) (t10 + 1)) (z)) (z)) (z)) (cond (fits IntKind.i64 (t10 + 1)) (kn seen (t10 + 1)) (z))))) (z)) (z)) (k1 seen)
def ordL (w : Nat) (z : β) (n : Int) (h0 : Nat → Int) : Nat → Int → Int → β → (Int → β) → β
  | 0, _, _, _, _ => z
  | m + 1, seen, t10, k0, k1 => ordS w z n h0 seen t10 (fun seen t10 => ordL w z n h0 m seen t10 k0 k1) k0 k1

/-- A round of it. -/
def ordF (n : Nat) (p : Nat → Int) (i s : Nat) : Nat ⊕ Unit :=
  if n ≤ i then (if p i = 0 then .inl s else .inr ()) else if p i < n then .inl (s ||| 2 ^ (p i).toNat) else .inr ()
theorem ordL_val (w : Nat) (hw : w ≤ 64) (z : β) (n : Nat) (hn : 1 ≤ n) (hn8 : n ≤ 8) (p : Nat → Int) (hp : ∀ j, 0 ≤ p j) (k0 : β) (k1 : Int → β) {N : Nat} (hN : w < N) :
    ordL w z n p N 0 0 k0 k1 = orOut (fun s : Nat => k1 (s : Int)) (fun _ => k0) (iterE (ordF n p) w 0 0) := by
  refine up_to_E (L := fun m i (s : Nat) => ordL w z n p m (s : Int) (i : Int) k0 k1) (n := w) (out := fun s : Nat => k1 (s : Int)) (ex := fun _ => k0) (f := ordF n p) (I := fun _ s => s < 256) ?_ ?_ w N 0 0 (by omega) hN (by omega)
  · intro m i s hi hs
    have h0 := hp i
    simp only [ordL, ordS, c_and, Int.toNat_natCast]
    by_cases h1 : n ≤ i
    · by_cases h2 : p i = 0
      · left
        refine ⟨s, by unfold ordF; rw [if_pos h1, if_pos h2], ?_, hs⟩
        simp (disch := omega) only [c_lt, c_nlt, c_le, c_nle, c_blt, c_nne, c_fits]
        rfl
      · right
        refine ⟨(), by unfold ordF; rw [if_pos h1, if_neg h2], ?_⟩
        simp (disch := omega) only [c_lt, c_nlt, c_le, c_nle, c_blt, c_ne, c_fits]
    · by_cases h2 : p i < n
      · left
        have hs2 : s ||| 2 ^ (p i).toNat < 256 := Nat.or_lt_two_pow (n := 8) hs (Nat.pow_lt_pow_right (by omega) (by omega))
        refine ⟨s ||| 2 ^ (p i).toNat, by unfold ordF; rw [if_neg h1, if_pos h2], ?_, hs2⟩
        obtain ⟨v, hv⟩ : ∃ v : Nat, p i = (v : Int) := ⟨(p i).toNat, by omega⟩
        have hv8 : v < 8 := by omega
        have hpow : 2 ^ v < 256 := Nat.pow_lt_pow_right (n := 8) (by omega) hv8
        simp only [hv, Int.toNat_natCast, shlI_one] at *
        generalize 2 ^ v = q at *
        simp (disch := omega) only [c_lt, c_nlt, c_le, c_nle, c_blt, c_ne, c_fits]
        rw [bitI_or_nat (by omega) (by omega)]
        rfl
      · right
        refine ⟨(), by unfold ordF; rw [if_neg h1, if_neg h2], ?_⟩
        simp (disch := omega) only [c_lt, c_nlt, c_le, c_nle, c_blt, c_ne, c_fits]
  · intro m s _
    simp (disch := omega) only [ordL, ordS, c_nlt]

/-- Are the cells from some on in bounds? -/
def OkFrom (w n : Nat) (p : Nat → Int) (i : Nat) : Prop := ∀ j, i ≤ j → j < w → (n ≤ j → p j = 0) ∧ (j < n → p j < n)
theorem OkFrom.step {w n i : Nat} {p : Nat → Int} (hi : i < w) : OkFrom w n p i ↔ ((n ≤ i → p i = 0) ∧ (i < n → p i < n)) ∧ OkFrom w n p (i + 1) := by
  refine ⟨fun h => ⟨h i (by omega) hi, fun j h1 h2 => h j (by omega) h2⟩, fun ⟨h1, h2⟩ j h3 h4 => ?_⟩
  by_cases e : j = i
  · subst e; exact h1
  · exact h2 j (by omega) h4
theorem ordF_run {w n : Nat} {p : Nat → Int} : ∀ (d i s : Nat), i + d = w →
    (∃ s', iterE (ordF n p) d i s = .inl s' ∧ OkFrom w n p i ∧ ∀ r, s'.testBit r = true ↔ s.testBit r = true ∨ ∃ j, i ≤ j ∧ j < n ∧ j < w ∧ (p j).toNat = r) ∨ (iterE (ordF n p) d i s = .inr () ∧ ¬ OkFrom w n p i) := by
  intro d
  induction d with
  | zero =>
    intro i s hi
    left
    refine ⟨s, rfl, fun j h1 h2 => by omega, fun r => ⟨.inl, fun h => ?_⟩⟩
    rcases h with h | ⟨j, h1, _, h2, _⟩
    · exact h
    · omega
  | succ d ih =>
    intro i s hi
    rw [OkFrom.step (by omega)]
    have key : ∀ s', ordF n p i s = .inl s' → ((n ≤ i → p i = 0) ∧ (i < n → p i < n)) → (∀ r, s'.testBit r = true ↔ s.testBit r = true ∨ (i < n ∧ (p i).toNat = r)) →
        (∃ s', iterE (ordF n p) (d + 1) i s = .inl s' ∧ (((n ≤ i → p i = 0) ∧ (i < n → p i < n)) ∧ OkFrom w n p (i + 1)) ∧ ∀ r, s'.testBit r = true ↔ s.testBit r = true ∨ ∃ j, i ≤ j ∧ j < n ∧ j < w ∧ (p j).toNat = r) ∨
        (iterE (ordF n p) (d + 1) i s = .inr () ∧ ¬ (((n ≤ i → p i = 0) ∧ (i < n → p i < n)) ∧ OkFrom w n p (i + 1))) := by
      intro s' h1 h2 h3
      rcases ih (i + 1) s' (by omega) with ⟨s2, h4, h5, h6⟩ | ⟨h4, h5⟩
      · left
        refine ⟨s2, by rw [iterE, h1]; exact h4, ⟨h2, h5⟩, fun r => ?_⟩
        rw [h6, h3]
        constructor
        · rintro ((h | ⟨h, h'⟩) | ⟨j, g1, g2, g3, g4⟩)
          · exact .inl h
          · exact .inr ⟨i, by omega, h, by omega, h'⟩
          · exact .inr ⟨j, by omega, g2, g3, g4⟩
        · rintro (h | ⟨j, g1, g2, g3, g4⟩)
          · exact .inl (.inl h)
          · by_cases e : j = i
            · subst e; exact .inl (.inr ⟨g2, g4⟩)
            · exact .inr ⟨j, by omega, g2, g3, g4⟩
      · right
        exact ⟨by rw [iterE, h1]; exact h4, fun h => h5 h.2⟩
    by_cases h1 : n ≤ i
    · by_cases h2 : p i = 0
      · exact key s (by unfold ordF; rw [if_pos h1, if_pos h2]) ⟨fun _ => h2, fun h => by omega⟩ fun r => ⟨.inl, fun h => h.elim id fun h => by omega⟩
      · right
        refine ⟨?_, fun h => h2 (h.1.1 h1)⟩
        rw [iterE]
        have : ordF n p i s = .inr () := by unfold ordF; rw [if_pos h1, if_neg h2]
        rw [this]
    · by_cases h2 : p i < n
      · refine key (s ||| 2 ^ (p i).toNat) (by unfold ordF; rw [if_neg h1, if_pos h2]) ⟨fun h => by omega, fun _ => h2⟩ fun r => ?_
        rw [Nat.testBit_or, Nat.testBit_two_pow, Bool.or_eq_true, decide_eq_true_eq]
        exact ⟨fun h => h.imp id fun h => ⟨by omega, h⟩, fun h => h.imp id fun h => h.2⟩
      · right
        refine ⟨?_, fun h => h2 (h.1.2 (by omega))⟩
        rw [iterE]
        have : ordF n p i s = .inr () := by unfold ordF; rw [if_neg h1, if_neg h2]
        rw [this]

/-- The program's test of an order. -/
theorem ord_val (w : Nat) (hw : w ≤ 64) (z : β) (n : Nat) (hn : 1 ≤ n) (hn8 : n ≤ 8) (hnw : n ≤ w) (p : Nat → Int) (hp : ∀ j, 0 ≤ p j) (k : Bool → β) {N : Nat} (hN : w < N) :
    ordL w z n p N 0 0 (k false) (fun q5 => cond (decide (0 ≤ (n : Int)) && decide ((n : Int) < (↑64 : Int))) (cond (fits IntKind.i64 (shlI 1 n)) (cond (fits IntKind.i64 (shlI 1 n - 1)) (k (q5 == shlI 1 n - 1)) (z)) (z)) (z)) = k (permB w n p) := by
  rw [ordL_val w hw z n hn hn8 p hp _ _ hN]
  have hpow : 2 ^ n ≤ 256 := Nat.pow_le_pow_right (n := 2) (by omega) hn8
  have hpos : 0 < 2 ^ n := Nat.two_pow_pos n
  rcases ordF_run (w := w) (n := n) (p := p) w 0 0 (by omega) with ⟨s, h1, h2, h3⟩ | ⟨h1, h2⟩
  · rw [h1]
    simp only [orOut, shlI_one, c_and]
    simp (disch := omega) only [c_lt, c_le, c_fits]
    refine congrArg k (permB_of ?_)
    have hb : ∀ r, s.testBit r = true ↔ ∃ j, j < n ∧ (p j).toNat = r := fun r => by
      rw [h3]
      simp only [Nat.zero_testBit, Bool.false_eq_true, false_or]
      exact ⟨fun ⟨j, _, a, _, b⟩ => ⟨j, a, b⟩, fun ⟨j, a, b⟩ => ⟨j, by omega, a, by omega, b⟩⟩
    have hf : ∀ i, i < n → (p i).toNat < n := fun i hi => by have := (h2 i (by omega) (by omega)).2 hi; omega
    have e1 : ((s : Int) == ((2 ^ n : Nat) : Int) - 1) = true ↔ ∀ r, r < n → ∃ j, j < n ∧ (p j).toNat = r := by
      constructor
      · intro h r hr
        have : s = 2 ^ n - 1 := by simp only [beq_iff_eq] at h; omega
        rw [← hb, this, Nat.testBit_two_pow_sub_one]
        exact decide_eq_true hr
      · intro h
        have : s = 2 ^ n - 1 := by
          apply Nat.eq_of_testBit_eq
          intro r
          rw [Nat.testBit_two_pow_sub_one]
          by_cases hr : r < n
          · rw [decide_eq_true hr, hb]; exact h r hr
          · rw [decide_eq_false hr, ← Bool.not_eq_true, hb]
            rintro ⟨j, a, b⟩
            have := hf j a
            omega
        simp only [beq_iff_eq]
        omega
    rw [e1]
    constructor
    · intro h
      refine ⟨fun j a b => (h2 j (by omega) b).1 a, fun j a => (h2 j (by omega) (by omega)).2 a, fun i j a b e => inj_of_surj n (fun i => (p i).toNat) hf h i j a b (by rw [e])⟩
    · rintro ⟨_, _, h⟩
      exact surj_of_inj n (fun i => (p i).toNat) hf fun i j a b e => h i j a b (by have := hp i; have := hp j; omega)
  · rw [h1]
    simp only [orOut]
    refine congrArg k (permB_of ⟨fun h => (by cases h), fun h => absurd (fun j _ b => ⟨fun a => h.1 j a b, fun a => h.2.1 j a⟩) h2⟩)
end order
end Go.AM

namespace Go.AM
section perm
variable {β : Type}
/-- The loop of the reference that tests a permutation, for any width. -/
def permS (w : Nat) (z : β) (n : Int) (h0 : Nat → Int) (i : Int) (h1 : Nat → Bool) (kn : Int → (Nat → Bool) → β) (k0 : (Nat → Bool) → β) (k1 : (Nat → Bool) → β) : β :=
  cond (decide (i < (w : Int))) (cond (decide (n ≤ i)) (cond (decide (0 ≤ i) && decide (i < (↑w : Int))) (cond (i.toNat.blt w) (cond (h0 i.toNat != 0) (k0 h1) (cond (fits IntKind.i64 (i + 1)) (kn (i + 1) h1) (z))) (z)) (z)) (cond (decide (0 ≤ i) && decide (i < (↑w : Int))) (cond (i.toNat.blt w) (cond (decide (n ≤ h0 i.toNat)) (k0 h1) (cond (decide (0 ≤ i) && decide (i < (↑w : Int))) (cond (i.toNat.blt w) (cond (decide (0 ≤ h0 i.toNat) && decide (h0 i.toNat < (↑w : Int))) (cond ((h0 i.toNat).toNat.blt w) (cond (h1 (h0 i.toNat).toNat) (k0 h1) (cond (decide (0 ≤ i) && decide (i < (↑w : Int))) (cond (i.toNat.blt w) (cond (decide (0 ≤ h0 i.toNat) && decide (h0 i.toNat < (↑w : Int))) (cond ((h0 i.toNat).toNat.blt w) (cond (fits IntKind.i64 (i + 1)) (kn (i + 1) (upd h1 (h0 i.toNat).toNat true)) (z)) (z)) (z)) (z)) (z))) (z)) (z)) (z)) (z))) (z)) (z))) (k1 h1)
def permL (w : Nat) (z : β) (n : Int) (h0 : Nat → Int) : Nat → Int → (Nat → Bool) → ((Nat → Bool) → β) → ((Nat → Bool) → β) → β
  | 0, _, _, _, _ => z
  | m + 1, i, h1, k0, k1 => permS w z n h0 i h1 (fun i h1 => permL w z n h0 m i h1 k0 k1) k0 k1

/-- A round of it. -/
def permF (n : Nat) (p : Nat → Int) (i : Nat) (met : Nat → Bool) : (Nat → Bool) ⊕ Unit :=
  if n ≤ i then (if p i = 0 then .inl met else .inr ()) else if p i < n then (if met (p i).toNat = true then .inr () else .inl (upd met (p i).toNat true)) else .inr ()
theorem permL_val (w : Nat) (hw : w ≤ 64) (z : β) (n : Nat) (hnw : n ≤ w) (p : Nat → Int) (hp : ∀ j, 0 ≤ p j) (kf kt : β) {N : Nat} (hN : w < N) (met : Nat → Bool) :
    permL w z n p N 0 met (fun _ => kf) (fun _ => kt) = orOut (fun _ => kt) (fun _ => kf) (iterE (permF n p) w 0 met) := by
  refine up_to_E (L := fun m i (s : Nat → Bool) => permL w z n p m (i : Int) s (fun _ => kf) (fun _ => kt)) (n := w) (out := fun _ => kt) (ex := fun _ => kf) (f := permF n p) (I := fun _ _ => True) ?_ ?_ w N 0 met (by omega) hN trivial
  · intro m i s hi _
    have h0 := hp i
    simp only [permL, permS, c_and, Int.toNat_natCast]
    by_cases h1 : n ≤ i
    · by_cases h2 : p i = 0
      · left
        refine ⟨s, by unfold permF; rw [if_pos h1, if_pos h2], ?_, trivial⟩
        simp (disch := omega) only [c_lt, c_nlt, c_le, c_nle, c_blt, c_nne, c_fits]
        rfl
      · right
        refine ⟨(), by unfold permF; rw [if_pos h1, if_neg h2], ?_⟩
        simp (disch := omega) only [c_lt, c_nlt, c_le, c_nle, c_blt, c_ne, c_fits]
    · by_cases h2 : p i < n
      · cases h3 : s (p i).toNat with
        | true =>
          right
          refine ⟨(), by unfold permF; rw [if_neg h1, if_pos h2, if_pos h3], ?_⟩
          simp (disch := omega) only [c_lt, c_nlt, c_le, c_nle, c_blt, c_ne, c_fits, h3, c_true]
        | false =>
          left
          refine ⟨upd s (p i).toNat true, by unfold permF; rw [if_neg h1, if_pos h2, if_neg (by simp [h3])], ?_, trivial⟩
          simp (disch := omega) only [c_lt, c_nlt, c_le, c_nle, c_blt, c_ne, c_fits, h3, c_false]
          rfl
      · right
        refine ⟨(), by unfold permF; rw [if_neg h1, if_neg h2], ?_⟩
        simp (disch := omega) only [c_lt, c_nlt, c_le, c_nle, c_blt, c_ne, c_fits]
  · intro m s _
    simp (disch := omega) only [permL, permS, c_nlt]

/-- From some cell on: in bounds, not met before, and no two alike. -/
def FreeFrom (w n : Nat) (p : Nat → Int) (i : Nat) (met : Nat → Bool) : Prop :=
  OkFrom w n p i ∧ (∀ j, i ≤ j → j < n → j < w → met (p j).toNat = false) ∧ ∀ a b, i ≤ a → a < b → b < n → b < w → (p a).toNat ≠ (p b).toNat
theorem permF_run {w n : Nat} {p : Nat → Int} : ∀ (d i : Nat) (met : Nat → Bool), i + d = w →
    ((∃ m, iterE (permF n p) d i met = .inl m) ∧ FreeFrom w n p i met) ∨ (iterE (permF n p) d i met = .inr () ∧ ¬ FreeFrom w n p i met) := by
  intro d
  induction d with
  | zero =>
    intro i met hi
    left
    exact ⟨⟨met, rfl⟩, fun j h1 h2 => by omega, fun j h1 _ h2 => by omega, fun a b h1 h2 _ h3 => by omega⟩
  | succ d ih =>
    intro i met hi
    have bad : permF n p i met = .inr () → ¬ FreeFrom w n p i met → ((∃ m, iterE (permF n p) (d + 1) i met = .inl m) ∧ FreeFrom w n p i met) ∨ (iterE (permF n p) (d + 1) i met = .inr () ∧ ¬ FreeFrom w n p i met) := by
      intro h1 h2
      right
      exact ⟨by rw [iterE, h1], h2⟩
    have good : ∀ met', permF n p i met = .inl met' → (FreeFrom w n p i met ↔ FreeFrom w n p (i + 1) met') → ((∃ m, iterE (permF n p) (d + 1) i met = .inl m) ∧ FreeFrom w n p i met) ∨ (iterE (permF n p) (d + 1) i met = .inr () ∧ ¬ FreeFrom w n p i met) := by
      intro met' h1 h2
      rw [h2, iterE, h1]
      exact ih (i + 1) met' (by omega)
    by_cases h1 : n ≤ i
    · by_cases h2 : p i = 0
      · refine good met (by unfold permF; rw [if_pos h1, if_pos h2]) ?_
        unfold FreeFrom
        rw [OkFrom.step (by omega)]
        exact ⟨fun ⟨⟨_, a⟩, b, c⟩ => ⟨a, fun j g1 g2 g3 => b j (by omega) g2 g3, fun x y g1 g2 g3 g4 => c x y (by omega) g2 g3 g4⟩,
          fun ⟨a, b, c⟩ => ⟨⟨⟨fun _ => h2, fun h => by omega⟩, a⟩, fun j g1 g2 g3 => by omega, fun x y g1 g2 g3 g4 => by omega⟩⟩
      · exact bad (by unfold permF; rw [if_pos h1, if_neg h2]) fun h => h2 ((h.1 i (by omega) (by omega)).1 h1)
    · by_cases h2 : p i < n
      · cases h3 : met (p i).toNat with
        | true => exact bad (by unfold permF; rw [if_neg h1, if_pos h2, if_pos h3]) fun h => by have := h.2.1 i (by omega) (by omega) (by omega); rw [h3] at this; cases this
        | false =>
          refine good (upd met (p i).toNat true) (by unfold permF; rw [if_neg h1, if_pos h2, if_neg (by simp [h3])]) ?_
          unfold FreeFrom
          rw [OkFrom.step (by omega)]
          constructor
          · rintro ⟨⟨_, a⟩, b, c⟩
            refine ⟨a, fun j g1 g2 g3 => ?_, fun x y g1 g2 g3 g4 => c x y (by omega) g2 g3 g4⟩
            rw [upd_at, if_neg (fun e => c i j (by omega) (by omega) g2 g3 e.symm)]
            exact b j (by omega) g2 g3
          · rintro ⟨a, b, c⟩
            have b' : ∀ j, i + 1 ≤ j → j < n → j < w → (p j).toNat ≠ (p i).toNat ∧ met (p j).toNat = false := by
              intro j g1 g2 g3
              have := b j g1 g2 g3
              rw [upd_at] at this
              split at this
              · cases this
              · rename_i e; exact ⟨e, this⟩
            refine ⟨⟨⟨fun h => by omega, fun _ => h2⟩, a⟩, fun j g1 g2 g3 => ?_, fun x y g1 g2 g3 g4 => ?_⟩
            · by_cases e : j = i
              · subst e; exact h3
              · exact (b' j (by omega) g2 g3).2
            · by_cases e : x = i
              · subst e; exact fun e => (b' y (by omega) g3 g4).1 e.symm
              · exact c x y (by omega) g2 g3 g4
      · exact bad (by unfold permF; rw [if_neg h1, if_neg h2]) fun h => h2 ((h.1 i (by omega) (by omega)).2 (by omega))

/-- The reference's test of a permutation. -/
theorem perm_val (w : Nat) (hw : w ≤ 64) (z : β) (n : Nat) (hnw : n ≤ w) (p : Nat → Int) (hp : ∀ j, 0 ≤ p j) (k : Bool → β) {N : Nat} (hN : w < N) :
    permL w z n p N 0 (fun _ => false) (fun _ => k false) (fun _ => k true) = k (permB w n p) := by
  rw [permL_val w hw z n hnw p hp _ _ hN]
  rcases permF_run (w := w) (n := n) (p := p) w 0 (fun _ => false) (by omega) with ⟨⟨m, h1⟩, h2, _, h3⟩ | ⟨h1, h2⟩
  · rw [h1]
    refine congrArg k (permB_of ⟨fun _ => ⟨fun j a b => (h2 j (by omega) b).1 a, fun j a => (h2 j (by omega) (by omega)).2 a, fun i j a b e => ?_⟩, fun _ => rfl⟩)
    rcases Nat.lt_trichotomy i j with g | g | g
    · exact absurd (by rw [e]) (h3 i j (by omega) g b (by omega))
    · exact g
    · exact absurd (by rw [e]) (h3 j i (by omega) g a (by omega))
  · rw [h1]
    refine congrArg k (permB_of ⟨fun h => (by cases h), fun h => absurd ⟨fun j _ b => ⟨fun a => h.1 j a b, fun a => h.2.1 j a⟩, fun _ _ _ _ => rfl, fun a b _ g1 g2 _ e => ?_⟩ h2⟩)
    have := h.2.2 a b (by omega) g2 (by have := hp a; have := hp b; omega)
    omega
end perm
end Go.AM

namespace Go.AM
section
variable {β : Type}
theorem i_within_val (z : β) (N : Nat) (x lo hi : Int) (k : Bool → β) : i_within z N x lo hi k = k (decide (lo ≤ x ∧ x ≤ hi)) := by
  unfold i_within
  by_cases h : lo ≤ x
  · rw [c_le h]; congr 1; exact decide_eq_decide.2 ⟨fun h2 => ⟨h, h2⟩, fun h2 => h2.2⟩
  · rw [c_nle (by omega), decide_eq_false (fun h2 => h h2.1)]
theorem s_l01In_val (z : β) (N : Nat) (x lo hi : Int) (k : Bool → β) : s_l01In z N x lo hi k = k (decide (lo ≤ x ∧ x ≤ hi)) := by
  unfold s_l01In
  by_cases h : lo ≤ x
  · rw [c_le h]; congr 1; exact decide_eq_decide.2 ⟨fun h2 => ⟨h, h2⟩, fun h2 => h2.2⟩
  · rw [c_nle (by omega), decide_eq_false (fun h2 => h h2.1)]
end
end Go.AM

namespace Go.AM
section
variable {β : Type}
theorem isOrder_s2_ordL (z : β) (n a : Int) (h g : Nat → Int) : ∀ m s t k0 k1, i_isOrder_l0_s2 z n a h g m s t k0 k1 = ordL 8 z n h m s t k0 k1 := by
  intro m
  induction m with
  | zero => intros; rfl
  | succ m ih => intro s t k0 k1; simp only [i_isOrder_l0_s2, ordL, ih]; rfl
theorem isOrder_s3_ordL (z : β) (n a : Int) (h g : Nat → Int) : ∀ m s t k0 k1, i_isOrder_l0_s3 z n a h g m s t k0 k1 = ordL 8 z n g m s t k0 k1 := by
  intro m
  induction m with
  | zero => intros; rfl
  | succ m ih => intro s t k0 k1; simp only [i_isOrder_l0_s3, ordL, ih]; rfl
theorem l01Perm_permL (z : β) (n : Int) (h : Nat → Int) : ∀ m i s k0 k1, s_l01Perm_l0 z n h m i s k0 k1 = permL 8 z n h m i s k0 k1 := by
  intro m
  induction m with
  | zero => intros; rfl
  | succ m ih => intro s t k0 k1; simp only [s_l01Perm_l0, permL, ih]; rfl

theorem s_l01Perm_val (z : β) {N : Nat} (hN : 8 < N) {m : Nat} (hm : m ≤ 8) (X : Nat → Int) (hX : ∀ j, 0 ≤ X j) (k : Bool → β) : s_l01Perm z N X m k = k (permB 8 m X) := by
  unfold s_l01Perm
  rw [l01Perm_permL]
  exact perm_val 8 (by omega) z m hm X hX k hN
theorem i_isOrder_s2_val (z : β) {N : Nat} (hN : 8 < N) {m : Nat} (h1 : 1 ≤ m) (hm : m ≤ 8) (a : Int) (X O : Nat → Int) (hX : ∀ j, 0 ≤ X j) (k : Bool → β) : i_isOrder_s2 z N m a X O k = k (permB 8 m X) := by
  unfold i_isOrder_s2
  rw [isOrder_s2_ordL]
  exact ord_val 8 (by omega) z m h1 hm hm X hX k hN
theorem i_isOrder_s3_val (z : β) {N : Nat} (hN : 8 < N) {m : Nat} (h1 : 1 ≤ m) (hm : m ≤ 8) (a : Int) (X O : Nat → Int) (hO : ∀ j, 0 ≤ O j) (k : Bool → β) : i_isOrder_s3 z N m a X O k = k (permB 8 m O) := by
  unfold i_isOrder_s3
  rw [isOrder_s3_ordL]
  exact ord_val 8 (by omega) z m h1 hm hm O hO k hN

/-- No column with both marks in one cell. -/
def apartB (n : Nat) (X O : Nat → Int) : Bool := allFrom (fun i => !(X i == O i)) n 0
/-- Is it a grid? -/
noncomputable def gridB (n : Int) (X O : Nat → Int) : Bool := decide (2 ≤ n ∧ n ≤ 8) && (permB 8 n.toNat X && (permB 8 n.toNat O && apartB n.toNat X O))
/-- A grid: its size is between 2 and 8, both lists are permutations, no column with both marks in one cell. -/
structure GridP (n : Nat) (X O : Nat → Int) : Prop where
  lo : 2 ≤ n
  hi : n ≤ 8
  px : PermP 8 n X
  po : PermP 8 n O
  ne : ∀ i, i < n → X i ≠ O i
theorem gridB_iff {n : Int} {X O : Nat → Int} : gridB n X O = true ↔ ∃ m : Nat, n = m ∧ GridP m X O := by
  unfold gridB
  simp only [Bool.and_eq_true, decide_eq_true_eq, permB_iff, apartB, allFrom_iff]
  constructor
  · rintro ⟨⟨h1, h2⟩, h3, h4, h5⟩
    refine ⟨n.toNat, by omega, by omega, by omega, h3, h4, fun i hi => ?_⟩
    have := h5 i (by omega) (by omega)
    simpa using this
  · rintro ⟨m, rfl, g⟩
    have := g.lo
    have := g.hi
    refine ⟨by omega, g.px, g.po, fun j _ h => ?_⟩
    have := g.ne j (by simpa using h)
    simpa using this
theorem gridB_false {n : Int} {X O : Nat → Int} (h : ¬ (2 ≤ n ∧ n ≤ 8)) : gridB n X O = false := by unfold gridB; rw [decide_eq_false h]; rfl

theorem s_l01Is_val (z : β) {N : Nat} (hN : 8 < N) (n : Int) (X O : Nat → Int) (hX : ∀ j, 0 ≤ X j) (hO : ∀ j, 0 ≤ O j) (k : Bool → β) : s_l01Is z N n X O k = k (gridB n X O) := by
  unfold s_l01Is
  rw [s_l01In_val]
  by_cases h : 2 ≤ n ∧ n ≤ 8
  · obtain ⟨m, rfl⟩ : ∃ m : Nat, n = (m : Int) := ⟨n.toNat, by omega⟩
    simp only [decide_eq_true h, Bool.not_true, c_false]
    rw [s_l01Perm_val z hN (by omega) X hX]
    unfold gridB
    rw [decide_eq_true h, Int.toNat_natCast]
    cases permB 8 m X with
    | false => rfl
    | true =>
      simp only [Bool.not_true, c_false, Bool.true_and]
      rw [s_l01Perm_val z hN (by omega) O hO]
      cases permB 8 m O with
      | false => rfl
      | true =>
        simp only [Bool.not_true, c_false, Bool.true_and]
        have := up_to_all (L := fun j i => s_l01Is_l0 z m X O j (i : Int) (k false) (k true)) (n := m) (kt := k true) (kf := k false) (p := fun i => !(X i == O i))
          (fun j i hi => by
            simp only [s_l01Is_l0, s_l01Is_l0_s, c_and, Int.toNat_natCast]
            simp (disch := omega) only [c_lt, c_le, c_blt, c_fits, c_not]
            rfl)
          (fun j => by simp (disch := omega) only [s_l01Is_l0, s_l01Is_l0_s, c_nlt]) m N 0 (by omega) (by omega)
        refine this.trans ?_
        unfold apartB
        cases allFrom (fun i => !(X i == O i)) m 0 <;> rfl
  · simp only [decide_eq_false h, Bool.not_false, c_true]
    rw [gridB_false h]

theorem i_IsGrid_val (z : β) {N : Nat} (hN : 8 < N) (n : Int) (X O : Nat → Int) (hX : ∀ j, 0 ≤ X j) (hO : ∀ j, 0 ≤ O j) (k : Bool → β) : i_IsGrid z N n X O k = k (gridB n X O) := by
  unfold i_IsGrid
  rw [i_within_val]
  by_cases h : 2 ≤ n ∧ n ≤ 8
  · obtain ⟨m, rfl⟩ : ∃ m : Nat, n = (m : Int) := ⟨n.toNat, by omega⟩
    simp only [decide_eq_true h, Bool.not_true, c_false, i_Grid_n]
    rw [i_isOrder_s2_val z hN (by omega) (by omega) _ X O hX]
    unfold gridB
    rw [decide_eq_true h, Int.toNat_natCast]
    cases permB 8 m X with
    | false => rfl
    | true =>
      simp only [Bool.not_true, c_false, Bool.true_and]
      rw [i_isOrder_s3_val z hN (by omega) (by omega) _ X O hO]
      cases permB 8 m O with
      | false => rfl
      | true =>
        simp only [Bool.not_true, c_false, Bool.true_and]
        have := up_to_all (L := fun j i => i_IsGrid_l0 z m m X O j (i : Int) (k false) (k true)) (n := m) (kt := k true) (kf := k false) (p := fun i => !(X i == O i))
          (fun j i hi => by
            simp only [i_IsGrid_l0, i_IsGrid_l0_s, c_and, Int.toNat_natCast]
            simp (disch := omega) only [c_lt, c_le, c_blt, c_fits, c_not]
            rfl)
          (fun j => by simp (disch := omega) only [i_IsGrid_l0, i_IsGrid_l0_s, c_nlt]) m N 0 (by omega) (by omega)
        refine this.trans ?_
        unfold apartB
        cases allFrom (fun i => !(X i == O i)) m 0 <;> rfl
  · simp only [decide_eq_false h, Bool.not_false, c_true]
    rw [gridB_false h]
end
end Go.AM

namespace Go.AM
section
variable {β : Type}
end
end Go.AM

namespace Go.AM
section
variable {β : Type}
theorem tmod_pos {a b : Int} (ha : 0 ≤ a) : a.tmod b = a % b := Int.tmod_eq_emod_of_nonneg ha
theorem tmod_bnd {a b : Int} (hb : 0 < b) : -b < a.tmod b ∧ a.tmod b < b := by
  refine ⟨?_, Int.tmod_lt_of_pos a hb⟩
  have := Int.tmod_lt_of_pos (-a) hb
  rw [Int.neg_tmod] at this
  omega
/-- A number modulo another one, as the reference reckons it. -/
theorem tmod_twice (a : Int) {n : Int} (hn : 0 < n) : (a.tmod n + n).tmod n = a % n := by
  have h := tmod_bnd (a := a) hn
  rw [tmod_pos (by omega), Int.add_emod_right]
  have h1 : a.tmod n = a - n * a.tdiv n := by have := Int.mul_tdiv_add_tmod a n; omega
  rw [h1]
  have : a - n * a.tdiv n = a + n * (-(a.tdiv n)) := by rw [Int.mul_neg]; omega
  rw [this, Int.add_mul_emod_self_left]
theorem emod_bd (a : Int) {n : Int} (hn : 0 < n) : 0 ≤ a % n ∧ a % n < n := ⟨Int.emod_nonneg a (by omega), Int.emod_lt_of_pos a hn⟩

def rollF (n : Nat) (X O : Nat → Int) (v u : Int) (i : Nat) (h : (Nat → Int) × (Nat → Int)) : (Nat → Int) × (Nat → Int) :=
  (upd h.1 ((i + u) % (n : Int)).toNat (wrapU IntKind.u8 ((X i + v) % (n : Int))), upd h.2 ((i + u) % (n : Int)).toNat (wrapU IntKind.u8 ((O i + v) % (n : Int))))
def rollP (n : Nat) (X O : Nat → Int) (v u : Int) : (Nat → Int) × (Nat → Int) := iter (rollF n X O v u) n 0 (fun _ => 0, fun _ => 0)
theorem s_l01Rolled_val (z : β) {N : Nat} (hN : 8 < N) {n : Nat} {X O : Nat → Int} (h2 : 2 ≤ n) (h8 : n ≤ 8) (hX : ∀ j, 0 ≤ X j ∧ X j ≤ 255) (hO : ∀ j, 0 ≤ O j ∧ O j ≤ 255) {v u : Int} (hv : -1000 ≤ v ∧ v ≤ 1000) (hu : -1000 ≤ u ∧ u ≤ 1000) (k0 : (Nat → Int) → (Nat → Int) → β) :
    s_l01Rolled z N n X O v u k0 = k0 (rollP n X O v u).1 (rollP n X O v u).2 := by
  unfold s_l01Rolled
  refine up_to (L := fun m i (h : (Nat → Int) × (Nat → Int)) => s_l01Rolled_l0 z v u n n X O 0 (fun _ => 0) (fun _ => 0) n m (i : Int) h.1 h.2 k0) (n := n) (out := fun h => k0 h.1 h.2) (f := rollF n X O v u) (I := fun _ _ => True)
    (fun m i s hi _ => ⟨?_, trivial⟩) (fun m s _ => by simp (disch := omega) only [s_l01Rolled_l0, s_l01Rolled_l0_s, c_nlt]) n N 0 (fun _ => 0, fun _ => 0) (by omega) (by omega) trivial
  have h1 := hX i
  have h3 := hO i
  have hn : (0 : Int) < n := by omega
  have b1 := tmod_bnd (a := (i : Int) + u) hn
  have b2 := tmod_bnd (a := X i + v) hn
  have b3 := tmod_bnd (a := O i + v) hn
  have b4 := emod_bd ((i : Int) + u) hn
  simp only [s_l01Rolled_l0, s_l01Rolled_l0_s, c_and, c_not, Int.toNat_natCast, tmod_twice _ hn]
  simp (disch := omega) only [c_lt, c_le, c_blt, c_fits, c_neq]
  rfl
end
end Go.AM

namespace Go.AM
section
variable {β : Type}
/-! draws: whatever is drawn lies within bounds -/
theorem wrapD {x : Int} (h : 0 ≤ x ∧ x ≤ 255) : wrapU IntKind.u8 x = x := by
  show x % 256 = x
  omega
/-- The text that is drawn from. -/
structure Src (hn : Nat) (h : Nat → Int) (n l : Nat) : Prop where
  eq : n = hn
  le : l ≤ hn
  sm : l ≤ 4096
  b : ∀ j, j < hn → 0 ≤ h j ∧ h j ≤ 255
theorem and_bd (x : Int) : 0 ≤ bitI .and .u64 x 16777215 ∧ bitI .and .u64 x 16777215 ≤ 16777215 := by
  rw [bitI_eq]
  have e : bitJ .and .u64 x 16777215 = IntKind.wrap .u64 ((BitVec.ofInt 64 x &&& BitVec.ofInt 64 16777215).toNat : Int) := rfl
  have e2 : (BitVec.ofInt 64 16777215).toNat = 16777215 := by decide
  have h : (BitVec.ofInt 64 x &&& BitVec.ofInt 64 16777215).toNat ≤ 16777215 := by
    rw [BitVec.toNat_and, e2]
    exact Nat.and_le_right
  rw [e, wrap_fits]
  · omega
  · rw [fits_iff]
    show (0 : Int) ≤ _ ∧ _ ≤ (18446744073709551615 : Int)
    omega
theorem next_val (z : β) (N : Nat) {hn n l : Nat} {h : Nat → Int} (S : Src hn h n l) (c : Nat) (m : Int) {a : Int} (ha : 0 ≤ a) (b : Int) :
    ∃ v a' b' : Int, 0 ≤ a' ∧ (1 ≤ m → 0 ≤ v ∧ v < m) ∧ (m < 1 → v = 0) ∧ ∀ k, s_l01Next_s2 z N m hn h n l c a b k = k v a' b' := by
  have hq := S.eq
  have hl := S.le
  have hs := S.sm
  have hb := S.b
  by_cases hm : m < 1
  · exact ⟨0, a, b, ha, fun h => by omega, fun _ => rfl, fun k => by unfold s_l01Next_s2; rw [c_lt hm]⟩
  · obtain ⟨b', hb'⟩ : ∃ b', wrapU IntKind.u64 (wrapU IntKind.u64 (b * 6364136223846793005) + 1442695040888963407) = b' := ⟨_, rfl⟩
    obtain ⟨x, hxe⟩ : ∃ x, bitI BinOp.and IntKind.u64 (shrI b' 33) 16777215 = x := ⟨_, rfl⟩
    have hx := and_bd (shrI b' 33)
    rw [hxe] at hx
    by_cases e : a < l
    · have hc := hb a.toNat (by omega)
      refine ⟨(x + h a.toNat).tmod m, a + 1, b', by omega, fun _ => ⟨Int.tmod_nonneg _ (by omega), Int.tmod_lt_of_pos _ (by omega)⟩, fun h => absurd h hm, fun k => ?_⟩
      unfold s_l01Next_s2
      simp only [c_and, c_not, hb', hxe]
      simp (disch := omega) only [c_nlt, c_lt, c_le, c_ble, c_blt, c_beq, c_fits, c_neq]
    · refine ⟨x.tmod m, a, b', ha, fun _ => ⟨Int.tmod_nonneg _ (by omega), Int.tmod_lt_of_pos _ (by omega)⟩, fun h => absurd h hm, fun k => ?_⟩
      unfold s_l01Next_s2
      simp only [c_and, c_not, hb', hxe]
      simp (disch := omega) only [c_nlt, c_lt, c_le, c_ble, c_blt, c_beq, c_fits, c_neq]
theorem from_val (z : β) {N : Nat} (hN : 5000 < N) {hn n l : Nat} {h : Nat → Int} (S : Src hn h n l) (c : Nat) : ∃ b : Int, ∀ k, s_l01From z N n l c hn h k = k 0 b := by
  have hq := S.eq
  have hl := S.le
  have hs := S.sm
  refine ⟨iter (fun i b => wrapU IntKind.u64 (wrapU IntKind.u64 (wrapU IntKind.u64 (b * 1099511628211) + h i) + 43)) l 0 (wrapU IntKind.u64 (10711 + wrapU IntKind.u64 (↑l : Int))), fun k => ?_⟩
  · unfold s_l01From
    rw [c_ble (by omega)]
    exact up_to (L := fun m i b => s_l01From_l0 z n l c hn h n l c 0 m (i : Int) b fun q8 => k 0 q8) (n := l) (out := fun b => k 0 b) (f := fun i b => wrapU IntKind.u64 (wrapU IntKind.u64 (wrapU IntKind.u64 (b * 1099511628211) + h i) + 43)) (I := fun _ _ => True)
      (fun m i s hi _ => ⟨by
        rw [s_l01From_l0, s_l01From_l0_s]
        simp only [c_and, Int.toNat_natCast]
        simp (disch := omega) only [c_lt, c_le, c_ble, c_blt, c_beq, c_fits]
        rfl, trivial⟩)
      (fun m s _ => by
        rw [s_l01From_l0, s_l01From_l0_s]
        simp (disch := omega) only [c_ble, c_nlt]) l N 0 _ (by omega) (by omega) trivial
/-- Cells below a number, and none beyond it. -/
structure BndC (n : Nat) (f : Nat → Int) : Prop where
  b : ∀ j, j < n → 0 ≤ f j ∧ f j < n
  z : ∀ j, n ≤ j → f j = 0
theorem BndC.upd {n i : Nat} {f : Nat → Int} {v : Int} (h : BndC n f) (hi : i < n) (hv : 0 ≤ v ∧ v < n) : BndC n (upd f i v) :=
  ⟨fun j hj => by rw [upd_at]; split; exact hv; exact h.b j hj, fun j hj => by rw [upd_at, if_neg (by omega)]; exact h.z j hj⟩
theorem BndC.nn {n : Nat} {f : Nat → Int} (h : BndC n f) (j : Nat) : 0 ≤ f j := by
  rcases Nat.lt_or_ge j n with hj | hj
  · exact (h.b j hj).1
  · rw [h.z j hj]; exact Int.le_refl 0
theorem BndC.le {n : Nat} {f : Nat → Int} (h : BndC n f) (h8 : n ≤ 256) (j : Nat) : f j ≤ 255 := by
  rcases Nat.lt_or_ge j n with hj | hj
  · have := h.b j hj; omega
  · rw [h.z j hj]; omega
theorem BndC.zero (n : Nat) (h : 1 ≤ n) : BndC n fun _ => 0 := ⟨fun _ _ => by constructor <;> simp <;> omega, fun _ _ => rfl⟩
/-- A loop that comes to an end, whatever comes behind it. -/
theorem up_to_exD {σ κ : Type} {L : κ → Nat → Nat → σ → β} {n : Nat} {out : κ → σ → β} {I : Nat → σ → Prop}
    (hs : ∀ i s, i < n → I i s → ∃ s', (∀ k m, L k (m + 1) i s = L k m (i + 1) s') ∧ I (i + 1) s') (he : ∀ k m s, I n s → L k (m + 1) n s = out k s) :
    ∀ (d i : Nat) (s : σ), i + d = n → I i s → ∃ s', I n s' ∧ ∀ k m, d < m → L k m i s = out k s' := by
  intro d
  induction d with
  | zero =>
    intro i s hi h0
    have : i = n := by omega
    subst this
    refine ⟨s, h0, fun k m hm => ?_⟩
    obtain ⟨m, rfl⟩ : ∃ m', m = m' + 1 := ⟨m - 1, by omega⟩
    exact he k m s h0
  | succ d ih =>
    intro i s hi h0
    obtain ⟨s', h1, h2⟩ := hs i s (by omega) h0
    obtain ⟨s'', h3, h4⟩ := ih (i + 1) s' (by omega) h2
    refine ⟨s'', h3, fun k m hm => ?_⟩
    obtain ⟨m, rfl⟩ : ∃ m', m = m' + 1 := ⟨m - 1, by omega⟩
    rw [h1]
    exact h4 k m (by omega)
theorem mixed_l0 (z : β) {N n : Nat} (hN : 8 < N) (h1 : 1 ≤ n) (h8 : n ≤ 8) (hn : Nat) (h : Nat → Int) (n' l c : Nat) (a b : Int) (h2 : Nat → Int) :
    ∃ f, BndC n f ∧ ∀ k, s_l01Mixed_l0_s2 z n hn h n' l c a b h2 N 0 (fun (x : Nat) => 0) k = k f := by
  obtain ⟨f, i1, i2⟩ := up_to_exD (κ := (Nat → Int) → β) (L := fun k m i f => s_l01Mixed_l0_s2 z n hn h n' l c a b h2 m (i : Int) f k) (n := n) (out := fun k => k) (I := fun _ f => BndC n f)
    (fun i s hi hs => ⟨upd s i i, fun k m => by
      rw [s_l01Mixed_l0_s2, s_l01Mixed_l0_s2_s]
      simp only [c_and, Int.toNat_natCast]
      simp (disch := omega) only [c_lt, c_le, c_blt, c_fits]
      rw [wrapD (by omega)]
      rfl, hs.upd hi (by omega)⟩)
    (fun k m s _ => by rw [s_l01Mixed_l0_s2, s_l01Mixed_l0_s2_s, c_nlt (by omega)]) n 0 (fun _ => 0) (by omega) (BndC.zero n h1)
  exact ⟨f, i1, fun k => i2 k N (by omega)⟩
theorem mixed_l1 (z : β) {N : Nat} {hn n' l : Nat} {h : Nat → Int} (S : Src hn h n' l) (c : Nat) {n : Nat} (h8 : n ≤ 8) (h2 : Nat → Int) :
    ∀ (i : Nat), i < n → ∀ (f : Nat → Int) (a b : Int), BndC n f → 0 ≤ a → ∃ a' b' f', 0 ≤ a' ∧ BndC n f' ∧ ∀ k m, i < m → s_l01Mixed_l1_s2 z N hn h n' l c h2 m i a b f k = k a' b' f' := by
  intro i
  induction i with
  | zero =>
    intro hi f a b hf ha
    refine ⟨a, b, f, ha, hf, fun k m hm => ?_⟩
    obtain ⟨m, rfl⟩ : ∃ m', m = m' + 1 := ⟨m - 1, by omega⟩
    rw [s_l01Mixed_l1_s2, s_l01Mixed_l1_s2_s, c_nlt (by omega)]
  | succ i ih =>
    intro hi f a b hf ha
    obtain ⟨v, a1, b1, ha1, hv, _, e⟩ := next_val z N S c (((i + 1 : Nat) : Int) + 1) ha b
    have hv := hv (by omega)
    obtain ⟨q, rfl⟩ : ∃ q : Nat, v = q := ⟨v.toNat, by omega⟩
    obtain ⟨a', b', f', ha', hf', e'⟩ := ih (by omega) (upd (upd f (i + 1) (f q)) q (f (i + 1))) a1 b1 ((hf.upd hi (hf.b q (by omega))).upd (by omega) (hf.b (i + 1) hi)) ha1
    refine ⟨a', b', f', ha', hf', fun k m hm => ?_⟩
    obtain ⟨m, rfl⟩ : ∃ m', m = m' + 1 := ⟨m - 1, by omega⟩
    rw [s_l01Mixed_l1_s2, s_l01Mixed_l1_s2_s, c_lt (by omega), c_fits (by omega), e]
    simp only [c_and, Int.toNat_natCast]
    simp (disch := omega) only [c_lt, c_le, c_blt, c_fits]
    rw [show ((i + 1 : Nat) : Int) - 1 = i by omega]
    exact e' k m (by omega)
theorem mixed_val (z : β) {N : Nat} (hN : 100 < N) {hn n' l : Nat} {h : Nat → Int} (S : Src hn h n' l) (c : Nat) {n : Nat} (h1 : 1 ≤ n) (h8 : n ≤ 8) {a : Int} (ha : 0 ≤ a) (b : Int) :
    ∃ f a' b', BndC n f ∧ 0 ≤ a' ∧ ∀ k, s_l01Mixed_s2 z N n hn h n' l c a b k = k f a' b' := by
  obtain ⟨f0, i1, e1⟩ := mixed_l0 z (N := N) (by omega) h1 h8 hn h n' l c a b (fun (x : Nat) => 0)
  obtain ⟨a', b', f', ha', hf', e'⟩ := mixed_l1 z (N := N) S c h8 (fun (x : Nat) => 0) (n - 1) (by omega) f0 a b i1 ha
  refine ⟨f', a', b', hf', ha', fun k => ?_⟩
  unfold s_l01Mixed_s2
  rw [e1, c_fits (by omega), show ((n : Int) - 1) = ((n - 1 : Nat) : Int) by omega, e' _ N (by omega)]
theorem ds_l0 (z : β) {N n : Nat} (hN : 100 < N) (h2 : 2 ≤ n) (h8 : n ≤ 8) (hn : Nat) (h : Nat → Int) (n' l c : Nat) (a b y0 : Int) (y1 y2 x : Nat → Int) {f : Nat → Int} (hf : BndC n f) :
    ∃ f', BndC n f' ∧ ∀ k, s_l01DrawSize_l0_s2 z n hn h n' l c a b y0 y1 y2 x N 0 f k = k f' := by
  obtain ⟨f', i1, i2⟩ := up_to_exD (κ := (Nat → Int) → β) (L := fun k m i f => s_l01DrawSize_l0_s2 z n hn h n' l c a b y0 y1 y2 x m (i : Int) f k) (n := 3 * n) (out := fun k => k) (I := fun _ f => BndC n f)
    (fun i s hi hs => by
      have t1 : ((i : Int)).tmod n = ((i % n : Nat) : Int) := by rw [Int.tmod_eq_emod_of_nonneg (by omega)]; rfl
      have t2 : (((i % n : Nat) : Int) + 1).tmod n = (((i % n + 1) % n : Nat) : Int) := by rw [Int.tmod_eq_emod_of_nonneg (by omega)]; rfl
      have l1 : i % n < n := Nat.mod_lt _ (by omega)
      have l2 : (i % n + 1) % n < n := Nat.mod_lt _ (by omega)
      generalize i % n = p at *
      generalize hq : (p + 1) % n = q at *
      by_cases e : x p = s p
      · refine ⟨upd (upd s p (s q)) q (s p), fun k m => ?_, (hs.upd l1 (hs.b q l2)).upd l2 (hs.b p l1)⟩
        rw [s_l01DrawSize_l0_s2, s_l01DrawSize_l0_s2_s]
        simp only [c_and, c_not, t1, t2, Int.toNat_natCast]
        simp (disch := omega) only [c_lt, c_le, c_blt, c_fits, c_neq, c_eq]
        rfl
      · refine ⟨s, fun k m => ?_, hs⟩
        rw [s_l01DrawSize_l0_s2, s_l01DrawSize_l0_s2_s]
        simp only [c_and, c_not, t1, t2, Int.toNat_natCast]
        have e2 : cond (x p == s p) = fun (a b : β) => b := by funext a b; exact c_neq e
        simp (disch := omega) only [c_lt, c_le, c_blt, c_fits, e2]
        rw [c_neq (by omega)]
        rfl)
    (fun k m s _ => by rw [s_l01DrawSize_l0_s2, s_l01DrawSize_l0_s2_s, c_fits (by omega), c_nlt (by omega)]) (3 * n) 0 f (by omega) hf
  exact ⟨f', i1, fun k => i2 k N (by omega)⟩
theorem ds_l1 (z : β) {N n : Nat} (hN : 100 < N) (h2 : 2 ≤ n) (h8 : n ≤ 8) (hn : Nat) (h : Nat → Int) (n' l c : Nat) (a b y0 y5 : Int) (y1 y2 y4 y6 : Nat → Int) {x f : Nat → Int} (hx : BndC n x) (hf : BndC n f) :
    ∃ f', BndC n f' ∧ ∀ k, s_l01DrawSize_l1_s2 z n hn h n' l c a b y0 y1 y2 x y4 y5 y6 N 0 f k = k f' := by
  obtain ⟨f', i1, i2⟩ := up_to_exD (κ := (Nat → Int) → β) (L := fun k m i f => s_l01DrawSize_l1_s2 z n hn h n' l c a b y0 y1 y2 x y4 y5 y6 m (i : Int) f k) (n := n) (out := fun k => k) (I := fun _ f => BndC n f)
    (fun i s hi hs => by
      have hb := hx.b i hi
      have q1 : 0 ≤ (x i + 1).tmod n ∧ (x i + 1).tmod n < n := ⟨Int.tmod_nonneg _ (by omega), Int.tmod_lt_of_pos _ (by omega)⟩
      refine ⟨upd s i ((x i + 1).tmod n), fun k m => ?_, hs.upd hi q1⟩
      rw [s_l01DrawSize_l1_s2, s_l01DrawSize_l1_s2_s]
      simp only [c_and, c_not, Int.toNat_natCast, wrapD (show 0 ≤ (x i + 1).tmod n ∧ (x i + 1).tmod n ≤ 255 by omega)]
      simp (disch := omega) only [c_lt, c_le, c_blt, c_fits, c_neq]
      rfl)
    (fun k m s _ => by rw [s_l01DrawSize_l1_s2, s_l01DrawSize_l1_s2_s, c_nlt (by omega)]) n 0 f (by omega) hf
  exact ⟨f', i1, fun k => i2 k N (by omega)⟩
theorem size_val (z : β) {N : Nat} (hN : 100 < N) {hn n' l : Nat} {h : Nat → Int} (S : Src hn h n' l) (c : Nat) {n : Nat} (h2 : 2 ≤ n) (h8 : n ≤ 8) {a : Int} (ha : 0 ≤ a) (b : Int) :
    ∃ X O a' b', BndC n X ∧ BndC n O ∧ 0 ≤ a' ∧ ∀ k, s_l01DrawSize_s2 z N n hn h n' l c a b k = k X O a' b' := by
  obtain ⟨X, a1, b1, hX, ha1, e1⟩ := mixed_val z hN S c (by omega : 1 ≤ n) h8 ha b
  obtain ⟨O, a2, b2, hO, ha2, e2⟩ := mixed_val z hN S c (by omega : 1 ≤ n) h8 ha1 b1
  obtain ⟨O2, hO2, e3⟩ := ds_l0 z (N := N) hN h2 h8 hn h n' l c a2 b2 0 (fun (x : Nat) => 0) (fun (x : Nat) => 0) X hO
  cases hg : gridB n X O2 with
  | true =>
    refine ⟨X, O2, a2, b2, hX, hO2, ha2, fun k => ?_⟩
    unfold s_l01DrawSize_s2
    rw [e1, e2, e3, s_l01Is_val z (by omega) _ _ _ hX.nn hO2.nn, hg]
    rfl
  | false =>
    obtain ⟨O3, hO3, e4⟩ := ds_l1 z (N := N) hN h2 h8 hn h n' l c a2 b2 0 n (fun (x : Nat) => 0) (fun (x : Nat) => 0) O2 X hX hO2
    refine ⟨X, O3, a2, b2, hX, hO3, ha2, fun k => ?_⟩
    unfold s_l01DrawSize_s2
    rw [e1, e2, e3, s_l01Is_val z (by omega) _ _ _ hX.nn hO2.nn, hg, Bool.not_false, c_true, e4]
theorem pick3_val (z : β) (N : Nat) {hn n' l : Nat} {h : Nat → Int} (S : Src hn h n' l) (c : Nat) {a : Int} (ha : 0 ≤ a) (b : Int) {xs : List Int} (hx : xs.length = 3) :
    ∃ (i : Nat) (a' b' : Int), i < 3 ∧ 0 ≤ a' ∧ ∀ k, s_l01Pick_s3 z N hn h n' l c a b xs k = k (xs[i]?.getD 0) a' b' := by
  obtain ⟨v, a1, b1, ha1, hv, _, e⟩ := next_val z N S c 3 ha b
  have hv := hv (by omega)
  obtain ⟨q, rfl⟩ : ∃ q : Nat, v = q := ⟨v.toNat, by omega⟩
  refine ⟨q, a1, b1, by omega, ha1, fun k => ?_⟩
  unfold s_l01Pick_s3
  rw [e]
  simp only [c_and, Int.toNat_natCast, hx]
  simp (disch := omega) only [c_lt, c_le, c_blt, c_beq]
theorem pick5_val (z : β) (N : Nat) {hn n' l : Nat} {h : Nat → Int} (S : Src hn h n' l) (c : Nat) {a : Int} (ha : 0 ≤ a) (b : Int) {xs : List Int} (hx : xs.length = 5) :
    ∃ (i : Nat) (a' b' : Int), i < 5 ∧ 0 ≤ a' ∧ ∀ k, s_l01Pick_s4 z N hn h n' l c a b xs k = k (xs[i]?.getD 0) a' b' := by
  obtain ⟨v, a1, b1, ha1, hv, _, e⟩ := next_val z N S c 5 ha b
  have hv := hv (by omega)
  obtain ⟨q, rfl⟩ : ∃ q : Nat, v = q := ⟨v.toNat, by omega⟩
  refine ⟨q, a1, b1, by omega, ha1, fun k => ?_⟩
  unfold s_l01Pick_s4
  rw [e]
  simp only [c_and, Int.toNat_natCast, hx]
  simp (disch := omega) only [c_lt, c_le, c_blt, c_beq]
theorem draw_l0 (z : β) {N n : Nat} (hN : 100 < N) (h1 : 1 ≤ n) (h8 : n ≤ 8) {p : Int} (hp : 0 ≤ p ∧ p ≤ 8) (hn : Nat) (h : Nat → Int) (n' l c : Nat) (a b y0 y3 : Int) (y1 y2 : Nat → Int) :
    ∃ X O, BndC n X ∧ BndC n O ∧ ∀ k, s_l01Draw_l0_s2 z p n hn h n' l c a b y0 y1 y2 y3 N 0 (fun (x : Nat) => 0) (fun (x : Nat) => 0) k = k X O := by
  obtain ⟨s, ⟨i1, i2⟩, e⟩ := up_to_exD (κ := (Nat → Int) → (Nat → Int) → β) (L := fun k m i (s : (Nat → Int) × (Nat → Int)) => s_l01Draw_l0_s2 z p n hn h n' l c a b y0 y1 y2 y3 m (i : Int) s.1 s.2 k) (n := n) (out := fun k s => k s.1 s.2) (I := fun _ s => BndC n s.1 ∧ BndC n s.2)
    (fun i s hi ⟨h1, h2⟩ => by
      have q1 : 0 ≤ ((i : Int) + p).tmod n ∧ ((i : Int) + p).tmod n < n := ⟨Int.tmod_nonneg _ (by omega), Int.tmod_lt_of_pos _ (by omega)⟩
      refine ⟨(upd s.1 i i, upd s.2 i (((i : Int) + p).tmod n)), fun k m => ?_, h1.upd hi (by omega), h2.upd hi q1⟩
      rw [s_l01Draw_l0_s2, s_l01Draw_l0_s2_s]
      simp only [c_and, c_not, Int.toNat_natCast, wrapD (show 0 ≤ ((i : Int) + p).tmod n ∧ ((i : Int) + p).tmod n ≤ 255 by omega), wrapD (show 0 ≤ (i : Int) ∧ (i : Int) ≤ 255 by omega)]
      simp (disch := omega) only [c_lt, c_le, c_blt, c_fits, c_neq]
      rfl)
    (fun k m s _ => by rw [s_l01Draw_l0_s2, s_l01Draw_l0_s2_s, c_nlt (by omega)]) n 0 (fun _ => 0, fun _ => 0) (by omega) ⟨BndC.zero n h1, BndC.zero n h1⟩
  exact ⟨s.1, s.2, i1, i2, fun k => e k N (by omega)⟩
theorem roll_bnd {n : Nat} (h1 : 1 ≤ n) (X O : Nat → Int) (v u : Int) (h8 : n ≤ 8) : BndC n (rollP n X O v u).1 ∧ BndC n (rollP n X O v u).2 := by
  have := iter_inv (f := rollF n X O v u) (n := n) (I := fun _ s => BndC n s.1 ∧ BndC n s.2) (fun i s _ ⟨a, b⟩ => by
    have hn : (0 : Int) < n := by omega
    have e1 := emod_bd ((i : Int) + u) hn
    have e2 := emod_bd (X i + v) hn
    have e3 := emod_bd (O i + v) hn
    unfold rollF
    rw [wrapD (by omega), wrapD (by omega)]
    exact ⟨a.upd (by omega) e2, b.upd (by omega) e3⟩) n 0 (fun _ => 0, fun _ => 0) (by omega) ⟨BndC.zero n h1, BndC.zero n h1⟩
  exact this
/-- A grid is drawn: it has two to eight columns. -/
theorem draw_val (z : β) {N : Nat} (hN : 100 < N) {hn n' l : Nat} {h : Nat → Int} (S : Src hn h n' l) (c : Nat) {a : Int} (ha : 0 ≤ a) (b : Int) :
    ∃ (n : Nat) (X O : Nat → Int) (a' b' : Int), 2 ≤ n ∧ n ≤ 8 ∧ BndC n X ∧ BndC n O ∧ 0 ≤ a' ∧ ∀ k, s_l01Draw_s2 z N hn h n' l c a b k = k n X O a' b' := by
  obtain ⟨v, a1, b1, ha1, hv, _, e⟩ := next_val z N S c 6 ha b
  have hv := hv (by omega)
  by_cases v0 : v = 0
  · obtain ⟨p, a2, b2, ha2, hp, _, e2⟩ := next_val z N S c 3 ha1 b1
    have hp := hp (by omega)
    obtain ⟨u, a3, b3, ha3, hu, _, e3⟩ := next_val z N S c (5 - (1 + p)) ha2 b2
    have hu := hu (by omega)
    obtain ⟨n, hn'⟩ : ∃ n : Nat, 1 + p + 1 + u = n := ⟨(1 + p + 1 + u).toNat, by omega⟩
    obtain ⟨X, O, hX, hO, e4⟩ := draw_l0 z (N := N) hN (by omega : 1 ≤ n) (by omega) (p := 1 + p) (by omega) hn h n' l c a3 b3 0 n (fun (x : Nat) => 0) (fun (x : Nat) => 0)
    obtain ⟨v1, a4, b4, ha4, hv1, _, e5⟩ := next_val z N S c n ha3 b3
    have hv1 := hv1 (by omega)
    obtain ⟨v2, a5, b5, ha5, hv2, _, e6⟩ := next_val z N S c n ha4 b4
    have hv2 := hv2 (by omega)
    obtain ⟨r1, r2⟩ := roll_bnd (by omega : 1 ≤ n) X O v1 v2 (by omega)
    refine ⟨n, (rollP n X O v1 v2).1, (rollP n X O v1 v2).2, a5, b5, by omega, by omega, r1, r2, ha5, fun k => ?_⟩
    unfold s_l01Draw_s2
    rw [e, c_eq v0, e2, c_fits (by omega), c_fits (by omega), c_fits (by omega), e3, hn', c_fits (by omega), e4, e5, e6, s_l01Rolled_val z (by omega) (by omega) (by omega) (fun j => ⟨hX.nn j, hX.le (by omega) j⟩) (fun j => ⟨hO.nn j, hO.le (by omega) j⟩) (by omega) (by omega)]
  · have size : ∀ (n : Nat) (a b : Int), 2 ≤ n → n ≤ 8 → 0 ≤ a → ∃ X O a' b', BndC n X ∧ BndC n O ∧ 0 ≤ a' ∧ ∀ k : Int → (Nat → Int) → (Nat → Int) → Int → Int → β, s_l01DrawSize_s2 z N n hn h n' l c a b (fun q16 q17 q18 q19 => k n q16 q17 q18 q19) = k n X O a' b' := fun n a b h2 h8 ha => by
      obtain ⟨X, O, a', b', h1, h2, h3, h4⟩ := size_val z hN S c h2 h8 ha b
      exact ⟨X, O, a', b', h1, h2, h3, fun k => h4 _⟩
    by_cases v1 : v = 1
    · obtain ⟨i, a2, b2, hi, ha2, e2⟩ := pick3_val z N S c ha1 b1 (xs := (((List.replicate 3 (0 : Int)).set 0 6).set 1 7).set 2 8) rfl
      obtain ⟨n, hn', h2, h8⟩ : ∃ n : Nat, ((((List.replicate 3 (0 : Int)).set 0 6).set 1 7).set 2 8)[i]?.getD 0 = n ∧ 2 ≤ n ∧ n ≤ 8 := by
        have : i = 0 ∨ i = 1 ∨ i = 2 := by omega
        rcases this with rfl | rfl | rfl
        · exact ⟨6, rfl, by omega, by omega⟩
        · exact ⟨7, rfl, by omega, by omega⟩
        · exact ⟨8, rfl, by omega, by omega⟩
      obtain ⟨X, O, a3, b3, hX, hO, ha3, e3⟩ := size n a2 b2 h2 h8 ha2
      refine ⟨n, X, O, a3, b3, h2, h8, hX, hO, ha3, fun k => ?_⟩
      unfold s_l01Draw_s2
      rw [e, c_neq v0, c_eq v1, e2, hn', e3]
    · obtain ⟨i, a2, b2, hi, ha2, e2⟩ := pick5_val z N S c ha1 b1 (xs := (((((List.replicate 5 (0 : Int)).set 0 2).set 1 3).set 2 4).set 3 5).set 4 5) rfl
      obtain ⟨n, hn', h2, h8⟩ : ∃ n : Nat, ((((((List.replicate 5 (0 : Int)).set 0 2).set 1 3).set 2 4).set 3 5).set 4 5)[i]?.getD 0 = n ∧ 2 ≤ n ∧ n ≤ 8 := by
        have : i = 0 ∨ i = 1 ∨ i = 2 ∨ i = 3 ∨ i = 4 := by omega
        rcases this with rfl | rfl | rfl | rfl | rfl
        · exact ⟨2, rfl, by omega, by omega⟩
        · exact ⟨3, rfl, by omega, by omega⟩
        · exact ⟨4, rfl, by omega, by omega⟩
        · exact ⟨5, rfl, by omega, by omega⟩
        · exact ⟨5, rfl, by omega, by omega⟩
      obtain ⟨X, O, a3, b3, hX, hO, ha3, e3⟩ := size n a2 b2 h2 h8 ha2
      refine ⟨n, X, O, a3, b3, h2, h8, hX, hO, ha3, fun k => ?_⟩
      unfold s_l01Draw_s2
      rw [e, c_neq v0, c_neq v1, e2, hn', e3]
/-- Cells that are bytes, and none beyond the eighth. -/
structure Byt (f : Nat → Int) : Prop where
  b : ∀ j, 0 ≤ f j ∧ f j ≤ 255
  z : ∀ j, 8 ≤ j → f j = 0
theorem BndC.byt {n : Nat} {f : Nat → Int} (h : BndC n f) (h8 : n ≤ 8) : Byt f := ⟨fun j => ⟨h.nn j, h.le (by omega) j⟩, fun j hj => h.z j (by omega)⟩
/-- A grid that is spoiled, or not. -/
theorem broken_val (z : β) (N : Nat) {hn n' l : Nat} {h : Nat → Int} (S : Src hn h n' l) (c : Nat) {n : Nat} (hn8 : n ≤ 8) {X O : Nat → Int} (hX : Byt X) (hO : Byt O) {a : Int} (ha : 0 ≤ a) (b : Int) :
    ∃ (m : Int) (Y P : Nat → Int) (a' b' : Int), (-1 ≤ m ∧ m ≤ 9) ∧ Byt Y ∧ Byt P ∧ 0 ≤ a' ∧ ∀ k, s_l01Broken_s2 z N n X O hn h n' l c a b k = k m Y P a' b' := by
  obtain ⟨v, a1, b1, ha1, hv, _, e⟩ := next_val z N S c 40 ha b
  by_cases v0 : v = 0
  · obtain ⟨i, a2, b2, hi, ha2, e2⟩ := pick5_val z N S c ha1 b1 (xs := (((((List.replicate 5 (0 : Int)).set 0 0).set 1 1).set 2 9).set 3 (-1)).set 4 ((n : Int) - 1)) rfl
    refine ⟨((((((List.replicate 5 (0 : Int)).set 0 0).set 1 1).set 2 9).set 3 (-1)).set 4 ((n : Int) - 1))[i]?.getD 0, X, O, a2, b2, ?_, hX, hO, ha2, fun k => ?_⟩
    rotate_left 1
    · unfold s_l01Broken_s2
      rw [e, c_eq v0, c_fits (by omega), e2]
    · have : i = 0 ∨ i = 1 ∨ i = 2 ∨ i = 3 ∨ i = 4 := by omega
      rcases this with rfl | rfl | rfl | rfl | rfl
      · show (-1 : Int) ≤ 0 ∧ (0 : Int) ≤ 9; omega
      · show (-1 : Int) ≤ 1 ∧ (1 : Int) ≤ 9; omega
      · show (-1 : Int) ≤ 9 ∧ (9 : Int) ≤ 9; omega
      · show (-1 : Int) ≤ -1 ∧ (-1 : Int) ≤ 9; omega
      · show (-1 : Int) ≤ (n : Int) - 1 ∧ (n : Int) - 1 ≤ 9; omega
  · by_cases v1 : v = 1
    · obtain ⟨q, a2, b2, ha2, hq, _, e2⟩ := next_val z N S c 8 ha1 b1
      have hq := hq (by omega)
      obtain ⟨w, a3, b3, ha3, hw, _, e3⟩ := next_val z N S c 9 ha2 b2
      have hw := hw (by omega)
      refine ⟨n, X, upd O q.toNat w, a3, b3, by omega, hX, ⟨fun j => ?_, fun j hj => ?_⟩, ha3, fun k => ?_⟩
      · rw [upd_at]; split
        · omega
        · exact hO.b j
      · rw [upd_at, if_neg (by omega)]; exact hO.z j hj
      · unfold s_l01Broken_s2
        rw [e, c_neq v0, c_eq v1, e2, e3]
        simp only [c_and, wrapD (show 0 ≤ w ∧ w ≤ 255 by omega)]
        simp (disch := omega) only [c_lt, c_le, c_blt]
    · by_cases v2 : v = 2
      · exact ⟨n, O, O, a1, b1, by omega, hO, hO, ha1, fun k => by unfold s_l01Broken_s2; rw [e, c_neq v0, c_neq v1, c_eq v2]⟩
      · exact ⟨n, X, O, a1, b1, by omega, hX, hO, ha1, fun k => by unfold s_l01Broken_s2; rw [e, c_neq v0, c_neq v1, c_neq v2]⟩
end
end Go.AM

namespace Go.AM
section
variable {β : Type}
theorem spoil1_val (z : β) {N : Nat} (hN : 100 < N) {hn n' l : Nat} {h : Nat → Int} (S : Src hn h n' l) (c : Nat) {a : Int} (ha : 0 ≤ a) (b : Int) :
    ∃ (m : Int) (X O : Nat → Int) (a' b' : Int), (-1 ≤ m ∧ m ≤ 9) ∧ Byt X ∧ Byt O ∧ 0 ≤ a' ∧ ∀ k, s_l01Spoil z N hn h n' l c a b k = k m X O a' b' := by
  obtain ⟨n, X, O, a1, b1, h2, h8, hX, hO, ha1, e1⟩ := draw_val z hN S c ha b
  obtain ⟨m, Y, P, a', b', g1, g2, g3, g4, g5⟩ := broken_val z N S c h8 (hX.byt h8) (hO.byt h8) ha1 b1
  refine ⟨m, Y, P, a', b', g1, g2, g3, g4, fun k => ?_⟩
  unfold s_l01Spoil
  rw [e1, g5]
end
end Go.AM

namespace Go.AM
section
variable {β : Type}
theorem perm_surj {n : Nat} {X : Nat → Int} (h : PermP 8 n X) (hX : ∀ j, 0 ≤ X j) {r : Nat} (hr : r < n) : ∃ i, i < n ∧ X i = r := by
  obtain ⟨i, h1, h2⟩ := surj_of_inj n (fun i => (X i).toNat) (fun i hi => by have := h.2.1 i hi; have := hX i; omega) (fun i j hi hj e => h.2.2 i j hi hj (by have := hX i; have := hX j; omega)) r hr
  exact ⟨i, h1, by have := hX i; omega⟩
/-- The column of a row. -/
noncomputable def rowOf (n : Nat) (X : Nat → Int) (r : Nat) : Nat := @dite _ (∃ i, i < n ∧ X i = r) (Classical.propDecidable _) (fun h => Classical.choose h) (fun _ => 0)
theorem rowOf_spec {n : Nat} {X : Nat → Int} (h : PermP 8 n X) (hX : ∀ j, 0 ≤ X j) {r : Nat} (hr : r < n) : rowOf n X r < n ∧ X (rowOf n X r) = r := by
  have hx := perm_surj h hX hr
  unfold rowOf
  rw [dif_pos hx]
  exact Classical.choose_spec hx
theorem rowOf_eq {n : Nat} {X : Nat → Int} (h : PermP 8 n X) (hX : ∀ j, 0 ≤ X j) {r i : Nat} (hi : i < n) (hr : X i = r) : rowOf n X r = i := by
  have := h.2.1 i hi
  have h2 := rowOf_spec h hX (r := r) (by omega)
  exact h.2.2 _ _ h2.1 hi (by omega)
theorem s_l01Row_val (z : β) {N : Nat} (hN : 8 < N) {n : Nat} (h8 : n ≤ 8) {X : Nat → Int} (h : PermP 8 n X) (hX : ∀ j, 0 ≤ X j) {r : Nat} (hr : r < n) (k : Int → β) : s_l01Row z N X n r k = k (rowOf n X r) := by
  unfold s_l01Row
  obtain ⟨h1, h2⟩ := rowOf_spec h hX hr
  have key : ∀ (d i m : Nat), i + d = rowOf n X r → d < m → s_l01Row_l0 z n r X m (i : Int) k (k 0) = k (rowOf n X r) := by
    intro d
    induction d with
    | zero =>
      intro i m hi hm
      obtain ⟨m, rfl⟩ : ∃ m', m = m' + 1 := ⟨m - 1, by omega⟩
      have e : i = rowOf n X r := by omega
      subst e
      simp only [s_l01Row_l0, s_l01Row_l0_s, c_and, Int.toNat_natCast]
      simp (disch := omega) only [c_lt, c_le, c_blt, c_eq]
    | succ d ih =>
      intro i m hi hm
      obtain ⟨m, rfl⟩ : ∃ m', m = m' + 1 := ⟨m - 1, by omega⟩
      have hne : X i ≠ (r : Int) := fun e => by have := rowOf_eq h hX (by omega) e; omega
      simp only [s_l01Row_l0, s_l01Row_l0_s, c_and, Int.toNat_natCast]
      simp (disch := omega) only [c_lt, c_le, c_blt, c_neq, c_fits]
      exact ih (i + 1) m (by omega) (by omega)
  exact key (rowOf n X r) 0 N (by omega) (by omega)
/-- The columns of all rows. -/
def plc (n : Nat) (X : Nat → Int) : Nat → Int := iter (fun i h => upd h (X i).toNat (i : Int)) n 0 (fun _ => 0)
theorem plc_spec {n : Nat} {X : Nat → Int} (h : PermP 8 n X) (hX : ∀ j, 0 ≤ X j) {r : Nat} (hr : r < n) : plc n X r = rowOf n X r := by
  have := iter_inv (f := fun i (h : Nat → Int) => upd h (X i).toNat (i : Int)) (I := fun i h => ∀ j, j < i → h (X j).toNat = j) (n := n)
    (fun i s hi hs j hj => by
      simp only [upd_at]
      by_cases e : (X j).toNat = (X i).toNat
      · rw [if_pos e]
        have := h.2.2 j i (by omega) hi (by have := hX i; have := hX j; omega)
        omega
      · rw [if_neg e]
        exact hs j (by by_cases e2 : j = i; (· subst e2; exact absurd rfl e); omega)) n 0 (fun _ => 0) (by omega) (fun j hj => by omega)
  rw [Nat.zero_add] at this
  obtain ⟨h1, h2⟩ := rowOf_spec h hX hr
  have h3 := this _ h1
  rw [h2, Int.toNat_natCast] at h3
  exact h3
theorem i_Grid_places_val (z : β) {N : Nat} (hN : 8 < N) {n : Nat} (h8 : n ≤ 8) {Y : Nat → Int} (h : PermP 8 n Y) (hY : ∀ j, 0 ≤ Y j) (X O : Nat → Int) (k : (Nat → Int) → β) : i_Grid_places z N n X O Y k = k (plc n Y) := by
  unfold i_Grid_places i_Grid_n
  refine up_to (L := fun m i h => i_Grid_places_l0 z n n X O Y (fun _ => 0) m (i : Int) h k) (n := n) (out := k) (f := fun i h => upd h (Y i).toNat (i : Int)) (I := fun _ _ => True)
    (fun m i s hi _ => ⟨?_, trivial⟩) (fun m s _ => by simp (disch := omega) only [i_Grid_places_l0, i_Grid_places_l0_s, c_nlt]) n N 0 (fun _ => 0) (by omega) (by omega) trivial
  have h1 := hY i
  have h3 := h.2.1 i hi
  simp only [i_Grid_places_l0, i_Grid_places_l0_s, c_and, Int.toNat_natCast]
  simp (disch := omega) only [c_lt, c_le, c_blt, c_fits]
  rfl
end
end Go.AM

namespace Go.AM
section
variable {β : Type}
/-- Is it a grid and a state of it? -/
noncomputable def stateB (n : Int) (X O x : Nat → Int) : Bool := gridB n X O && permB 8 n.toNat x
theorem isOrder_s4_ordL (z : β) (n : Int) (h : Nat → Int) : ∀ m s t k0 k1, i_isOrder_l0_s4 z n h m s t k0 k1 = ordL 8 z n h m s t k0 k1 := by
  intro m
  induction m with
  | zero => intros; rfl
  | succ m ih => intro s t k0 k1; simp only [i_isOrder_l0_s4, ordL, ih]; rfl
theorem i_IsState_val (z : β) {N : Nat} (hN : 8 < N) (n : Int) (X O x : Nat → Int) (hX : ∀ j, 0 ≤ X j) (hO : ∀ j, 0 ≤ O j) (hx : ∀ j, 0 ≤ x j) (k : Bool → β) : i_IsState z N n X O x k = k (stateB n X O x) := by
  unfold i_IsState stateB i_Grid_isState
  rw [i_IsGrid_val z hN _ _ _ hX hO]
  cases hg : gridB n X O with
  | false => rfl
  | true =>
    obtain ⟨m, rfl, g⟩ := gridB_iff.1 hg
    have hlo := g.lo
    simp only [c_true, i_Grid_n, Bool.true_and, Int.toNat_natCast]
    unfold i_isOrder_s4
    rw [isOrder_s4_ordL]
    exact ord_val 8 (by omega) z m (by omega) g.hi g.hi x hx k hN

/-- One pair counted. -/
def belF (p q : Nat → Int) (a b : Int) (i k : Nat) (c : Int) : Int := if 2 * (i : Int) + a < 2 * k + b ∧ 2 * p i + a < 2 * q k + b then c + 1 else c
def belR (n : Nat) (p q : Nat → Int) (a b : Int) (i : Nat) (c : Int) : Int := iter (belF p q a b i) n 0 c
/-- How many pairs there are. -/
def bel (n : Nat) (p q : Nat → Int) (a b : Int) : Int := iter (belR n p q a b) n 0 0
theorem belR_bd {n : Nat} {p q : Nat → Int} {a b : Int} {i : Nat} {c : Int} {m : Int} (hc : 0 ≤ c ∧ c ≤ m) : 0 ≤ belR n p q a b i c ∧ belR n p q a b i c ≤ m + n := by
  have := iter_inv (f := belF p q a b i) (I := fun k c => 0 ≤ c ∧ c ≤ m + k) (n := n) (fun k s _ h => by unfold belF; split <;> omega) n 0 c (by omega) (by omega)
  unfold belR
  simpa using this
theorem bel_bd (n : Nat) (h8 : n ≤ 8) (p q : Nat → Int) (a b : Int) : 0 ≤ bel n p q a b ∧ bel n p q a b ≤ 64 := by
  have := iter_inv (f := belR n p q a b) (I := fun i c => 0 ≤ c ∧ c ≤ 8 * (i : Int)) (n := n) (fun k s _ h => by
    have := belR_bd (n := n) (p := p) (q := q) (a := a) (b := b) (i := k) h
    omega) n 0 0 (by omega) (by omega)
  unfold bel
  simp only [Nat.zero_add] at this
  omega
def halfI (b : Bool) : Int := cond b 1 0
theorem pairs_1 (z : β) (N : Nat) {k : Int} (hk : 0 ≤ k ∧ k ≤ 1000) (b : Bool) (k0 : Int → β) : i_pairsBelow_1 z N k b k0 = k0 (2 * k + halfI b) := by
  unfold i_pairsBelow_1 halfI
  cases b
  · simp (disch := omega) only [c_fits, c_false, Int.add_zero]
  · simp (disch := omega) only [c_fits, c_true]
theorem i_pairsBelow_val (z : β) {N : Nat} (hN : 8 < N) {n : Nat} (h8 : n ≤ 8) {p q : Nat → Int} (hp : ∀ j, 0 ≤ p j ∧ p j ≤ 255) (hq : ∀ j, 0 ≤ q j ∧ q j ≤ 255) (a b : Bool) (k0 : Int → β) :
    i_pairsBelow z N n p a q b k0 = k0 (bel n p q (halfI a) (halfI b)) := by
  unfold i_pairsBelow
  refine up_to (L := fun m i c => i_pairsBelow_l0 z N n a b n p q m c (i : Int) k0) (n := n) (out := k0) (f := belR n p q (halfI a) (halfI b)) (I := fun i c => 0 ≤ c ∧ c ≤ 8 * (i : Int))
    (fun m i s hi hs => ⟨?_, ?_⟩) (fun m s _ => by simp (disch := omega) only [i_pairsBelow_l0, i_pairsBelow_l0_s, c_nlt]) n N 0 0 (by omega) (by omega) (by omega)
  · have inner : ∀ kk : Int → β, i_pairsBelow_l1 z N n a b i n i n p q N s 0 kk = kk (belR n p q (halfI a) (halfI b) i s) := by
      intro kk
      refine up_to (L := fun m k c => i_pairsBelow_l1 z N n a b i n i n p q m c (k : Int) kk) (n := n) (out := kk) (f := belF p q (halfI a) (halfI b) i) (I := fun k c => 0 ≤ c ∧ c ≤ 8 * (i : Int) + k)
        (fun m k c hk hc => ⟨?_, ?_⟩) (fun m c _ => by simp (disch := omega) only [i_pairsBelow_l1, i_pairsBelow_l1_s, c_nlt]) n N 0 s (by omega) (by omega) (by omega)
      · have h1 := hp i
        have h2 := hq k
        simp only [i_pairsBelow_l1, i_pairsBelow_l1_s, c_and, Int.toNat_natCast, belF, pairs_1 z N (k := (i : Int)) (by omega), pairs_1 z N (k := (k : Int)) (by omega), pairs_1 z N (k := p i) (by omega), pairs_1 z N (k := q k) (by omega)]
        by_cases e1 : 2 * (i : Int) + halfI a < 2 * k + halfI b
        · by_cases e2 : 2 * p i + halfI a < 2 * q k + halfI b
          · rw [if_pos ⟨e1, e2⟩]
            simp (disch := omega) only [c_lt, c_le, c_blt, c_fits]
            rfl
          · rw [if_neg (fun h => e2 h.2)]
            simp (disch := omega) only [c_lt, c_nlt, c_le, c_blt, c_fits]
            rfl
        · rw [if_neg (fun h => e1 h.1)]
          simp (disch := omega) only [c_lt, c_nlt, c_le, c_blt, c_fits]
          rfl
      · unfold belF; split <;> omega
    simp only [i_pairsBelow_l0, i_pairsBelow_l0_s, inner]
    simp (disch := omega) only [c_lt, c_fits]
    rfl
  · have := belR_bd (n := n) (p := p) (q := q) (a := halfI a) (b := halfI b) (i := i) hs
    omega
/-- The Maslov grading. -/
def maslov (n : Nat) (x m : Nat → Int) : Int := bel n x x 0 0 - bel n x m 0 1 - bel n m x 1 0 + bel n m m 1 1 + 1
theorem i_Grid_maslov_val (z : β) {N : Nat} (hN : 8 < N) {n : Nat} (h8 : n ≤ 8) (X O : Nat → Int) {x m : Nat → Int} (hp : ∀ j, 0 ≤ x j ∧ x j ≤ 255) (hq : ∀ j, 0 ≤ m j ∧ m j ≤ 255) (k0 : Int → β) :
    i_Grid_maslov z N n X O x m k0 = k0 (maslov n x m) := by
  unfold i_Grid_maslov maslov
  have := bel_bd n h8 x x 0 0
  have := bel_bd n h8 x m 0 1
  have := bel_bd n h8 m x 1 0
  have := bel_bd n h8 m m 1 1
  simp only [i_Grid_n, i_pairsBelow_val z hN h8 hp hp, i_pairsBelow_val z hN h8 hp hq, i_pairsBelow_val z hN h8 hq hp, i_pairsBelow_val z hN h8 hq hq, halfI, c_true, c_false]
  simp (disch := omega) only [c_fits]
end
end Go.AM

namespace Go.AM
section
variable {β : Type}
/-- How far a point of a column lies above a row, around the grid. -/
def upm (n : Nat) (p : Nat → Int) (left : Nat) (b : Int) (k : Nat) : Int := (p (((left : Int) + k) % n).toNat - b + n) % n
def cntF (n : Nat) (p : Nat → Int) (left : Nat) (b h : Int) (k : Nat) (c : Int) : Int := if upm n p left b k < h then c + 1 else c
/-- How many points lie in a rectangle. -/
def cntM (n : Nat) (p : Nat → Int) (left : Nat) (b h : Int) (w : Nat) : Int := iter (cntF n p left b h) w 0 0
/-- A rectangle, as six numbers. -/
def rectL (n : Nat) (X O x : Nat → Int) (left w : Nat) : List Int :=
  [(left : Int), x left, (w : Int), upm n x left (x left) w, cntM n X left (x left) (upm n x left (x left) w) w, cntM n O left (x left) (upm n x left (x left) w) w]
end
end Go.AM

namespace Go.AM
section
variable {β : Type}
/-- Rectangles as one list of numbers. -/
def recs (n : Nat) (X O x : Nat → Int) (ps : List (Nat × Nat)) : List Int := ps.flatMap fun p => rectL n X O x p.1 p.2
end
end Go.AM

namespace Go.AM
section
variable {β : Type}
theorem s_l01Row_int (z : β) {N : Nat} (hN : 8 < N) {n : Nat} (h8 : n ≤ 8) {X : Nat → Int} (h : PermP 8 n X) (hX : ∀ j, 0 ≤ X j) {r : Int} (h0 : 0 ≤ r) (hr : r < n) (k : Int → β) : s_l01Row z N X n r k = k (rowOf n X r.toNat) := by
  have := s_l01Row_val z hN h8 h hX (r := r.toNat) (by omega) k
  rwa [Int.toNat_of_nonneg h0] at this
/-- The kind of a mark as a corner. -/
def kindI (i r o c : Int) : Int := if o < r then (if c < i then 3 else 2) else if c < i then 1 else 0
theorem i_kind_val (z : β) (N : Nat) (i r o c : Int) (k : Int → β) : i_kind z N i r o c k = k (kindI i r o c) := by
  unfold i_kind kindI
  by_cases h1 : o < r <;> by_cases h2 : c < i <;> simp [h1, h2]
theorem kindI_bd (i r o c : Int) : 0 ≤ kindI i r o c ∧ kindI i r o c ≤ 3 := by unfold kindI; split <;> split <;> omega
theorem grid_other {n : Nat} {X O : Nat → Int} (g : GridP n X O) (hO : ∀ j, 0 ≤ O j) (hX : ∀ j, 0 ≤ X j) {i : Nat} (hi : i < n) : rowOf n O (X i).toNat ≠ i := by
  intro e
  have h1 := g.px.2.1 i hi
  have h2 := hX i
  have := (rowOf_spec g.po hO (r := (X i).toNat) (by omega)).2
  rw [e] at this
  exact g.ne i hi (by omega)
theorem GridP.swap {n : Nat} {X O : Nat → Int} (g : GridP n X O) : GridP n O X := ⟨g.lo, g.hi, g.po, g.px, fun i hi => (g.ne i hi).symm⟩
theorem s_l07Kind_val (z : β) {N : Nat} (hN : 8 < N) {n : Nat} {X O : Nat → Int} (g : GridP n X O) (hX : ∀ j, 0 ≤ X j) (hO : ∀ j, 0 ≤ O j) {i : Nat} (hi : i < n) (k : Int → β) :
    s_l07Kind z N n X O i (X i) true k = k (kindI i (X i) (O i) (rowOf n O (X i).toNat)) ∧ s_l07Kind z N n X O i (O i) false k = k (kindI i (O i) (X i) (rowOf n X (O i).toNat)) := by
  have h8 := g.hi
  have x1 := g.px.2.1 i hi
  have x2 := hX i
  have o1 := g.po.2.1 i hi
  have o2 := hO i
  have ne := g.ne i hi
  have r1 := grid_other g hO hX hi
  have r2 := grid_other g.swap hX hO hi
  have s1 := (rowOf_spec g.px hX (r := (X i).toNat) (by omega)).2
  constructor
  · unfold s_l07Kind
    simp only [c_and, Int.toNat_natCast, Bool.not_true, c_false, s_l01Row_int z hN h8 g.po hO x2 x1]
    simp (disch := omega) only [c_lt, c_le, c_blt]
    unfold kindI
    simp only [c_dec]
    have q1 : X i < O i ↔ ¬ O i < X i := by omega
    have q2 : (i : Int) < rowOf n O (X i).toNat ↔ ¬ ((rowOf n O (X i).toNat : Nat) : Int) < i := by omega
    simp only [q1, q2]
    by_cases h1 : O i < X i <;> by_cases h2 : ((rowOf n O (X i).toNat : Nat) : Int) < i <;> simp [h1, h2]
  · unfold s_l07Kind
    simp only [c_and, Int.toNat_natCast, Bool.not_false, c_true, s_l01Row_int z hN h8 g.po hO o2 o1, s_l01Row_int z hN h8 g.px hX o2 o1]
    simp (disch := omega) only [c_lt, c_le, c_blt]
    unfold kindI
    simp only [c_dec]
    have q1 : O i < X i ↔ ¬ X i < O i := by omega
    have q2 : (i : Int) < rowOf n X (O i).toNat ↔ ¬ ((rowOf n X (O i).toNat : Nat) : Int) < i := by omega
    simp only [q1, q2]
    by_cases h1 : X i < O i <;> by_cases h2 : ((rowOf n X (O i).toNat : Nat) : Int) < i <;> simp [h1, h2]
/-- The corners of a column's two marks, each as four numbers. -/
noncomputable def cornerL (n : Nat) (X O : Nat → Int) (i : Nat) : List Int :=
  [(i : Int), X i, kindI i (X i) (O i) (rowOf n O (X i).toNat), 1, (i : Int), O i, kindI i (O i) (X i) (rowOf n X (O i).toNat), 0]
theorem cornerL_len (n : Nat) (X O : Nat → Int) (i : Nat) : (cornerL n X O i).length = 8 := rfl
noncomputable def cornersL (n : Nat) (X O : Nat → Int) : List Int := iter (fun i l => l ++ cornerL n X O i) n 0 []
theorem cornersL_len (n : Nat) (X O : Nat → Int) : (cornersL n X O).length = 8 * n := by
  have := iter_inv (f := fun i l => l ++ cornerL n X O i) (I := fun i (l : List Int) => l.length = 8 * i) (n := n) (fun i s _ h => by rw [List.length_append, cornerL_len]; omega) n 0 [] (by omega) rfl
  rwa [Nat.zero_add] at this
theorem s_l07Corners_val (z : β) {N : Nat} (hN : 8 < N) {n : Nat} {X O : Nat → Int} (g : GridP n X O) (hX : ∀ j, 0 ≤ X j) (hO : ∀ j, 0 ≤ O j) (k : Nat → Nat → Nat → List Int → β) :
    s_l07Corners z N n X O k = k (8 * n) (2 * n) (2 * n) (cornersL n X O) := by
  unfold s_l07Corners
  have h8 := g.hi
  refine (up_to (L := fun m i (l : List Int) => s_l07Corners_l0 z N n X O m (8 * i) (2 * i) (2 * i) (i : Int) l k) (n := n) (out := fun l => k (8 * n) (2 * n) (2 * n) l)
    (f := fun i l => l ++ cornerL n X O i) (I := fun i l => l.length = 8 * i)
    (fun m i l hi hl => ⟨?_, by rw [List.length_append, cornerL_len]; omega⟩) (fun m s _ => by simp (disch := omega) only [s_l07Corners_l0, s_l07Corners_l0_s, c_nlt]) n N 0 [] (by omega) (by omega) rfl)
  obtain ⟨k1, k2⟩ : (∀ k, s_l07Kind z N n X O i (X i) true k = k (kindI i (X i) (O i) (rowOf n O (X i).toNat))) ∧ ∀ k, s_l07Kind z N n X O i (O i) false k = k (kindI i (O i) (X i) (rowOf n X (O i).toNat)) := ⟨fun k => (s_l07Kind_val z hN g hX hO hi k).1, fun k => (s_l07Kind_val z hN g hX hO hi k).2⟩
  simp only [s_l07Corners_l0, s_l07Corners_l0_s, c_and, c_true, Int.toNat_natCast, k1, k2]
  simp (disch := omega) only [c_lt, c_le, c_blt, c_fits, c_beq, c_ble, c_nble]
  refine (show _ = s_l07Corners_l0 z N n X O m (l ++ cornerL n X O i).length (2 * i + 2) (2 * i + 2) ((i : Int) + 1) (l ++ cornerL n X O i) k from rfl).trans ?_
  rw [List.length_append, cornerL_len, hl]
  rfl
theorem i_Grid_corners_val (z : β) {N : Nat} (hN : 8 < N) {n : Nat} {X O : Nat → Int} (g : GridP n X O) (hX : ∀ j, 0 ≤ X j) (hO : ∀ j, 0 ≤ O j) (k : Nat → Nat → Nat → List Int → β) :
    i_Grid_corners z N n X O k = k (8 * n) (2 * n) (2 * n) (cornersL n X O) := by
  unfold i_Grid_corners i_Grid_n
  have h8 := g.hi
  rw [i_Grid_places_val z hN h8 g.px hX, i_Grid_places_val z hN h8 g.po hO]
  refine (up_to (L := fun m i (l : List Int) => i_Grid_corners_l0 z N n n X O (plc n X) (plc n O) m (8 * i) (2 * i) (2 * i) (i : Int) l k) (n := n) (out := fun l => k (8 * n) (2 * n) (2 * n) l)
    (f := fun i l => l ++ cornerL n X O i) (I := fun i l => l.length = 8 * i)
    (fun m i l hi hl => ⟨?_, by rw [List.length_append, cornerL_len]; omega⟩) (fun m s _ => by simp (disch := omega) only [i_Grid_corners_l0, i_Grid_corners_l0_s, c_nlt]) n N 0 [] (by omega) (by omega) rfl)
  have x1 := g.px.2.1 i hi
  have x2 := hX i
  have o1 := g.po.2.1 i hi
  have o2 := hO i
  have p1 := plc_spec g.po hO (r := (X i).toNat) (by omega)
  have p2 := plc_spec g.px hX (r := (O i).toNat) (by omega)
  simp only [i_Grid_corners_l0, i_Grid_corners_l0_s, c_and, c_true, Int.toNat_natCast, i_kind_val, p1, p2]
  simp (disch := omega) only [c_lt, c_le, c_blt, c_fits, c_beq, c_ble, c_nble]
  have e : ∀ a b c d : Int, fromTo [a, b, c, d] 0 4 = [a, b, c, d] := fun _ _ _ _ => rfl
  have e2 : ∀ a b c d : Int, (l ++ [a, b, c, d]).length = 8 * i + 4 := fun _ _ _ _ => by rw [List.length_append, hl]; rfl
  simp only [e, c_false, e2]
  rw [c_beq (by omega), c_beq (by omega), List.append_assoc, List.length_append, hl]
  rfl
end
end Go.AM

namespace Go.AM
section
variable {β : Type}
/-- A walk that sets cells until it comes to one that is set. -/
def walkH (nxt : Nat → Nat) (c : Int) : Nat → Nat → (Nat → Int) → Nat → Int
  | 0, _, h => h
  | d + 1, k, h => if h k < 0 then walkH nxt c d (nxt k) (upd h k c) else h
/-- How many cells are not set. -/
def cntU (n : Nat) (h : Nat → Int) : Nat := (List.range n).countP fun j => decide (h j < 0)
theorem cntU_le (n : Nat) (h : Nat → Int) : cntU n h ≤ n := by
  have := List.countP_le_length (p := fun j => decide (h j < 0)) (l := List.range n)
  simpa [cntU] using this
theorem cntU_zero {n : Nat} {h : Nat → Int} (e : cntU n h = 0) {k : Nat} (hk : k < n) : 0 ≤ h k := by
  unfold cntU at e
  rw [List.countP_eq_zero] at e
  have := e k (by simpa using hk)
  simpa using this
theorem cntU_upd {n : Nat} {h : Nat → Int} {k : Nat} (hk : k < n) (hu : h k < 0) {c : Int} (hc : 0 ≤ c) : cntU n (upd h k c) + 1 ≤ cntU n h := by
  unfold cntU
  have key : ∀ (l : List Nat), k ∈ l → (l.countP fun j => decide (upd h k c j < 0)) + 1 ≤ l.countP fun j => decide (h j < 0) := by
    intro l
    have hle : ∀ l : List Nat, (l.countP fun j => decide (upd h k c j < 0)) ≤ l.countP fun j => decide (h j < 0) := fun l =>
      List.countP_mono_left fun j _ hj => by
        rw [decide_eq_true_eq, upd_at] at hj
        split at hj
        · omega
        · simpa using hj
    induction l with
    | nil => intro h; simp at h
    | cons x xs ih =>
      intro hm
      rw [List.countP_cons, List.countP_cons]
      by_cases e : x = k
      · subst e
        have := hle xs
        rw [decide_eq_false (show ¬ upd h x c x < 0 by rw [upd_at, if_pos rfl]; omega), decide_eq_true hu]
        simp
        exact this
      · have := ih (by simpa [Ne.symm e] using hm)
        rw [show upd h k c x = h x by rw [upd_at, if_neg e]]
        omega
  exact key _ (by simpa using hk)
/-- A loop that walks. -/
theorem walk_loop {L : Nat → Nat → (Nat → Int) → β} {out : (Nat → Int) → β} {n : Nat} {nxt : Nat → Nat} {c : Int} (hc : 0 ≤ c) (hn : ∀ k, k < n → nxt k < n) {I : (Nat → Int) → Prop}
    (hI : ∀ k h, k < n → I h → h k < 0 → I (upd h k c))
    (h1 : ∀ m k h, k < n → I h → h k < 0 → L (m + 1) k h = L m (nxt k) (upd h k c)) (h2 : ∀ m k h, k < n → I h → 0 ≤ h k → L (m + 1) k h = out h) :
    ∀ (d m k : Nat) (h : Nat → Int), cntU n h ≤ d → d < m → k < n → I h → L m k h = out (walkH nxt c d k h) := by
  intro d
  induction d with
  | zero =>
    intro m k h hd hm hk hi
    obtain ⟨m, rfl⟩ : ∃ m', m = m' + 1 := ⟨m - 1, by omega⟩
    exact h2 m k h hk hi (cntU_zero (by omega) hk)
  | succ d ih =>
    intro m k h hd hm hk hi
    obtain ⟨m, rfl⟩ : ∃ m', m = m' + 1 := ⟨m - 1, by omega⟩
    simp only [walkH]
    by_cases hu : h k < 0
    · rw [if_pos hu, h1 m k h hk hi hu]
      have := cntU_upd hk hu hc
      exact ih m (nxt k) _ (by omega) (by omega) (hn k hk) (hI k h hk hi hu)
    · rw [if_neg hu]
      exact h2 m k h hk hi (by omega)
theorem walkH_val (nxt : Nat → Nat) (c : Int) : ∀ (d k : Nat) (h : Nat → Int) (j : Nat), walkH nxt c d k h j = h j ∨ (h j < 0 ∧ walkH nxt c d k h j = c) := by
  intro d
  induction d with
  | zero => exact fun k h j => .inl rfl
  | succ d ih =>
    intro k h j
    simp only [walkH]
    split
    · rename_i hu
      rcases ih (nxt k) (upd h k c) j with e | ⟨e1, e2⟩
      · rw [e, upd_at]
        split
        · rename_i hj; subst hj; exact .inr ⟨hu, rfl⟩
        · exact .inl rfl
      · rw [upd_at] at e1
        split at e1
        · rename_i hj; subst hj; exact .inr ⟨hu, e2⟩
        · exact .inr ⟨e1, e2⟩
    · exact .inl rfl
theorem walkH_start (nxt : Nat → Nat) {c : Int} (hc : 0 ≤ c) (d k : Nat) (h : Nat → Int) : 0 ≤ walkH nxt c (d + 1) k h k := by
  simp only [walkH]
  split
  · rcases walkH_val nxt c d (nxt k) (upd h k c) k with e | ⟨_, e⟩
    · rw [e, upd_at, if_pos rfl]; exact hc
    · rw [e]; exact hc
  · omega
theorem walkH_lt {nxt : Nat → Nat} {c : Int} {n : Nat} (hn : ∀ k, k < n → nxt k < n) : ∀ (d k : Nat) (h : Nat → Int), k < n → ∀ j, n ≤ j → walkH nxt c d k h j = h j := by
  intro d
  induction d with
  | zero => exact fun k h _ j _ => rfl
  | succ d ih =>
    intro k h hk j hj
    simp only [walkH]
    split
    · rw [ih _ _ (hn k hk) j hj, upd_at, if_neg (by omega)]
    · rfl
/-- The numbers of the components of all columns, and how many there are. -/
def compF (nxt : Nat → Nat) (n i : Nat) (s : (Nat → Int) × Int) : (Nat → Int) × Int := if s.1 i < 0 then (walkH nxt s.2 n i s.1, s.2 + 1) else s
def compS (nxt : Nat → Nat) (n : Nat) : (Nat → Int) × Int := iter (compF nxt n) n 0 ((fun j => if j < 8 then -1 else 0), 0)
structure CompI (n i : Nat) (s : (Nat → Int) × Int) : Prop where
  nn : 0 ≤ s.2
  le : s.2 ≤ i
  set : ∀ j, j < i → 0 ≤ s.1 j
  bd : ∀ j, j < 8 → -1 ≤ s.1 j ∧ s.1 j < s.2 ∨ s.1 j = -1
  rest : ∀ j, n ≤ j → j < 8 → s.1 j = -1
theorem compF_step {nxt : Nat → Nat} {n i : Nat} (hn : ∀ k, k < n → nxt k < n) (hi : i < n) {s : (Nat → Int) × Int} (h : CompI n i s) : CompI n (i + 1) (compF nxt n i s) := by
  unfold compF
  obtain ⟨n', rfl⟩ : ∃ n', n = n' + 1 := ⟨n - 1, by omega⟩
  split
  · rename_i hu
    refine ⟨by have := h.nn; simp only; omega, by have := h.le; simp only; omega, fun j hj => ?_, fun j hj => ?_, fun j h1 h2 => ?_⟩
    · simp only
      by_cases e : j = i
      · subst e; exact walkH_start nxt h.nn n' j s.1
      · rcases walkH_val nxt s.2 (n' + 1) i s.1 j with e2 | ⟨_, e2⟩
        · rw [e2]; exact h.set j (by omega)
        · rw [e2]; exact h.nn
    · simp only
      have h1 := h.bd j hj
      have h2 := h.nn
      rcases walkH_val nxt s.2 (n' + 1) i s.1 j with e2 | ⟨_, e2⟩
      · rw [e2]; omega
      · rw [e2]; omega
    · simp only
      rw [walkH_lt hn _ _ _ hi j h1]
      exact h.rest j h1 h2
  · rename_i hu
    refine ⟨h.nn, by have := h.le; omega, fun j hj => ?_, h.bd, h.rest⟩
    by_cases e : j = i
    · subst e; omega
    · exact h.set j (by omega)
theorem compS_inv {nxt : Nat → Nat} {n : Nat} (hn : ∀ k, k < n → nxt k < n) : CompI n n (compS nxt n) := by
  have := iter_inv (f := compF nxt n) (I := fun i s => CompI n i s) (n := n) (fun i s hi h => compF_step hn hi h) n 0 ((fun j => if j < 8 then -1 else 0), 0) (by omega)
    ⟨Int.le_refl _, Int.le_refl _, fun j hj => by omega, fun j hj => by simp [hj], fun j _ hj => by simp [hj]⟩
  rwa [Nat.zero_add] at this
/-- The column behind a column. -/
noncomputable def nxtC (n : Nat) (X O : Nat → Int) (i : Nat) : Nat := rowOf n X (O i).toNat
theorem nxtC_lt {n : Nat} {X O : Nat → Int} (g : GridP n X O) (hX : ∀ j, 0 ≤ X j) (hO : ∀ j, 0 ≤ O j) : ∀ k, k < n → nxtC n X O k < n := fun k hk => by
  have o1 := g.po.2.1 k hk
  have o2 := hO k
  exact (rowOf_spec g.px hX (by omega)).1
theorem s_l01Follow_val (z : β) {N : Nat} (hN : 8 < N) {n : Nat} {X O : Nat → Int} (g : GridP n X O) (hX : ∀ j, 0 ≤ X j) (hO : ∀ j, 0 ≤ O j) {i : Nat} (hi : i < n) (k : Int → β) : s_l01Follow z N n X O i k = k (nxtC n X O i) := by
  have h8 := g.hi
  have o1 := g.po.2.1 i hi
  have o2 := hO i
  unfold s_l01Follow
  simp only [c_and, Int.toNat_natCast, s_l01Row_int z hN h8 g.px hX o2 o1]
  simp (disch := omega) only [c_lt, c_le, c_blt]
  rfl
theorem s_l01Components_val (z : β) {N : Nat} (hN : 8 < N) {n : Nat} {X O : Nat → Int} (g : GridP n X O) (hX : ∀ j, 0 ≤ X j) (hO : ∀ j, 0 ≤ O j) (k : (Nat → Int) → Int → β) :
    s_l01Components z N n X O k = k (compS (nxtC n X O) n).1 (compS (nxtC n X O) n).2 := by
  have h8 := g.hi
  unfold s_l01Components
  have first : ∀ kk : (Nat → Int) → β, s_l01Components_l0 z n X O (fun _ => 0) N 0 (fun _ => 0) kk = kk (fun j => if j < 8 then -1 else 0) := by
    intro kk
    refine (up_to (L := fun m i h => s_l01Components_l0 z n X O (fun _ => 0) m (i : Int) h kk) (n := 8) (out := kk) (f := fun i h => upd h i (-1)) (I := fun _ _ => True)
      (fun m i s hi _ => ⟨by
        simp only [s_l01Components_l0, s_l01Components_l0_s, c_and, Int.toNat_natCast]
        simp (disch := omega) only [c_lt, c_le, c_blt, c_fits]
        rfl, trivial⟩)
      (fun m s _ => by simp (disch := omega) only [s_l01Components_l0, s_l01Components_l0_s, c_nlt]) 8 N 0 (fun _ => 0) rfl hN trivial).trans ?_
    rw [iter_set (fun _ => (-1 : Int))]
    congr 1
    funext j
    simp
  rw [first]
  refine up_to (L := fun m i s => s_l01Components_l1 z N n X O (fun _ => 0) m s.2 (i : Int) s.1 fun q7 q8 => k q8 q7) (n := n) (out := fun s => k s.1 s.2) (f := compF (nxtC n X O) n) (I := CompI n)
    (fun m i s hi hI => ⟨?_, compF_step (nxtC_lt g hX hO) hi hI⟩) (fun m s _ => by simp (disch := omega) only [s_l01Components_l1, s_l01Components_l1_s, c_nlt]) n N 0 ((fun j => if j < 8 then -1 else 0), 0) (by omega) (by omega)
    ⟨Int.le_refl _, Int.le_refl _, fun j hj => by omega, fun j hj => by simp [hj], fun j _ hj => by simp [hj]⟩
  have h1 := hI.nn
  have h2 := hI.le
  have walk : ∀ kk : (Nat → Int) → β, s_l01Components_l2 z N s.2 i n X O (fun _ => 0) N (i : Int) s.1 kk = kk (walkH (nxtC n X O) s.2 n i s.1) := by
    intro kk
    refine walk_loop (L := fun m k h => s_l01Components_l2 z N s.2 i n X O (fun _ => 0) m (k : Int) h kk) (out := kk) (n := n) (nxt := nxtC n X O) (c := s.2) h1 (nxtC_lt g hX hO) (I := fun _ => True) (fun _ _ _ _ _ => trivial)
      (fun m k h hk _ hu => ?_) (fun m k h hk _ hu => ?_) n N i s.1 (cntU_le _ _) (by omega) hi trivial
    · simp only [s_l01Components_l2, s_l01Components_l2_s, c_and, Int.toNat_natCast, s_l01Follow_val z hN g hX hO hk]
      simp (disch := omega) only [c_lt, c_le, c_blt]
    · simp only [s_l01Components_l2, s_l01Components_l2_s, c_and, Int.toNat_natCast]
      simp (disch := omega) only [c_lt, c_nlt, c_le, c_blt]
  simp only [s_l01Components_l1, s_l01Components_l1_s, c_and, Int.toNat_natCast, walk]
  simp (disch := omega) only [c_lt, c_le, c_blt, c_fits]
  unfold compF
  by_cases hu : s.1 i < 0
  · rw [c_nle hu, if_pos hu]
    rfl
  · rw [c_le (by omega), if_neg hu]
    rfl
end
end Go.AM

namespace Go.AM
section
variable {β : Type}
/-- The numbers of a list of records. -/
def recAt (xs : List Int) (j q : Nat) : Int := xs[j * 4 + q]?.getD 0
/-- A round over the corners: those that count with 1 and those with -1. -/
def cuspF (xs : List Int) (skip : Int → Bool) (j : Nat) (s : Int × Int) : Int × Int :=
  if skip (recAt xs j 0) = true ∨ recAt xs j 2 = 1 ∨ recAt xs j 2 = 2 then s else if ((recAt xs j 3 != 0) == (recAt xs j 2 == 3)) = true then (s.1 + 1, s.2) else (s.1, s.2 + 1)
def cuspS (xs : List Int) (skip : Int → Bool) (L : Nat) : Int × Int := iter (cuspF xs skip) L 0 (0, 0)
theorem cuspF_bd {xs : List Int} {skip : Int → Bool} {j : Nat} {s : Int × Int} (h : 0 ≤ s.1 ∧ 0 ≤ s.2 ∧ s.1 + s.2 ≤ j) : 0 ≤ (cuspF xs skip j s).1 ∧ 0 ≤ (cuspF xs skip j s).2 ∧ (cuspF xs skip j s).1 + (cuspF xs skip j s).2 ≤ (j + 1 : Nat) := by
  unfold cuspF
  split
  · omega
  · split <;> simp only <;> omega
theorem cuspS_bd (xs : List Int) (skip : Int → Bool) (L : Nat) : 0 ≤ (cuspS xs skip L).1 ∧ 0 ≤ (cuspS xs skip L).2 ∧ (cuspS xs skip L).1 + (cuspS xs skip L).2 ≤ L := by
  have := iter_inv (f := cuspF xs skip) (n := L) (I := fun i s => 0 ≤ s.1 ∧ 0 ≤ s.2 ∧ s.1 + s.2 ≤ i) (fun i s _ h => cuspF_bd h) L 0 (0, 0) (by omega) (by simp)
  rwa [Nat.zero_add] at this
theorem cornerL_get (n : Nat) (X O : Nat → Int) {i q : Nat} (hi : i < n) (hq : q < 8) : (cornersL n X O)[8 * i + q]?.getD 0 = (cornerL n X O i)[q]?.getD 0 := by
  have := iter_inv (f := fun i l => l ++ cornerL n X O i) (I := fun i (l : List Int) => l.length = 8 * i ∧ ∀ j q, j < i → q < 8 → l[8 * j + q]?.getD 0 = (cornerL n X O j)[q]?.getD 0) (n := n) (fun i s _ h => by
    refine ⟨by rw [List.length_append, cornerL_len]; omega, fun j q hj hq => ?_⟩
    by_cases e : j = i
    · subst e
      rw [List.getElem?_append_right (by omega), h.1, show 8 * j + q - 8 * j = q by omega]
    · rw [List.getElem?_append_left (by omega)]
      exact h.2 j q (by omega) hq) n 0 [] (by omega) ⟨rfl, fun j q hj => by omega⟩
  rw [Nat.zero_add] at this
  exact this.2 i q hi hq
/-- What the records of the corners are. -/
theorem corner_recs {n : Nat} {X O : Nat → Int} (j : Nat) (hj : j < 2 * n) : recAt (cornersL n X O) j 0 = (j / 2 : Nat) ∧ 0 ≤ recAt (cornersL n X O) j 2 ∧ recAt (cornersL n X O) j 2 ≤ 3 := by
  unfold recAt
  have hi : j / 2 < n := by omega
  rcases Nat.mod_two_eq_zero_or_one j with e | e
  · have h0 := cornerL_get n X O hi (q := 0) (by omega)
    have h2 := cornerL_get n X O hi (q := 2) (by omega)
    rw [show j * 4 + 0 = 8 * (j / 2) + 0 by omega, show j * 4 + 2 = 8 * (j / 2) + 2 by omega, h0, h2]
    have := kindI_bd (j / 2 : Nat) (X (j / 2)) (O (j / 2)) (rowOf n O (X (j / 2)).toNat)
    exact ⟨rfl, this.1, this.2⟩
  · have h0 := cornerL_get n X O hi (q := 4) (by omega)
    have h2 := cornerL_get n X O hi (q := 6) (by omega)
    rw [show j * 4 + 0 = 8 * (j / 2) + 4 by omega, show j * 4 + 2 = 8 * (j / 2) + 6 by omega, h0, h2]
    have := kindI_bd (j / 2 : Nat) (O (j / 2)) (X (j / 2)) (rowOf n X (O (j / 2)).toNat)
    exact ⟨rfl, this.1, this.2⟩
/-- Is a column of another component than the one that is asked for? -/
def skipC (which : Nat → Int) (c : Int) (col : Int) : Bool := decide (0 ≤ c) && (which col.toNat != c)
theorem s_l07Cusps_val (z : β) {N : Nat} (hN : 16 < N) {n : Nat} {X O : Nat → Int} (g : GridP n X O) (hX : ∀ j, 0 ≤ X j) (hO : ∀ j, 0 ≤ O j) (c : Int) (k : Int → Int → β) :
    s_l07Cusps z N n X O c k = k (cuspS (cornersL n X O) (skipC (compS (nxtC n X O) n).1 c) (2 * n)).1 (cuspS (cornersL n X O) (skipC (compS (nxtC n X O) n).1 c) (2 * n)).2 := by
  have h8 := g.hi
  unfold s_l07Cusps
  rw [s_l01Components_val z (by omega) g hX hO, s_l07Corners_val z (by omega) g hX hO]
  have hr := corner_recs (n := n) (X := X) (O := O)
  have hl := cornersL_len n X O
  generalize cornersL n X O = xs at *
  generalize (compS (nxtC n X O) n).1 = wh
  refine up_to (L := fun m j s => s_l07Cusps_l0 z c (8 * n) (2 * n) (2 * n) n X O wh xs m s.1 s.2 (j : Int) fun q13 q14 => k q13 q14) (n := 2 * n) (out := fun s => k s.1 s.2) (f := cuspF xs (skipC wh c)) (I := fun i s => 0 ≤ s.1 ∧ 0 ≤ s.2 ∧ s.1 + s.2 ≤ i)
    (fun m j s hj hs => ⟨?_, cuspF_bd hs⟩) (fun m s _ => by simp (disch := omega) only [s_l07Cusps_l0, s_l07Cusps_l0_s, c_ble, c_nlt]) (2 * n) N 0 (0, 0) (by omega) (by omega) (by simp)
  obtain ⟨r0, r1, r2⟩ := hr j hj
  have r0' := r0
  unfold recAt at r0'
  rw [Nat.add_zero] at r0'
  have e2 : xs[j * 4 + 2]?.getD 0 = recAt xs j 2 := rfl
  have e3 : xs[j * 4 + 3]?.getD 0 = recAt xs j 3 := rfl
  simp only [s_l07Cusps_l0, s_l07Cusps_l0_s, c_and, Int.toNat_natCast, addO_eq, Nat.add_zero, r0', e2, e3]
  simp (disch := omega) only [c_lt, c_le, c_ble, c_blt, c_beq, c_fits]
  unfold cuspF skipC
  rw [r0, Int.toNat_natCast]
  by_cases hc : 0 ≤ c
  · rw [c_le hc, decide_eq_true hc, Bool.true_and]
    by_cases hw : wh (j / 2) = c
    · rw [c_nne hw, show (wh (j / 2) != c) = false by simpa using hw]
      by_cases h1 : recAt xs j 2 = 1
      · rw [c_eq h1, if_pos (.inr (.inl h1))]; rfl
      · rw [c_neq h1]
        by_cases h2 : recAt xs j 2 = 2
        · rw [c_eq h2, if_pos (.inr (.inr h2))]; rfl
        · rw [c_neq h2, if_neg (by simp [h1, h2])]
          cases hb : ((recAt xs j 3 != 0) == (recAt xs j 2 == 3)) <;> rfl
    · rw [c_ne hw, show (wh (j / 2) != c) = true by simpa using hw, if_pos (.inl rfl)]; rfl
  · rw [c_nle (by omega), decide_eq_false hc, Bool.false_and]
    by_cases h1 : recAt xs j 2 = 1
    · rw [c_eq h1, if_pos (.inr (.inl h1))]; rfl
    · rw [c_neq h1]
      by_cases h2 : recAt xs j 2 = 2
      · rw [c_eq h2, if_pos (.inr (.inr h2))]; rfl
      · rw [c_neq h2, if_neg (by simp [h1, h2])]
        cases hb : ((recAt xs j 3 != 0) == (recAt xs j 2 == 3)) <;> rfl
/-- What a front comes to. -/
def frontF (xs : List Int) (j : Nat) (h : Nat → Int) : Nat → Int :=
  if recAt xs j 2 = 1 ∨ recAt xs j 2 = 2 then h else if ((recAt xs j 3 != 0) == (recAt xs j 2 == 3)) = true then upd (upd h 0 (h 0 + 1)) 2 (h 2 + 1) else upd (upd h 0 (h 0 + 1)) 1 (h 1 + 1)
theorem frontF_get {xs : List Int} {j : Nat} {h : Nat → Int} {s : Int × Int} (hh : h 0 = s.1 + s.2 ∧ h 1 = s.2 ∧ h 2 = s.1) :
    frontF xs j h 0 = (cuspF xs (fun _ => false) j s).1 + (cuspF xs (fun _ => false) j s).2 ∧ frontF xs j h 1 = (cuspF xs (fun _ => false) j s).2 ∧ frontF xs j h 2 = (cuspF xs (fun _ => false) j s).1 := by
  unfold frontF cuspF
  obtain ⟨h0, h1, h2⟩ := hh
  by_cases e : recAt xs j 2 = 1 ∨ recAt xs j 2 = 2
  · rw [if_pos e, if_pos (.inr e)]; exact ⟨h0, h1, h2⟩
  · have e' : ¬ ((fun _ => false) (recAt xs j 0) = true ∨ recAt xs j 2 = 1 ∨ recAt xs j 2 = 2) := fun h => h.elim (fun h => by cases h) e
    rw [if_neg e, if_neg e']
    cases hb : ((recAt xs j 3 != 0) == (recAt xs j 2 == 3))
    · simp [upd_at, h0, h1, h2]; omega
    · simp [upd_at, h0, h1, h2]; omega
theorem i_front_add_val (z : β) (N : Nat) (a b : Int) {xs : List Int} {j : Nat} {h : Nat → Int} (hk : 0 ≤ recAt xs j 2 ∧ recAt xs j 2 ≤ 3) (hb : ∀ q, q < 3 → 0 ≤ h q ∧ h q ≤ 1000) (k : (Nat → Int) → β) :
    i_front_add z N a b (recAt xs j 2) (recAt xs j 3 != 0) h k = k (frontF xs j h) := by
  have b0 := hb 0 (by omega)
  have b1 := hb 1 (by omega)
  have b2 := hb 2 (by omega)
  have u1 : upd h 0 (h 0 + 1) 1 = h 1 := by simp [upd_at]
  have u2 : upd h 0 (h 0 + 1) 2 = h 2 := by simp [upd_at]
  have f1 : (([] : List UInt8) == [117]) = false := by decide
  have f2 : (([] : List UInt8) == [100]) = false := by decide
  have f3 : (([117] : List UInt8) == [117]) = true := by decide
  have f4 : (([100] : List UInt8) == [117]) = false := by decide
  have f5 : (([100] : List UInt8) == [100]) = true := by decide
  unfold i_front_add i_Corner_letter i_Corner_isCusp frontF
  have hcase : recAt xs j 2 = 0 ∨ recAt xs j 2 = 1 ∨ recAt xs j 2 = 2 ∨ recAt xs j 2 = 3 := by omega
  rcases hcase with e | e | e | e
  · simp only [e, u1, u2]
    cases hx : (recAt xs j 3 != 0) <;> simp [f1, f2, f3, f4, f5, c_fits, b0, b1, b2, fits64]
    all_goals (rw [fits64 (by omega), fits64 (by omega)]; rfl)
  · simp only [e]
    simp [f1, f2]
  · simp only [e]
    simp [f1, f2]
  · simp only [e, u1, u2]
    cases hx : (recAt xs j 3 != 0) <;> simp [f1, f2, f3, f4, f5, c_fits, b0, b1, b2, fits64]
    all_goals (rw [fits64 (by omega), fits64 (by omega)]; rfl)
theorem i_Grid_front_val (z : β) {N : Nat} (hN : 16 < N) {n : Nat} {X O : Nat → Int} (g : GridP n X O) (hX : ∀ j, 0 ≤ X j) (hO : ∀ j, 0 ≤ O j) (k : (Nat → Int) → β) :
    i_Grid_front z N n X O k = k (iter (frontF (cornersL n X O)) (2 * n) 0 fun _ => 0) := by
  have h8 := g.hi
  unfold i_Grid_front
  rw [i_Grid_corners_val z (by omega) g hX hO]
  have hr := corner_recs (n := n) (X := X) (O := O)
  have hl := cornersL_len n X O
  generalize cornersL n X O = xs at *
  rw [c_ble (by omega)]
  refine up_to (L := fun m j h => i_Grid_front_l0 z N (8 * n) (2 * n) (2 * n) ((2 * n : Nat) : Int) n X O (fun _ => 0) xs m (j : Int) h fun q10 => k q10) (n := 2 * n) (out := k) (f := frontF xs)
    (I := fun i h => ∃ s : Int × Int, (0 ≤ s.1 ∧ 0 ≤ s.2 ∧ s.1 + s.2 ≤ i) ∧ h 0 = s.1 + s.2 ∧ h 1 = s.2 ∧ h 2 = s.1)
    (fun m j h hj ⟨s, hs, hh⟩ => ⟨?_, ⟨cuspF xs (fun _ => false) j s, cuspF_bd hs, frontF_get hh⟩⟩) (fun m s _ => by simp (disch := omega) only [i_Grid_front_l0, i_Grid_front_l0_s, c_nlt]) (2 * n) N 0 (fun _ => 0) (by omega) (by omega) ⟨(0, 0), by simp, by simp⟩
  obtain ⟨r0, r1, r2⟩ := hr j hj
  have e2 : xs[j * 4 + 2]?.getD 0 = recAt xs j 2 := rfl
  have e3 : xs[j * 4 + 3]?.getD 0 = recAt xs j 3 := rfl
  have hb : ∀ q, q < 3 → 0 ≤ h q ∧ h q ≤ 1000 := fun q hq => by
    obtain ⟨h0, h1, h2⟩ := hh
    have : q = 0 ∨ q = 1 ∨ q = 2 := by omega
    rcases this with rfl | rfl | rfl <;> omega
  simp only [i_Grid_front_l0, i_Grid_front_l0_s, c_and, Int.toNat_natCast, addO_eq, Nat.add_zero, e2, e3, i_front_add_val z N _ _ ⟨r1, r2⟩ hb]
  simp (disch := omega) only [c_lt, c_le, c_ble, c_blt, c_beq, c_fits]
  rfl
/-- The numbers of a front: cusps, those of the letter u, and those of the letter d. -/
theorem front_cusps (xs : List Int) (L : Nat) : (iter (frontF xs) L 0 fun _ => 0) 0 = (cuspS xs (fun _ => false) L).1 + (cuspS xs (fun _ => false) L).2 ∧ (iter (frontF xs) L 0 fun _ => 0) 1 = (cuspS xs (fun _ => false) L).2 ∧ (iter (frontF xs) L 0 fun _ => 0) 2 = (cuspS xs (fun _ => false) L).1 := by
  have key : ∀ (d i : Nat) (h : Nat → Int) (s : Int × Int), h 0 = s.1 + s.2 ∧ h 1 = s.2 ∧ h 2 = s.1 → iter (frontF xs) d i h 0 = (iter (cuspF xs fun _ => false) d i s).1 + (iter (cuspF xs fun _ => false) d i s).2 ∧ iter (frontF xs) d i h 1 = (iter (cuspF xs fun _ => false) d i s).2 ∧ iter (frontF xs) d i h 2 = (iter (cuspF xs fun _ => false) d i s).1 := by
    intro d
    induction d with
    | zero => exact fun i h s hh => hh
    | succ d ih => exact fun i h s hh => ih (i + 1) _ _ (frontF_get hh)
  exact key L 0 _ (0, 0) (by simp)
theorem skip_neg (wh : Nat → Int) : skipC wh (-1) = fun _ => false := by funext c; simp [skipC]
end
end Go.AM

namespace Go.AM
section
variable {β : Type}
/-- Is a number between two others? -/
def betB (x a b : Int) : Bool := decide ((bif decide (b < a) then b else a) < x) && decide (x < bif decide (a < b) then b else a)
theorem i_isBetween_val (z : β) (N : Nat) (x a b : Int) (k : Bool → β) : i_isBetween z N x a b k = k (betB x a b) := by
  unfold i_isBetween betB
  cases decide ((bif decide (b < a) then b else a) < x) <;> rfl
theorem l01In_between (z : β) (N : Nat) (x a b : Int) (k : Bool → β) : s_l01In z N x ((bif decide (b < a) then b else a) + 1) ((bif decide (a < b) then b else a) - 1) k = k (betB x a b) := by
  rw [s_l01In_val]
  unfold betB
  congr 1
  rw [Bool.eq_iff_iff, decide_eq_true_iff, Bool.and_eq_true, decide_eq_true_iff, decide_eq_true_iff]
  omega
/-- The sign of the crossing in a column and a row, or 0. -/
noncomputable def crossV (n : Nat) (X O : Nat → Int) (i r : Nat) : Int :=
  cond (betB r (X i) (O i)) (cond (betB i (rowOf n X r) (rowOf n O r)) (cond (decide (X i < O i) == decide ((rowOf n X r : Int) < rowOf n O r)) 1 (-1)) 0) 0
theorem crossV_cases (n : Nat) (X O : Nat → Int) (i r : Nat) : crossV n X O i r = 0 ∨ crossV n X O i r = 1 ∨ crossV n X O i r = -1 := by
  unfold crossV
  cases betB r (X i) (O i) <;> cases betB i (rowOf n X r) (rowOf n O r) <;> cases (decide (X i < O i) == decide ((rowOf n X r : Int) < rowOf n O r)) <;> simp
theorem min_bd {a b n : Int} (ha : 0 ≤ a ∧ a < n) (hb : 0 ≤ b ∧ b < n) : 0 ≤ (bif decide (b < a) then b else a) ∧ (bif decide (b < a) then b else a) < n := by cases decide (b < a) <;> simp <;> omega
theorem max_bd {a b n : Int} (ha : 0 ≤ a ∧ a < n) (hb : 0 ≤ b ∧ b < n) : 0 ≤ (bif decide (a < b) then b else a) ∧ (bif decide (a < b) then b else a) < n := by cases decide (a < b) <;> simp <;> omega
theorem GridP.bdX {n : Nat} {X O : Nat → Int} (g : GridP n X O) (hX : ∀ j, 0 ≤ X j) {i : Nat} (hi : i < n) : 0 ≤ X i ∧ X i < n := by
  have := g.px.2.1 i hi
  have := hX i
  omega
theorem s_l03Cross_val (z : β) {N : Nat} (hN : 8 < N) {n : Nat} {X O : Nat → Int} (g : GridP n X O) (hX : ∀ j, 0 ≤ X j) (hO : ∀ j, 0 ≤ O j) {i r : Nat} (hi : i < n) (hr : r < n) (k : Int → β) :
    s_l03Cross z N n X O i r k = k (crossV n X O i r) := by
  have h8 := g.hi
  have b1 := g.bdX hX hi
  have b2 := g.swap.bdX hO hi
  have r1 := (rowOf_spec g.px hX hr).1
  have r2 := (rowOf_spec g.po hO hr).1
  have m1 := min_bd (n := n) b1 b2
  have m2 := max_bd (n := n) b1 b2
  have m3 := min_bd (a := (rowOf n X r : Int)) (b := (rowOf n O r : Int)) (n := n) (by omega) (by omega)
  have m4 := max_bd (a := (rowOf n X r : Int)) (b := (rowOf n O r : Int)) (n := n) (by omega) (by omega)
  unfold s_l03Cross crossV
  simp only [c_and, Int.toNat_natCast]
  simp (disch := omega) only [c_lt, c_le, c_blt]
  rw [s_l01Row_val z hN h8 g.px hX hr, s_l01Row_val z hN h8 g.po hO hr]
  rw [c_fits (by omega), c_fits (by omega), l01In_between]
  cases betB r (X i) (O i) with
  | false => rfl
  | true =>
    simp only [Bool.not_true, c_false, c_true]
    rw [c_fits (by omega), c_fits (by omega), l01In_between]
    cases betB i (rowOf n X r) (rowOf n O r) with
    | false => rfl
    | true =>
      simp only [Bool.not_true, c_false, c_true]
      cases (decide (X i < O i) == decide ((rowOf n X r : Int) < rowOf n O r)) <;> rfl
noncomputable def crossF (n : Nat) (X O : Nat → Int) (i r : Nat) (s : List Int) : List Int := cond (crossV n X O i r != 0) (s ++ [(i : Int), (r : Int), crossV n X O i r]) s
noncomputable def crossR (n : Nat) (X O : Nat → Int) (i : Nat) (s : List Int) : List Int := iter (crossF n X O i) n 0 s
/-- All crossings. -/
noncomputable def crossL (n : Nat) (X O : Nat → Int) : List Int := iter (crossR n X O) n 0 []
/-- Lists of crossings. -/
structure CrossI (m : Nat) (s : List Int) : Prop where
  len : s.length = 3 * (s.length / 3)
  le : s.length / 3 ≤ m
  sg : ∀ j, j < s.length / 3 → s[j * 3 + 2]?.getD 0 = 1 ∨ s[j * 3 + 2]?.getD 0 = -1
theorem CrossI.step {m n i r : Nat} {X O : Nat → Int} {s : List Int} (h : CrossI m s) : CrossI (m + 1) (crossF n X O i r s) := by
  unfold crossF
  have h1 := h.len
  have h2 := h.le
  have hv := crossV_cases n X O i r
  generalize crossV n X O i r = v at *
  by_cases e : v = 0
  · rw [show (v != 0) = false by simpa using e, c_false]
    exact ⟨h1, by omega, h.sg⟩
  · rw [show (v != 0) = true by simpa using e, c_true]
    have hl : (s ++ [(i : Int), (r : Int), v]).length = s.length + 3 := by simp
    refine ⟨by omega, by omega, fun j hj => ?_⟩
    by_cases e2 : j < s.length / 3
    · rw [List.getElem?_append_left (by omega)]; exact h.sg j e2
    · rw [List.getElem?_append_right (by omega), show j * 3 + 2 - s.length = 2 by omega]
      simp
      omega
theorem CrossI.row {m n i : Nat} {X O : Nat → Int} {s : List Int} (h : CrossI m s) : ∀ d, CrossI (m + d) (iter (crossF n X O i) d 0 s) := by
  intro d
  induction d with
  | zero => exact h
  | succ d ih => rw [iter_succ]; exact ih.step
theorem CrossI.all {n : Nat} {X O : Nat → Int} : ∀ d, CrossI (n * d) (iter (crossR n X O) d 0 []) := by
  intro d
  induction d with
  | zero => exact ⟨by simp [iter], by simp [iter], fun j hj => by simp [iter] at hj⟩
  | succ d ih => rw [iter_succ, Nat.mul_succ]; exact ih.row n
theorem rec3 (i r v : Int) : List.map (upd (upd (upd (fun _ => 0) 0 i) 1 r) 2 v) (List.range 3) = [i, r, v] := rfl
theorem s_l03Crossings_l1_val (z : β) {N : Nat} (hN : 8 < N) {n : Nat} {X O : Nat → Int} (g : GridP n X O) (hX : ∀ j, 0 ≤ X j) (hO : ∀ j, 0 ≤ O j) {i m0 : Nat} (hi : i < n) (hm0 : m0 ≤ 1000) {s0 : List Int} (h0 : CrossI m0 s0) (k : Nat → Nat → Nat → List Int → β) :
    s_l03Crossings_l1 z N i n X O N s0.length (s0.length / 3) (s0.length / 3) 0 s0 k = k (crossR n X O i s0).length ((crossR n X O i s0).length / 3) ((crossR n X O i s0).length / 3) (crossR n X O i s0) := by
  have h8 := g.hi
  exact up_to (L := fun m r (s : List Int) => s_l03Crossings_l1 z N i n X O m s.length (s.length / 3) (s.length / 3) (r : Int) s k) (n := n) (out := fun s => k s.length (s.length / 3) (s.length / 3) s) (f := crossF n X O i) (I := fun r s => CrossI (m0 + r) s)
    (fun m r s hr hs => ⟨by
      have h1 := hs.len
      have h2 := hs.le
      have hl : ∀ v, (s ++ [(i : Int), (r : Int), v]).length = s.length + 3 := by simp
      simp only [s_l03Crossings_l1, s_l03Crossings_l1_s]
      rw [c_lt (by omega), s_l03Cross_val z hN g hX hO hi hr]
      unfold crossF
      cases crossV n X O i r != 0 with
      | true =>
        simp only [c_true, c_and, rec3]
        simp (disch := omega) only [c_ble, c_nble, c_beq, c_fits]
        rw [hl, show (s.length + 3) / 3 = s.length / 3 + 1 by omega]
        rfl
      | false =>
        simp only [c_false]
        rw [c_fits (by omega)]
        rfl, hs.step⟩)
    (fun m s _ => by simp (disch := omega) only [s_l03Crossings_l1, s_l03Crossings_l1_s, c_nlt]) n N 0 s0 (by omega) (by omega) h0
theorem s_l03Crossings_val (z : β) {N : Nat} (hN : 8 < N) {n : Nat} {X O : Nat → Int} (g : GridP n X O) (hX : ∀ j, 0 ≤ X j) (hO : ∀ j, 0 ≤ O j) (k : Nat → Nat → Nat → List Int → β) :
    s_l03Crossings z N n X O k = k (crossL n X O).length ((crossL n X O).length / 3) ((crossL n X O).length / 3) (crossL n X O) := by
  have h8 := g.hi
  unfold s_l03Crossings
  exact up_to (L := fun m i (s : List Int) => s_l03Crossings_l0 z N n X O m s.length (s.length / 3) (s.length / 3) (i : Int) s k) (n := n) (out := fun s => k s.length (s.length / 3) (s.length / 3) s) (f := crossR n X O) (I := fun i s => CrossI (n * i) s)
    (fun m i s hi hs => ⟨by
      have : n * i ≤ 8 * 8 := Nat.mul_le_mul h8 (by omega)
      simp only [s_l03Crossings_l0, s_l03Crossings_l0_s]
      rw [c_lt (by omega), s_l03Crossings_l1_val z hN g hX hO hi (by omega) hs, c_fits (by omega)]
      rfl, by rw [Nat.mul_succ]; exact hs.row n⟩)
    (fun m s _ => by simp (disch := omega) only [s_l03Crossings_l0, s_l03Crossings_l0_s, c_nlt]) n N 0 [] (by omega) (by omega) (CrossI.all (X := X) (O := O) 0)
theorem i_Grid_crossings_l1_val (z : β) {N : Nat} (hN : 8 < N) {n : Nat} {X O : Nat → Int} (g : GridP n X O) (hX : ∀ j, 0 ≤ X j) (hO : ∀ j, 0 ≤ O j) {i m0 : Nat} (hi : i < n) (hm0 : m0 ≤ 1000) {s0 : List Int} (h0 : CrossI m0 s0) (a b : Int) (k : Nat → Nat → Nat → List Int → β) :
    i_Grid_crossings_l1 z N i a b n n X O (plc n X) (plc n O) N s0.length (s0.length / 3) (s0.length / 3) 0 s0 k = k (crossR n X O i s0).length ((crossR n X O i s0).length / 3) ((crossR n X O i s0).length / 3) (crossR n X O i s0) := by
  have h8 := g.hi
  exact up_to (L := fun m r (s : List Int) => i_Grid_crossings_l1 z N i a b n n X O (plc n X) (plc n O) m s.length (s.length / 3) (s.length / 3) (r : Int) s k) (n := n) (out := fun s => k s.length (s.length / 3) (s.length / 3) s) (f := crossF n X O i) (I := fun r s => CrossI (m0 + r) s)
    (fun m r s hr hs => ⟨by
      have h1 := hs.len
      have h2 := hs.le
      have hl : ∀ v, (s ++ [(i : Int), (r : Int), v]).length = s.length + 3 := by simp
      have p1 := plc_spec g.px hX hr
      have p2 := plc_spec g.po hO hr
      have hne : (rowOf n X r : Int) ≠ rowOf n O r := fun e => by
        have e1 := rowOf_spec g.px hX hr
        have e2 := rowOf_spec g.po hO hr
        have := g.ne (rowOf n X r) e1.1
        rw [e1.2, show rowOf n X r = rowOf n O r by omega, e2.2] at this
        exact this rfl
      have hd : (decide (X i < O i) != decide ((rowOf n O r : Int) < rowOf n X r)) = (decide (X i < O i) == decide ((rowOf n X r : Int) < rowOf n O r)) := by
        by_cases e : (rowOf n X r : Int) < rowOf n O r
        · rw [decide_eq_true e, decide_eq_false (show ¬ (rowOf n O r : Int) < rowOf n X r by omega)]; cases decide (X i < O i) <;> rfl
        · rw [decide_eq_false e, decide_eq_true (show (rowOf n O r : Int) < rowOf n X r by omega)]; cases decide (X i < O i) <;> rfl
      simp only [i_Grid_crossings_l1, i_Grid_crossings_l1_s, c_and, Int.toNat_natCast, p1, p2, i_isBetween_val, hd]
      simp (disch := omega) only [c_lt, c_le, c_blt]
      unfold crossF crossV
      cases betB r (X i) (O i) with
      | false =>
        simp only [Bool.not_false, c_true, c_false]
        rw [c_fits (by omega)]
        rfl
      | true =>
        cases betB i (rowOf n X r) (rowOf n O r) with
        | false =>
          simp only [Bool.not_false, Bool.not_true, c_true, c_false]
          rw [c_fits (by omega)]
          rfl
        | true =>
          cases (decide (X i < O i) == decide ((rowOf n X r : Int) < rowOf n O r)) with
          | true =>
            simp only [Bool.not_true, c_true, c_false, rec3, show ((1 : Int) != 0) = true from rfl]
            simp (disch := omega) only [c_ble, c_nble, c_beq, c_fits]
            rw [hl, show (s.length + 3) / 3 = s.length / 3 + 1 by omega]
            rfl
          | false =>
            simp only [Bool.not_true, c_true, c_false, rec3, show ((-1 : Int) != 0) = true from rfl]
            simp (disch := omega) only [c_ble, c_nble, c_beq, c_fits]
            rw [hl, show (s.length + 3) / 3 = s.length / 3 + 1 by omega]
            rfl, hs.step⟩)
    (fun m s _ => by simp (disch := omega) only [i_Grid_crossings_l1, i_Grid_crossings_l1_s, c_nlt]) n N 0 s0 (by omega) (by omega) h0
theorem i_Grid_crossings_val (z : β) {N : Nat} (hN : 8 < N) {n : Nat} {X O : Nat → Int} (g : GridP n X O) (hX : ∀ j, 0 ≤ X j) (hO : ∀ j, 0 ≤ O j) (k : Nat → Nat → Nat → List Int → β) :
    i_Grid_crossings z N n X O k = k (crossL n X O).length ((crossL n X O).length / 3) ((crossL n X O).length / 3) (crossL n X O) := by
  have h8 := g.hi
  unfold i_Grid_crossings i_Grid_n
  rw [i_Grid_places_val z hN h8 g.px hX, i_Grid_places_val z hN h8 g.po hO]
  exact up_to (L := fun m i (s : List Int) => i_Grid_crossings_l0 z N n n X O (plc n X) (plc n O) m s.length (s.length / 3) (s.length / 3) (i : Int) s k) (n := n) (out := fun s => k s.length (s.length / 3) (s.length / 3) s) (f := crossR n X O) (I := fun i s => CrossI (n * i) s)
    (fun m i s hi hs => ⟨by
      have : n * i ≤ 8 * 8 := Nat.mul_le_mul h8 (by omega)
      simp only [i_Grid_crossings_l0, i_Grid_crossings_l0_s, i_Grid_n]
      rw [c_lt (by omega), i_Grid_crossings_l1_val z hN g hX hO hi (by omega) hs, c_fits (by omega)]
      rfl, by rw [Nat.mul_succ]; exact hs.row n⟩)
    (fun m s _ => by simp (disch := omega) only [i_Grid_crossings_l0, i_Grid_crossings_l0_s, c_nlt]) n N 0 [] (by omega) (by omega) (CrossI.all (X := X) (O := O) 0)
/-- The sum of the signs. -/
def writheF (xs : List Int) (j : Nat) (s : Int) : Int := s + xs[j * 3 + 2]?.getD 0
def writheS (xs : List Int) : Int := iter (writheF xs) (xs.length / 3) 0 0
theorem writheF_bd {m : Nat} {xs : List Int} (h : CrossI m xs) {j : Nat} (hj : j < xs.length / 3) {s : Int} (hs : -(j : Int) ≤ s ∧ s ≤ j) : -((j + 1 : Nat) : Int) ≤ writheF xs j s ∧ writheF xs j s ≤ (j + 1 : Nat) := by
  have := h.sg j hj
  unfold writheF
  omega
theorem writheS_bd {m : Nat} {xs : List Int} (h : CrossI m xs) : -(m : Int) ≤ writheS xs ∧ writheS xs ≤ m := by
  have := iter_inv (f := writheF xs) (n := xs.length / 3) (I := fun j s => -(j : Int) ≤ s ∧ s ≤ j) (fun j s hj hs => writheF_bd h hj hs) (xs.length / 3) 0 0 (by omega) (by simp)
  have h2 := h.le
  rw [Nat.zero_add] at this
  unfold writheS
  omega
theorem crossL_inv {n : Nat} (X O : Nat → Int) (h8 : n ≤ 8) : CrossI 64 (crossL n X O) := by
  have h : CrossI (n * n) (crossL n X O) := CrossI.all (n := n) (X := X) (O := O) n
  have : n * n ≤ 8 * 8 := Nat.mul_le_mul h8 h8
  exact ⟨h.len, by have := h.le; omega, h.sg⟩
theorem s_l03Writhe_val (z : β) {N : Nat} (hN : 100 < N) {n : Nat} {X O : Nat → Int} (g : GridP n X O) (hX : ∀ j, 0 ≤ X j) (hO : ∀ j, 0 ≤ O j) (k : Int → β) : s_l03Writhe z N n X O k = k (writheS (crossL n X O)) := by
  unfold s_l03Writhe
  rw [s_l03Crossings_val z (by omega) g hX hO]
  have h := crossL_inv X O g.hi
  generalize crossL n X O = xs at *
  have h1 := h.len
  have h2 := h.le
  exact up_to (L := fun m j s => s_l03Writhe_l0 z xs.length (xs.length / 3) (xs.length / 3) n X O xs m s (j : Int) k) (n := xs.length / 3) (out := k) (f := writheF xs) (I := fun j s => -(j : Int) ≤ s ∧ s ≤ j)
    (fun m j s hj hs => ⟨by
      have h3 := h.sg j hj
      have h4 := writheF_bd h hj hs
      unfold writheF at h4 ⊢
      simp only [s_l03Writhe_l0, s_l03Writhe_l0_s, c_and, Int.toNat_natCast, addO_eq]
      simp (disch := omega) only [c_lt, c_le, c_ble, c_blt, c_beq, c_fits]
      rfl, writheF_bd h hj hs⟩)
    (fun m s _ => by simp (disch := omega) only [s_l03Writhe_l0, s_l03Writhe_l0_s, c_nlt, c_ble]) (xs.length / 3) N 0 0 (by omega) (by omega) (by simp)
theorem i_Grid_writhe_val (z : β) {N : Nat} (hN : 100 < N) {n : Nat} {X O : Nat → Int} (g : GridP n X O) (hX : ∀ j, 0 ≤ X j) (hO : ∀ j, 0 ≤ O j) (k : Int → β) : i_Grid_writhe z N n X O k = k (writheS (crossL n X O)) := by
  unfold i_Grid_writhe
  rw [i_Grid_crossings_val z (by omega) g hX hO]
  have h := crossL_inv X O g.hi
  generalize crossL n X O = xs at *
  have h1 := h.len
  have h2 := h.le
  rw [c_ble (by omega)]
  exact up_to (L := fun m j s => i_Grid_writhe_l0 z xs.length (xs.length / 3) (xs.length / 3) ((xs.length / 3 : Nat) : Int) n X O xs m s (j : Int) k) (n := xs.length / 3) (out := k) (f := writheF xs) (I := fun j s => -(j : Int) ≤ s ∧ s ≤ j)
    (fun m j s hj hs => ⟨by
      have h3 := h.sg j hj
      have h4 := writheF_bd h hj hs
      unfold writheF at h4 ⊢
      simp only [i_Grid_writhe_l0, i_Grid_writhe_l0_s, c_and, Int.toNat_natCast, addO_eq]
      simp (disch := omega) only [c_lt, c_le, c_ble, c_blt, c_beq, c_fits]
      rfl, writheF_bd h hj hs⟩)
    (fun m s _ => by simp (disch := omega) only [i_Grid_writhe_l0, i_Grid_writhe_l0_s, c_nlt]) (xs.length / 3) N 0 0 (by omega) (by omega) (by simp)
/-- The numbers of a front. -/
noncomputable def tbS (n : Nat) (X O : Nat → Int) : Int := -writheS (crossL n X O) - ((cuspS (cornersL n X O) (fun _ => false) (2 * n)).1 + (cuspS (cornersL n X O) (fun _ => false) (2 * n)).2).tdiv 2
noncomputable def rotS (n : Nat) (X O : Nat → Int) : Int := ((cuspS (cornersL n X O) (fun _ => false) (2 * n)).1 - (cuspS (cornersL n X O) (fun _ => false) (2 * n)).2).tdiv 2
theorem tdiv2_bd {x m : Int} (h : -m ≤ x ∧ x ≤ m) : -m ≤ x.tdiv 2 ∧ x.tdiv 2 ≤ m := by
  cases x with
  | ofNat a =>
    have : (Int.ofNat a).tdiv 2 = ((a / 2 : Nat) : Int) := rfl
    have e : Int.ofNat a = (a : Int) := rfl
    rw [this]
    rw [e] at h
    omega
  | negSucc a =>
    have : (Int.negSucc a).tdiv 2 = -(((a + 1) / 2 : Nat) : Int) := rfl
    have e : Int.negSucc a = -((a : Int) + 1) := rfl
    rw [this]
    rw [e] at h
    omega
theorem nums_bd {n : Nat} {X O : Nat → Int} (h8 : n ≤ 8) : -100 ≤ tbS n X O ∧ tbS n X O ≤ 100 ∧ -100 ≤ rotS n X O ∧ rotS n X O ≤ 100 := by
  have h1 := cuspS_bd (cornersL n X O) (fun _ => false) (2 * n)
  have h2 := writheS_bd (crossL_inv X O h8)
  have h3 := tdiv2_bd (x := (cuspS (cornersL n X O) (fun _ => false) (2 * n)).1 + (cuspS (cornersL n X O) (fun _ => false) (2 * n)).2) (m := 16) (by omega)
  have h4 := tdiv2_bd (x := (cuspS (cornersL n X O) (fun _ => false) (2 * n)).1 - (cuspS (cornersL n X O) (fun _ => false) (2 * n)).2) (m := 16) (by omega)
  unfold tbS rotS
  omega
theorem s_l07Numbers_val (z : β) {N : Nat} (hN : 100 < N) {n : Nat} {X O : Nat → Int} (g : GridP n X O) (hX : ∀ j, 0 ≤ X j) (hO : ∀ j, 0 ≤ O j) (k : Int → Int → β) : s_l07Numbers z N n X O k = k (tbS n X O) (rotS n X O) := by
  unfold s_l07Numbers
  rw [s_l07Cusps_val z (by omega) g hX hO, s_l03Writhe_val z hN g hX hO, skip_neg]
  have h0 := nums_bd (X := X) (O := O) g.hi
  have h8 := g.hi
  have h1 := cuspS_bd (cornersL n X O) (fun _ => false) (2 * n)
  have h2 := writheS_bd (crossL_inv X O g.hi)
  unfold tbS rotS at *
  generalize cuspS (cornersL n X O) (fun _ => false) (2 * n) = s at *
  generalize writheS (crossL n X O) = w at *
  have h3 := tdiv2_bd (x := s.1 + s.2) (m := 16) (by omega)
  have h4 := tdiv2_bd (x := s.1 - s.2) (m := 16) (by omega)
  simp (disch := omega) only [c_fits]
theorem i_Grid_numbers_val (z : β) {N : Nat} (hN : 100 < N) {n : Nat} {X O : Nat → Int} (g : GridP n X O) (hX : ∀ j, 0 ≤ X j) (hO : ∀ j, 0 ≤ O j) (k : List Int → β) : i_Grid_numbers z N n X O k = k [tbS n X O, rotS n X O] := by
  unfold i_Grid_numbers i_front_numbers
  rw [i_Grid_front_val z (by omega) g hX hO, i_Grid_writhe_val z hN g hX hO]
  obtain ⟨f0, f1, f2⟩ := front_cusps (cornersL n X O) (2 * n)
  simp only [f0, f1, f2]
  have h0 := nums_bd (X := X) (O := O) g.hi
  have h8 := g.hi
  have h1 := cuspS_bd (cornersL n X O) (fun _ => false) (2 * n)
  have h2 := writheS_bd (crossL_inv X O g.hi)
  unfold tbS rotS at *
  generalize cuspS (cornersL n X O) (fun _ => false) (2 * n) = s at *
  generalize writheS (crossL n X O) = w at *
  have h3 := tdiv2_bd (x := s.1 + s.2) (m := 16) (by omega)
  have h4 := tdiv2_bd (x := s.1 - s.2) (m := 16) (by omega)
  simp (disch := omega) only [c_fits]
  rfl
end
end Go.AM

namespace Go.AM
section
variable {β : Type}
/-- Numbers that count from 1 on. -/
def upH (h : Nat → Int) : Nat → Int := fun j => if j < 8 then h j + 1 else 0
theorem upH_upd {h : Nat → Int} {k : Nat} (hk : k < 8) (c : Int) : upd (upH h) k (c + 1) = upH (upd h k c) := by
  funext j
  unfold upH
  simp only [upd_at]
  by_cases e : j = k
  · subst e; rw [if_pos rfl, if_pos rfl, if_pos hk]
  · rw [if_neg e, if_neg e]
theorem i_Grid_component_val (z : β) {N : Nat} (hN : 8 < N) {n : Nat} {X O : Nat → Int} (g : GridP n X O) (hX : ∀ j, 0 ≤ X j) (hO : ∀ j, 0 ≤ O j) (k : (Nat → Int) → Int → β) :
    i_Grid_component z N n X O k = k (fun j => if j < n then (compS (nxtC n X O) n).1 j else 0) (compS (nxtC n X O) n).2 := by
  have h8 := g.hi
  unfold i_Grid_component i_Grid_n
  rw [i_Grid_places_val z hN h8 g.px hX]
  have hlt := nxtC_lt g hX hO
  have inv := compS_inv hlt
  have main : ∀ kk : Int → (Nat → Int) → β, i_Grid_component_l0 z N n n X O (fun _ => 0) (plc n X) N 0 0 (fun _ => 0) kk = kk (compS (nxtC n X O) n).2 (upH (compS (nxtC n X O) n).1) := by
    intro kk
    have e0 : (fun _ : Nat => (0 : Int)) = upH fun j => if j < 8 then -1 else 0 := by
      funext j
      unfold upH
      by_cases e : j < 8
      · simp only [if_pos e]; rfl
      · simp only [if_neg e]
    have hst := up_to (L := fun m i s => i_Grid_component_l0 z N n n X O (fun _ => 0) (plc n X) m s.2 (i : Int) (upH s.1) kk) (n := n) (out := fun s => kk s.2 (upH s.1)) (f := compF (nxtC n X O) n) (I := CompI n)
      (fun m i s hi hI => ⟨?_, compF_step hlt hi hI⟩) (fun m s _ => by simp (disch := omega) only [i_Grid_component_l0, i_Grid_component_l0_s, c_nlt]) n N 0 ((fun j => if j < 8 then -1 else 0), 0) (by omega) (by omega)
      ⟨Int.le_refl _, Int.le_refl _, fun j hj => by omega, fun j hj => by simp [hj], fun j _ hj => by simp [hj]⟩
    · rw [← e0] at hst
      exact hst
    have h1 := hI.nn
    have h2 := hI.le
    have walk : ∀ kk : (Nat → Int) → β, i_Grid_component_l1 z (s.2 + 1) n i n X O (fun _ => 0) (plc n X) N (i : Int) (upH s.1) kk = kk (upH (walkH (nxtC n X O) s.2 n i s.1)) := by
      intro kk
      refine walk_loop (L := fun m k h => i_Grid_component_l1 z (s.2 + 1) n i n X O (fun _ => 0) (plc n X) m (k : Int) (upH h) kk) (out := fun h => kk (upH h)) (n := n) (nxt := nxtC n X O) (c := s.2) h1 hlt (I := fun h => ∀ j, j < 8 → -1 ≤ h j) (fun k h hk hI hu j hj => by
          rw [upd_at]; split
          · omega
          · exact hI j hj)
        (fun m k h hk hh hu => ?_) (fun m k h hk hh hu => ?_) n N i s.1 (cntU_le _ _) (by omega) hi (fun j hj => by have := hI.bd j hj; omega)
      · have o1 := g.swap.bdX hO hk
        have e : upH h k = 0 := by unfold upH; rw [if_pos (by omega)]; have := hh k (by omega); omega
        have ep : plc n X (O k).toNat = (nxtC n X O k : Int) := plc_spec g.px hX (by omega)
        simp only [i_Grid_component_l1, i_Grid_component_l1_s, c_and, Int.toNat_natCast, e, ep]
        simp (disch := omega) only [c_lt, c_le, c_blt, c_eq]
        rw [upH_upd (by omega)]
      · have e : upH h k ≠ 0 := by unfold upH; rw [if_pos (by omega)]; omega
        simp only [i_Grid_component_l1, i_Grid_component_l1_s, c_and, Int.toNat_natCast]
        simp (disch := omega) only [c_lt, c_le, c_blt, c_neq]
    have e : upH s.1 i = s.1 i + 1 := by unfold upH; rw [if_pos (by omega)]
    simp only [i_Grid_component_l0, i_Grid_component_l0_s, c_and, Int.toNat_natCast, walk, e]
    simp (disch := omega) only [c_lt, c_le, c_blt, c_fits]
    unfold compF
    by_cases hu : s.1 i < 0
    · rw [c_nlt (by omega), if_pos hu]
      rfl
    · rw [c_lt (by omega), if_neg hu]
      rfl
  rw [main]
  generalize hs : compS (nxtC n X O) n = s at *
  refine (up_to (L := fun m i h => i_Grid_component_l2 z s.2 n n X O (fun _ => 0) (plc n X) m (i : Int) h fun q9 => k q9 s.2) (n := n) (out := fun h => k h s.2) (f := fun i h => upd h i (h i - 1)) (I := fun i h => ∀ j, h j = if j < i then s.1 j else upH s.1 j)
    (fun m i h hi hh => ⟨by
      have e1 := hh i
      have e2 := inv.bd i (by omega)
      have e3 := inv.le
      rw [if_neg (by omega)] at e1
      unfold upH at e1
      rw [if_pos (by omega)] at e1
      simp only [i_Grid_component_l2, i_Grid_component_l2_s, c_and, Int.toNat_natCast]
      simp (disch := omega) only [c_lt, c_le, c_blt, c_fits]
      rfl, fun j => by
      rw [upd_at]
      by_cases e : j = i
      · subst e
        rw [if_pos rfl, if_pos (by omega), hh j, if_neg (by omega)]
        unfold upH
        rw [if_pos (by omega)]
        omega
      · rw [if_neg e, hh j]
        by_cases e2 : j < i
        · rw [if_pos e2, if_pos (by omega)]
        · rw [if_neg e2, if_neg (by omega)]⟩)
    (fun m s _ => by simp (disch := omega) only [i_Grid_component_l2, i_Grid_component_l2_s, c_nlt]) n N 0 (upH s.1) (by omega) (by omega) (fun j => by rw [if_neg (by omega)])).trans ?_
  congr 1
  have key := iter_inv (f := fun i (h : Nat → Int) => upd h i (h i - 1)) (n := n) (I := fun i h => ∀ j, h j = if j < i then s.1 j else upH s.1 j) (fun i h hi hh j => by
      rw [upd_at]
      by_cases e : j = i
      · subst e
        rw [if_pos rfl, if_pos (by omega), hh j, if_neg (by omega)]
        unfold upH
        rw [if_pos (by omega)]
        omega
      · rw [if_neg e, hh j]
        by_cases e2 : j < i
        · rw [if_pos e2, if_pos (by omega)]
        · rw [if_neg e2, if_neg (by omega)]) n 0 (upH s.1) (by omega) (fun j => by rw [if_neg (by omega)])
  funext j
  rw [Nat.zero_add] at key
  rw [key j]
  by_cases e : j < n
  · rw [if_pos e, if_pos e]
  · rw [if_neg e, if_neg e]
    unfold upH
    by_cases e2 : j < 8
    · rw [if_pos e2, inv.rest j (by omega) e2]; rfl
    · rw [if_neg e2]
end
end Go.AM

namespace Go.AM
section
variable {β : Type}
/-- The cells of a header. -/
abbrev idAt (ids : List (Nat × Nat)) (i : Nat) : Nat × Nat := ids[i]?.getD (0, 0)
abbrev rowAt (T : List (List Int)) (i : Nat) : List Int := T[i]?.getD []
/-- A table told by a header row and a pool of rows. -/
structure TabP (ids : List (Nat × Nat)) (pool T : List (List Int)) : Prop where
  len : T.length ≤ ids.length
  lt : ∀ i, i < T.length → (idAt ids i).1 < pool.length
  sz : ∀ i, i < T.length → (idAt ids i).2 = (rowAt T i).length
  row : ∀ i, i < T.length → rowAt pool (idAt ids i).1 = rowAt T i
  inj : ∀ i j, i < T.length → j < T.length → (idAt ids i).1 = (idAt ids j).1 → i = j
/-- How many cells the first rows have. -/
def total (T : List (List Int)) : Nat → Nat
  | 0 => 0
  | i + 1 => total T i + (rowAt T i).length
structure SmallT (N : Nat) (T : List (List Int)) : Prop where
  rows : T.length < N ∧ T.length ≤ 1000
  cols : ∀ i, i < T.length → (rowAt T i).length < N ∧ (rowAt T i).length ≤ 1000
/-! the law's functions on tables -/
/-- A row that is marked from a number on. -/
def MarkR (k0 : Int) (L : Nat) (xs : List Int) : Prop := xs.length = L ∧ ∀ j, j < L → xs[j]?.getD 0 = k0 + j
/-- A table that is marked. -/
structure TabM (ids : List (Nat × Nat)) (P T : List (List Int)) : Prop where
  len : T.length ≤ ids.length
  sz : ∀ i, i < T.length → (idAt ids i).2 = (rowAt T i).length
  row : ∀ i, i < T.length → MarkR (1 + total T i) (rowAt T i).length (rowAt P (idAt ids i).1)
/-! tables that are built by appends -/
end
end Go.AM

namespace Go.AM
section
variable {β : Type}
theorem len1 {γ : Type} (s : List γ) (x : γ) : (s ++ [x]).length = s.length + 1 := by simp
end
end Go.AM

namespace Go.AM
section
variable {β : Type}
/-- A walk until it comes back to where it began. -/
def cycL (nxt : Nat → Nat) (st : Nat) : Nat → Nat → List Nat
  | 0, _ => []
  | d + 1, k => k :: (if nxt k = st then [] else cycL nxt st d (nxt k))
/-- What holds on a walk: cells that are not negative are set. -/
structure WInv (nxt : Nat → Nat) (n st : Nat) (h : Nat → Int) (k : Nat) : Prop where
  lt : k < n
  fresh : h k < 0
  back : ∀ x, x < n → 0 ≤ h (nxt x) → nxt x = st ∨ 0 ≤ h x
  prev : k = st ∨ ∃ p, p < n ∧ 0 ≤ h p ∧ nxt p = k
  stv : k = st ∨ 0 ≤ h st
def BackC (nxt : Nat → Nat) (n : Nat) (h : Nat → Int) : Prop := ∀ x, x < n → 0 ≤ h (nxt x) → 0 ≤ h x
theorem WInv.start {nxt : Nat → Nat} {n k : Nat} {h : Nat → Int} (hk : k < n) (hf : h k < 0) (hb : BackC nxt n h) : WInv nxt n k h k :=
  ⟨hk, hf, fun x hx hv => .inr (hb x hx hv), .inl rfl, .inl rfl⟩
theorem WInv.step {nxt : Nat → Nat} {n st k : Nat} {h : Nat → Int} {c : Int} (hn : ∀ k, k < n → nxt k < n) (hi : ∀ a b, a < n → b < n → nxt a = nxt b → a = b) (hc : 0 ≤ c) (w : WInv nxt n st h k) (hne : nxt k ≠ st) :
    WInv nxt n st (upd h k c) (nxt k) := by
  have hk := w.lt
  have hfr := w.fresh
  -- the next one is not the one itself
  have hself : nxt k ≠ k := fun e => by
    rcases w.prev with e2 | ⟨p, hp, hv, e2⟩
    · exact hne (e.trans e2)
    · have := hi p k hp hk (e2.trans e.symm)
      subst this
      omega
  refine ⟨hn k hk, ?_, fun x hx hv => ?_, .inr ⟨k, hk, ?_, rfl⟩, .inr ?_⟩
  · rw [upd_at, if_neg hself]
    rcases Int.lt_or_le (h (nxt k)) 0 with h1 | h1
    · exact h1
    · rcases w.back k hk h1 with e | e
      · exact absurd e hne
      · omega
  · rw [upd_at] at hv
    rw [upd_at]
    by_cases ex : x = k
    · right; rw [if_pos ex]; exact hc
    · rw [if_neg ex]
      by_cases e : nxt x = k
      · rcases w.prev with e2 | ⟨p, hp, hpv, e2⟩
        · exact .inl (e.trans e2)
        · have := hi p x hp hx (e2.trans e.symm)
          subst this
          exact .inr hpv
      · rw [if_neg e] at hv
        exact w.back x hx hv
  · rw [upd_at, if_pos rfl]; exact hc
  · rw [upd_at]
    split
    · exact hc
    · rename_i e
      rcases w.stv with e2 | e2
      · exact absurd e2.symm e
      · exact e2
theorem WInv.done {nxt : Nat → Nat} {n st k : Nat} {h : Nat → Int} {c : Int} (hi : ∀ a b, a < n → b < n → nxt a = nxt b → a = b) (hc : 0 ≤ c) (w : WInv nxt n st h k) (he : nxt k = st) : BackC nxt n (upd h k c) := by
  intro x hx hv
  rw [upd_at] at hv ⊢
  by_cases ex : x = k
  · rw [if_pos ex]; exact hc
  · rw [if_neg ex]
    by_cases e : nxt x = k
    · rcases w.prev with e2 | ⟨p, hp, hpv, e2⟩
      · exact absurd (hi x k hx w.lt ((e.trans e2).trans he.symm)) ex
      · have := hi p x hp hx (e2.trans e.symm)
        subst this
        exact hpv
    · rw [if_neg e] at hv
      rcases w.back x hx hv with e3 | e3
      · exact absurd (hi x k hx w.lt (e3.trans he.symm)) ex
      · exact e3
theorem WInv.stSet {nxt : Nat → Nat} {n st k : Nat} {h : Nat → Int} {c : Int} (hc : 0 ≤ c) (w : WInv nxt n st h k) : 0 ≤ upd h k c st := by
  rw [upd_at]
  split
  · exact hc
  · rename_i e
    rcases w.stv with e2 | e2
    · exact absurd e2.symm e
    · exact e2
/-- After a walk the set cells are closed again. -/
theorem walkH_back {nxt : Nat → Nat} {n st : Nat} {c : Int} (hn : ∀ k, k < n → nxt k < n) (hi : ∀ a b, a < n → b < n → nxt a = nxt b → a = b) (hc : 0 ≤ c) :
    ∀ (d k : Nat) (h : Nat → Int), cntU n h ≤ d → WInv nxt n st h k → BackC nxt n (walkH nxt c d k h) := by
  intro d
  induction d with
  | zero =>
    intro k h hd w
    have := cntU_zero (by omega : cntU n h = 0) w.lt
    have := w.fresh
    omega
  | succ d ih =>
    intro k h hd w
    have hcn := cntU_upd w.lt w.fresh hc
    simp only [walkH]
    rw [if_pos w.fresh]
    by_cases e : nxt k = st
    · have hs : walkH nxt c d (nxt k) (upd h k c) = upd h k c := by
        have := w.stSet hc
        rw [← e] at this
        cases d with
        | zero => rfl
        | succ d => simp only [walkH]; rw [if_neg (by omega)]
      rw [hs]
      exact w.done hi hc e
    · exact ih _ _ (by omega) (w.step hn hi hc e)
/-! the first columns of the components -/
def startF (nxt : Nat → Nat) (n i : Nat) (s : ((Nat → Int) × Int) × List Nat) : ((Nat → Int) × Int) × List Nat := (compF nxt n i s.1, if s.1.1 i < 0 then s.2 ++ [i] else s.2)
def startS (nxt : Nat → Nat) (n : Nat) : ((Nat → Int) × Int) × List Nat := iter (startF nxt n) n 0 (((fun j => if j < 8 then -1 else 0), 0), [])
theorem startS_comp (nxt : Nat → Nat) (n : Nat) : (startS nxt n).1 = compS nxt n := by
  have key : ∀ (d i : Nat) (s : ((Nat → Int) × Int) × List Nat), (iter (startF nxt n) d i s).1 = iter (compF nxt n) d i s.1 := by
    intro d
    induction d with
    | zero => exact fun i s => rfl
    | succ d ih => exact fun i s => ih (i + 1) _
  exact key n 0 _
structure StartI (nxt : Nat → Nat) (n i : Nat) (s : ((Nat → Int) × Int) × List Nat) : Prop where
  comp : CompI n i s.1
  back : BackC nxt n s.1.1
  len : (s.2.length : Int) = s.1.2
  lt : ∀ q, q < s.2.length → s.2[q]?.getD 0 < i
  own : ∀ q, q < s.2.length → s.1.1 (s.2[q]?.getD 0) = q
  first : ∀ q, q < s.2.length → ∀ j, j < s.2[q]?.getD 0 → s.1.1 j ≠ q
theorem StartI.step {nxt : Nat → Nat} {n i : Nat} (h8 : n ≤ 8) (hn : ∀ k, k < n → nxt k < n) (hinj : ∀ a b, a < n → b < n → nxt a = nxt b → a = b) (hi : i < n) {s : ((Nat → Int) × Int) × List Nat} (h : StartI nxt n i s) : StartI nxt n (i + 1) (startF nxt n i s) := by
  have hcomp := compF_step hn hi h.comp
  obtain ⟨n', rfl⟩ : ∃ n', n = n' + 1 := ⟨n - 1, by omega⟩
  unfold startF
  by_cases hu : s.1.1 i < 0
  · rw [if_pos hu]
    have hcf : compF nxt (n' + 1) i s.1 = (walkH nxt s.1.2 (n' + 1) i s.1.1, s.1.2 + 1) := by unfold compF; rw [if_pos hu]
    have hnn := h.comp.nn
    have hlen := h.len
    have hval := fun j => walkH_val nxt s.1.2 (n' + 1) i s.1.1 j
    have hbk := walkH_back (st := i) (c := s.1.2) hn hinj hnn (n' + 1) i s.1.1 (cntU_le _ _) (WInv.start hi hu h.back)
    have hold : ∀ j, 0 ≤ s.1.1 j → walkH nxt s.1.2 (n' + 1) i s.1.1 j = s.1.1 j := fun j hj => by
      rcases hval j with e | ⟨e, _⟩
      · exact e
      · omega
    have hnew : walkH nxt s.1.2 (n' + 1) i s.1.1 i = s.1.2 := by
      have h1 := walkH_start nxt hnn n' i s.1.1
      rcases hval i with e | ⟨_, e⟩
      · omega
      · exact e
    refine ⟨hcomp, ?_, ?_, fun q hq => ?_, fun q hq => ?_, fun q hq j hj => ?_⟩
    · rw [hcf]; exact hbk
    · rw [hcf]; simp only [List.length_append, List.length_singleton]; omega
    · rw [len1] at hq
      by_cases e : q = s.2.length
      · subst e; simp
      · simp only; rw [List.getElem?_append_left (by omega)]; have := h.lt q (by omega); omega
    · rw [len1] at hq
      rw [hcf]
      by_cases e : q = s.2.length
      · subst e; simp only [List.getElem?_append_right (Nat.le_refl _), Nat.sub_self, List.getElem?_cons_zero, Option.getD_some]; rw [hnew]; omega
      · simp only; rw [List.getElem?_append_left (by omega), hold _ (by rw [h.own q (by omega)]; omega)]; exact h.own q (by omega)
    · rw [len1] at hq
      rw [hcf]
      by_cases e : q = s.2.length
      · subst e
        simp only [List.getElem?_append_right (Nat.le_refl _), Nat.sub_self, List.getElem?_cons_zero, Option.getD_some] at hj
        simp only
        have hset := h.comp.set j hj
        rw [hold j hset]
        have := h.comp.bd j (by omega)
        omega
      · simp only at hj ⊢
        rw [List.getElem?_append_left (by omega)] at hj
        have hlt := h.lt q (by omega)
        rw [hold j (h.comp.set j (by omega))]
        exact h.first q (by omega) j hj
  · rw [if_neg hu]
    have hcf : compF nxt (n' + 1) i s.1 = s.1 := by unfold compF; rw [if_neg hu]
    rw [hcf] at hcomp ⊢
    exact ⟨hcomp, h.back, h.len, fun q hq => by have := h.lt q hq; simp only; omega, h.own, h.first⟩
theorem StartI.zero {nxt : Nat → Nat} {n : Nat} (h8 : n ≤ 8) (hn : ∀ k, k < n → nxt k < n) : StartI nxt n 0 (((fun j => if j < 8 then -1 else 0), 0), []) :=
  ⟨⟨Int.le_refl _, Int.le_refl _, fun j hj => by omega, fun j hj => by simp [hj], fun j _ hj => by simp [hj]⟩, fun x hx hv => by
    simp only at hv
    have := hn x hx
    rw [if_pos (by omega)] at hv
    omega, rfl, fun q hq => by simp at hq, fun q hq => by simp at hq, fun q hq => by simp at hq⟩
theorem startS_inv {nxt : Nat → Nat} {n : Nat} (h8 : n ≤ 8) (hn : ∀ k, k < n → nxt k < n) (hinj : ∀ a b, a < n → b < n → nxt a = nxt b → a = b) : StartI nxt n n (startS nxt n) := by
  have := iter_inv (f := startF nxt n) (n := n) (I := fun i s => StartI nxt n i s) (fun i s hi h => h.step h8 hn hinj hi) n 0 _ (by omega) (StartI.zero h8 hn)
  rwa [Nat.zero_add] at this
end
end Go.AM

namespace Go.AM
section
variable {β : Type}
/-- The letter of a corner. -/
def letC (kind : Int) (isX : Bool) : List UInt8 := cond (kind == 1) [] (cond (kind == 2) [] (cond (isX == (kind == 0)) [117] [100]))
noncomputable def letX (n : Nat) (X O : Nat → Int) (i : Nat) : List UInt8 := letC (kindI i (X i) (O i) (rowOf n O (X i).toNat)) true
noncomputable def letO (n : Nat) (X O : Nat → Int) (i : Nat) : List UInt8 := letC (kindI i (O i) (X i) (rowOf n X (O i).toNat)) false
noncomputable def wordF (n : Nat) (X O : Nat → Int) (t : List UInt8) (i : Nat) : List UInt8 := t ++ letX n X O i ++ letO n X O i
/-- The word of a component. -/
noncomputable def wordS (n : Nat) (X O : Nat → Int) (st : Nat) : List UInt8 := (cycL (nxtC n X O) st n st).foldl (wordF n X O) []
theorem nxtC_inj {n : Nat} {X O : Nat → Int} (g : GridP n X O) (hX : ∀ j, 0 ≤ X j) (hO : ∀ j, 0 ≤ O j) : ∀ a b, a < n → b < n → nxtC n X O a = nxtC n X O b → a = b := by
  intro a b ha hb e
  have o1 := g.swap.bdX hO ha
  have o2 := g.swap.bdX hO hb
  unfold nxtC at e
  have e1 := (rowOf_spec g.px hX (r := (O a).toNat) (by omega)).2
  have e2 := (rowOf_spec g.px hX (r := (O b).toNat) (by omega)).2
  rw [e, e2] at e1
  exact g.po.2.2 a b ha hb (by omega)
theorem freshW {nxt : Nat → Nat} {n k : Nat} (h8 : n ≤ 8) (hn : ∀ k, k < n → nxt k < n) (hk : k < n) : WInv nxt n k (fun j => if j < 8 then -1 else 0) k :=
  .start hk (by rw [if_pos (by omega)]; omega) (StartI.zero h8 hn).back
/-- All words. -/
noncomputable def wordsS (n : Nat) (X O : Nat → Int) : List (List UInt8) := (startS (nxtC n X O) n).2.map (wordS n X O)
/-! the walks of the program -/
end
end Go.AM

namespace Go.AM
section
/-! sums over columns and over walks -/
def sumF (f : Nat → Nat) : Nat → Nat
  | 0 => 0
  | d + 1 => sumF f d + f d
theorem sumF_congr {f g : Nat → Nat} : ∀ {n : Nat}, (∀ i, i < n → f i = g i) → sumF f n = sumF g n := by
  intro n
  induction n with
  | zero => intro _; rfl
  | succ n ih => intro h; rw [sumF, sumF, ih fun i hi => h i (by omega), h n (by omega)]
theorem sumF_bump {f g : Nat → Nat} {k a : Nat} : ∀ {n : Nat}, k < n → f k = g k + a → (∀ i, i < n → i ≠ k → f i = g i) → sumF f n = sumF g n + a := by
  intro n
  induction n with
  | zero => intro h; omega
  | succ n ih =>
    intro hk h1 h2
    rw [sumF, sumF]
    by_cases e : k = n
    · subst e
      rw [sumF_congr fun i hi => h2 i (by omega) (by omega), h1]
      omega
    · rw [ih (by omega) h1 fun i hi => h2 i (by omega), h2 n (by omega) (by omega)]
      omega
theorem sumF_zero : ∀ n, sumF (fun _ => 0) n = 0 := by
  intro n
  induction n with
  | zero => rfl
  | succ n ih => rw [sumF, ih]
/-- The sum over the columns of a component. -/
def selS (h : Nat → Int) (c : Int) (f : Nat → Nat) (n : Nat) : Nat := sumF (fun i => if h i = c then f i else 0) n
theorem selS_upd {h : Nat → Int} {c : Int} (f : Nat → Nat) {n k : Nat} (hk : k < n) (hne : h k ≠ c) : selS (upd h k c) c f n = selS h c f n + f k := by
  unfold selS
  refine sumF_bump hk ?_ fun i _ hi => ?_
  · rw [upd_at, if_pos rfl, if_pos rfl, if_neg hne]; omega
  · rw [upd_at, if_neg hi]
theorem walkH_sel {nxt : Nat → Nat} {n st : Nat} {c : Int} (f : Nat → Nat) (hn : ∀ k, k < n → nxt k < n) (hi : ∀ a b, a < n → b < n → nxt a = nxt b → a = b) (hc : 0 ≤ c) :
    ∀ (d k : Nat) (h : Nat → Int), cntU n h ≤ d → WInv nxt n st h k → selS (walkH nxt c d k h) c f n = selS h c f n + ((cycL nxt st d k).map f).sum := by
  intro d
  induction d with
  | zero =>
    intro k h hd w
    have := cntU_zero (by omega : cntU n h = 0) w.lt
    have := w.fresh
    omega
  | succ d ih =>
    intro k h hd w
    have hcn := cntU_upd w.lt w.fresh hc
    have hs := selS_upd (h := h) (c := c) f w.lt (by have := w.fresh; omega)
    simp only [walkH, cycL]
    rw [if_pos w.fresh]
    by_cases e : nxt k = st
    · have hs' : walkH nxt c d (nxt k) (upd h k c) = upd h k c := by
        have := w.stSet hc
        rw [← e] at this
        cases d with
        | zero => rfl
        | succ d => simp only [walkH]; rw [if_neg (by omega)]
      rw [hs', if_pos e, hs]
      simp
    · rw [if_neg e, ih _ _ (by omega) (w.step hn hi hc e), hs, List.map_cons, List.sum_cons]
      omega
theorem start_sel {nxt : Nat → Nat} {n : Nat} (f : Nat → Nat) (h8 : n ≤ 8) (hn : ∀ k, k < n → nxt k < n) (hinj : ∀ a b, a < n → b < n → nxt a = nxt b → a = b) :
    ∀ q, q < (startS nxt n).2.length → selS (startS nxt n).1.1 q f n = ((cycL nxt ((startS nxt n).2[q]?.getD 0) n ((startS nxt n).2[q]?.getD 0)).map f).sum := by
  have key := iter_inv (f := startF nxt n) (n := n) (I := fun i s => StartI nxt n i s ∧ ∀ q, q < s.2.length → selS s.1.1 q f n = ((cycL nxt (s.2[q]?.getD 0) n (s.2[q]?.getD 0)).map f).sum) (fun i s hi ⟨h, h2⟩ => by
    refine ⟨h.step h8 hn hinj hi, ?_⟩
    unfold startF
    by_cases hu : s.1.1 i < 0
    · rw [if_pos hu]
      have hcf : compF nxt n i s.1 = (walkH nxt s.1.2 n i s.1.1, s.1.2 + 1) := by unfold compF; rw [if_pos hu]
      have hnn := h.comp.nn
      have hlen := h.len
      rw [hcf]
      intro q hq
      show selS (walkH nxt s.1.2 n i s.1.1) q f n = _
      rw [List.length_append, List.length_singleton] at hq
      by_cases e : q < s.2.length
      · rw [List.getElem?_append_left e, ← h2 q e]
        unfold selS
        refine sumF_congr fun j _ => ?_
        rcases walkH_val nxt s.1.2 n i s.1.1 j with e1 | ⟨e1, e2⟩
        · rw [e1]
        · rw [e2, if_neg (by omega), if_neg (by omega)]
      · have eq : q = s.2.length := by omega
        subst eq
        rw [List.getElem?_append_right (Nat.le_refl _), hlen, walkH_sel f hn hinj hnn n i s.1.1 (cntU_le _ _) (WInv.start hi hu h.back)]
        have z : selS s.1.1 s.1.2 f n = 0 := by
          unfold selS
          rw [sumF_congr (g := fun _ => 0) fun j hj => ?_, sumF_zero]
          rw [if_neg]
          rcases h.comp.bd j (by omega) with e1 | e1 <;> omega
        rw [z, Nat.zero_add]
        simp
    · rw [if_neg hu]
      have hcf : compF nxt n i s.1 = s.1 := by unfold compF; rw [if_neg hu]
      rw [hcf]
      exact h2) n 0 _ (by omega) ⟨StartI.zero h8 hn, fun q hq => by simp at hq⟩
  rw [Nat.zero_add] at key
  exact key.2
/-! cusps along a walk -/
noncomputable def prevC (n : Nat) (X O : Nat → Int) (i : Nat) : Nat := rowOf n O (X i).toNat
theorem prevC_spec {n : Nat} {X O : Nat → Int} (g : GridP n X O) (hX : ∀ j, 0 ≤ X j) (hO : ∀ j, 0 ≤ O j) {i : Nat} (hi : i < n) : prevC n X O i < n ∧ nxtC n X O (prevC n X O i) = i ∧ prevC n X O i ≠ i ∧ O (prevC n X O i) = X i := by
  have b := g.bdX hX hi
  obtain ⟨h1, h2⟩ := rowOf_spec g.po hO (r := (X i).toNat) (by omega)
  have h3 : O (prevC n X O i) = X i := by unfold prevC; rw [h2]; omega
  refine ⟨h1, ?_, fun e => ?_, h3⟩
  · unfold nxtC
    rw [h3]
    exact rowOf_eq g.px hX hi (by omega)
  · rw [e] at h3
    exact g.ne i hi h3.symm
theorem prevC_nxt {n : Nat} {X O : Nat → Int} (g : GridP n X O) (hX : ∀ j, 0 ≤ X j) (hO : ∀ j, 0 ≤ O j) {i : Nat} (hi : i < n) : prevC n X O (nxtC n X O i) = i := by
  have h1 := nxtC_lt g hX hO i hi
  obtain ⟨p1, p2, _, _⟩ := prevC_spec g hX hO h1
  exact nxtC_inj g hX hO _ _ p1 hi p2
noncomputable def hzC (n : Nat) (X O : Nat → Int) (i : Nat) : Nat := if nxtC n X O i < i then 1 else 0
noncomputable def cuspN (n : Nat) (X O : Nat → Int) (i : Nat) : Nat := (letX n X O i).length + (letO n X O i).length
theorem letC_len2 {k : Int} (b : Bool) : (letC k b).length = if k = 1 ∨ k = 2 then 0 else 1 := by
  unfold letC
  by_cases h1 : k = 1
  · subst h1; rfl
  · by_cases h2 : k = 2
    · subst h2; rfl
    · rw [if_neg (by omega), show (k == 1) = false by simpa using h1, show (k == 2) = false by simpa using h2]
      cases (b == (k == 0)) <;> rfl
theorem kind_cusp (i r o c : Int) : (kindI i r o c = 1 ∨ kindI i r o c = 2) ↔ ¬ (o < r ↔ c < i) := by
  unfold kindI
  by_cases h1 : o < r <;> by_cases h2 : c < i <;> simp [h1, h2]
theorem cuspN_par {n : Nat} {X O : Nat → Int} (g : GridP n X O) (hX : ∀ j, 0 ≤ X j) (hO : ∀ j, 0 ≤ O j) {i : Nat} (hi : i < n) : (cuspN n X O i + hzC n X O (prevC n X O i) + hzC n X O i) % 2 = 0 := by
  obtain ⟨p1, p2, p3, p4⟩ := prevC_spec g hX hO hi
  have hne := g.ne i hi
  unfold cuspN letX letO hzC
  rw [letC_len2, letC_len2, p2]
  simp only [kind_cusp]
  rw [show rowOf n O (X i).toNat = prevC n X O i from rfl, show rowOf n X (O i).toNat = nxtC n X O i from rfl]
  generalize prevC n X O i = p at *
  generalize nxtC n X O i = q at *
  by_cases h1 : O i < X i
  · by_cases h2 : p < i <;> by_cases h3 : q < i
    · rw [if_neg (by omega), if_pos (by omega), if_neg (by omega), if_pos (by omega)]
    · rw [if_neg (by omega), if_neg (by omega), if_neg (by omega), if_neg (by omega)]
    · rw [if_pos (by omega), if_pos (by omega), if_pos (by omega), if_pos (by omega)]
    · rw [if_pos (by omega), if_neg (by omega), if_pos (by omega), if_neg (by omega)]
  · by_cases h2 : p < i <;> by_cases h3 : q < i
    · rw [if_pos (by omega), if_neg (by omega), if_neg (by omega), if_pos (by omega)]
    · rw [if_pos (by omega), if_pos (by omega), if_neg (by omega), if_neg (by omega)]
    · rw [if_neg (by omega), if_neg (by omega), if_pos (by omega), if_pos (by omega)]
    · rw [if_neg (by omega), if_pos (by omega), if_pos (by omega), if_neg (by omega)]
theorem cyc_par {n st : Nat} {X O : Nat → Int} (g : GridP n X O) (hX : ∀ j, 0 ≤ X j) (hO : ∀ j, 0 ≤ O j) (hst : st < n) :
    ∀ (d k : Nat) (h : Nat → Int), cntU n h ≤ d → WInv (nxtC n X O) n st h k → (((cycL (nxtC n X O) st d k).map (cuspN n X O)).sum + hzC n X O (prevC n X O k) + hzC n X O (prevC n X O st)) % 2 = 0 := by
  intro d
  induction d with
  | zero =>
    intro k h hd w
    have := cntU_zero (by omega : cntU n h = 0) w.lt
    have := w.fresh
    omega
  | succ d ih =>
    intro k h hd w
    have hcn := cntU_upd w.lt w.fresh (c := 0) (by omega)
    have hp := cuspN_par g hX hO w.lt
    have hq := prevC_nxt g hX hO w.lt
    simp only [cycL]
    by_cases e : nxtC n X O k = st
    · rw [if_pos e, ← e, hq]
      simp
      omega
    · rw [if_neg e, List.map_cons, List.sum_cons]
      have := ih _ _ (by omega) (w.step (nxtC_lt g hX hO) (nxtC_inj g hX hO) (c := 0) (by omega) e)
      rw [hq] at this
      omega
theorem cyc_even {n st : Nat} {X O : Nat → Int} (g : GridP n X O) (hX : ∀ j, 0 ≤ X j) (hO : ∀ j, 0 ≤ O j) (hst : st < n) : ((cycL (nxtC n X O) st n st).map (cuspN n X O)).sum % 2 = 0 := by
  have := cyc_par g hX hO hst n st (fun j => if j < 8 then -1 else 0) (cntU_le _ _) (freshW g.hi (nxtC_lt g hX hO) hst)
  omega
theorem wordS_len (n : Nat) (X O : Nat → Int) (st : Nat) : (wordS n X O st).length = ((cycL (nxtC n X O) st n st).map (cuspN n X O)).sum := by
  unfold wordS
  have key : ∀ (l : List Nat) (t : List UInt8), (l.foldl (wordF n X O) t).length = t.length + (l.map (cuspN n X O)).sum := by
    intro l
    induction l with
    | nil => intro t; simp
    | cons x l ih =>
      intro t
      rw [List.foldl_cons, ih, List.map_cons, List.sum_cons]
      unfold wordF cuspN
      rw [List.length_append, List.length_append]
      omega
  rw [key]
  simp
/-! cusps by components -/
theorem cuspF_sum (xs : List Int) (skip : Int → Bool) (j : Nat) (s : Int × Int) : (cuspF xs skip j s).1 + (cuspF xs skip j s).2 = s.1 + s.2 + (if skip (recAt xs j 0) = true ∨ recAt xs j 2 = 1 ∨ recAt xs j 2 = 2 then 0 else 1) := by
  unfold cuspF
  split
  · omega
  · split <;> simp only <;> omega
theorem corner_kinds {n : Nat} {X O : Nat → Int} {i : Nat} (hi : i < n) : recAt (cornersL n X O) (2 * i) 0 = i ∧ recAt (cornersL n X O) (2 * i + 1) 0 = i ∧
    recAt (cornersL n X O) (2 * i) 2 = kindI i (X i) (O i) (rowOf n O (X i).toNat) ∧ recAt (cornersL n X O) (2 * i + 1) 2 = kindI i (O i) (X i) (rowOf n X (O i).toNat) := by
  have c0 := (corner_recs (n := n) (X := X) (O := O) (2 * i) (by omega)).1
  have c1 := (corner_recs (n := n) (X := X) (O := O) (2 * i + 1) (by omega)).1
  rw [show 2 * i / 2 = i by omega] at c0
  rw [show (2 * i + 1) / 2 = i by omega] at c1
  refine ⟨c0, c1, ?_, ?_⟩
  · unfold recAt
    rw [show 2 * i * 4 + 2 = 8 * i + 2 by omega, cornerL_get n X O hi (q := 2) (by omega)]
    rfl
  · unfold recAt
    rw [show (2 * i + 1) * 4 + 2 = 8 * i + 6 by omega, cornerL_get n X O hi (q := 6) (by omega)]
    rfl
theorem cusps_sum {n : Nat} {X O : Nat → Int} (skip : Int → Bool) : ∀ d, d ≤ n →
    (cuspS (cornersL n X O) skip (2 * d)).1 + (cuspS (cornersL n X O) skip (2 * d)).2 = (sumF (fun i => if skip (i : Int) = true then 0 else cuspN n X O i) d : Nat) := by
  intro d
  induction d with
  | zero => intro _; rfl
  | succ d ih =>
    intro hd
    have hi := ih (by omega)
    obtain ⟨c0, c1, k0, k1⟩ := corner_kinds (n := n) (X := X) (O := O) (i := d) (by omega)
    have e : cuspS (cornersL n X O) skip (2 * (d + 1)) = cuspF (cornersL n X O) skip (2 * d + 1) (cuspF (cornersL n X O) skip (2 * d) (cuspS (cornersL n X O) skip (2 * d))) := by
      unfold cuspS
      rw [show 2 * (d + 1) = 2 * d + 1 + 1 by omega, iter_succ, iter_succ, Nat.zero_add, Nat.zero_add]
    rw [e, cuspF_sum, cuspF_sum, hi, sumF, c0, c1, k0, k1]
    unfold cuspN letX letO
    rw [letC_len2, letC_len2]
    cases skip (d : Int)
    · simp only [Bool.false_eq_true, false_or, if_false]
      split <;> split <;> omega
    · simp
theorem cusps_comp {n : Nat} {X O : Nat → Int} (wh : Nat → Int) {c : Int} (hc : 0 ≤ c) : (cuspS (cornersL n X O) (skipC wh c) (2 * n)).1 + (cuspS (cornersL n X O) (skipC wh c) (2 * n)).2 = (selS wh c (cuspN n X O) n : Nat) := by
  rw [cusps_sum _ n (Nat.le_refl n)]
  unfold selS
  congr 1
  refine sumF_congr fun i _ => ?_
  unfold skipC
  rw [Int.toNat_natCast, decide_eq_true hc, Bool.true_and]
  by_cases e : wh i = c
  · rw [if_pos e, if_neg (by simp [e])]
  · rw [if_neg e, if_pos (by simp [e])]
/-- The cusps of a component are the letters of its word, an even number. -/
theorem comp_cusps {n : Nat} {X O : Nat → Int} (g : GridP n X O) (hX : ∀ j, 0 ≤ X j) (hO : ∀ j, 0 ≤ O j) {c : Nat} (hc : (c : Int) < (compS (nxtC n X O) n).2) :
    (cuspS (cornersL n X O) (skipC (compS (nxtC n X O) n).1 c) (2 * n)).1 + (cuspS (cornersL n X O) (skipC (compS (nxtC n X O) n).1 c) (2 * n)).2 = ((wordsS n X O)[c]?.getD []).length ∧
    ((wordsS n X O)[c]?.getD []).length % 2 = 0 ∧ c < (wordsS n X O).length := by
  have hn := nxtC_lt g hX hO
  have hi := nxtC_inj g hX hO
  have inv := startS_inv g.hi hn hi
  have hlen := inv.len
  rw [startS_comp] at hlen
  have hq : c < (startS (nxtC n X O) n).2.length := by omega
  have hs := start_sel (cuspN n X O) g.hi hn hi c hq
  rw [startS_comp] at hs
  have hst := inv.lt c hq
  have ew : (wordsS n X O)[c]?.getD [] = wordS n X O ((startS (nxtC n X O) n).2[c]?.getD 0) := by
    unfold wordsS
    rw [List.getElem?_map, List.getElem?_eq_getElem hq]
    rfl
  rw [ew, wordS_len, cusps_comp _ (by omega : (0 : Int) ≤ c), hs]
  exact ⟨rfl, cyc_even g hX hO hst, by unfold wordsS; rw [List.length_map]; exact hq⟩
theorem wordsS_num {n : Nat} {X O : Nat → Int} (g : GridP n X O) (hX : ∀ j, 0 ≤ X j) (hO : ∀ j, 0 ≤ O j) : ((wordsS n X O).length : Int) = (compS (nxtC n X O) n).2 := by
  have inv := startS_inv g.hi (nxtC_lt g hX hO) (nxtC_inj g hX hO)
  have := inv.len
  rw [startS_comp] at this
  unfold wordsS
  rw [List.length_map]
  exact this
end
end Go.AM

namespace Go.AM
section
/-! numbers of components add up -/
def sumI (f : Nat → Int) : Nat → Int
  | 0 => 0
  | d + 1 => sumI f d + f d
theorem sumI_congr {f g : Nat → Int} : ∀ {n : Nat}, (∀ i, i < n → f i = g i) → sumI f n = sumI g n := by
  intro n
  induction n with
  | zero => intro _; rfl
  | succ n ih => intro h; rw [sumI, sumI, ih fun i hi => h i (by omega), h n (by omega)]
theorem sumI_bump {f g : Nat → Int} {k : Nat} {a : Int} : ∀ {n : Nat}, k < n → f k = g k + a → (∀ i, i < n → i ≠ k → f i = g i) → sumI f n = sumI g n + a := by
  intro n
  induction n with
  | zero => intro h; omega
  | succ n ih =>
    intro hk h1 h2
    rw [sumI, sumI]
    by_cases e : k = n
    · subst e
      rw [sumI_congr fun i hi => h2 i (by omega) (by omega), h1]
      omega
    · rw [ih (by omega) h1 fun i hi => h2 i (by omega), h2 n (by omega) (by omega)]
      omega
theorem sumI_zero : ∀ n, sumI (fun _ => 0) n = 0 := by
  intro n
  induction n with
  | zero => rfl
  | succ n ih => rw [sumI, ih]; rfl
theorem cuspF_diff (xs : List Int) (skip : Int → Bool) (j : Nat) (s : Int × Int) : ∃ p m : Int, (∀ skip s, cuspF xs skip j s = if skip (recAt xs j 0) = true then s else (s.1 + p, s.2 + m)) := by
  by_cases h1 : recAt xs j 2 = 1 ∨ recAt xs j 2 = 2
  · refine ⟨0, 0, fun skip s => ?_⟩
    unfold cuspF
    rw [if_pos (.inr h1)]
    split <;> simp
  · by_cases h2 : ((recAt xs j 3 != 0) == (recAt xs j 2 == 3)) = true
    · refine ⟨1, 0, fun skip s => ?_⟩
      unfold cuspF
      by_cases e : skip (recAt xs j 0) = true
      · rw [if_pos (.inl e), if_pos e]
      · rw [if_neg (fun h => h.elim e h1), if_neg e, if_pos h2]; simp
    · refine ⟨0, 1, fun skip s => ?_⟩
      unfold cuspF
      by_cases e : skip (recAt xs j 0) = true
      · rw [if_pos (.inl e), if_pos e]
      · rw [if_neg (fun h => h.elim e h1), if_neg e, if_neg h2]; simp
theorem cusps_add {n cnt : Nat} {X O : Nat → Int} {wh : Nat → Int} (hw : ∀ i, i < n → 0 ≤ wh i ∧ wh i < cnt) : ∀ d, d ≤ 2 * n →
    sumI (fun c => (cuspS (cornersL n X O) (skipC wh c) d).1) cnt = (cuspS (cornersL n X O) (fun _ => false) d).1 ∧ sumI (fun c => (cuspS (cornersL n X O) (skipC wh c) d).2) cnt = (cuspS (cornersL n X O) (fun _ => false) d).2 := by
  intro d
  induction d with
  | zero => intro _; exact ⟨sumI_zero cnt, sumI_zero cnt⟩
  | succ d ih =>
    intro hd
    obtain ⟨i1, i2⟩ := ih (by omega)
    obtain ⟨p, m, hpm⟩ := cuspF_diff (cornersL n X O) (fun _ => false) d (0, 0)
    have c0 := (corner_recs (n := n) (X := X) (O := O) d (by omega)).1
    have hh := hw (d / 2) (by omega)
    have es : ∀ sk, cuspS (cornersL n X O) sk (d + 1) = cuspF (cornersL n X O) sk d (cuspS (cornersL n X O) sk d) := fun sk => by unfold cuspS; rw [iter_succ, Nat.zero_add]
    have sk : ∀ c : Nat, skipC wh c (recAt (cornersL n X O) d 0) = true ↔ (c : Int) ≠ wh (d / 2) := fun c => by
      unfold skipC
      rw [c0, Int.toNat_natCast]
      simp
      omega
    simp only [es, hpm]
    simp only [Bool.false_eq_true, if_false, sk]
    rw [← i1, ← i2]
    refine ⟨sumI_bump (k := (wh (d / 2)).toNat) (by omega) ?_ fun i _ hi => ?_, sumI_bump (k := (wh (d / 2)).toNat) (by omega) ?_ fun i _ hi => ?_⟩
    · rw [if_neg (by omega)]
    · rw [if_pos (by omega)]
    · rw [if_neg (by omega)]
    · rw [if_pos (by omega)]
theorem half_sum {a : Nat → Int} : ∀ n, (∀ i, i < n → a i % 2 = 0) → sumI (fun i => (a i).tdiv 2) n = (sumI a n).tdiv 2 ∧ sumI a n % 2 = 0 := by
  intro n
  induction n with
  | zero => intro _; exact ⟨rfl, rfl⟩
  | succ n ih =>
    intro h
    obtain ⟨h1, h2⟩ := ih fun i hi => h i (by omega)
    have h3 := h n (by omega)
    rw [sumI, sumI, h1]
    refine ⟨?_, by omega⟩
    obtain ⟨x, hx⟩ : ∃ x, sumI a n = 2 * x := ⟨sumI a n / 2, by omega⟩
    obtain ⟨y, hy⟩ : ∃ y, a n = 2 * y := ⟨a n / 2, by omega⟩
    rw [hx, hy, ← Int.mul_add, Int.mul_tdiv_cancel_left _ (by omega), Int.mul_tdiv_cancel_left _ (by omega), Int.mul_tdiv_cancel_left _ (by omega)]
theorem sumI_sub (f g : Nat → Int) : ∀ n, sumI (fun i => f i - g i) n = sumI f n - sumI g n := by
  intro n
  induction n with
  | zero => rfl
  | succ n ih => rw [sumI, sumI, sumI, ih]; omega
/-- The letters of all words are the cusps. -/
theorem letters_sum {n : Nat} {X O : Nat → Int} (g : GridP n X O) (hX : ∀ j, 0 ≤ X j) (hO : ∀ j, 0 ≤ O j) :
    sumI (fun c => (((wordsS n X O)[c]?.getD []).length : Int)) (wordsS n X O).length = (cuspS (cornersL n X O) (fun _ => false) (2 * n)).1 + (cuspS (cornersL n X O) (fun _ => false) (2 * n)).2 := by
  have hnum := wordsS_num g hX hO
  have inv := compS_inv (nxtC_lt g hX hO)
  have h8 := g.hi
  obtain ⟨a1, a2⟩ := cusps_add (n := n) (cnt := (wordsS n X O).length) (X := X) (O := O) (wh := (compS (nxtC n X O) n).1) (fun i hi => by
    have := inv.set i hi
    have := inv.bd i (by omega)
    omega) (2 * n) (Nat.le_refl _)
  rw [← a1, ← a2, sumI_congr (g := fun c => (cuspS (cornersL n X O) (skipC (compS (nxtC n X O) n).1 c) (2 * n)).1 - -(cuspS (cornersL n X O) (skipC (compS (nxtC n X O) n).1 c) (2 * n)).2) fun c hc => ?_, sumI_sub]
  · have neg : ∀ (f : Nat → Int) n, sumI (fun i => -f i) n = -sumI f n := fun f n => by
      induction n with
      | zero => rfl
      | succ n ih => rw [sumI, sumI, ih]; omega
    rw [neg]
    omega
  · have := (comp_cusps g hX hO (c := c) (by omega)).1
    omega
end
end Go.AM

namespace Go.AM
section
/-! sums over columns and rows -/
theorem sumI_add (f g : Nat → Int) : ∀ n, sumI (fun i => f i + g i) n = sumI f n + sumI g n := by
  intro n
  induction n with
  | zero => rfl
  | succ n ih => rw [sumI, sumI, sumI, ih]; omega
theorem sumI_neg (f : Nat → Int) : ∀ n, sumI (fun i => -f i) n = -sumI f n := by
  intro n
  induction n with
  | zero => rfl
  | succ n ih => rw [sumI, sumI, ih]; omega
theorem sumI_swap (f : Nat → Nat → Int) (m : Nat) : ∀ n, sumI (fun i => sumI (fun k => f i k) m) n = sumI (fun k => sumI (fun i => f i k) n) m := by
  intro n
  induction n with
  | zero => exact (sumI_zero m).symm
  | succ n ih =>
    rw [sumI, ih, ← sumI_add]
    exact sumI_congr fun k _ => by rw [sumI]
theorem sumI_one {n j : Nat} (hj : j < n) (f : Nat → Int) : sumI (fun i => if i = j then f i else 0) n = f j := by
  rw [sumI_bump (g := fun _ => 0) (a := f j) hj (by rw [if_pos rfl]; omega) (fun i _ hi => by rw [if_neg hi]), sumI_zero]
  omega
/-- A sum told in another order. -/
theorem sumI_perm {n : Nat} {σ τ : Nat → Nat} (f : Nat → Int) (h1 : ∀ i, i < n → σ i < n ∧ τ (σ i) = i) (h2 : ∀ j, j < n → τ j < n ∧ σ (τ j) = j) : sumI (fun i => f (σ i)) n = sumI f n := by
  have a : sumI (fun i => f (σ i)) n = sumI (fun i => sumI (fun j => if j = σ i then f j else 0) n) n := sumI_congr fun i hi => (sumI_one (h1 i hi).1 f).symm
  rw [a, sumI_swap]
  refine sumI_congr fun j hj => ?_
  rw [sumI_congr (g := fun i => if i = τ j then f j else 0) fun i hi => ?_, sumI_one (h2 j hj).1 fun _ => f j]
  by_cases e : i = τ j
  · rw [if_pos e, if_pos (by rw [e, (h2 j hj).2])]
  · rw [if_neg e, if_neg (fun e2 => e (by rw [e2, (h1 i hi).2]))]
/-- Columns told by rows. -/
theorem sum_rows {n : Nat} {X : Nat → Int} (h : PermP 8 n X) (hX : ∀ j, 0 ≤ X j) (f : Nat → Int) : sumI (fun r => f (rowOf n X r)) n = sumI f n := by
  refine sumI_perm (τ := fun k => (X k).toNat) f (fun r hr => ?_) (fun k hk => ?_)
  · obtain ⟨a, b⟩ := rowOf_spec h hX hr
    exact ⟨a, by rw [b]; omega⟩
  · have a := h.2.1 k hk
    have b := hX k
    exact ⟨by omega, rowOf_eq h hX hk (by omega)⟩
def ind (p : Prop) [Decidable p] : Int := if p then 1 else 0
theorem ind_congr {p q : Prop} [Decidable p] [Decidable q] (h : p ↔ q) : ind p = ind q := by
  unfold ind
  by_cases hp : p
  · rw [if_pos hp, if_pos (h.1 hp)]
  · rw [if_neg hp, if_neg (fun hq => hp (h.2 hq))]
theorem iter_sum (g : Nat → Int) : ∀ (d : Nat) (c : Int), iter (fun k c => c + g k) d 0 c = c + sumI g d := by
  intro d
  induction d with
  | zero => intro c; exact (Int.add_zero c).symm
  | succ d ih => intro c; rw [iter_succ, ih, Nat.zero_add, sumI]; omega
theorem bel_sum (n : Nat) (p q : Nat → Int) (a b : Int) : bel n p q a b = sumI (fun i => sumI (fun k => ind (2 * (i : Int) + a < 2 * k + b ∧ 2 * p i + a < 2 * q k + b)) n) n := by
  have e1 : ∀ i : Nat, belF p q a b i = fun (k : Nat) (c : Int) => c + ind (2 * (i : Int) + a < 2 * k + b ∧ 2 * p i + a < 2 * q k + b) := fun i => by
    funext (k : Nat) (c : Int)
    unfold belF ind
    split <;> omega
  have e2 : belR n p q a b = fun (i : Nat) (c : Int) => c + sumI (fun k => ind (2 * (i : Int) + a < 2 * k + b ∧ 2 * p i + a < 2 * q k + b)) n := by
    funext i c
    unfold belR
    rw [e1, iter_sum]
  unfold bel
  rw [e2, iter_sum]
  omega
theorem writhe_app {s : List Int} (h : s.length = 3 * (s.length / 3)) (a b v : Int) : writheS (s ++ [a, b, v]) = writheS s + v := by
  unfold writheS
  have hl : (s ++ [a, b, v]).length = s.length + 3 := by simp
  have hd : (s ++ [a, b, v]).length / 3 = s.length / 3 + 1 := by omega
  rw [hd, iter_succ, Nat.zero_add]
  have e1 : iter (writheF (s ++ [a, b, v])) (s.length / 3) 0 0 = iter (writheF s) (s.length / 3) 0 0 := by
    have key : ∀ d, d ≤ s.length / 3 → iter (writheF (s ++ [a, b, v])) d 0 0 = iter (writheF s) d 0 0 := by
      intro d
      induction d with
      | zero => intro _; rfl
      | succ d ih =>
        intro hd
        rw [iter_succ, iter_succ, ih (by omega), Nat.zero_add]
        unfold writheF
        rw [List.getElem?_append_left (by omega)]
    exact key _ (Nat.le_refl _)
  rw [e1]
  unfold writheF
  rw [List.getElem?_append_right (by omega), show s.length / 3 * 3 + 2 - s.length = 2 by omega]
  rfl
theorem writhe_sum (n : Nat) (X O : Nat → Int) : writheS (crossL n X O) = sumI (fun i => sumI (fun r => crossV n X O i r) n) n := by
  have row : ∀ (i m : Nat) (s : List Int), CrossI m s → ∀ d, writheS (iter (crossF n X O i) d 0 s) = writheS s + sumI (fun r => crossV n X O i r) d := by
    intro i m s hs d
    induction d with
    | zero => exact (Int.add_zero _).symm
    | succ d ih =>
      rw [iter_succ, Nat.zero_add, sumI]
      have hl := (hs.row (X := X) (O := O) (n := n) (i := i) d).len
      generalize iter (crossF n X O i) d 0 s = t at *
      unfold crossF
      by_cases e : crossV n X O i d = 0
      · rw [show (crossV n X O i d != 0) = false by simpa using e, c_false, ih, e]; omega
      · rw [show (crossV n X O i d != 0) = true by simpa using e, c_true, writhe_app hl, ih]; omega
  have all : ∀ d, writheS (iter (crossR n X O) d 0 []) = sumI (fun i => sumI (fun r => crossV n X O i r) n) d := by
    intro d
    induction d with
    | zero => show writheS [] = 0; unfold writheS; rfl
    | succ d ih =>
      rw [iter_succ, Nat.zero_add, sumI, ← ih]
      exact row d (n * d) _ (CrossI.all d) n
  exact all n
/-- Cusps of a column: those that count for the first number, and for the second. -/
noncomputable def cupP (n : Nat) (X O : Nat → Int) (i : Nat) : Int := ind (O i < X i ∧ prevC n X O i < i) + ind (O i < X i ∧ i < nxtC n X O i)
noncomputable def cupM (n : Nat) (X O : Nat → Int) (i : Nat) : Int := ind (X i < O i ∧ i < prevC n X O i) + ind (X i < O i ∧ nxtC n X O i < i)
theorem corner_marks {n : Nat} {X O : Nat → Int} {i : Nat} (hi : i < n) : recAt (cornersL n X O) (2 * i) 3 = 1 ∧ recAt (cornersL n X O) (2 * i + 1) 3 = 0 := by
  refine ⟨?_, ?_⟩
  · unfold recAt
    rw [show 2 * i * 4 + 3 = 8 * i + 3 by omega, cornerL_get n X O hi (q := 3) (by omega)]
    rfl
  · unfold recAt
    rw [show (2 * i + 1) * 4 + 3 = 8 * i + 7 by omega, cornerL_get n X O hi (q := 7) (by omega)]
    rfl
theorem nxtC_ne {n : Nat} {X O : Nat → Int} (g : GridP n X O) (hX : ∀ j, 0 ≤ X j) (hO : ∀ j, 0 ≤ O j) {i : Nat} (hi : i < n) : nxtC n X O i < n ∧ nxtC n X O i ≠ i ∧ X (nxtC n X O i) = O i := by
  have b := g.swap.bdX hO hi
  obtain ⟨h1, h2⟩ := rowOf_spec g.px hX (r := (O i).toNat) (by omega)
  have h3 : X (nxtC n X O i) = O i := by unfold nxtC; rw [h2]; omega
  refine ⟨h1, fun e => ?_, h3⟩
  rw [e] at h3
  exact g.ne i hi h3
theorem cusps_cols {n : Nat} {X O : Nat → Int} (g : GridP n X O) (hX : ∀ j, 0 ≤ X j) (hO : ∀ j, 0 ≤ O j) : ∀ d, d ≤ n →
    (cuspS (cornersL n X O) (fun _ => false) (2 * d)).1 = sumI (cupP n X O) d ∧ (cuspS (cornersL n X O) (fun _ => false) (2 * d)).2 = sumI (cupM n X O) d := by
  intro d
  induction d with
  | zero => intro _; exact ⟨rfl, rfl⟩
  | succ d ih =>
    intro hd
    obtain ⟨i1, i2⟩ := ih (by omega)
    obtain ⟨c0, c1, k0, k1⟩ := corner_kinds (n := n) (X := X) (O := O) (i := d) (by omega)
    obtain ⟨m0, m1⟩ := corner_marks (n := n) (X := X) (O := O) (i := d) (by omega)
    obtain ⟨p1, p2, p3, p4⟩ := prevC_spec g hX hO (i := d) (by omega)
    obtain ⟨q1, q2, q3⟩ := nxtC_ne g hX hO (i := d) (by omega)
    have hne := g.ne d (by omega)
    have e : cuspS (cornersL n X O) (fun _ => false) (2 * (d + 1)) = cuspF (cornersL n X O) (fun _ => false) (2 * d + 1) (cuspF (cornersL n X O) (fun _ => false) (2 * d) (cuspS (cornersL n X O) (fun _ => false) (2 * d))) := by
      unfold cuspS
      rw [show 2 * (d + 1) = 2 * d + 1 + 1 by omega, iter_succ, iter_succ, Nat.zero_add, Nat.zero_add]
    rw [e, sumI, sumI, ← i1, ← i2]
    generalize cuspS (cornersL n X O) (fun _ => false) (2 * d) = s
    unfold cuspF
    rw [k0, k1, m0, m1]
    unfold cupP cupM kindI
    rw [show rowOf n O (X d).toNat = prevC n X O d from rfl, show rowOf n X (O d).toNat = nxtC n X O d from rfl]
    generalize prevC n X O d = p at *
    generalize nxtC n X O d = q at *
    unfold ind
    by_cases h1 : O d < X d
    · have h1' : ¬ X d < O d := by omega
      by_cases h2 : p < d <;> by_cases h3 : q < d <;> simp (disch := omega) [h1, h1', h2, h3] <;> omega
    · have h1' : X d < O d := by omega
      by_cases h2 : p < d <;> by_cases h3 : q < d <;> simp (disch := omega) [h1, h1', h2, h3] <;> omega
end
end Go.AM

namespace Go.AM
section
/-! the gradings of the upper and the lower state -/
theorem crossV_ite (n : Nat) (X O : Nat → Int) (i r : Nat) : crossV n X O i r =
    if ((X i < r ∧ (r : Int) < O i) ∨ (O i < r ∧ (r : Int) < X i)) ∧ ((rowOf n X r < i ∧ i < rowOf n O r) ∨ (rowOf n O r < i ∧ i < rowOf n X r)) then (if X i < O i ↔ rowOf n X r < rowOf n O r then 1 else -1) else 0 := by
  have bt : ∀ x a b : Int, betB x a b = decide ((a < x ∧ x < b) ∨ (b < x ∧ x < a)) := fun x a b => by
    unfold betB
    rw [Bool.eq_iff_iff, Bool.and_eq_true, decide_eq_true_iff, decide_eq_true_iff, decide_eq_true_iff, c_dec, c_dec]
    split <;> split <;> omega
  unfold crossV
  rw [bt, bt]
  by_cases h1 : (X i < r ∧ (r : Int) < O i) ∨ (O i < r ∧ (r : Int) < X i)
  · rw [decide_eq_true h1, cond_true]
    by_cases h2 : (rowOf n X r < i ∧ i < rowOf n O r) ∨ (rowOf n O r < i ∧ i < rowOf n X r)
    · rw [decide_eq_true (by omega), cond_true, if_pos ⟨h1, h2⟩]
      by_cases h3 : X i < O i <;> by_cases h4 : rowOf n X r < rowOf n O r <;> simp [h3, h4]
    · rw [decide_eq_false (by omega), cond_false, if_neg (fun h => h2 h.2)]
  · rw [decide_eq_false h1, cond_false, if_neg (fun h => h1 h.1)]
theorem pair_prod {a b r : Int} {i x o : Nat} (hab : a ≠ b) (hx : x = i ↔ a = r) (ho : o = i ↔ b = r) (hxo : x ≠ o) :
    (ind (a < r) - ind (b < r)) * (ind (i < x) - ind (i < o)) =
      -(if ((a < r ∧ r < b) ∨ (b < r ∧ r < a)) ∧ ((x < i ∧ i < o) ∨ (o < i ∧ i < x)) then (if a < b ↔ x < o then 1 else -1) else 0) + ((if a = r then ind (b < a ∧ i < o) else 0) + (if b = r then ind (a < b ∧ i < x) else 0)) := by
  unfold ind
  rcases Int.lt_trichotomy a r with h1 | h1 | h1 <;> rcases Int.lt_trichotomy b r with h2 | h2 | h2 <;> rcases Nat.lt_trichotomy i x with h3 | h3 | h3 <;> rcases Nat.lt_trichotomy i o with h4 | h4 | h4 <;> first
    | omega
    | (simp (disch := omega) only [if_pos, if_neg]
       first
        | omega
        | (by_cases h5 : a < b <;> by_cases h6 : x < o <;> simp (disch := omega) [h5, h6, if_pos, if_neg] <;> omega))
structure FrontG (n : Nat) (X O : Nat → Int) : Prop where
  g : GridP n X O
  x : ∀ j, 0 ≤ X j
  o : ∀ j, 0 ≤ O j
/-- How many pairs of columns go up from one list to the other. -/
def upN (n : Nat) (p q : Nat → Int) : Int := sumI (fun i => sumI (fun k => ind (i < k ∧ p i < q k)) n) n
theorem ind_and (p q : Prop) [Decidable p] [Decidable q] : ind (p ∧ q) = ind p * ind q := by
  unfold ind
  by_cases hp : p <;> by_cases hq : q <;> simp [hp, hq]
theorem sum2_congr {n m : Nat} {f g : Nat → Nat → Int} (h : ∀ i k, i < n → k < m → f i k = g i k) : sumI (fun i => sumI (fun k => f i k) m) n = sumI (fun i => sumI (fun k => g i k) m) n :=
  sumI_congr fun i hi => sumI_congr fun k hk => h i k hi hk
theorem sum2_add (f g : Nat → Nat → Int) (n m : Nat) : sumI (fun i => sumI (fun k => f i k + g i k) m) n = sumI (fun i => sumI (fun k => f i k) m) n + sumI (fun i => sumI (fun k => g i k) m) n := by
  rw [← sumI_add]
  exact sumI_congr fun i _ => sumI_add _ _ m
theorem sum2_sub (f g : Nat → Nat → Int) (n m : Nat) : sumI (fun i => sumI (fun k => f i k - g i k) m) n = sumI (fun i => sumI (fun k => f i k) m) n - sumI (fun i => sumI (fun k => g i k) m) n := by
  rw [← sumI_sub]
  exact sumI_congr fun i _ => sumI_sub _ _ m
theorem sum2_neg (f : Nat → Nat → Int) (n m : Nat) : sumI (fun i => sumI (fun k => -f i k) m) n = -sumI (fun i => sumI (fun k => f i k) m) n := by
  rw [← sumI_neg]
  exact sumI_congr fun i _ => sumI_neg _ m
/-- Both double sums of a front. -/
theorem front_S {n : Nat} {X O : Nat → Int} (F : FrontG n X O) :
    upN n X X - upN n X O - upN n O X + upN n O O = -writheS (crossL n X O) + sumI (fun i => ind (O i < X i ∧ i < prevC n X O i) + ind (X i < O i ∧ i < nxtC n X O i)) n := by
  have g := F.g
  have hX := F.x
  have hO := F.o
  have rowX : ∀ i, sumI (fun k => ind (i < k ∧ X i < X k)) n - sumI (fun k => ind (i < k ∧ O i < X k)) n = sumI (fun r => ind (i < rowOf n X r) * (ind (X i < r) - ind (O i < r))) n := fun i => by
    rw [← sumI_sub, ← sum_rows g.px hX]
    refine sumI_congr fun r hr => ?_
    have e := (rowOf_spec g.px hX hr).2
    rw [ind_and, ind_and, e, Int.mul_sub]
  have rowO : ∀ i, sumI (fun k => ind (i < k ∧ X i < O k)) n - sumI (fun k => ind (i < k ∧ O i < O k)) n = sumI (fun r => ind (i < rowOf n O r) * (ind (X i < r) - ind (O i < r))) n := fun i => by
    rw [← sumI_sub, ← sum_rows g.po hO]
    refine sumI_congr fun r hr => ?_
    have e := (rowOf_spec g.po hO hr).2
    rw [ind_and, ind_and, e, Int.mul_sub]
  have e1 : upN n X X - upN n X O - upN n O X + upN n O O = sumI (fun i => sumI (fun r => (ind (X i < r) - ind (O i < r)) * (ind (i < rowOf n X r) - ind (i < rowOf n O r))) n) n := by
    unfold upN
    have : ∀ a b c d : Int, a - b - c + d = (a - c) - (b - d) := by intros; omega
    rw [this, ← sumI_sub, ← sumI_sub, ← sumI_sub]
    refine sumI_congr fun i _ => ?_
    rw [rowX, rowO, ← sumI_sub]
    refine sumI_congr fun r _ => ?_
    rw [← Int.sub_mul, Int.mul_comm]
  rw [e1, writhe_sum, ← sum2_neg, ← sumI_add]
  refine sumI_congr fun i hi => ?_
  obtain ⟨p1, p2, p3, p4⟩ := prevC_spec g hX hO hi
  obtain ⟨q1, q2, q3⟩ := nxtC_ne g hX hO hi
  have bx := g.bdX hX hi
  have bo := g.swap.bdX hO hi
  have hne := g.ne i hi
  have key : ∀ r, r < n → (ind (X i < r) - ind (O i < r)) * (ind (i < rowOf n X r) - ind (i < rowOf n O r)) =
      -crossV n X O i r + ((if r = (X i).toNat then ind (O i < X i ∧ i < rowOf n O r) else 0) + (if r = (O i).toNat then ind (X i < O i ∧ i < rowOf n X r) else 0)) := fun r hr => by
    obtain ⟨x1, x2⟩ := rowOf_spec g.px hX hr
    obtain ⟨o1, o2⟩ := rowOf_spec g.po hO hr
    have hx : rowOf n X r = i ↔ X i = r := ⟨fun e => by rw [← e, x2], fun e => rowOf_eq g.px hX hi e⟩
    have ho : rowOf n O r = i ↔ O i = r := ⟨fun e => by rw [← e, o2], fun e => rowOf_eq g.po hO hi e⟩
    have hxo : rowOf n X r ≠ rowOf n O r := fun e => by
      have e1 := (rowOf_spec g.po hO hr).2
      rw [← e] at e1
      exact g.ne _ x1 (by rw [x2, e1])
    rw [crossV_ite, pair_prod hne hx ho hxo]
    congr 1
    congr 1
    · by_cases e : X i = r
      · rw [if_pos e, if_pos (by omega)]
      · rw [if_neg e, if_neg (by omega)]
    · by_cases e : O i = r
      · rw [if_pos e, if_pos (by omega)]
      · rw [if_neg e, if_neg (by omega)]
  rw [sumI_congr key, sumI_add, sumI_add, sumI_one (by omega) fun r => ind (O i < X i ∧ i < rowOf n O r), sumI_one (by omega) fun r => ind (X i < O i ∧ i < rowOf n X r)]
  rfl
theorem bel_self (n : Nat) (p q : Nat → Int) (a : Int) : bel n p q a a = upN n p q := by
  rw [bel_sum]
  unfold upN
  exact sum2_congr fun i k _ _ => ind_congr (by omega)
/-- The pairs of one list of cells and the marks. -/
theorem below_XO {n : Nat} {X O : Nat → Int} (F : FrontG n X O) : bel n X O 0 1 = upN n X O + sumI (fun i => ind (X i < O i) + ind (i < prevC n X O i)) n := by
  have g := F.g
  rw [bel_sum]
  unfold upN
  rw [← sumI_add]
  refine sumI_congr fun i hi => ?_
  obtain ⟨p1, p2, p3, p4⟩ := prevC_spec g F.x F.o hi
  have hne := g.ne i hi
  have key : ∀ k, k < n → ind (2 * (i : Int) + 0 < 2 * k + 1 ∧ 2 * X i + 0 < 2 * O k + 1) = ind (i < k ∧ X i < O k) + ((if k = i then ind (X i < O k) else 0) + (if k = prevC n X O i then ind (i < k) else 0)) := fun k hk => by
    have hp : O k = X i ↔ k = prevC n X O i := ⟨fun e => g.po.2.2 k _ hk p1 (by rw [e, p4]), fun e => by rw [e, p4]⟩
    generalize prevC n X O i = p at *
    unfold ind
    by_cases e1 : k = i
    · subst e1
      rw [if_pos rfl]
      by_cases h : X k < O k
      · rw [if_pos (by omega), if_neg (by omega), if_pos h, if_neg (by omega)]; rfl
      · rw [if_neg (by omega), if_neg (by omega), if_neg h, if_neg (by omega)]; rfl
    · rw [if_neg e1]
      by_cases e2 : k = p
      · rw [if_pos e2]
        have := hp.2 e2
        by_cases h : i < k
        · rw [if_pos (by omega), if_neg (by omega), if_pos h]; rfl
        · rw [if_neg (by omega), if_neg (by omega), if_neg h]; rfl
      · rw [if_neg e2]
        have : O k ≠ X i := fun e => e2 (hp.1 e)
        by_cases h : i < k ∧ X i < O k
        · rw [if_pos (by omega), if_pos h]; rfl
        · rw [if_neg (by omega), if_neg h]; rfl
  rw [sumI_congr key, sumI_add, sumI_add, sumI_one hi fun k => ind (X i < O k), sumI_one p1 fun k => ind (i < k)]
theorem bel_lt (n : Nat) (p q : Nat → Int) : bel n p q 1 0 = upN n p q := by
  rw [bel_sum]
  unfold upN
  exact sum2_congr fun i k _ _ => ind_congr (by omega)
/-- The lower state's grading. -/
theorem maslov_lower {n : Nat} {X O : Nat → Int} (F : FrontG n X O) : maslov n X O = -writheS (crossL n X O) - sumI (cupM n X O) n + 1 := by
  unfold maslov
  have hS := front_S F
  rw [bel_self, bel_self, below_XO F, bel_lt]
  have key : sumI (fun i => ind (O i < X i ∧ i < prevC n X O i) + ind (X i < O i ∧ i < nxtC n X O i)) n - sumI (fun i => ind (X i < O i) + ind (i < prevC n X O i)) n = -sumI (cupM n X O) n := by
    rw [← sumI_sub, ← sumI_neg]
    refine sumI_congr fun i hi => ?_
    obtain ⟨p1, p2, p3, p4⟩ := prevC_spec F.g F.x F.o hi
    obtain ⟨q1, q2, q3⟩ := nxtC_ne F.g F.x F.o hi
    have hne := F.g.ne i hi
    unfold cupM ind
    by_cases h1 : X i < O i
    · have h1' : ¬ O i < X i := by omega
      by_cases h2 : i < prevC n X O i <;> by_cases h3 : i < nxtC n X O i <;> simp (disch := omega) [h1, h1', h2, h3] <;> omega
    · have h1' : O i < X i := by omega
      by_cases h2 : i < prevC n X O i <;> by_cases h3 : i < nxtC n X O i <;> simp (disch := omega) [h1, h1', h2, h3] <;> omega
  omega
end
end Go.AM

namespace Go.AM
section
variable {β : Type}
theorem tmod_lt {a b : Int} (ha : 0 ≤ a) (hb : 0 < b) : 0 ≤ a.tmod b ∧ a.tmod b < b := ⟨Int.tmod_nonneg b ha, Int.tmod_lt_of_pos a hb⟩
theorem upper_loops (z : β) (n : Int) (X O h1 : Nat → Int) : ∀ m t h k, i_UpperState_1_l0 z n n n X O h1 m t h k = s_l07Upper_l0 z n X O h1 m t h k := by
  intro m
  induction m with
  | zero => intros; rfl
  | succ m ih => intro t h k; simp only [i_UpperState_1_l0, s_l07Upper_l0, ih]; rfl
/-- The upper state. -/
def upperF (n : Nat) (X : Nat → Int) (i : Nat) (h : Nat → Int) : Nat → Int := upd h (((i : Int) + 1).tmod n).toNat (wrapU IntKind.u8 ((X i + 1).tmod n))
theorem s_l07Upper_val (z : β) {N : Nat} (hN : 8 < N) {n : Nat} {X O : Nat → Int} (g : GridP n X O) (hX : ∀ j, 0 ≤ X j ∧ X j ≤ 255) (k0 : (Nat → Int) → β) : s_l07Upper z N n X O k0 = k0 (iter (upperF n X) n 0 fun _ => 0) := by
  unfold s_l07Upper
  have hlo := g.lo
  have hhi := g.hi
  refine up_to (L := fun m i h => s_l07Upper_l0 z n X O (fun _ => 0) m (i : Int) h k0) (n := n) (out := k0) (I := fun _ _ => True)
    (fun m i s hi _ => ⟨?_, trivial⟩) (fun m s _ => by simp (disch := omega) only [s_l07Upper_l0, s_l07Upper_l0_s, c_nlt]) n N 0 (fun _ => 0) (by omega) (by omega) trivial
  have h1 := hX i
  obtain ⟨h2, h3⟩ := tmod_lt (a := (i : Int) + 1) (b := n) (by omega) (by omega)
  simp only [s_l07Upper_l0, s_l07Upper_l0_s, c_and, Int.toNat_natCast, c_not]
  simp (disch := omega) only [c_lt, c_le, c_blt, c_fits, c_neq]
  rfl
end
end Go.AM

namespace Go.AM
section
/-! the upper state's grading -/
theorem sum_below (n : Nat) {c : Int} (h : 0 ≤ c ∧ c < n) : sumI (fun r => ind ((r : Int) < c)) n = c ∧ sumI (fun r => ind (c < (r : Int))) n = n - 1 - c := by
  have key : ∀ d : Nat, sumI (fun r => ind ((r : Int) < c)) d = (if (d : Int) ≤ c then (d : Int) else c) ∧ sumI (fun r => ind (c < (r : Int))) d = if (d : Int) ≤ c then 0 else (d : Int) - 1 - c := by
    intro d
    induction d with
    | zero => exact ⟨by rw [if_pos (by omega)]; rfl, by rw [if_pos (by omega)]; rfl⟩
    | succ d ih =>
      obtain ⟨i1, i2⟩ := ih
      rw [sumI, sumI, i1, i2]
      unfold ind
      constructor
      · split <;> split <;> split <;> omega
      · split <;> split <;> split <;> omega
  obtain ⟨a, b⟩ := key n
  rw [a, b, if_neg (by omega), if_neg (by omega)]
  exact ⟨rfl, rfl⟩
theorem sum_belowN (n i : Nat) (h : i < n) : sumI (fun k => ind (k < i)) n = i ∧ sumI (fun k => ind (i < k)) n = (n : Int) - 1 - i := by
  obtain ⟨a, b⟩ := sum_below n (c := i) (by omega)
  exact ⟨by rw [← a]; exact sumI_congr fun k _ => ind_congr (by omega), by rw [← b]; exact sumI_congr fun k _ => ind_congr (by omega)⟩
theorem sum_cells {n : Nat} {X : Nat → Int} (h : PermP 8 n X) (hX : ∀ j, 0 ≤ X j) {c : Int} (hc : 0 ≤ c ∧ c < n) : sumI (fun k => ind (X k < c)) n = c ∧ sumI (fun k => ind (c < X k)) n = n - 1 - c := by
  obtain ⟨a, b⟩ := sum_below n hc
  constructor
  · exact (sum_rows h hX (fun k => ind (X k < c))).symm.trans ((sumI_congr fun r hr => by rw [(rowOf_spec h hX hr).2]).trans a)
  · exact (sum_rows h hX (fun k => ind (c < X k))).symm.trans ((sumI_congr fun r hr => by rw [(rowOf_spec h hX hr).2]).trans b)
theorem sum_const (c : Int) : ∀ n : Nat, sumI (fun _ => c) n = n * c := by
  intro n
  induction n with
  | zero => simp [sumI]
  | succ n ih => rw [sumI, ih, Int.natCast_succ, Int.add_mul]; omega
theorem sum_mul (c : Int) (f : Nat → Int) : ∀ n, sumI (fun i => c * f i) n = c * sumI f n := by
  intro n
  induction n with
  | zero => simp [sumI]
  | succ n ih => rw [sumI, sumI, ih, Int.mul_add]
theorem sum_mulr (c : Int) (f : Nat → Int) (n : Nat) : sumI (fun i => f i * c) n = sumI f n * c := by
  rw [Int.mul_comm, ← sum_mul]
  exact sumI_congr fun i _ => Int.mul_comm _ _
/-- The cells of the upper state. -/
def UpS (n : Nat) (X u : Nat → Int) : Prop := ∀ i, i < n → u ((i + 1) % n) = if X i = n - 1 then 0 else X i + 1
theorem upper_spec {n : Nat} {X O : Nat → Int} (g : GridP n X O) (hX : ∀ j, 0 ≤ X j) : UpS n X (iter (upperF n X) n 0 fun _ => 0) ∧ ∀ j, 0 ≤ iter (upperF n X) n 0 (fun _ => 0) j ∧ iter (upperF n X) n 0 (fun _ => 0) j ≤ 255 := by
  have hlo := g.lo
  have hhi := g.hi
  have val : ∀ i, i < n → wrapU IntKind.u8 ((X i + 1).tmod n) = if X i = n - 1 then 0 else X i + 1 := fun i hi => by
    have b := g.bdX hX hi
    rw [Int.tmod_eq_emod_of_nonneg (by omega)]
    show (X i + 1) % n % 256 = _
    split
    · rw [show X i + 1 = n by omega, Int.emod_self]; rfl
    · have e : (X i + 1) % (n : Int) = X i + 1 := Int.emod_eq_of_lt (by omega) (by omega)
      rw [e]; omega
  have pos : ∀ i : Nat, (((i : Int) + 1).tmod n).toNat = (i + 1) % n := fun i => by
    rw [Int.tmod_eq_emod_of_nonneg (by omega)]
    show ((((i + 1 : Nat) : Int)) % (n : Int)).toNat = _
    rw [← Int.natCast_emod]; rfl
  have mi : ∀ i j, i < n → j < n → (i + 1) % n = (j + 1) % n → i = j := fun i j hi hj e => by
    have f : ∀ i, i < n → (i + 1) % n = if i + 1 = n then 0 else i + 1 := fun i hi => by
      split
      · rename_i h; rw [h, Nat.mod_self]
      · rw [Nat.mod_eq_of_lt (by omega)]
    rw [f i hi, f j hj] at e
    split at e <;> split at e <;> omega
  have := iter_inv (f := upperF n X) (n := n) (I := fun d h => (∀ i, i < d → h ((i + 1) % n) = if X i = n - 1 then 0 else X i + 1) ∧ ∀ j, 0 ≤ h j ∧ h j ≤ 255) (fun d s hd ⟨h1, h2⟩ => by
    have b := g.bdX hX hd
    unfold upperF
    rw [val d hd, pos]
    refine ⟨fun i hi => ?_, fun j => ?_⟩
    · rw [upd_at]
      by_cases e : (i + 1) % n = (d + 1) % n
      · have := mi i d (by omega) hd e
        rw [if_pos e, this]
      · rw [if_neg e]
        refine h1 i ?_
        rcases Nat.lt_or_ge i d with h | h
        · exact h
        · exact absurd (by rw [show i = d by omega]) e
    · rw [upd_at]; split
      · split <;> omega
      · exact h2 j) n 0 (fun _ => 0) (by omega) ⟨fun i hi => by omega, fun j => by simp⟩
  rw [Nat.zero_add] at this
  exact ⟨this.1, this.2⟩
theorem turn_perm {n : Nat} (h1 : 1 ≤ n) (f : Nat → Int) : sumI (fun i => f ((i + 1) % n)) n = sumI f n := by
  refine sumI_perm (τ := fun j => (j + (n - 1)) % n) f (fun i hi => ?_) (fun j hj => ?_)
  · refine ⟨Nat.mod_lt _ (by omega), ?_⟩
    by_cases e : i + 1 = n
    · rw [e, Nat.mod_self, Nat.zero_add, Nat.mod_eq_of_lt (by omega)]; omega
    · rw [Nat.mod_eq_of_lt (by omega : i + 1 < n), show i + 1 + (n - 1) = i + n by omega, Nat.add_mod_right, Nat.mod_eq_of_lt hi]
  · refine ⟨Nat.mod_lt _ (by omega), ?_⟩
    by_cases e : j = 0
    · subst e
      rw [Nat.zero_add, Nat.mod_eq_of_lt (by omega : n - 1 < n), show n - 1 + 1 = n by omega, Nat.mod_self]
    · rw [show j + (n - 1) = (j - 1) + n by omega, Nat.add_mod_right, Nat.mod_eq_of_lt (by omega : j - 1 < n), show j - 1 + 1 = j by omega, Nat.mod_eq_of_lt hj]
/-- Ends: the last column and the last row. -/
theorem turn_lt {n i k : Nat} (hi : i < n) (hk : k < n) : ind ((i + 1) % n < (k + 1) % n) = ind (i < k) + ind (i = n - 1) - ind (k = n - 1) ∧ ind ((i + 1) % n ≤ k) = ind (i < k) + ind (i = n - 1) ∧ ind (k < (i + 1) % n) = 1 - ind (i < k) - ind (i = n - 1) := by
  have f : ∀ i, i < n → (i + 1) % n = if i = n - 1 then 0 else i + 1 := fun i hi => by
    split
    · rename_i h; rw [h, show n - 1 + 1 = n by omega, Nat.mod_self]
    · rw [Nat.mod_eq_of_lt (by omega)]
  rw [f i hi, f k hk]
  unfold ind
  refine ⟨?_, ?_, ?_⟩ <;> (repeat' split) <;> omega
theorem cell_lt {n : Nat} {x y o : Int} (hx : 0 ≤ x ∧ x < n) (hy : 0 ≤ y ∧ y < n) (ho : 0 ≤ o ∧ o < n) :
    ind ((if x = n - 1 then 0 else x + 1) < (if y = n - 1 then 0 else y + 1)) = ind (x < y) + ind (x = n - 1) - ind (y = n - 1) ∧ ind ((if x = n - 1 then 0 else x + 1) ≤ o) = ind (x < o) + ind (x = n - 1) ∧ ind (o < (if x = n - 1 then 0 else x + 1)) = 1 - ind (x < o) - ind (x = n - 1) := by
  unfold ind
  refine ⟨?_, ?_, ?_⟩ <;> (repeat' split) <;> omega
/-- Ones and noughts multiplied out. -/
theorem mul_out (a b c e1 e2 h1 h2 : Int) : (a + e1 - e2) * (b + h1 - h2) - (a + e1) * (c + h1) - (1 - a - e1) * (1 - c - h1) =
    a * b - 2 * (a * c) - a * h1 - a * h2 + e1 * (b - 2 * c) - e2 * b - e1 * h1 + e2 * h2 - e1 * h2 - e2 * h1 - 1 + a + e1 + c + h1 := by
  simp only [Int.add_mul, Int.mul_add, Int.sub_mul, Int.mul_sub, Int.one_mul, Int.mul_one]
  rw [Int.mul_left_comm e1 2 c]
  omega
end
end Go.AM

namespace Go.AM
section
theorem tri (n : Nat) (h : n ≤ 8) : 2 * sumI (fun i => (n : Int) - 1 - i) n = (n : Int) * n - n := by
  have : n = 0 ∨ n = 1 ∨ n = 2 ∨ n = 3 ∨ n = 4 ∨ n = 5 ∨ n = 6 ∨ n = 7 ∨ n = 8 := by omega
  rcases this with rfl | rfl | rfl | rfl | rfl | rfl | rfl | rfl | rfl <;> decide
theorem sum_end {n : Nat} (h : 1 ≤ n) (f : Nat → Int) : sumI (fun i => ind (i = n - 1) * f i) n = f (n - 1) := by
  rw [← sumI_one (n := n) (j := n - 1) (by omega) f]
  refine sumI_congr fun i _ => ?_
  unfold ind
  split
  · exact Int.one_mul _
  · exact Int.zero_mul _
theorem sum_top {n : Nat} {X : Nat → Int} (g : PermP 8 n X) (hX : ∀ j, 0 ≤ X j) (h : 1 ≤ n) (f : Nat → Int) : sumI (fun i => ind (X i = n - 1) * f i) n = f (rowOf n X (n - 1)) := by
  rw [← sum_rows g hX]
  rw [← sumI_one (n := n) (j := n - 1) (by omega) fun r => f (rowOf n X r)]
  refine sumI_congr fun r hr => ?_
  rw [(rowOf_spec g hX hr).2]
  unfold ind
  by_cases e : r = n - 1
  · rw [if_pos (by omega), if_pos e]; exact Int.one_mul _
  · rw [if_neg (by omega), if_neg e]; exact Int.zero_mul _
/-- The pairs the other way round. -/
theorem up_OX {n : Nat} {X O : Nat → Int} (F : FrontG n X O) : upN n O X = upN n X O + sumI (fun i => ind (X i < O i) + ind (i < prevC n X O i)) n - n := by
  have g := F.g
  have h8 := g.hi
  have e0 : upN n O X = sumI (fun i => sumI (fun k => ind (k < i ∧ O k < X i)) n) n := by unfold upN; rw [sumI_swap]
  have key : ∀ i k, i < n → k < n → ind (k < i ∧ O k < X i) = (1 - ind (i < k) - ind (X i < O k) + ind (i < k ∧ X i < O k)) + ((if k = i then ind (X i < O k) - 1 else 0) + (if k = prevC n X O i then ind (i < k) - 1 else 0)) := fun i k hi hk => by
    obtain ⟨p1, p2, p3, p4⟩ := prevC_spec g F.x F.o hi
    have hne := g.ne i hi
    have hp : O k = X i ↔ k = prevC n X O i := ⟨fun e => g.po.2.2 k _ hk p1 (by rw [e, p4]), fun e => by rw [e, p4]⟩
    generalize prevC n X O i = p at *
    unfold ind
    by_cases e1 : k = i
    · subst e1
      rw [if_pos rfl]
      by_cases h : X k < O k
      · rw [if_neg (by omega), if_neg (by omega), if_pos h, if_neg (by omega), if_neg (by omega)]; rfl
      · rw [if_neg (by omega), if_neg (by omega), if_neg h, if_neg (by omega), if_neg (by omega)]; rfl
    · rw [if_neg e1]
      by_cases e2 : k = p
      · rw [if_pos e2]
        have := hp.2 e2
        by_cases h : i < k
        · rw [if_neg (by omega), if_pos h, if_neg (by omega), if_neg (by omega)]; rfl
        · rw [if_neg (by omega), if_neg h, if_neg (by omega), if_neg (by omega)]; rfl
      · rw [if_neg e2]
        have : O k ≠ X i := fun e => e2 (hp.1 e)
        by_cases h1 : i < k <;> by_cases h2 : X i < O k <;> simp (disch := omega) [h1, h2, if_pos, if_neg] <;> omega
  have a1 : ∀ i, i < n → sumI (fun k => ind (k < i ∧ O k < X i)) n = (n : Int) * 1 - ((n : Int) - 1 - i) - ((n : Int) - 1 - X i) + sumI (fun k => ind (i < k ∧ X i < O k)) n + ((ind (X i < O i) - 1) + (ind (i < prevC n X O i) - 1)) := fun i hi => by
    have b := g.bdX F.x hi
    rw [sumI_congr (key i · hi), sumI_add, sumI_add, sumI_add, sumI_sub, sumI_sub, sum_const, (sum_belowN n i hi).2, (sum_cells g.po F.o b).2, sumI_one hi fun k => ind (X i < O k) - 1, sumI_one (prevC_spec g F.x F.o hi).1 fun k => ind (i < k) - 1]
  have t := tri n h8
  have t2 : sumI (fun i => (n : Int) - 1 - X i) n = sumI (fun i => (n : Int) - 1 - i) n := by
    rw [← sum_rows g.px F.x]
    exact sumI_congr fun r hr => by rw [(rowOf_spec g.px F.x hr).2]
  rw [e0, sumI_congr a1]
  have e2 : ∀ i : Nat, (n : Int) * 1 - ((n : Int) - 1 - i) - ((n : Int) - 1 - X i) + sumI (fun k => ind (i < k ∧ X i < O k)) n + ((ind (X i < O i) - 1) + (ind (i < prevC n X O i) - 1)) =
      ((((n : Int) - 2) - ((n : Int) - 1 - i)) - ((n : Int) - 1 - X i)) + (sumI (fun k => ind (i < k ∧ X i < O k)) n + (ind (X i < O i) + ind (i < prevC n X O i))) := fun i => by omega
  rw [sumI_congr fun i _ => e2 i, sumI_add, sumI_add, sumI_sub, sumI_sub, sum_const, t2]
  unfold upN
  have e3 : (n : Int) * ((n : Int) - 2) = (n : Int) * n - 2 * n := by rw [Int.mul_sub]; omega
  omega
theorem upper_sum {n : Nat} {X O u : Nat → Int} (F : FrontG n X O) (U : UpS n X u) : bel n u u 0 0 - bel n u O 0 1 - bel n O u 1 0 = upN n X X - 2 * upN n X O - n := by
  have g := F.g
  have hlo := g.lo
  have h8 := g.hi
  have bX := fun i (hi : i < n) => g.bdX F.x hi
  have bO := fun i (hi : i < n) => g.swap.bdX F.o hi
  have s1 : bel n u u 0 0 = sumI (fun i => sumI (fun k => (ind (i < k) + ind (i = n - 1) - ind (k = n - 1)) * (ind (X i < X k) + ind (X i = n - 1) - ind (X k = n - 1))) n) n := by
    rw [bel_self]
    unfold upN
    rw [← turn_perm (by omega)]
    refine sumI_congr fun i hi => ?_
    rw [← turn_perm (by omega)]
    refine sumI_congr fun k hk => ?_
    rw [ind_and, U i hi, U k hk, (turn_lt hi hk).1, (cell_lt (bX i hi) (bX k hk) (bO k hk)).1]
  have s2 : bel n u O 0 1 = sumI (fun i => sumI (fun k => (ind (i < k) + ind (i = n - 1)) * (ind (X i < O k) + ind (X i = n - 1))) n) n := by
    rw [bel_sum, ← turn_perm (by omega)]
    refine sumI_congr fun i hi => ?_
    refine sumI_congr fun k hk => ?_
    rw [← (turn_lt hi hk).2.1, ← (cell_lt (bX i hi) (bX k hk) (bO k hk)).2.1, ← ind_and, U i hi]
    exact ind_congr (by omega)
  have s3 : bel n O u 1 0 = sumI (fun i => sumI (fun k => (1 - ind (i < k) - ind (i = n - 1)) * (1 - ind (X i < O k) - ind (X i = n - 1))) n) n := by
    rw [bel_lt]
    unfold upN
    rw [sumI_swap, ← turn_perm (by omega)]
    refine sumI_congr fun i hi => ?_
    refine sumI_congr fun k hk => ?_
    rw [ind_and, U i hi, (turn_lt hi hk).2.2, (cell_lt (bX i hi) (bX k hk) (bO k hk)).2.2]
  rw [s1, s2, s3, ← sum2_sub, ← sum2_sub, sum2_congr fun i k _ _ => mul_out _ _ _ _ _ _ _]
  -- one sum after the other
  have r1 : sumI (fun i => sumI (fun k => ind (i < k) * ind (X i = n - 1)) n) n = (n : Int) - 1 - rowOf n X (n - 1) := by
    rw [sumI_congr (g := fun i => ind (X i = n - 1) * ((n : Int) - 1 - i)) fun i hi => by rw [sum_mulr, (sum_belowN n i hi).2, Int.mul_comm], sum_top g.px F.x (by omega) fun i => (n : Int) - 1 - i]
  have r2 : sumI (fun i => sumI (fun k => ind (i < k) * ind (X k = n - 1)) n) n = rowOf n X (n - 1) := by
    rw [sumI_swap, sumI_congr (g := fun i => ind (X i = n - 1) * (i : Int)) fun i hi => by rw [sum_mulr, (sum_belowN n i hi).1, Int.mul_comm], sum_top g.px F.x (by omega) fun i => (i : Int)]
  have r3 : sumI (fun i => sumI (fun k => ind (i = n - 1) * (ind (X i < X k) - 2 * ind (X i < O k))) n) n = -((n : Int) - 1 - X (n - 1)) := by
    rw [sumI_congr (g := fun i => ind (i = n - 1) * -((n : Int) - 1 - X i)) fun i hi => by
      rw [sum_mul, sumI_sub, sum_mul, (sum_cells g.px F.x (bX i hi)).2, (sum_cells g.po F.o (bX i hi)).2]
      congr 1
      omega, sum_end (by omega) fun i => -((n : Int) - 1 - X i)]
  have r4 : sumI (fun i => sumI (fun k => ind (k = n - 1) * ind (X i < X k)) n) n = X (n - 1) := by
    rw [sumI_swap, sumI_congr (g := fun i => ind (i = n - 1) * X i) fun i hi => by rw [sum_mul, (sum_cells g.px F.x (bX i hi)).1], sum_end (by omega) X]
  have r56 : sumI (fun i => sumI (fun k => ind (i = n - 1) * ind (X i = n - 1)) n) n = sumI (fun i => sumI (fun k => ind (k = n - 1) * ind (X k = n - 1)) n) n := sumI_swap _ n n
  have one1 : sumI (fun i => ind (i = n - 1)) n = 1 := by
    have := sum_end (n := n) (by omega) fun _ => 1
    simpa using this
  have one2 : sumI (fun i => ind (X i = n - 1)) n = 1 := by
    have := sum_top g.px F.x (n := n) (by omega) fun _ => 1
    simpa using this
  have r7 : sumI (fun i => sumI (fun k => ind (i = n - 1) * ind (X k = n - 1)) n) n = 1 := by
    rw [sumI_congr (g := fun i => ind (i = n - 1)) fun i _ => by rw [sum_mul, one2, Int.mul_one], one1]
  have r8 : sumI (fun i => sumI (fun k => ind (k = n - 1) * ind (X i = n - 1)) n) n = 1 := by
    rw [sumI_congr (g := fun i => ind (X i = n - 1)) fun i _ => by rw [sum_mulr, one1, Int.one_mul], one2]
  have r9 : sumI (fun _ => sumI (fun _ => (1 : Int)) n) n = (n : Int) * n := by rw [sumI_congr fun i _ => sum_const 1 n, sum_const]; simp
  have r10 : sumI (fun i => sumI (fun k => ind (i < k)) n) n = sumI (fun i => (n : Int) - 1 - i) n := sumI_congr fun i hi => (sum_belowN n i hi).2
  have r11 : sumI (fun i => sumI (fun _ => ind (i = n - 1)) n) n = n := by rw [sumI_congr fun i _ => sum_const _ n, sum_mul, one1, Int.mul_one]
  have r12 : sumI (fun i => sumI (fun k => ind (X i < O k)) n) n = sumI (fun i => (n : Int) - 1 - i) n := by
    rw [sumI_congr fun i hi => (sum_cells g.po F.o (bX i hi)).2, ← sum_rows g.px F.x]
    exact sumI_congr fun r hr => by rw [(rowOf_spec g.px F.x hr).2]
  have r13 : sumI (fun i => sumI (fun _ => ind (X i = n - 1)) n) n = n := by rw [sumI_congr fun i _ => sum_const _ n, sum_mul, one2, Int.mul_one]
  have r14 : sumI (fun i => sumI (fun k => ind (i < k) * ind (X i < X k)) n) n = upN n X X := sum2_congr fun i k _ _ => (ind_and _ _).symm
  have r15 : sumI (fun i => sumI (fun k => 2 * (ind (i < k) * ind (X i < O k))) n) n = 2 * upN n X O := by
    rw [sumI_congr fun i _ => sum_mul 2 _ n, sum_mul]
    congr 1
    exact sum2_congr fun i k _ _ => (ind_and _ _).symm
  have t := tri n h8
  simp only [sum2_add, sum2_sub]
  rw [r1, r2, r3, r4, r56, r7, r8, r9, r10, r11, r12, r13, r14, r15]
  omega
theorem maslov_upper {n : Nat} {X O u : Nat → Int} (F : FrontG n X O) (U : UpS n X u) : maslov n u O = -writheS (crossL n X O) - sumI (cupP n X O) n + 1 := by
  unfold maslov
  have hS := front_S F
  have hu := upper_sum F U
  have ho := up_OX F
  rw [bel_self n O O 1]
  have key : sumI (fun i => ind (O i < X i ∧ i < prevC n X O i) + ind (X i < O i ∧ i < nxtC n X O i)) n + sumI (fun i => ind (X i < O i) + ind (i < prevC n X O i)) n - 2 * n + sumI (cupP n X O) n = 0 := by
    have c2 : (2 : Int) * n = sumI (fun _ => 2) n := by rw [sum_const]; omega
    have z : sumI (fun i => ind (i < prevC n X O i) - ind (nxtC n X O i < i)) n = 0 := by
      rw [sumI_sub]
      have := sumI_perm (n := n) (σ := nxtC n X O) (τ := prevC n X O) (fun j => ind (j < prevC n X O j)) (fun i hi => ⟨nxtC_lt F.g F.x F.o i hi, prevC_nxt F.g F.x F.o hi⟩) (fun j hj => ⟨(prevC_spec F.g F.x F.o hj).1, (prevC_spec F.g F.x F.o hj).2.1⟩)
      rw [← this, sumI_congr (f := fun i => ind (nxtC n X O i < prevC n X O (nxtC n X O i))) (g := fun i => ind (nxtC n X O i < i)) fun i hi => by rw [prevC_nxt F.g F.x F.o hi]]
      omega
    rw [c2, ← sumI_add, ← sumI_sub, ← sumI_add, ← z]
    refine sumI_congr fun i hi => ?_
    obtain ⟨p1, p2, p3, p4⟩ := prevC_spec F.g F.x F.o hi
    obtain ⟨q1, q2, q3⟩ := nxtC_ne F.g F.x F.o hi
    have hne := F.g.ne i hi
    unfold cupP ind
    by_cases h1 : X i < O i
    · have h1' : ¬ O i < X i := by omega
      by_cases h2 : i < prevC n X O i <;> by_cases h3 : i < nxtC n X O i <;> simp (disch := omega) [h1, h1', h2, h3] <;> omega
    · have h1' : O i < X i := by omega
      by_cases h2 : i < prevC n X O i <;> by_cases h3 : i < nxtC n X O i <;> simp (disch := omega) [h1, h1', h2, h3] <;> omega
  omega
end
end Go.AM

namespace Go.AM
section
/-! exchanged marks -/
theorem FrontG.swap {n : Nat} {X O : Nat → Int} (F : FrontG n X O) : FrontG n O X := ⟨F.g.swap, F.o, F.x⟩
theorem crossV_swap (n : Nat) (X O : Nat → Int) (i r : Nat) : crossV n O X i r = crossV n X O i r := by
  rw [crossV_ite, crossV_ite]
  by_cases h : ((X i < r ∧ (r : Int) < O i) ∨ (O i < r ∧ (r : Int) < X i)) ∧ ((rowOf n X r < i ∧ i < rowOf n O r) ∨ (rowOf n O r < i ∧ i < rowOf n X r))
  · rw [if_pos h, if_pos (by omega)]
    by_cases h1 : X i < O i ↔ rowOf n X r < rowOf n O r
    · rw [if_pos h1, if_pos (by omega)]
    · rw [if_neg h1, if_neg (by omega)]
  · rw [if_neg h, if_neg (by omega)]
theorem writhe_swap (n : Nat) (X O : Nat → Int) : writheS (crossL n O X) = writheS (crossL n X O) := by
  rw [writhe_sum, writhe_sum]
  exact sum2_congr fun i r _ _ => crossV_swap n X O i r
theorem cup_swap (n : Nat) (X O : Nat → Int) (i : Nat) : cupP n O X i = cupM n X O i ∧ cupM n O X i = cupP n X O i := by
  have e1 : prevC n O X i = nxtC n X O i := rfl
  have e2 : nxtC n O X i = prevC n X O i := rfl
  unfold cupP cupM
  rw [e1, e2]
  exact ⟨Int.add_comm _ _, Int.add_comm _ _⟩
theorem cusps_even {n : Nat} {X O : Nat → Int} (F : FrontG n X O) : ((cuspS (cornersL n X O) (fun _ => false) (2 * n)).1 + (cuspS (cornersL n X O) (fun _ => false) (2 * n)).2) % 2 = 0 := by
  have hnum := wordsS_num F.g F.x F.o
  rw [← letters_sum F.g F.x F.o]
  refine (half_sum _ fun c hc => ?_).2
  have := (comp_cusps F.g F.x F.o (c := c) (by omega)).2.1
  omega
theorem half_two {a : Int} (h : a % 2 = 0) : 2 * a.tdiv 2 = a := by
  obtain ⟨b, rfl⟩ : ∃ b, a = 2 * b := ⟨a / 2, by omega⟩
  rw [Int.mul_tdiv_cancel_left _ (by omega)]
theorem numbers_swap {n : Nat} {X O : Nat → Int} (F : FrontG n X O) : tbS n O X = tbS n X O ∧ rotS n O X = -rotS n X O := by
  obtain ⟨a1, a2⟩ := cusps_cols F.g F.x F.o n (Nat.le_refl n)
  obtain ⟨b1, b2⟩ := cusps_cols F.swap.g F.o F.x n (Nat.le_refl n)
  have e1 : sumI (cupP n O X) n = sumI (cupM n X O) n := sumI_congr fun i _ => (cup_swap n X O i).1
  have e2 : sumI (cupM n O X) n = sumI (cupP n X O) n := sumI_congr fun i _ => (cup_swap n X O i).2
  unfold tbS rotS
  rw [a1, a2, b1, b2, e1, e2, writhe_swap]
  refine ⟨by rw [Int.add_comm (sumI (cupP n X O) n)], ?_⟩
  rw [← Int.neg_tdiv]
  congr 1
  omega
theorem lower_numbers {n : Nat} {X O : Nat → Int} (F : FrontG n X O) : maslov n X O = tbS n X O + rotS n X O + 1 := by
  obtain ⟨a1, a2⟩ := cusps_cols F.g F.x F.o n (Nat.le_refl n)
  have he := cusps_even F
  rw [maslov_lower F]
  unfold tbS rotS
  rw [a1, a2] at *
  have h1 := half_two he
  have h2 := half_two (a := sumI (cupP n X O) n - sumI (cupM n X O) n) (by omega)
  omega
theorem upper_numbers {n : Nat} {X O u : Nat → Int} (F : FrontG n X O) (U : UpS n X u) : maslov n u O = tbS n X O - rotS n X O + 1 := by
  obtain ⟨a1, a2⟩ := cusps_cols F.g F.x F.o n (Nat.le_refl n)
  have he := cusps_even F
  rw [maslov_upper F U]
  unfold tbS rotS
  rw [a1, a2] at *
  have h1 := half_two he
  have h2 := half_two (a := sumI (cupP n X O) n - sumI (cupM n X O) n) (by omega)
  omega
end
end Go.AM

namespace Go.AM
section
variable {β : Type}
end
end Go.AM

namespace Go.AM
section
variable {β : Type}
end
end Go.AM

namespace Go.AM
section
variable {β : Type}
end
end Go.AM

namespace Go.AM
section
variable {β : Type}
end
end Go.AM

namespace Go.AM
section
variable {β : Type}
end
end Go.AM

namespace Go.AM
section
variable {β : Type}
end
end Go.AM

namespace Go.AM
section
variable {β : Type}
/-! what the functions of fronts come to -/
noncomputable def bP (p : Prop) : Bool := @decide p (Classical.propDecidable p)
theorem bP_true {p : Prop} (h : p) : bP p = true := @decide_eq_true p (Classical.propDecidable p) h
theorem cond_some {α : Type} {p : Prop} {x : Option α} {r : α} (h : cond (bP p) x none = some r) : p ∧ x = some r := by
  cases hb : bP p with
  | false => rw [hb] at h; cases h
  | true => rw [hb] at h; exact ⟨@of_decide_eq_true p (Classical.propDecidable p) hb, h⟩
theorem c_bP {p : Prop} (h : p) {x y : β} : cond (bP p) x y = x := by rw [bP_true h]; rfl
/-- A grid whose cells are bytes. -/
structure FrP (N : Nat) (m : Int) (X O : Nat → Int) (n : Nat) : Prop where
  N : 100 < N
  m : m = n
  g : GridP n X O
  x : Byt X
  o : Byt O
theorem FrP.F {N : Nat} {m : Int} {X O : Nat → Int} {n : Nat} (h : FrP N m X O n) : FrontG n X O := ⟨h.g, fun j => (h.x.b j).1, fun j => (h.o.b j).1⟩
structure FrA (N : Nat) (m : Int) (X O : Nat → Int) : Prop where
  N : 100 < N
  x : Byt X
  o : Byt O
  g : gridB m X O = false
section grids
variable {z : β} {N n : Nat} {X O : Nat → Int}
theorem fr_is (h : FrP N n X O n) : (∀ k : Bool → β, s_l01Is z N n X O k = k true) ∧ ∀ k : Bool → β, i_IsGrid z N n X O k = k true := by
  have hg : gridB n X O = true := gridB_iff.2 ⟨n, rfl, h.g⟩
  have hN := h.N
  exact ⟨fun k => by rw [s_l01Is_val z (by omega) _ _ _ h.F.x h.F.o, hg], fun k => by rw [i_IsGrid_val z (by omega) _ _ _ h.F.x h.F.o, hg]⟩
theorem fr_tb_i (h : FrP N n X O n) (k : Int → Int → β) : i_ThurstonBennequin z N n X O k = k (tbS n X O) 0 := by
  unfold i_ThurstonBennequin i_whole_int64_v1_s3 i_ThurstonBennequin_1
  rw [(fr_is h).2, i_Grid_numbers_val z h.N h.g h.F.x h.F.o]
  rfl
theorem fr_tb_s (h : FrP N n X O n) (k : Int → Int → β) : s_ThurstonBennequin z N n X O k = k (tbS n X O) 0 := by
  unfold s_ThurstonBennequin
  rw [(fr_is h).1, s_l07Numbers_val z h.N h.g h.F.x h.F.o]
  rfl
theorem fr_rot_i (h : FrP N n X O n) (k : Int → Int → β) : i_RotationOf z N n X O k = k (rotS n X O) 0 := by
  unfold i_RotationOf i_whole_int64_v1_s2 i_RotationOf_1
  rw [(fr_is h).2, i_Grid_numbers_val z h.N h.g h.F.x h.F.o]
  rfl
theorem fr_rot_s (h : FrP N n X O n) (k : Int → Int → β) : s_RotationOf z N n X O k = k (rotS n X O) 0 := by
  unfold s_RotationOf
  rw [(fr_is h).1, s_l07Numbers_val z h.N h.g h.F.x h.F.o]
  rfl
noncomputable def cuspT (n : Nat) (X O : Nat → Int) : Int := (cuspS (cornersL n X O) (fun _ => false) (2 * n)).1 + (cuspS (cornersL n X O) (fun _ => false) (2 * n)).2
theorem fr_cusp_i (h : FrP N n X O n) (k : Int → Int → β) : i_CountCusps z N n X O k = k (cuspT n X O) 0 := by
  have hN := h.N
  unfold i_CountCusps i_whole_int64_v1 i_CountCusps_1
  rw [(fr_is h).2, i_Grid_front_val z (N := N) (by omega) h.g h.F.x h.F.o]
  simp only [Bool.not_true, c_false, (front_cusps _ _).1]
  rfl
theorem fr_cusp_s (h : FrP N n X O n) (k : Int → Int → β) : s_CountCusps z N n X O k = k (cuspT n X O) 0 := by
  have hN := h.N
  have h8 := h.g.hi
  have := cuspS_bd (cornersL n X O) (fun _ => false) (2 * n)
  unfold s_CountCusps
  rw [(fr_is h).1, s_l07Cusps_val z (N := N) (by omega) h.g h.F.x h.F.o, skip_neg]
  simp only [Bool.not_true, c_false]
  rw [c_fits (by omega)]
  rfl
def upS (n : Nat) (X : Nat → Int) : Nat → Int := iter (upperF n X) n 0 fun _ => 0
theorem fr_up_i (h : FrP N n X O n) (k : (Nat → Int) → Int → β) : i_UpperState z N n X O k = k (upS n X) 0 := by
  have hN := h.N
  have hi : ∀ k : (Nat → Int) → β, i_UpperState_1 z N n X O k = s_l07Upper z N n X O k := fun k => by
    unfold i_UpperState_1 s_l07Upper i_Grid_n; rw [upper_loops]
  unfold i_UpperState i_whole_i_State_s2
  rw [(fr_is h).2]
  simp only [Bool.not_true, c_false, hi]
  rw [s_l07Upper_val z (by omega) h.g h.x.b]
  rfl
theorem fr_up_s (h : FrP N n X O n) (k : (Nat → Int) → Int → β) : s_UpperState z N n X O k = k (upS n X) 0 := by
  have hN := h.N
  unfold s_UpperState
  rw [(fr_is h).1]
  simp only [Bool.not_true, c_false]
  rw [s_l07Upper_val z (by omega) h.g h.x.b]
  rfl
theorem fr_low_i (h : FrP N n X O n) (k : (Nat → Int) → Int → β) : i_LowerState z N n X O k = k X 0 := by
  unfold i_LowerState i_whole_i_State
  rw [(fr_is h).2]
  rfl
theorem fr_low_s (h : FrP N n X O n) (k : (Nat → Int) → Int → β) : s_LowerState z N n X O k = k X 0 := by
  unfold s_LowerState
  rw [(fr_is h).1]
  rfl
theorem fr_mas (h : FrP N n X O n) {x : Nat → Int} (hx : ∀ j, 0 ≤ x j ∧ x j ≤ 255) (hp : PermP 8 n x) (k : Int → Int → β) : i_MaslovOf z N n X O x false k = k (maslov n x O) 0 := by
  have hN := h.N
  have hs : stateB n X O x = true := by
    unfold stateB
    rw [gridB_iff.2 ⟨n, rfl, h.g⟩, Bool.true_and]
    exact permB_iff.2 hp
  unfold i_MaslovOf i_stated_int64_s2 i_MaslovOf_1
  rw [i_IsState_val z (by omega) _ _ _ _ h.F.x h.F.o fun j => (hx j).1, hs]
  simp only [Bool.not_true, c_false]
  rw [i_Grid_maslov_val z (by omega) h.g.hi X O hx h.o.b]
end grids
section bad
variable {z : β} {N : Nat} {m : Int} {X O : Nat → Int}
theorem fa_is (h : FrA N m X O) : (∀ k : Bool → β, s_l01Is z N m X O k = k false) ∧ ∀ k : Bool → β, i_IsGrid z N m X O k = k false := by
  have hN := h.N
  exact ⟨fun k => by rw [s_l01Is_val z (by omega) _ _ _ (fun j => (h.x.b j).1) (fun j => (h.o.b j).1), h.g], fun k => by rw [i_IsGrid_val z (by omega) _ _ _ (fun j => (h.x.b j).1) (fun j => (h.o.b j).1), h.g]⟩
end bad
end
end Go.AM

namespace Go.AM
section
variable {β : Type}
def FrG (N : Nat) (m : Int) (X O : Nat → Int) : Prop := ∃ n, FrP N m X O n
/-- A grid of one component, or of several. -/
def FrK (b : Bool) (N : Nat) (m : Int) (X O : Nat → Int) : Prop := ∃ n, FrP N m X O n ∧ ((compS (nxtC n X O) n).2 == 1) = b
/-- A grid and a state. -/
def FrS (N : Nat) (m : Int) (X O x : Nat → Int) (xs : Bool) : Prop := ∃ n, FrP N m X O n ∧ (∀ j, 0 ≤ x j ∧ x j ≤ 255) ∧ PermP 8 n x ∧ xs = false
section grids
variable {z : β} {N n : Nat} {X O : Nat → Int}
theorem fr_self_i (h : FrP N n X O n) (k0 : Int → β) (k1 : Int → List Int → β) : i_SelfLinkings z N n X O k0 k1 = cond ((compS (nxtC n X O) n).2 == 1) (k1 0 [tbS n X O - rotS n X O, tbS n X O + rotS n X O]) (k0 5) := by
  have hN := h.N
  have hb := nums_bd (X := X) (O := O) h.g.hi
  unfold i_SelfLinkings i_knotted_int64 i_SelfLinkings_1 i_Grid_isKnot
  rw [(fr_is h).2, Bool.not_true, c_false, i_Grid_component_val z (by omega) h.g h.F.x h.F.o]
  by_cases hk : (compS (nxtC n X O) n).2 = 1
  · rw [show ((compS (nxtC n X O) n).2 == 1) = true by simpa using hk]
    simp only [Bool.not_true, c_false, c_true, i_Grid_numbers_val z h.N h.g h.F.x h.F.o]
    simp only [List.length_cons, List.length_nil, List.getElem?_cons_zero, List.getElem?_cons_succ, Option.getD_some, show (Nat.beq 2 (0 + 1 + 1) && true) = true from rfl, show (Nat.beq 2 (0 + 1 + 1) && Nat.blt 0 (0 + 1 + 1)) = true from rfl, show (Nat.beq 2 (0 + 1 + 1) && Nat.blt 1 (0 + 1 + 1)) = true from rfl, c_true]
    simp (disch := omega) only [c_fits]
    rfl
  · rw [show ((compS (nxtC n X O) n).2 == 1) = false by simpa using hk]
    simp only [Bool.not_false, c_true, c_false]
theorem fr_knot_i (h : FrP N n X O n) (k0 : Bool → Int → β) : i_IsKnot z N n X O k0 = k0 ((compS (nxtC n X O) n).2 == 1) 0 := by
  have hN := h.N
  unfold i_IsKnot i_whole_bool i_Grid_isKnot
  rw [(fr_is h).2, Bool.not_true, c_false, i_Grid_component_val z (by omega) h.g h.F.x h.F.o]
theorem fr_writhe_i (h : FrP N n X O n) (k0 : Int → Int → β) : i_WritheOf z N n X O k0 = k0 (writheS (crossL n X O)) 0 := by
  unfold i_WritheOf i_whole_int64_v1_s4
  rw [(fr_is h).2, Bool.not_true, c_false, i_Grid_writhe_val z h.N h.g h.F.x h.F.o]
theorem fr_exch_i (h : FrP N n X O n) (k0 : Int → (Nat → Int) → (Nat → Int) → Int → β) : i_ExchangeOf z N n X O k0 = k0 n O X 0 := by
  unfold i_ExchangeOf i_whole_i_Grid_s2 i_ExchangeOf_1
  rw [(fr_is h).2, Bool.not_true, c_false]
theorem FrP.swap (h : FrP N n X O n) : FrP N n O X n := ⟨h.N, rfl, h.g.swap, h.o, h.x⟩
end grids
noncomputable def gn_i_ThurstonBennequin (z : β) (N : Nat) (g_0 : Int) (g_1 : Nat → Int) (g_2 : Nat → Int) (k0 : β) : β := cond (bP (FrA N g_0 g_1 g_2)) k0 z
theorem gn_i_ThurstonBennequin_mono {α : Type} {N : Nat} {g_0 : Int} {g_1 g_2 : Nat → Int} {k0 : Int → Int → Option α} {r : α} (h : gn_i_ThurstonBennequin none N g_0 g_1 g_2 (k0 0 1) = some r) : i_ThurstonBennequin none N g_0 g_1 g_2 k0 = some r := by
  obtain ⟨hp, hk⟩ := cond_some h
  unfold i_ThurstonBennequin i_whole_int64_v1_s3
  rw [(fa_is hp).2]
  exact hk
noncomputable def gn_s_ThurstonBennequin (z : β) (N : Nat) (g_0 : Int) (g_1 : Nat → Int) (g_2 : Nat → Int) (k0 : β) : β := cond (bP (FrA N g_0 g_1 g_2)) k0 z
theorem gn_s_ThurstonBennequin_mono {α : Type} {N : Nat} {g_0 : Int} {g_1 g_2 : Nat → Int} {k0 : Int → Int → Option α} {r : α} (h : gn_s_ThurstonBennequin none N g_0 g_1 g_2 (k0 0 1) = some r) : s_ThurstonBennequin none N g_0 g_1 g_2 k0 = some r := by
  obtain ⟨hp, hk⟩ := cond_some h
  unfold s_ThurstonBennequin
  rw [(fa_is hp).1]
  exact hk
noncomputable def gn_i_RotationOf (z : β) (N : Nat) (g_0 : Int) (g_1 : Nat → Int) (g_2 : Nat → Int) (k0 : β) : β := cond (bP (FrA N g_0 g_1 g_2)) k0 z
theorem gn_i_RotationOf_mono {α : Type} {N : Nat} {g_0 : Int} {g_1 g_2 : Nat → Int} {k0 : Int → Int → Option α} {r : α} (h : gn_i_RotationOf none N g_0 g_1 g_2 (k0 0 1) = some r) : i_RotationOf none N g_0 g_1 g_2 k0 = some r := by
  obtain ⟨hp, hk⟩ := cond_some h
  unfold i_RotationOf i_whole_int64_v1_s2
  rw [(fa_is hp).2]
  exact hk
noncomputable def gn_s_RotationOf (z : β) (N : Nat) (g_0 : Int) (g_1 : Nat → Int) (g_2 : Nat → Int) (k0 : β) : β := cond (bP (FrA N g_0 g_1 g_2)) k0 z
theorem gn_s_RotationOf_mono {α : Type} {N : Nat} {g_0 : Int} {g_1 g_2 : Nat → Int} {k0 : Int → Int → Option α} {r : α} (h : gn_s_RotationOf none N g_0 g_1 g_2 (k0 0 1) = some r) : s_RotationOf none N g_0 g_1 g_2 k0 = some r := by
  obtain ⟨hp, hk⟩ := cond_some h
  unfold s_RotationOf
  rw [(fa_is hp).1]
  exact hk
noncomputable def gn_i_CountCusps (z : β) (N : Nat) (g_0 : Int) (g_1 : Nat → Int) (g_2 : Nat → Int) (k0 : β) : β := cond (bP (FrA N g_0 g_1 g_2)) k0 z
theorem gn_i_CountCusps_mono {α : Type} {N : Nat} {g_0 : Int} {g_1 g_2 : Nat → Int} {k0 : Int → Int → Option α} {r : α} (h : gn_i_CountCusps none N g_0 g_1 g_2 (k0 0 1) = some r) : i_CountCusps none N g_0 g_1 g_2 k0 = some r := by
  obtain ⟨hp, hk⟩ := cond_some h
  unfold i_CountCusps i_whole_int64_v1
  rw [(fa_is hp).2]
  exact hk
noncomputable def gn_s_CountCusps (z : β) (N : Nat) (g_0 : Int) (g_1 : Nat → Int) (g_2 : Nat → Int) (k0 : β) : β := cond (bP (FrA N g_0 g_1 g_2)) k0 z
theorem gn_s_CountCusps_mono {α : Type} {N : Nat} {g_0 : Int} {g_1 g_2 : Nat → Int} {k0 : Int → Int → Option α} {r : α} (h : gn_s_CountCusps none N g_0 g_1 g_2 (k0 0 1) = some r) : s_CountCusps none N g_0 g_1 g_2 k0 = some r := by
  obtain ⟨hp, hk⟩ := cond_some h
  unfold s_CountCusps
  rw [(fa_is hp).1]
  exact hk
noncomputable def gn_i_UpperState (z : β) (N : Nat) (g_0 : Int) (g_1 : Nat → Int) (g_2 : Nat → Int) (k0 : β) : β := cond (bP (FrA N g_0 g_1 g_2)) k0 z
theorem gn_i_UpperState_mono {α : Type} {N : Nat} {g_0 : Int} {g_1 g_2 : Nat → Int} {k0 : (Nat → Int) → Int → Option α} {r : α} (h : gn_i_UpperState none N g_0 g_1 g_2 (k0 (fun (x : Nat) => (0 : Int)) 1) = some r) : i_UpperState none N g_0 g_1 g_2 k0 = some r := by
  obtain ⟨hp, hk⟩ := cond_some h
  unfold i_UpperState i_whole_i_State_s2
  rw [(fa_is hp).2]
  exact hk
noncomputable def gn_s_UpperState (z : β) (N : Nat) (g_0 : Int) (g_1 : Nat → Int) (g_2 : Nat → Int) (k0 : β) : β := cond (bP (FrA N g_0 g_1 g_2)) k0 z
theorem gn_s_UpperState_mono {α : Type} {N : Nat} {g_0 : Int} {g_1 g_2 : Nat → Int} {k0 : (Nat → Int) → Int → Option α} {r : α} (h : gn_s_UpperState none N g_0 g_1 g_2 (k0 (fun (x : Nat) => (0 : Int)) 1) = some r) : s_UpperState none N g_0 g_1 g_2 k0 = some r := by
  obtain ⟨hp, hk⟩ := cond_some h
  unfold s_UpperState
  rw [(fa_is hp).1]
  exact hk
noncomputable def gn_i_LowerState (z : β) (N : Nat) (g_0 : Int) (g_1 : Nat → Int) (g_2 : Nat → Int) (k0 : β) : β := cond (bP (FrA N g_0 g_1 g_2)) k0 z
theorem gn_i_LowerState_mono {α : Type} {N : Nat} {g_0 : Int} {g_1 g_2 : Nat → Int} {k0 : (Nat → Int) → Int → Option α} {r : α} (h : gn_i_LowerState none N g_0 g_1 g_2 (k0 (fun (x : Nat) => (0 : Int)) 1) = some r) : i_LowerState none N g_0 g_1 g_2 k0 = some r := by
  obtain ⟨hp, hk⟩ := cond_some h
  unfold i_LowerState i_whole_i_State
  rw [(fa_is hp).2]
  exact hk
noncomputable def gn_s_LowerState (z : β) (N : Nat) (g_0 : Int) (g_1 : Nat → Int) (g_2 : Nat → Int) (k0 : β) : β := cond (bP (FrA N g_0 g_1 g_2)) k0 z
theorem gn_s_LowerState_mono {α : Type} {N : Nat} {g_0 : Int} {g_1 g_2 : Nat → Int} {k0 : (Nat → Int) → Int → Option α} {r : α} (h : gn_s_LowerState none N g_0 g_1 g_2 (k0 (fun (x : Nat) => (0 : Int)) 1) = some r) : s_LowerState none N g_0 g_1 g_2 k0 = some r := by
  obtain ⟨hp, hk⟩ := cond_some h
  unfold s_LowerState
  rw [(fa_is hp).1]
  exact hk
noncomputable def gk_i_ThurstonBennequin (z : β) (N : Nat) (g_0 : Int) (g_1 : Nat → Int) (g_2 : Nat → Int) (k0 : Int → β) : β := cond (bP (FrG N g_0 g_1 g_2)) (k0 (tbS g_0.toNat g_1 g_2)) z
theorem gk_i_ThurstonBennequin_mono {α : Type} {N : Nat} {g_0 : Int} {g_1 g_2 : Nat → Int} {k0 : Int → Int → Option α} {r : α} (h : gk_i_ThurstonBennequin none N g_0 g_1 g_2 (fun a => k0 a 0) = some r) : i_ThurstonBennequin none N g_0 g_1 g_2 k0 = some r := by
  obtain ⟨⟨n, hp⟩, hk⟩ := cond_some h
  obtain rfl := hp.m
  rw [fr_tb_i hp]
  exact hk
noncomputable def gk_s_ThurstonBennequin (z : β) (N : Nat) (g_0 : Int) (g_1 : Nat → Int) (g_2 : Nat → Int) (k0 : Int → β) : β := cond (bP (FrG N g_0 g_1 g_2)) (k0 (tbS g_0.toNat g_1 g_2)) z
theorem gk_s_ThurstonBennequin_mono {α : Type} {N : Nat} {g_0 : Int} {g_1 g_2 : Nat → Int} {k0 : Int → Int → Option α} {r : α} (h : gk_s_ThurstonBennequin none N g_0 g_1 g_2 (fun a => k0 a 0) = some r) : s_ThurstonBennequin none N g_0 g_1 g_2 k0 = some r := by
  obtain ⟨⟨n, hp⟩, hk⟩ := cond_some h
  obtain rfl := hp.m
  rw [fr_tb_s hp]
  exact hk
noncomputable def gk_i_RotationOf (z : β) (N : Nat) (g_0 : Int) (g_1 : Nat → Int) (g_2 : Nat → Int) (k0 : Int → β) : β := cond (bP (FrG N g_0 g_1 g_2)) (k0 (rotS g_0.toNat g_1 g_2)) z
theorem gk_i_RotationOf_mono {α : Type} {N : Nat} {g_0 : Int} {g_1 g_2 : Nat → Int} {k0 : Int → Int → Option α} {r : α} (h : gk_i_RotationOf none N g_0 g_1 g_2 (fun a => k0 a 0) = some r) : i_RotationOf none N g_0 g_1 g_2 k0 = some r := by
  obtain ⟨⟨n, hp⟩, hk⟩ := cond_some h
  obtain rfl := hp.m
  rw [fr_rot_i hp]
  exact hk
noncomputable def gk_s_RotationOf (z : β) (N : Nat) (g_0 : Int) (g_1 : Nat → Int) (g_2 : Nat → Int) (k0 : Int → β) : β := cond (bP (FrG N g_0 g_1 g_2)) (k0 (rotS g_0.toNat g_1 g_2)) z
theorem gk_s_RotationOf_mono {α : Type} {N : Nat} {g_0 : Int} {g_1 g_2 : Nat → Int} {k0 : Int → Int → Option α} {r : α} (h : gk_s_RotationOf none N g_0 g_1 g_2 (fun a => k0 a 0) = some r) : s_RotationOf none N g_0 g_1 g_2 k0 = some r := by
  obtain ⟨⟨n, hp⟩, hk⟩ := cond_some h
  obtain rfl := hp.m
  rw [fr_rot_s hp]
  exact hk
noncomputable def gk_i_CountCusps (z : β) (N : Nat) (g_0 : Int) (g_1 : Nat → Int) (g_2 : Nat → Int) (k0 : Int → β) : β := cond (bP (FrG N g_0 g_1 g_2)) (k0 (cuspT g_0.toNat g_1 g_2)) z
theorem gk_i_CountCusps_mono {α : Type} {N : Nat} {g_0 : Int} {g_1 g_2 : Nat → Int} {k0 : Int → Int → Option α} {r : α} (h : gk_i_CountCusps none N g_0 g_1 g_2 (fun a => k0 a 0) = some r) : i_CountCusps none N g_0 g_1 g_2 k0 = some r := by
  obtain ⟨⟨n, hp⟩, hk⟩ := cond_some h
  obtain rfl := hp.m
  rw [fr_cusp_i hp]
  exact hk
noncomputable def gk_s_CountCusps (z : β) (N : Nat) (g_0 : Int) (g_1 : Nat → Int) (g_2 : Nat → Int) (k0 : Int → β) : β := cond (bP (FrG N g_0 g_1 g_2)) (k0 (cuspT g_0.toNat g_1 g_2)) z
theorem gk_s_CountCusps_mono {α : Type} {N : Nat} {g_0 : Int} {g_1 g_2 : Nat → Int} {k0 : Int → Int → Option α} {r : α} (h : gk_s_CountCusps none N g_0 g_1 g_2 (fun a => k0 a 0) = some r) : s_CountCusps none N g_0 g_1 g_2 k0 = some r := by
  obtain ⟨⟨n, hp⟩, hk⟩ := cond_some h
  obtain rfl := hp.m
  rw [fr_cusp_s hp]
  exact hk
noncomputable def gk_i_UpperState (z : β) (N : Nat) (g_0 : Int) (g_1 : Nat → Int) (g_2 : Nat → Int) (k0 : (Nat → Int) → β) : β := cond (bP (FrG N g_0 g_1 g_2)) (k0 (upS g_0.toNat g_1)) z
theorem gk_i_UpperState_mono {α : Type} {N : Nat} {g_0 : Int} {g_1 g_2 : Nat → Int} {k0 : (Nat → Int) → Int → Option α} {r : α} (h : gk_i_UpperState none N g_0 g_1 g_2 (fun a => k0 a 0) = some r) : i_UpperState none N g_0 g_1 g_2 k0 = some r := by
  obtain ⟨⟨n, hp⟩, hk⟩ := cond_some h
  obtain rfl := hp.m
  rw [fr_up_i hp]
  exact hk
noncomputable def gk_s_UpperState (z : β) (N : Nat) (g_0 : Int) (g_1 : Nat → Int) (g_2 : Nat → Int) (k0 : (Nat → Int) → β) : β := cond (bP (FrG N g_0 g_1 g_2)) (k0 (upS g_0.toNat g_1)) z
theorem gk_s_UpperState_mono {α : Type} {N : Nat} {g_0 : Int} {g_1 g_2 : Nat → Int} {k0 : (Nat → Int) → Int → Option α} {r : α} (h : gk_s_UpperState none N g_0 g_1 g_2 (fun a => k0 a 0) = some r) : s_UpperState none N g_0 g_1 g_2 k0 = some r := by
  obtain ⟨⟨n, hp⟩, hk⟩ := cond_some h
  obtain rfl := hp.m
  rw [fr_up_s hp]
  exact hk
noncomputable def gk_i_LowerState (z : β) (N : Nat) (g_0 : Int) (g_1 : Nat → Int) (g_2 : Nat → Int) (k0 : (Nat → Int) → β) : β := cond (bP (FrG N g_0 g_1 g_2)) (k0 (g_1)) z
theorem gk_i_LowerState_mono {α : Type} {N : Nat} {g_0 : Int} {g_1 g_2 : Nat → Int} {k0 : (Nat → Int) → Int → Option α} {r : α} (h : gk_i_LowerState none N g_0 g_1 g_2 (fun a => k0 a 0) = some r) : i_LowerState none N g_0 g_1 g_2 k0 = some r := by
  obtain ⟨⟨n, hp⟩, hk⟩ := cond_some h
  obtain rfl := hp.m
  rw [fr_low_i hp]
  exact hk
noncomputable def gk_s_LowerState (z : β) (N : Nat) (g_0 : Int) (g_1 : Nat → Int) (g_2 : Nat → Int) (k0 : (Nat → Int) → β) : β := cond (bP (FrG N g_0 g_1 g_2)) (k0 (g_1)) z
theorem gk_s_LowerState_mono {α : Type} {N : Nat} {g_0 : Int} {g_1 g_2 : Nat → Int} {k0 : (Nat → Int) → Int → Option α} {r : α} (h : gk_s_LowerState none N g_0 g_1 g_2 (fun a => k0 a 0) = some r) : s_LowerState none N g_0 g_1 g_2 k0 = some r := by
  obtain ⟨⟨n, hp⟩, hk⟩ := cond_some h
  obtain rfl := hp.m
  rw [fr_low_s hp]
  exact hk
noncomputable def gk_i_ExchangeOf (z : β) (N : Nat) (g_0 : Int) (g_1 : Nat → Int) (g_2 : Nat → Int) (k0 : Int → (Nat → Int) → (Nat → Int) → β) : β := cond (bP (FrG N g_0 g_1 g_2)) (k0 g_0 g_2 g_1) z
theorem gk_i_ExchangeOf_mono {α : Type} {N : Nat} {g_0 : Int} {g_1 g_2 : Nat → Int} {k0 : Int → (Nat → Int) → (Nat → Int) → Int → Option α} {r : α} (h : gk_i_ExchangeOf none N g_0 g_1 g_2 (fun a b c => k0 a b c 0) = some r) : i_ExchangeOf none N g_0 g_1 g_2 k0 = some r := by
  obtain ⟨⟨n, hp⟩, hk⟩ := cond_some h
  obtain rfl := hp.m
  rw [fr_exch_i hp]
  exact hk
noncomputable def gk_i_WritheOf (z : β) (N : Nat) (g_0 : Int) (g_1 : Nat → Int) (g_2 : Nat → Int) (k0 : Int → β) : β := cond (bP (FrG N g_0 g_1 g_2)) (k0 (writheS (crossL g_0.toNat g_1 g_2))) z
theorem gk_i_WritheOf_mono {α : Type} {N : Nat} {g_0 : Int} {g_1 g_2 : Nat → Int} {k0 : Int → Int → Option α} {r : α} (h : gk_i_WritheOf none N g_0 g_1 g_2 (fun a => k0 a 0) = some r) : i_WritheOf none N g_0 g_1 g_2 k0 = some r := by
  obtain ⟨⟨n, hp⟩, hk⟩ := cond_some h
  obtain rfl := hp.m
  rw [fr_writhe_i hp]
  exact hk
noncomputable def gk_i_IsKnot (z : β) (N : Nat) (g_0 : Int) (g_1 : Nat → Int) (g_2 : Nat → Int) (k0 : β) : β := cond (bP (FrK true N g_0 g_1 g_2)) k0 z
theorem gk_i_IsKnot_mono {α : Type} {N : Nat} {g_0 : Int} {g_1 g_2 : Nat → Int} {k0 : Bool → Int → Option α} {r : α} (h : gk_i_IsKnot none N g_0 g_1 g_2 (k0 true 0) = some r) : i_IsKnot none N g_0 g_1 g_2 k0 = some r := by
  obtain ⟨⟨n, hp, hb⟩, hk⟩ := cond_some h
  obtain rfl := hp.m
  rw [fr_knot_i hp, hb]
  exact hk
noncomputable def gl_i_ThurstonBennequin (z : β) (N : Nat) (g_0 : Int) (g_1 : Nat → Int) (g_2 : Nat → Int) (k0 : Int → β) : β := cond (bP (FrG N g_0 g_1 g_2)) (k0 (tbS g_0.toNat g_1 g_2)) z
theorem gl_i_ThurstonBennequin_mono {α : Type} {N : Nat} {g_0 : Int} {g_1 g_2 : Nat → Int} {k0 : Int → Int → Option α} {r : α} (h : gl_i_ThurstonBennequin none N g_0 g_1 g_2 (fun a => k0 a 0) = some r) : i_ThurstonBennequin none N g_0 g_1 g_2 k0 = some r := by
  obtain ⟨⟨n, hp⟩, hk⟩ := cond_some h
  obtain rfl := hp.m
  rw [fr_tb_i hp]
  exact hk
noncomputable def gl_s_ThurstonBennequin (z : β) (N : Nat) (g_0 : Int) (g_1 : Nat → Int) (g_2 : Nat → Int) (k0 : Int → β) : β := cond (bP (FrG N g_0 g_1 g_2)) (k0 (tbS g_0.toNat g_1 g_2)) z
theorem gl_s_ThurstonBennequin_mono {α : Type} {N : Nat} {g_0 : Int} {g_1 g_2 : Nat → Int} {k0 : Int → Int → Option α} {r : α} (h : gl_s_ThurstonBennequin none N g_0 g_1 g_2 (fun a => k0 a 0) = some r) : s_ThurstonBennequin none N g_0 g_1 g_2 k0 = some r := by
  obtain ⟨⟨n, hp⟩, hk⟩ := cond_some h
  obtain rfl := hp.m
  rw [fr_tb_s hp]
  exact hk
noncomputable def gl_i_RotationOf (z : β) (N : Nat) (g_0 : Int) (g_1 : Nat → Int) (g_2 : Nat → Int) (k0 : Int → β) : β := cond (bP (FrG N g_0 g_1 g_2)) (k0 (rotS g_0.toNat g_1 g_2)) z
theorem gl_i_RotationOf_mono {α : Type} {N : Nat} {g_0 : Int} {g_1 g_2 : Nat → Int} {k0 : Int → Int → Option α} {r : α} (h : gl_i_RotationOf none N g_0 g_1 g_2 (fun a => k0 a 0) = some r) : i_RotationOf none N g_0 g_1 g_2 k0 = some r := by
  obtain ⟨⟨n, hp⟩, hk⟩ := cond_some h
  obtain rfl := hp.m
  rw [fr_rot_i hp]
  exact hk
noncomputable def gl_s_RotationOf (z : β) (N : Nat) (g_0 : Int) (g_1 : Nat → Int) (g_2 : Nat → Int) (k0 : Int → β) : β := cond (bP (FrG N g_0 g_1 g_2)) (k0 (rotS g_0.toNat g_1 g_2)) z
theorem gl_s_RotationOf_mono {α : Type} {N : Nat} {g_0 : Int} {g_1 g_2 : Nat → Int} {k0 : Int → Int → Option α} {r : α} (h : gl_s_RotationOf none N g_0 g_1 g_2 (fun a => k0 a 0) = some r) : s_RotationOf none N g_0 g_1 g_2 k0 = some r := by
  obtain ⟨⟨n, hp⟩, hk⟩ := cond_some h
  obtain rfl := hp.m
  rw [fr_rot_s hp]
  exact hk
noncomputable def gl_i_CountCusps (z : β) (N : Nat) (g_0 : Int) (g_1 : Nat → Int) (g_2 : Nat → Int) (k0 : Int → β) : β := cond (bP (FrG N g_0 g_1 g_2)) (k0 (cuspT g_0.toNat g_1 g_2)) z
theorem gl_i_CountCusps_mono {α : Type} {N : Nat} {g_0 : Int} {g_1 g_2 : Nat → Int} {k0 : Int → Int → Option α} {r : α} (h : gl_i_CountCusps none N g_0 g_1 g_2 (fun a => k0 a 0) = some r) : i_CountCusps none N g_0 g_1 g_2 k0 = some r := by
  obtain ⟨⟨n, hp⟩, hk⟩ := cond_some h
  obtain rfl := hp.m
  rw [fr_cusp_i hp]
  exact hk
noncomputable def gl_s_CountCusps (z : β) (N : Nat) (g_0 : Int) (g_1 : Nat → Int) (g_2 : Nat → Int) (k0 : Int → β) : β := cond (bP (FrG N g_0 g_1 g_2)) (k0 (cuspT g_0.toNat g_1 g_2)) z
theorem gl_s_CountCusps_mono {α : Type} {N : Nat} {g_0 : Int} {g_1 g_2 : Nat → Int} {k0 : Int → Int → Option α} {r : α} (h : gl_s_CountCusps none N g_0 g_1 g_2 (fun a => k0 a 0) = some r) : s_CountCusps none N g_0 g_1 g_2 k0 = some r := by
  obtain ⟨⟨n, hp⟩, hk⟩ := cond_some h
  obtain rfl := hp.m
  rw [fr_cusp_s hp]
  exact hk
noncomputable def gl_i_UpperState (z : β) (N : Nat) (g_0 : Int) (g_1 : Nat → Int) (g_2 : Nat → Int) (k0 : (Nat → Int) → β) : β := cond (bP (FrG N g_0 g_1 g_2)) (k0 (upS g_0.toNat g_1)) z
theorem gl_i_UpperState_mono {α : Type} {N : Nat} {g_0 : Int} {g_1 g_2 : Nat → Int} {k0 : (Nat → Int) → Int → Option α} {r : α} (h : gl_i_UpperState none N g_0 g_1 g_2 (fun a => k0 a 0) = some r) : i_UpperState none N g_0 g_1 g_2 k0 = some r := by
  obtain ⟨⟨n, hp⟩, hk⟩ := cond_some h
  obtain rfl := hp.m
  rw [fr_up_i hp]
  exact hk
noncomputable def gl_s_UpperState (z : β) (N : Nat) (g_0 : Int) (g_1 : Nat → Int) (g_2 : Nat → Int) (k0 : (Nat → Int) → β) : β := cond (bP (FrG N g_0 g_1 g_2)) (k0 (upS g_0.toNat g_1)) z
theorem gl_s_UpperState_mono {α : Type} {N : Nat} {g_0 : Int} {g_1 g_2 : Nat → Int} {k0 : (Nat → Int) → Int → Option α} {r : α} (h : gl_s_UpperState none N g_0 g_1 g_2 (fun a => k0 a 0) = some r) : s_UpperState none N g_0 g_1 g_2 k0 = some r := by
  obtain ⟨⟨n, hp⟩, hk⟩ := cond_some h
  obtain rfl := hp.m
  rw [fr_up_s hp]
  exact hk
noncomputable def gl_i_LowerState (z : β) (N : Nat) (g_0 : Int) (g_1 : Nat → Int) (g_2 : Nat → Int) (k0 : (Nat → Int) → β) : β := cond (bP (FrG N g_0 g_1 g_2)) (k0 (g_1)) z
theorem gl_i_LowerState_mono {α : Type} {N : Nat} {g_0 : Int} {g_1 g_2 : Nat → Int} {k0 : (Nat → Int) → Int → Option α} {r : α} (h : gl_i_LowerState none N g_0 g_1 g_2 (fun a => k0 a 0) = some r) : i_LowerState none N g_0 g_1 g_2 k0 = some r := by
  obtain ⟨⟨n, hp⟩, hk⟩ := cond_some h
  obtain rfl := hp.m
  rw [fr_low_i hp]
  exact hk
noncomputable def gl_s_LowerState (z : β) (N : Nat) (g_0 : Int) (g_1 : Nat → Int) (g_2 : Nat → Int) (k0 : (Nat → Int) → β) : β := cond (bP (FrG N g_0 g_1 g_2)) (k0 (g_1)) z
theorem gl_s_LowerState_mono {α : Type} {N : Nat} {g_0 : Int} {g_1 g_2 : Nat → Int} {k0 : (Nat → Int) → Int → Option α} {r : α} (h : gl_s_LowerState none N g_0 g_1 g_2 (fun a => k0 a 0) = some r) : s_LowerState none N g_0 g_1 g_2 k0 = some r := by
  obtain ⟨⟨n, hp⟩, hk⟩ := cond_some h
  obtain rfl := hp.m
  rw [fr_low_s hp]
  exact hk
noncomputable def gl_i_ExchangeOf (z : β) (N : Nat) (g_0 : Int) (g_1 : Nat → Int) (g_2 : Nat → Int) (k0 : Int → (Nat → Int) → (Nat → Int) → β) : β := cond (bP (FrG N g_0 g_1 g_2)) (k0 g_0 g_2 g_1) z
theorem gl_i_ExchangeOf_mono {α : Type} {N : Nat} {g_0 : Int} {g_1 g_2 : Nat → Int} {k0 : Int → (Nat → Int) → (Nat → Int) → Int → Option α} {r : α} (h : gl_i_ExchangeOf none N g_0 g_1 g_2 (fun a b c => k0 a b c 0) = some r) : i_ExchangeOf none N g_0 g_1 g_2 k0 = some r := by
  obtain ⟨⟨n, hp⟩, hk⟩ := cond_some h
  obtain rfl := hp.m
  rw [fr_exch_i hp]
  exact hk
noncomputable def gl_i_WritheOf (z : β) (N : Nat) (g_0 : Int) (g_1 : Nat → Int) (g_2 : Nat → Int) (k0 : Int → β) : β := cond (bP (FrG N g_0 g_1 g_2)) (k0 (writheS (crossL g_0.toNat g_1 g_2))) z
theorem gl_i_WritheOf_mono {α : Type} {N : Nat} {g_0 : Int} {g_1 g_2 : Nat → Int} {k0 : Int → Int → Option α} {r : α} (h : gl_i_WritheOf none N g_0 g_1 g_2 (fun a => k0 a 0) = some r) : i_WritheOf none N g_0 g_1 g_2 k0 = some r := by
  obtain ⟨⟨n, hp⟩, hk⟩ := cond_some h
  obtain rfl := hp.m
  rw [fr_writhe_i hp]
  exact hk
noncomputable def gl_i_IsKnot (z : β) (N : Nat) (g_0 : Int) (g_1 : Nat → Int) (g_2 : Nat → Int) (k0 : β) : β := cond (bP (FrK false N g_0 g_1 g_2)) k0 z
theorem gl_i_IsKnot_mono {α : Type} {N : Nat} {g_0 : Int} {g_1 g_2 : Nat → Int} {k0 : Bool → Int → Option α} {r : α} (h : gl_i_IsKnot none N g_0 g_1 g_2 (k0 false 0) = some r) : i_IsKnot none N g_0 g_1 g_2 k0 = some r := by
  obtain ⟨⟨n, hp, hb⟩, hk⟩ := cond_some h
  obtain rfl := hp.m
  rw [fr_knot_i hp, hb]
  exact hk
noncomputable def gk_i_MaslovOf (z : β) (N : Nat) (g_0 : Int) (g_1 : Nat → Int) (g_2 : Nat → Int) (x : Nat → Int) (xs : Bool) (k0 : Int → β) : β := cond (bP (FrS N g_0 g_1 g_2 x xs)) (k0 (maslov g_0.toNat x g_2)) z
theorem gk_i_MaslovOf_mono {α : Type} {N : Nat} {g_0 : Int} {g_1 g_2 : Nat → Int} {x : Nat → Int} {xs : Bool} {k0 : Int → Int → Option α} {r : α} (h : gk_i_MaslovOf none N g_0 g_1 g_2 x xs (fun a => k0 a 0) = some r) : i_MaslovOf none N g_0 g_1 g_2 x xs k0 = some r := by
  obtain ⟨⟨n, hp, hx, hx2, rfl⟩, hk⟩ := cond_some h
  obtain rfl := hp.m
  rw [fr_mas hp hx hx2]
  exact hk
noncomputable def gk_i_SelfLinkings (z : β) (N : Nat) (g_0 : Int) (g_1 : Nat → Int) (g_2 : Nat → Int) (k0 : Int → Int → β) : β := cond (bP (FrK true N g_0 g_1 g_2)) (k0 (tbS g_0.toNat g_1 g_2 - rotS g_0.toNat g_1 g_2) (tbS g_0.toNat g_1 g_2 + rotS g_0.toNat g_1 g_2)) z
theorem gk_i_SelfLinkings_mono {α : Type} {N : Nat} {g_0 : Int} {g_1 g_2 : Nat → Int} {k0 : Int → Option α} {k1 : Int → List Int → Option α} {r : α} (h : gk_i_SelfLinkings none N g_0 g_1 g_2 (fun a b => k1 0 [a, b]) = some r) : i_SelfLinkings none N g_0 g_1 g_2 k0 k1 = some r := by
  obtain ⟨⟨n, hp, hb⟩, hk⟩ := cond_some h
  obtain rfl := hp.m
  rw [fr_self_i hp, hb]
  exact hk
end
end Go.AM

set_option maxRecDepth 100000
namespace Go.AM
/-- laws.FnFronts -/
noncomputable def gn_w_FnFronts {β : Type} (z : β) (N : Nat) (code_n : Nat) (code_l : Nat) (code_c : Nat) (h0_n : Nat) (h0 : Nat → Int) (k0 : Bool → β) : β :=
  w_big z N code_n code_l code_c h0_n h0 (fun q8 => cond (q8) (k0 true) (s_DrawThurstonBennequin z N code_n code_l code_c h0_n h0 (fun q9 q10 q11 => gn_i_ThurstonBennequin z N q9 q10 q11 (gn_s_ThurstonBennequin z N q9 q10 q11 (gn_i_RotationOf z N q9 q10 q11 (gn_s_RotationOf z N q9 q10 q11 (gn_i_CountCusps z N q9 q10 q11 (gn_s_CountCusps z N q9 q10 q11 (gn_i_UpperState z N q9 q10 q11 (gn_s_UpperState z N q9 q10 q11 (gn_i_LowerState z N q9 q10 q11 (gn_s_LowerState z N q9 q10 q11 (k0 true)))))))))))))
end Go.AM

set_option maxRecDepth 100000
namespace Go.AM
/-- laws.FnFronts -/
noncomputable def gk_w_FnFronts {β : Type} (z : β) (N : Nat) (code_n : Nat) (code_l : Nat) (code_c : Nat) (h0_n : Nat) (h0 : Nat → Int) (k0 : Bool → β) : β :=
  w_big z N code_n code_l code_c h0_n h0 (fun q8 => cond (q8) (k0 true) (s_DrawThurstonBennequin z N code_n code_l code_c h0_n h0 (fun q9 q10 q11 => gk_i_ThurstonBennequin z N q9 q10 q11 (fun q12 => gk_s_ThurstonBennequin z N q9 q10 q11 (fun q13 => gk_i_RotationOf z N q9 q10 q11 (fun q14 => gk_s_RotationOf z N q9 q10 q11 (fun q15 => gk_i_CountCusps z N q9 q10 q11 (fun q16 => gk_s_CountCusps z N q9 q10 q11 (fun q17 => gk_i_UpperState z N q9 q10 q11 (fun q18 => gk_s_UpperState z N q9 q10 q11 (fun q19 => gk_i_LowerState z N q9 q10 q11 (fun q20 => gk_s_LowerState z N q9 q10 q11 (fun q21 => cond (q12 != q13) (k0 false) (cond (q14 != q15) (k0 false) (cond (q16 != q17) (k0 false) (cond (!(q18 0 == q19 0 && (q18 1 == q19 1 && (q18 2 == q19 2 && (q18 3 == q19 3 && (q18 4 == q19 4 && (q18 5 == q19 5 && (q18 6 == q19 6 && (q18 7 == q19 7 && true))))))))) (k0 false) (cond (!(q20 0 == q21 0 && (q20 1 == q21 1 && (q20 2 == q21 2 && (q20 3 == q21 3 && (q20 4 == q21 4 && (q20 5 == q21 5 && (q20 6 == q21 6 && (q20 7 == q21 7 && true))))))))) (k0 false) (gk_i_ExchangeOf z N q9 q10 q11 (fun q22 q23 q24 => gk_i_RotationOf z N q22 q23 q24 (fun q25 => gk_i_ThurstonBennequin z N q22 q23 q24 (fun q26 => gk_i_IsKnot z N q9 q10 q11 (gk_i_WritheOf z N q9 q10 q11 (fun q27 => cond (fits IntKind.i64 (-q14)) (cond (q25 != -q14) (k0 false) (cond (q26 != q12) (k0 false) (cond (q16.tmod 2 != 0) (k0 false) (cond (fits IntKind.i64 (-q27)) (cond (fits IntKind.i64 (q16.tdiv 2)) (cond (fits IntKind.i64 (-q27 - q16.tdiv 2)) (cond (q12 != -q27 - q16.tdiv 2) (k0 false) (gk_i_MaslovOf z N q9 q10 q11 q18 false (fun q28 => gk_i_MaslovOf z N q9 q10 q11 q20 false (fun q29 => gk_i_SelfLinkings z N q9 q10 q11 (fun q30 q31 => cond (fits IntKind.i64 (q12 - q14)) (cond (fits IntKind.i64 (q12 - q14 + 1)) (cond (q28 != q12 - q14 + 1) (k0 false) (cond (fits IntKind.i64 (q12 + q14)) (cond (fits IntKind.i64 (q12 + q14 + 1)) (cond (q29 != q12 + q14 + 1) (k0 false) (cond (fits IntKind.i64 (q12 - q14)) (cond ([q30, q31][0]?.getD 0 != q12 - q14) (k0 false) (cond (fits IntKind.i64 (q12 + q14)) (cond ([q30, q31][1]?.getD 0 != q12 + q14) (k0 false) (k0 true)) (z))) (z))) (z)) (z))) (z)) (z)))))) (z)) (z)) (z))))) (z))))))))))))))))))))))))
end Go.AM

set_option maxRecDepth 100000
namespace Go.AM
/-- laws.FnFronts -/
noncomputable def gl_w_FnFronts {β : Type} (z : β) (N : Nat) (code_n : Nat) (code_l : Nat) (code_c : Nat) (h0_n : Nat) (h0 : Nat → Int) (k0 : Bool → β) : β :=
  w_big z N code_n code_l code_c h0_n h0 (fun q8 => cond (q8) (k0 true) (s_DrawThurstonBennequin z N code_n code_l code_c h0_n h0 (fun q9 q10 q11 => gl_i_ThurstonBennequin z N q9 q10 q11 (fun q12 => gl_s_ThurstonBennequin z N q9 q10 q11 (fun q13 => gl_i_RotationOf z N q9 q10 q11 (fun q14 => gl_s_RotationOf z N q9 q10 q11 (fun q15 => gl_i_CountCusps z N q9 q10 q11 (fun q16 => gl_s_CountCusps z N q9 q10 q11 (fun q17 => gl_i_UpperState z N q9 q10 q11 (fun q18 => gl_s_UpperState z N q9 q10 q11 (fun q19 => gl_i_LowerState z N q9 q10 q11 (fun q20 => gl_s_LowerState z N q9 q10 q11 (fun q21 => cond (q12 != q13) (k0 false) (cond (q14 != q15) (k0 false) (cond (q16 != q17) (k0 false) (cond (!(q18 0 == q19 0 && (q18 1 == q19 1 && (q18 2 == q19 2 && (q18 3 == q19 3 && (q18 4 == q19 4 && (q18 5 == q19 5 && (q18 6 == q19 6 && (q18 7 == q19 7 && true))))))))) (k0 false) (cond (!(q20 0 == q21 0 && (q20 1 == q21 1 && (q20 2 == q21 2 && (q20 3 == q21 3 && (q20 4 == q21 4 && (q20 5 == q21 5 && (q20 6 == q21 6 && (q20 7 == q21 7 && true))))))))) (k0 false) (gl_i_ExchangeOf z N q9 q10 q11 (fun q22 q23 q24 => gl_i_RotationOf z N q22 q23 q24 (fun q25 => gl_i_ThurstonBennequin z N q22 q23 q24 (fun q26 => gl_i_IsKnot z N q9 q10 q11 (gl_i_WritheOf z N q9 q10 q11 (fun q27 => cond (fits IntKind.i64 (-q14)) (cond (q25 != -q14) (k0 false) (cond (q26 != q12) (k0 false) (cond (q16.tmod 2 != 0) (k0 false) (cond (fits IntKind.i64 (-q27)) (cond (fits IntKind.i64 (q16.tdiv 2)) (cond (fits IntKind.i64 (-q27 - q16.tdiv 2)) (cond (q12 != -q27 - q16.tdiv 2) (k0 false) (k0 true)) (z)) (z)) (z))))) (z))))))))))))))))))))))))
end Go.AM

namespace Go.AM
section
variable {β : Type}
theorem drawFronts_val (z : β) {N : Nat} (hN : 5000 < N) {hn n l : Nat} {h : Nat → Int} (S : Src hn h n l) (c : Nat) :
    ∃ (m : Int) (X O : Nat → Int), Byt X ∧ Byt O ∧ ∀ k, s_DrawThurstonBennequin z N n l c hn h k = k m X O := by
  obtain ⟨b, e0⟩ := from_val z hN S c
  obtain ⟨m, X, O, a1, b1, hm, hX, hO, ha1, e1⟩ := spoil1_val z (by omega : 100 < N) S c (Int.le_refl 0) b
  refine ⟨m, X, O, hX, hO, fun k => ?_⟩
  unfold s_DrawThurstonBennequin
  rw [e0, e1]
theorem upper_perm {n : Nat} {X O : Nat → Int} (F : FrontG n X O) : PermP 8 n (upS n X) := by
  have hlo := F.g.lo
  have hhi := F.g.hi
  have U := (upper_spec F.g F.x).1
  have inv : ∀ j, j < n → ∃ i, i < n ∧ (i + 1) % n = j := fun j hj => by
    refine ⟨(j + (n - 1)) % n, Nat.mod_lt _ (by omega), ?_⟩
    by_cases e : j = 0
    · subst e
      rw [Nat.zero_add, Nat.mod_eq_of_lt (by omega : n - 1 < n), show n - 1 + 1 = n by omega, Nat.mod_self]
    · rw [show j + (n - 1) = (j - 1) + n by omega, Nat.add_mod_right, Nat.mod_eq_of_lt (by omega : j - 1 < n), show j - 1 + 1 = j by omega, Nat.mod_eq_of_lt hj]
  have out : ∀ d, ∀ j, n ≤ j → iter (upperF n X) d 0 (fun _ => 0) j = 0 := by
    intro d
    induction d with
    | zero => exact fun _ _ => rfl
    | succ d ih =>
      intro j hj
      rw [iter_succ, Nat.zero_add]
      unfold upperF
      have h1 : 0 ≤ ((d : Int) + 1).tmod n ∧ ((d : Int) + 1).tmod n < n := tmod_lt (by omega) (by omega)
      rw [upd_at, if_neg (by omega)]
      exact ih j hj
  refine ⟨fun j h1 _ => out n j h1, fun j hj => ?_, fun a b ha hb e => ?_⟩
  · obtain ⟨i, hi, rfl⟩ := inv j hj
    have := F.g.bdX F.x hi
    have e : upS n X ((i + 1) % n) = if X i = n - 1 then 0 else X i + 1 := U i hi
    rw [e]
    split <;> omega
  · obtain ⟨i, hi, rfl⟩ := inv a ha
    obtain ⟨k, hk, rfl⟩ := inv b hb
    have e1 : upS n X ((i + 1) % n) = if X i = n - 1 then 0 else X i + 1 := U i hi
    have e2 : upS n X ((k + 1) % n) = if X k = n - 1 then 0 else X k + 1 := U k hk
    have b1 := F.g.bdX F.x hi
    have b2 := F.g.bdX F.x hk
    rw [e1, e2] at e
    have : X i = X k := by split at e <;> split at e <;> omega
    rw [F.g.px.2.2 i k hi hk this]
theorem w_FnFronts_or (z : β) {N : Nat} (hN : 5000 < N) (n l c hn : Nat) (h : Nat → Int) (hq : n = hn) (hl : l = hn) (hs : l ≤ 9223372036854775807) (hb : ∀ j, j < hn → 0 ≤ h j ∧ h j ≤ 255) :
    (∀ k0, gn_w_FnFronts z N n l c hn h k0 = k0 true) ∨ (∀ k0, gk_w_FnFronts z N n l c hn h k0 = k0 true) ∨ (∀ k0, gl_w_FnFronts z N n l c hn h k0 = k0 true) := by
  by_cases hbig : (4096 : Int) < l
  · refine .inl fun k0 => ?_
    unfold gn_w_FnFronts w_big
    rw [c_ble (by omega), decide_eq_true hbig]
    rfl
  have S : Src hn h n l := ⟨hq, by omega, by omega, hb⟩
  obtain ⟨m, X, O, hX, hO, e⟩ := drawFronts_val z hN S c
  have first : ∀ x y : β, cond (decide ((4096 : Int) < l)) x y = y := fun x y => c_nlt (by omega)
  cases hg : gridB m X O with
  | false =>
    refine .inl fun k0 => ?_
    have P : FrA N m X O := ⟨by omega, hX, hO, hg⟩
    unfold gn_w_FnFronts w_big
    rw [c_ble (by omega)]
    simp only [first, e, gn_i_ThurstonBennequin, gn_s_ThurstonBennequin, gn_i_RotationOf, gn_s_RotationOf, gn_i_CountCusps, gn_s_CountCusps, gn_i_UpperState, gn_s_UpperState, gn_i_LowerState, gn_s_LowerState, c_bP P]
  | true =>
    obtain ⟨n', rfl, g⟩ := gridB_iff.1 hg
    have P : FrP N n' X O n' := ⟨by omega, rfl, g, hX, hO⟩
    have G : FrG N n' X O := ⟨n', P⟩
    have G2 : FrG N n' O X := ⟨n', P.swap⟩
    have F := P.F
    have h8 := g.hi
    have nb := nums_bd (X := X) (O := O) g.hi
    have wb := writheS_bd (crossL_inv X O g.hi)
    obtain ⟨x1, x2⟩ := numbers_swap F
    have cu := cuspS_bd (cornersL n' X O) (fun _ => false) (2 * n')
    have ce : cuspT n' X O % 2 = 0 := cusps_even F
    have cb : 0 ≤ cuspT n' X O ∧ cuspT n' X O ≤ 16 := by unfold cuspT; omega
    have ct : (cuspT n' X O).tmod 2 = 0 := by rw [Int.tmod_eq_emod_of_nonneg (by omega)]; exact ce
    have cd := tdiv2_bd (x := cuspT n' X O) (m := 16) (by omega)
    have tb : tbS n' X O = -writheS (crossL n' X O) - (cuspT n' X O).tdiv 2 := rfl
    have b1 : ∀ a : Int, (a != a) = false := fun a => by simp
    have b2 : ∀ a : Int, (a == a) = true := fun a => by simp
    cases hk : ((compS (nxtC n' X O) n').2 == 1) with
    | true =>
      refine .inr (.inl fun k0 => ?_)
      have GK : FrK true N n' X O := ⟨n', P, hk⟩
      obtain ⟨U1, U2⟩ := upper_spec g F.x
      have GU : FrS N n' X O (upS n' X) false := ⟨n', P, U2, upper_perm F, rfl⟩
      have GL : FrS N n' X O X false := ⟨n', P, hX.b, g.px, rfl⟩
      have mu : maslov n' (upS n' X) O = tbS n' X O - rotS n' X O + 1 := upper_numbers F U1
      have ml := lower_numbers F
      unfold gk_w_FnFronts w_big
      rw [c_ble (by omega)]
      simp only [first, e, gk_i_ThurstonBennequin, gk_s_ThurstonBennequin, gk_i_RotationOf, gk_s_RotationOf, gk_i_CountCusps, gk_s_CountCusps, gk_i_UpperState, gk_s_UpperState, gk_i_LowerState, gk_s_LowerState, gk_i_ExchangeOf, gk_i_WritheOf, gk_i_IsKnot, gk_i_MaslovOf, gk_i_SelfLinkings,
        c_bP G, c_bP G2, c_bP GK, c_bP GU, c_bP GL, Int.toNat_natCast, x1, x2, mu, ml, ct, ← tb, b1, b2, c_false, c_true, Bool.not_true, Bool.and_true, List.getElem?_cons_zero, List.getElem?_cons_succ, Option.getD_some]
      simp (disch := omega) only [c_fits]
    | false =>
      refine .inr (.inr fun k0 => ?_)
      have GK : FrK false N n' X O := ⟨n', P, hk⟩
      unfold gl_w_FnFronts w_big
      rw [c_ble (by omega)]
      simp only [first, e, gl_i_ThurstonBennequin, gl_s_ThurstonBennequin, gl_i_RotationOf, gl_s_RotationOf, gl_i_CountCusps, gl_s_CountCusps, gl_i_UpperState, gl_s_UpperState, gl_i_LowerState, gl_s_LowerState, gl_i_ExchangeOf, gl_i_WritheOf, gl_i_IsKnot,
        c_bP G, c_bP G2, c_bP GK, Int.toNat_natCast, x1, x2, ct, ← tb, b1, b2, c_false, c_true, Bool.not_true, Bool.and_true]
      simp (disch := omega) only [c_fits]
end
end Go.AM
