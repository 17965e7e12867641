/- A part of a proof about the given program: an abstract machine, what the given functions come to, and plain laws. -/
import Derived.Test.YtkboldcnkkolkaaMachB
import Derived.Test.YtkboldcnkkolkaaDallColouringBasis1
set_option linter.unusedVariables false
set_option linter.unusedSimpArgs false
namespace Go.AM
section guards
variable {β : Type} {x y : β}
theorem c_and (a b : Bool) : cond (a && b) x y = cond a (cond b x y) y := by cases a <;> rfl
theorem c_or (a b : Bool) : cond (a || b) x y = cond a x (cond b x y) := by cases a <;> rfl
theorem c_not (a : Bool) : cond (!a) x y = cond a y x := by cases a <;> rfl
theorem c_lt {a b : Int} (h : a < b) : cond (decide (a < b)) x y = x := by rw [decide_eq_true h]; rfl
theorem c_nlt {a b : Int} (h : b ≤ a) : cond (decide (a < b)) x y = y := by rw [decide_eq_false (by omega)]; rfl
theorem c_le {a b : Int} (h : a ≤ b) : cond (decide (a ≤ b)) x y = x := by rw [decide_eq_true h]; rfl
theorem c_nle {a b : Int} (h : b < a) : cond (decide (a ≤ b)) x y = y := by rw [decide_eq_false (by omega)]; rfl
theorem c_ne {a b : Int} (h : a ≠ b) : cond (a != b) x y = x := by rw [show (a != b) = true by simpa using h]; rfl
theorem c_nne {a b : Int} (h : a = b) : cond (a != b) x y = y := by rw [show (a != b) = false by simpa using h]; rfl
theorem c_eq {a b : Int} (h : a = b) : cond (a == b) x y = x := by rw [show (a == b) = true by simpa using h]; rfl
theorem c_neq {a b : Int} (h : a ≠ b) : cond (a == b) x y = y := by rw [show (a == b) = false by simpa using h]; rfl
theorem c_blt {a b : Nat} (h : a < b) : cond (a.blt b) x y = x := by rw [show a.blt b = true by rwa [Nat.blt_eq]]; rfl
theorem c_nblt {a b : Nat} (h : b ≤ a) : cond (a.blt b) x y = y := by rw [show a.blt b = false by rw [← Bool.not_eq_true, Nat.blt_eq]; omega]; rfl
theorem c_ble {a b : Nat} (h : a ≤ b) : cond (a.ble b) x y = x := by rw [show a.ble b = true by rwa [Nat.ble_eq]]; rfl
theorem c_nble {a b : Nat} (h : b < a) : cond (a.ble b) x y = y := by rw [show a.ble b = false by rw [← Bool.not_eq_true, Nat.ble_eq]; omega]; rfl
theorem c_beq {a b : Nat} (h : a = b) : cond (a.beq b) x y = x := by rw [show a.beq b = true by subst h; exact Nat.beq_refl a]; rfl
theorem c_nbeq {a b : Nat} (h : a ≠ b) : cond (a.beq b) x y = y := by rw [show a.beq b = false by rw [← Bool.not_eq_true]; exact fun e => h (Nat.eq_of_beq_eq_true e)]; rfl
theorem fits64 {x : Int} (h : -9223372036854775808 ≤ x ∧ x ≤ 9223372036854775807) : fits .i64 x = true := by rw [fits_iff]; exact h
theorem c_fits {a : Int} (h : -9223372036854775808 ≤ a ∧ a ≤ 9223372036854775807) : cond (fits .i64 a) x y = x := by rw [fits64 h]; rfl
theorem c_true : cond true x y = x := rfl
theorem c_false : cond false x y = y := rfl
theorem c_same (b : Bool) : cond b x x = x := by cases b <;> rfl
/-- A test with the same text in both arms. -/
theorem c_app {γ : Type} (f : β → γ) (b : Bool) : f (cond b x y) = cond b (f x) (f y) := by cases b <;> rfl
theorem c_if (b : Bool) : cond b x y = if b = true then x else y := by cases b <;> rfl
theorem c_dec (p : Prop) [Decidable p] : cond (decide p) x y = if p then x else y := by by_cases h : p <;> simp [h]
end guards

section upd
variable {β : Type}
theorem upd_at (f : Nat → β) (i : Nat) (v : β) (j : Nat) : upd f i v j = if j = i then v else f j := by
  unfold upd
  by_cases h : j = i
  · subst h; rw [Nat.beq_refl]; simp
  · rw [show Nat.beq j i = false by rw [← Bool.not_eq_true]; exact fun e => h (Nat.eq_of_beq_eq_true e), if_neg h]; rfl
theorem upd_eq (f : Nat → β) (i : Nat) (v : β) : upd f i v = fun j => if j = i then v else f j := funext (upd_at f i v)
end upd

section loops
variable {β σ ρ : Type}
/-- So many steps, from a number on. -/
def iter (f : Nat → σ → σ) : Nat → Nat → σ → σ
  | 0, _, s => s
  | d + 1, i, s => iter f d (i + 1) (f i s)

theorem iter_succ (f : Nat → σ → σ) : ∀ (d i : Nat) (s : σ), iter f (d + 1) i s = f (i + d) (iter f d i s) := by
  intro d
  induction d with
  | zero => intro i s; rfl
  | succ d ih => intro i s; rw [iter, ih, iter]; congr 1; omega

/-- What holds along the way. -/
theorem iter_inv {f : Nat → σ → σ} {I : Nat → σ → Prop} {n : Nat} (h : ∀ i s, i < n → I i s → I (i + 1) (f i s)) : ∀ (d i : Nat) (s : σ), i + d ≤ n → I i s → I (i + d) (iter f d i s) := by
  intro d
  induction d with
  | zero => intro i s _ h0; exact h0
  | succ d ih =>
    intro i s hn h0
    have := ih (i + 1) (f i s) (by omega) (h i s (by omega) h0)
    rw [show i + 1 + d = i + (d + 1) by omega] at this
    exact this

/-- A loop that counts up to a number and goes on. -/
theorem up_to {L : Nat → Nat → σ → β} {n : Nat} {out : σ → β} {f : Nat → σ → σ} {I : Nat → σ → Prop}
    (hs : ∀ m i s, i < n → I i s → L (m + 1) i s = L m (i + 1) (f i s) ∧ I (i + 1) (f i s)) (he : ∀ m s, I n s → L (m + 1) n s = out s) :
    ∀ (d m i : Nat) (s : σ), i + d = n → d < m → I i s → L m i s = out (iter f d i s) := by
  intro d
  induction d with
  | zero =>
    intro m i s hi hm h0
    obtain ⟨m, rfl⟩ : ∃ m', m = m' + 1 := ⟨m - 1, by omega⟩
    have : i = n := by omega
    subst this
    exact he m s h0
  | succ d ih =>
    intro m i s hi hm h0
    obtain ⟨m, rfl⟩ : ∃ m', m = m' + 1 := ⟨m - 1, by omega⟩
    obtain ⟨h1, h2⟩ := hs m i s (by omega) h0
    rw [h1]
    exact ih m (i + 1) (f i s) (by omega) (by omega) h2

/-- A loop that counts up to a number comes to an end. -/
theorem up_to_ex {L : Nat → Nat → σ → β} {n : Nat} {out : σ → β} {I : Nat → σ → Prop}
    (hs : ∀ i s, i < n → I i s → ∃ s', (∀ m, L (m + 1) i s = L m (i + 1) s') ∧ I (i + 1) s') (he : ∀ m s, I n s → L (m + 1) n s = out s) :
    ∀ (d m i : Nat) (s : σ), i + d = n → d < m → I i s → ∃ s', L m i s = out s' ∧ I n s' := by
  intro d
  induction d with
  | zero =>
    intro m i s hi hm h0
    obtain ⟨m, rfl⟩ : ∃ m', m = m' + 1 := ⟨m - 1, by omega⟩
    have : i = n := by omega
    subst this
    exact ⟨s, he m s h0, h0⟩
  | succ d ih =>
    intro m i s hi hm h0
    obtain ⟨m, rfl⟩ : ∃ m', m = m' + 1 := ⟨m - 1, by omega⟩
    obtain ⟨s', h1, h2⟩ := hs i s (by omega) h0
    rw [h1]
    exact ih m (i + 1) s' (by omega) (by omega) h2

/-- A loop that counts up to a number, or is left before. -/
def iterE (f : Nat → σ → σ ⊕ ρ) : Nat → Nat → σ → σ ⊕ ρ
  | 0, _, s => .inl s
  | d + 1, i, s => match f i s with
    | .inl s' => iterE f d (i + 1) s'
    | .inr r => .inr r
def orOut (out : σ → β) (ex : ρ → β) : σ ⊕ ρ → β
  | .inl s => out s
  | .inr r => ex r
theorem up_to_E {L : Nat → Nat → σ → β} {n : Nat} {out : σ → β} {ex : ρ → β} {f : Nat → σ → σ ⊕ ρ} {I : Nat → σ → Prop}
    (hs : ∀ m i s, i < n → I i s → (∃ s', f i s = .inl s' ∧ L (m + 1) i s = L m (i + 1) s' ∧ I (i + 1) s') ∨ ∃ r, f i s = .inr r ∧ L (m + 1) i s = ex r) (he : ∀ m s, I n s → L (m + 1) n s = out s) :
    ∀ (d m i : Nat) (s : σ), i + d = n → d < m → I i s → L m i s = orOut out ex (iterE f d i s) := by
  intro d
  induction d with
  | zero =>
    intro m i s hi hm h0
    obtain ⟨m, rfl⟩ : ∃ m', m = m' + 1 := ⟨m - 1, by omega⟩
    have : i = n := by omega
    subst this
    exact he m s h0
  | succ d ih =>
    intro m i s hi hm h0
    obtain ⟨m, rfl⟩ : ∃ m', m = m' + 1 := ⟨m - 1, by omega⟩
    rcases hs m i s (by omega) h0 with ⟨s', h1, h2, h3⟩ | ⟨r, h1, h2⟩
    · rw [h2, iterE, h1]
      exact ih m (i + 1) s' (by omega) (by omega) h3
    · rw [h2, iterE, h1]; rfl

/-- A test for all numbers of a range. -/
def allFrom (p : Nat → Bool) : Nat → Nat → Bool
  | 0, _ => true
  | d + 1, i => p i && allFrom p d (i + 1)
theorem allFrom_iff {p : Nat → Bool} : ∀ (d i : Nat), allFrom p d i = true ↔ ∀ j, i ≤ j → j < i + d → p j = true := by
  intro d
  induction d with
  | zero => intro i; exact ⟨fun _ j h1 h2 => by omega, fun _ => rfl⟩
  | succ d ih =>
    intro i
    rw [allFrom, Bool.and_eq_true, ih]
    refine ⟨fun ⟨h1, h2⟩ j h3 h4 => ?_, fun h => ⟨h i (by omega) (by omega), fun j h3 h4 => h j (by omega) (by omega)⟩⟩
    by_cases e : j = i
    · subst e; exact h1
    · exact h2 j (by omega) (by omega)
theorem up_to_all {L : Nat → Nat → β} {n : Nat} {kt kf : β} {p : Nat → Bool}
    (hs : ∀ m i, i < n → L (m + 1) i = cond (p i) (L m (i + 1)) kf) (he : ∀ m, L (m + 1) n = kt) :
    ∀ (d m i : Nat), i + d = n → d < m → L m i = cond (allFrom p d i) kt kf := by
  intro d
  induction d with
  | zero =>
    intro m i hi hm
    obtain ⟨m, rfl⟩ : ∃ m', m = m' + 1 := ⟨m - 1, by omega⟩
    have : i = n := by omega
    subst this
    exact he m
  | succ d ih =>
    intro m i hi hm
    obtain ⟨m, rfl⟩ : ∃ m', m = m' + 1 := ⟨m - 1, by omega⟩
    rw [hs m i (by omega), allFrom]
    cases p i with
    | false => rfl
    | true => exact ih m (i + 1) (by omega) (by omega)
/-- Cells that are set one after the other. -/
theorem iter_set {γ : Type} (g : Nat → γ) : ∀ (d i : Nat) (h : Nat → γ), iter (fun i h => upd h i (g i)) d i h = fun j => if i ≤ j ∧ j < i + d then g j else h j := by
  intro d
  induction d with
  | zero => intro i h; funext j; rw [if_neg (by omega)]; rfl
  | succ d ih =>
    intro i h
    rw [iter, ih]
    funext j
    simp only [upd_at]
    by_cases e : j = i
    · subst e; rw [if_neg (by omega), if_pos (by omega)]; simp
    · by_cases e2 : i + 1 ≤ j ∧ j < i + 1 + d
      · rw [if_pos e2, if_pos (by omega)]
      · rw [if_neg e2, if_neg e, if_neg (by omega)]
end loops
end Go.AM

namespace Go.AM
section
variable {β : Type}
/-- The cells of a header. -/
abbrev idAt (ids : List (Nat × Nat)) (i : Nat) : Nat × Nat := ids[i]?.getD (0, 0)
abbrev rowAt (T : List (List Int)) (i : Nat) : List Int := T[i]?.getD []
/-- A table told by a header row and a pool of rows. -/
structure TabP (ids : List (Nat × Nat)) (pool T : List (List Int)) : Prop where
  len : T.length ≤ ids.length
  lt : ∀ i, i < T.length → (idAt ids i).1 < pool.length
  sz : ∀ i, i < T.length → (idAt ids i).2 = (rowAt T i).length
  row : ∀ i, i < T.length → rowAt pool (idAt ids i).1 = rowAt T i
  inj : ∀ i j, i < T.length → j < T.length → (idAt ids i).1 = (idAt ids j).1 → i = j
/-- How many cells the first rows have. -/
def total (T : List (List Int)) : Nat → Nat
  | 0 => 0
  | i + 1 => total T i + (rowAt T i).length
structure SmallT (N : Nat) (T : List (List Int)) : Prop where
  rows : T.length < N ∧ T.length ≤ 1000
  cols : ∀ i, i < T.length → (rowAt T i).length < N ∧ (rowAt T i).length ≤ 1000
theorem SmallT.total {N : Nat} {T : List (List Int)} (h : SmallT N T) : ∀ i, i ≤ T.length → total T i ≤ 1000 * i := by
  intro i
  induction i with
  | zero => intro _; exact Nat.le_refl _
  | succ i ih =>
    intro hi
    have := ih (by omega)
    have := (h.cols i (by omega)).2
    simp only [Go.AM.total]
    omega
theorem pair_beq {a b : Nat} (h : a = b) : (a.beq b) = true := by subst h; exact Nat.beq_refl a

/-! the law's functions on tables -/
theorem eqNil (z : β) {N : Nat} (hN : 0 < N) (k : Bool → β) : w_eqInt64SS z N k = k true := by
  obtain ⟨N, rfl⟩ : ∃ m, N = m + 1 := ⟨N - 1, by omega⟩
  simp (disch := omega) only [w_eqInt64SS, w_eqInt64SS_l0, w_eqInt64SS_l0_s, c_nlt]
theorem markNil (z : β) {N : Nat} (hN : 0 < N) (i : Int) (k : β) : w_markInt64SS z N i k = k := by
  obtain ⟨N, rfl⟩ : ∃ m, N = m + 1 := ⟨N - 1, by omega⟩
  simp (disch := omega) only [w_markInt64SS, w_markInt64SS_l0, w_markInt64SS_l0_s, c_nlt]
theorem heldNil (z : β) {N : Nat} (hN : 0 < N) (i : Int) (k : β) : w_heldInt64SS z N i k = k := by
  obtain ⟨N, rfl⟩ : ∃ m, N = m + 1 := ⟨N - 1, by omega⟩
  simp (disch := omega) only [w_heldInt64SS, w_heldInt64SS_l0, w_heldInt64SS_l0_s, c_nlt]

theorem eqRow (z : β) {N L c c' a b : Nat} (hN : L < N) (hl : L ≤ 1000) {P Q : List (List Int)} {xs : List Int} (ha : rowAt P a = xs) (hb : rowAt Q b = xs) (hx : xs.length = L) (k : Bool → β) :
    w_eqInt64S_s14 z N a 0 L L c b 0 L L c' P Q k = k true := by
  unfold w_eqInt64S_s14
  unfold rowAt at ha hb
  simp (disch := omega) only [c_ble, c_nne]
  exact (up_to_all (L := fun m i => w_eqInt64S_l0_s12 z a 0 L L c b 0 L L c' P Q m (i : Int) (k false) (k true)) (n := L) (kt := k true) (kf := k false) (p := fun _ => true)
    (fun m i hi => by
      simp only [w_eqInt64S_l0_s12, w_eqInt64S_l0_s12_s, c_and, Int.toNat_natCast, addO_eq, Nat.zero_add, ha, hb]
      simp (disch := omega) only [c_lt, c_le, c_blt, c_ble, c_beq, c_fits, c_nne]
      rfl)
    (fun m => by simp (disch := omega) only [w_eqInt64S_l0_s12, w_eqInt64S_l0_s12_s, c_ble, c_nlt]) L N 0 (by omega) hN).trans (by rw [(allFrom_iff L 0).2 fun _ _ _ => rfl]; rfl)
theorem eqTab (z : β) {N c c' : Nat} {ids ids' : List (Nat × Nat)} {P P' T : List (List Int)} (h : TabP ids P T) (h' : TabP ids' P' T) (s : SmallT N T) (k : Bool → β) :
    w_eqInt64SS_s4 z N ids.length T.length c ids'.length T.length c' ids ids' P P' k = k true := by
  have := s.rows
  have := h.len
  have := h'.len
  unfold w_eqInt64SS_s4
  simp (disch := omega) only [c_ble, c_nne]
  exact (up_to_all (L := fun m i => w_eqInt64SS_l0_s4 z N ids.length T.length c ids'.length T.length c' ids ids' P P' m (i : Int) (k false) (k true)) (n := T.length) (kt := k true) (kf := k false) (p := fun _ => true)
    (fun m i hi => by
      have e1 := h.sz i hi
      have e2 := h'.sz i hi
      have e3 := s.cols i hi
      have e4 := h.row i hi
      have e5 := h'.row i hi
      unfold idAt at e1 e2
      simp only [w_eqInt64SS_l0_s4, w_eqInt64SS_l0_s4_s, c_and, Int.toNat_natCast]
      simp (disch := omega) only [c_lt, c_le, c_blt, c_ble, c_beq, e1, e2]
      rw [eqRow z e3.1 e3.2 e4 e5 rfl]
      simp (disch := omega) only [Bool.not_true, cond_false, c_fits]
      rfl)
    (fun m => by simp (disch := omega) only [w_eqInt64SS_l0_s4, w_eqInt64SS_l0_s4_s, c_ble, c_nlt]) T.length N 0 (by omega) (by omega)).trans (by rw [(allFrom_iff T.length 0).2 fun _ _ _ => rfl]; rfl)

/-- A row that is marked from a number on. -/
def MarkR (k0 : Int) (L : Nat) (xs : List Int) : Prop := xs.length = L ∧ ∀ j, j < L → xs[j]?.getD 0 = k0 + j
theorem rowAt_set {P : List (List Int)} {a : Nat} {ys : List Int} (ha : a < P.length) (b : Nat) : rowAt (P.set a ys) b = if b = a then ys else rowAt P b := by
  unfold rowAt
  rw [List.getElem?_set]
  by_cases e : b = a
  · subst e; rw [if_pos rfl, if_pos ha, if_pos rfl]; rfl
  · rw [if_neg (Ne.symm e), if_neg e]
def markRowF (a : Nat) (k0 : Int) (i : Nat) (p : List (List Int)) : List (List Int) := p.set a ((rowAt p a).set i (k0 + i))
def markRowS (a : Nat) (k0 : Int) (L : Nat) (p : List (List Int)) : List (List Int) := iter (markRowF a k0) L 0 p
theorem markRowS_spec {a L : Nat} {k0 : Int} {P : List (List Int)} (ha : a < P.length) (hx : (rowAt P a).length = L) :
    (markRowS a k0 L P).length = P.length ∧ (∀ b, b ≠ a → rowAt (markRowS a k0 L P) b = rowAt P b) ∧ MarkR k0 L (rowAt (markRowS a k0 L P) a) := by
  have := iter_inv (f := markRowF a k0) (n := L) (I := fun i s => s.length = P.length ∧ (∀ b, b ≠ a → rowAt s b = rowAt P b) ∧ (rowAt s a).length = L ∧ ∀ j, j < i → (rowAt s a)[j]?.getD 0 = k0 + j)
    (fun i s hi ⟨i1, i2, i3, i4⟩ => by
      unfold markRowF
      refine ⟨by simp [i1], fun b hb => ?_, ?_, fun j hj => ?_⟩
      · rw [rowAt_set (by omega), if_neg hb]; exact i2 b hb
      · rw [rowAt_set (by omega), if_pos rfl, List.length_set]; exact i3
      · rw [rowAt_set (by omega), if_pos rfl, List.getElem?_set]
        by_cases e : i = j
        · subst e; rw [if_pos rfl, if_pos (by omega)]; rfl
        · rw [if_neg e]; exact i4 j (by omega)) L 0 P (by omega) ⟨rfl, fun _ _ => rfl, hx, fun j hj => by omega⟩
  rw [Nat.zero_add] at this
  exact this
theorem markRow (z : β) {N L c a : Nat} (hN : L < N) (hl : L ≤ 1000) {P : List (List Int)} {k0 : Int} (hk : 0 ≤ k0 ∧ k0 ≤ 1000000000) (ha : a < P.length) (hx : (rowAt P a).length = L) (k : Int → List (List Int) → β) :
    w_markInt64S_s6 z N a 0 L L c k0 P k = k (k0 + L) (markRowS a k0 L P) := by
  unfold w_markInt64S_s6
  have h1 := up_to (L := fun m i (s : List (List Int)) => w_markInt64S_l0_s6 z a 0 L L c m (k0 + i) (i : Int) s fun q10 q11 => k q10 q11) (n := L) (out := fun s => k (k0 + L) s) (f := markRowF a k0)
    (I := fun i s => s.length = P.length ∧ (rowAt s a).length = L)
    (fun m i s hi ⟨i1, i3⟩ => by
      unfold markRowF
      refine ⟨?_, by simp [i1], ?_⟩
      · have i3' := i3
        unfold rowAt at i3'
        simp only [w_markInt64S_l0_s6, w_markInt64S_l0_s6_s, c_and, Int.toNat_natCast, addO_eq, Nat.zero_add, i3']
        simp (disch := omega) only [c_lt, c_le, c_blt, c_ble, c_beq, c_fits]
        rw [show k0 + (i : Int) + 1 = k0 + ((i + 1 : Nat) : Int) by omega]
        rfl
      · rw [rowAt_set (by omega), if_pos rfl, List.length_set]; exact i3)
    (fun m s _ => by simp (disch := omega) only [w_markInt64S_l0_s6, w_markInt64S_l0_s6_s, c_ble, c_nlt]) L N 0 P (by omega) hN ⟨rfl, hx⟩
  refine Eq.trans ?_ h1
  simp
/-- A table that is marked. -/
structure TabM (ids : List (Nat × Nat)) (P T : List (List Int)) : Prop where
  len : T.length ≤ ids.length
  sz : ∀ i, i < T.length → (idAt ids i).2 = (rowAt T i).length
  row : ∀ i, i < T.length → MarkR (1 + total T i) (rowAt T i).length (rowAt P (idAt ids i).1)
def markTabF (ids : List (Nat × Nat)) (T : List (List Int)) (i : Nat) (p : List (List Int)) : List (List Int) := markRowS (idAt ids i).1 (1 + total T i) (rowAt T i).length p
def markTabS (ids : List (Nat × Nat)) (T P : List (List Int)) : List (List Int) := iter (markTabF ids T) T.length 0 P
theorem markTab (z : β) {N c : Nat} {ids : List (Nat × Nat)} {P T : List (List Int)} (h : TabP ids P T) (s : SmallT N T) (k : Int → List (List Int) → β) :
    w_markInt64SS_s2 z N ids.length T.length c 1 ids P k = k (1 + total T T.length) (markTabS ids T P) := by
  have hr := s.rows
  have hlen := h.len
  unfold w_markInt64SS_s2
  exact up_to (L := fun m i (p : List (List Int)) => w_markInt64SS_l0_s2 z N ids.length T.length c ids m (1 + total T i) (i : Int) p fun q9 q10 => k q9 q10) (n := T.length) (out := fun p => k (1 + total T T.length) p) (f := markTabF ids T)
    (I := fun i p => p.length = P.length ∧ ∀ j, i ≤ j → j < T.length → rowAt p (idAt ids j).1 = rowAt T j)
    (fun m i p hi ⟨i1, i2⟩ => by
      have e1 := h.sz i hi
      have e3 := s.cols i hi
      have e6 := s.total i (by omega)
      have hx : (rowAt p (idAt ids i).1).length = (rowAt T i).length := by rw [i2 i (Nat.le_refl _) hi]
      have hlt : (idAt ids i).1 < p.length := by rw [i1]; exact h.lt i hi
      obtain ⟨g2, g3, g4⟩ := markRowS_spec (k0 := 1 + total T i) hlt hx
      refine ⟨?_, by unfold markTabF; rw [g2, i1], fun j hj1 hj2 => ?_⟩
      · unfold idAt at e1
        simp only [w_markInt64SS_l0_s2, w_markInt64SS_l0_s2_s, c_and, Int.toNat_natCast]
        simp (disch := omega) only [c_lt, c_le, c_blt, c_ble, c_beq, e1]
        rw [markRow z e3.1 e3.2 (by omega) hlt hx]
        simp (disch := omega) only [c_fits]
        rw [show (1 : Int) + (total T i : Int) + ((rowAt T i).length : Int) = 1 + ((total T (i + 1) : Nat) : Int) by simp only [total]; omega]
        rfl
      · unfold markTabF
        rw [g3 _ (fun e => by have := h.inj j i hj2 hi e; omega)]; exact i2 j (by omega) hj2)
    (fun m p _ => by simp (disch := omega) only [w_markInt64SS_l0_s2, w_markInt64SS_l0_s2_s, c_ble, c_nlt]) T.length N 0 P (by omega) (by omega) ⟨rfl, fun j _ hj => h.row j hj⟩
theorem markTab_spec {ids : List (Nat × Nat)} {P T : List (List Int)} (h : TabP ids P T) : TabM ids (markTabS ids T P) T := by
  have := iter_inv (f := markTabF ids T) (n := T.length) (I := fun i p => p.length = P.length ∧ (∀ j, i ≤ j → j < T.length → rowAt p (idAt ids j).1 = rowAt T j) ∧ ∀ j, j < i → MarkR (1 + total T j) (rowAt T j).length (rowAt p (idAt ids j).1))
    (fun i p hi ⟨i1, i2, i3⟩ => by
      have hx : (rowAt p (idAt ids i).1).length = (rowAt T i).length := by rw [i2 i (Nat.le_refl _) hi]
      have hlt : (idAt ids i).1 < p.length := by rw [i1]; exact h.lt i hi
      obtain ⟨g2, g3, g4⟩ := markRowS_spec (k0 := 1 + total T i) hlt hx
      unfold markTabF
      refine ⟨by rw [g2, i1], fun j hj1 hj2 => ?_, fun j hj => ?_⟩
      · rw [g3 _ (fun e => by have := h.inj j i hj2 hi e; omega)]; exact i2 j (by omega) hj2
      · by_cases e : j = i
        · subst e; exact g4
        · rw [g3 _ (fun e' => e (h.inj j i (by omega) hi e'))]; exact i3 j (by omega)) T.length 0 P (by omega) ⟨rfl, fun j _ hj => h.row j hj, fun j hj => by omega⟩
  rw [Nat.zero_add] at this
  exact ⟨h.len, h.sz, this.2.2⟩
theorem heldRow (z : β) {N L c a : Nat} (hN : L < N) (hl : L ≤ 1000) {P : List (List Int)} {k0 : Int} (hk : 0 ≤ k0 ∧ k0 ≤ 1000000000) (hx : MarkR k0 L (rowAt P a)) (k : Int → β) :
    w_heldInt64S_s6 z N a 0 L L c k0 P k = k (k0 + L) := by
  obtain ⟨hx, hm⟩ := hx
  unfold rowAt at hx hm
  unfold w_heldInt64S_s6
  refine Eq.trans (b := w_heldInt64S_l0_s6 z a 0 L L c P N (k0 + (0 : Nat)) ((0 : Nat) : Int) (k (-1)) fun q10 => k q10) (by simp) ?_
  exact (up_to_all (L := fun m i => w_heldInt64S_l0_s6 z a 0 L L c P m (k0 + (i : Nat)) (i : Int) (k (-1)) fun q10 => k q10) (n := L) (kt := k (k0 + L)) (kf := k (-1)) (p := fun _ => true)
    (fun m i hi => by
      have := hm i hi
      simp only [w_heldInt64S_l0_s6, w_heldInt64S_l0_s6_s, c_and, Int.toNat_natCast, addO_eq, Nat.zero_add]
      simp (disch := omega) only [c_lt, c_le, c_blt, c_ble, c_beq, c_fits, c_nne]
      rw [show k0 + (i : Int) + 1 = k0 + ((i + 1 : Nat) : Int) by omega]
      rfl)
    (fun m => by simp (disch := omega) only [w_heldInt64S_l0_s6, w_heldInt64S_l0_s6_s, c_ble, c_nlt]) L N 0 (by omega) hN).trans (by rw [(allFrom_iff L 0).2 fun _ _ _ => rfl]; rfl)
theorem heldTab (z : β) {N c : Nat} {ids : List (Nat × Nat)} {P T : List (List Int)} (h : TabM ids P T) (s : SmallT N T) (k : Int → β) :
    w_heldInt64SS_s2 z N ids.length T.length c 1 ids P k = k (1 + total T T.length) := by
  have hr := s.rows
  have hlen := h.len
  unfold w_heldInt64SS_s2
  exact (up_to_all (L := fun m i => w_heldInt64SS_l0_s2 z N ids.length T.length c ids P m (1 + (total T i : Nat)) (i : Int) (k (-1)) fun q9 => k q9) (n := T.length) (kt := k (1 + total T T.length)) (kf := k (-1)) (p := fun _ => true)
    (fun m i hi => by
      have e1 := h.sz i hi
      have e3 := s.cols i hi
      have e6 := s.total i (by omega)
      unfold idAt at e1
      simp only [w_heldInt64SS_l0_s2, w_heldInt64SS_l0_s2_s, c_and, Int.toNat_natCast]
      simp (disch := omega) only [c_lt, c_le, c_blt, c_ble, c_beq, e1]
      rw [heldRow z e3.1 e3.2 (by omega) (h.row i hi)]
      simp (disch := omega) only [c_fits, c_nlt]
      rw [show (1 : Int) + (total T i : Int) + ((rowAt T i).length : Int) = 1 + ((total T (i + 1) : Nat) : Int) by simp only [total]; omega]
      rfl)
    (fun m => by simp (disch := omega) only [w_heldInt64SS_l0_s2, w_heldInt64SS_l0_s2_s, c_ble, c_nlt]) T.length N 0 (by omega) (by omega)).trans (by rw [(allFrom_iff T.length 0).2 fun _ _ _ => rfl]; rfl)

/-! tables that are built by appends -/
def idsOf (T : List (List Int)) : List (Nat × Nat) := (List.range T.length).map fun i => (i, (rowAt T i).length)
theorem idsOf_len (T : List (List Int)) : (idsOf T).length = T.length := by simp [idsOf]
theorem idsOf_at (T : List (List Int)) {i : Nat} (hi : i < T.length) : idAt (idsOf T) i = (i, (rowAt T i).length) := by
  simp [idAt, idsOf, hi]
theorem idsOf_app (T : List (List Int)) (x : List Int) : idsOf (T ++ [x]) = idsOf T ++ [(T.length, x.length)] := by
  unfold idsOf
  rw [List.length_append, List.length_singleton, List.range_succ, List.map_append]
  congr 1
  · refine List.map_congr_left fun i hi => ?_
    rw [List.mem_range] at hi
    unfold rowAt
    rw [List.getElem?_append_left hi]
  · simp [rowAt]
theorem TabP.of_app (T : List (List Int)) : TabP (idsOf T) T T where
  len := by rw [idsOf_len]; exact Nat.le_refl _
  lt i hi := by rw [idsOf_at T hi]; exact hi
  sz i hi := by rw [idsOf_at T hi]
  row i hi := by rw [idsOf_at T hi]
  inj i j hi hj e := by rw [idsOf_at T hi, idsOf_at T hj] at e; exact e
end
end Go.AM

namespace Go.AM
/-- A map of the numbers below 'n' to themselves that leads no two to one leads to all. -/
theorem surj_of_inj : ∀ (n : Nat) (f : Nat → Nat), (∀ i, i < n → f i < n) → (∀ i j, i < n → j < n → f i = f j → i = j) → ∀ r, r < n → ∃ i, i < n ∧ f i = r := by
  intro n
  induction n with
  | zero => intro f _ _ r hr; omega
  | succ n ih =>
    intro f hf hi r hr
    have hg := ih (fun i => if f i = n then f n else f i) (fun i h => by
      try simp only
      split
      · rename_i e
        have h1 := hf n (by omega)
        have h2 : f n ≠ n := fun e2 => by have := hi i n (by omega) (by omega) (by omega); omega
        omega
      · have := hf i (by omega); omega) (fun i j h1 h2 e => by
      try simp only at e
      split at e <;> split at e
      · exact hi i j (by omega) (by omega) (by omega)
      · have := hi n j (by omega) (by omega) e; omega
      · have := hi i n (by omega) (by omega) e; omega
      · exact hi i j (by omega) (by omega) e)
    by_cases e : r = n
    · subst e
      by_cases e2 : f r = r
      · exact ⟨r, by omega, e2⟩
      · obtain ⟨i, h1, h2⟩ := hg (f r) (by have := hf r (by omega); omega)
        try simp only at h2
        split at h2
        · rename_i e3; exact ⟨i, by omega, e3⟩
        · have := hi i r (by omega) (by omega) h2; omega
    · obtain ⟨i, h1, h2⟩ := hg r (by omega)
      try simp only at h2
      split at h2
      · exact ⟨n, by omega, h2⟩
      · exact ⟨i, by omega, h2⟩
theorem inj_of_surj (n : Nat) (f : Nat → Nat) (hf : ∀ i, i < n → f i < n) (hs : ∀ r, r < n → ∃ i, i < n ∧ f i = r) : ∀ i j, i < n → j < n → f i = f j → i = j := by
  have hc : ∀ r, ∃ i, r < n → i < n ∧ f i = r := fun r => by
    by_cases h : r < n
    · obtain ⟨i, hi⟩ := hs r h; exact ⟨i, fun _ => hi⟩
    · exact ⟨0, fun h' => absurd h' h⟩
  obtain ⟨g, hg⟩ := Classical.axiomOfChoice hc
  have hgs := surj_of_inj n g (fun i h => (hg i h).1) (fun i j h1 h2 e => by have a := (hg i h1).2; have b := (hg j h2).2; rw [e] at a; omega)
  intro i j hi hj e
  obtain ⟨r, h1, h2⟩ := hgs i hi
  obtain ⟨s, h3, h4⟩ := hgs j hj
  have a := (hg r h1).2
  have b := (hg s h3).2
  rw [h2] at a
  rw [h4] at b
  have : r = s := by omega
  rw [← h2, ← h4, this]

theorem bitI_or_nat {a b : Nat} (ha : a < 2 ^ 63) (hb : b < 2 ^ 63) : bitI .or .i64 (a : Int) (b : Int) = ((a ||| b : Nat) : Int) := by
  have e : bitI .or .i64 (a : Int) (b : Int) = IntKind.wrap .i64 ((BitVec.ofInt 64 a ||| BitVec.ofInt 64 b).toNat : Int) := rfl
  rw [e, BitVec.ofInt_natCast, BitVec.ofInt_natCast, BitVec.toNat_or, BitVec.toNat_ofNat, BitVec.toNat_ofNat, Nat.mod_eq_of_lt (by omega), Nat.mod_eq_of_lt (by omega)]
  apply wrap_fits
  have := Nat.or_lt_two_pow ha hb
  exact fits64 (by omega)
theorem shlI_one (x : Nat) : shlI 1 (x : Int) = ((2 ^ x : Nat) : Int) := by
  unfold shlI
  simp

/-- The first 'n' of 'w' cells are the numbers below 'n' in some order; the others are 0. -/
def PermP (w n : Nat) (p : Nat → Int) : Prop := (∀ j, n ≤ j → j < w → p j = 0) ∧ (∀ j, j < n → p j < n) ∧ ∀ i j, i < n → j < n → p i = p j → i = j
noncomputable def permB (w n : Nat) (p : Nat → Int) : Bool := @decide (PermP w n p) (Classical.propDecidable _)
theorem permB_iff {w n : Nat} {p : Nat → Int} : permB w n p = true ↔ PermP w n p := by
  unfold permB; exact @decide_eq_true_iff _ (Classical.propDecidable _)
theorem permB_of {w n : Nat} {p : Nat → Int} {b : Bool} (h : b = true ↔ PermP w n p) : b = permB w n p := by
  cases b <;> cases hq : permB w n p <;> simp_all [permB_iff, ← permB_iff]

section order
variable {β : Type}
/-- The loop of the program that tests an order, for any width. -/
def ordS (w : Nat) (z : β) (n : Int) (h0 : Nat → Int) (seen : Int) (t10 : Int) (kn : Int → Int → β) (k0 : β) (k1 : Int → β) : β :=
  cond (decide (t10 < (w : Int))) (cond (decide (0 ≤ t10) && decide (t10 < (↑w : Int))) (cond (t10.toNat.blt w) (cond (decide (n ≤ t10)) (cond (h0 t10.toNat != 0) (k0) (cond (decide (n ≤ h0 t10.toNat)) (k0) (cond (decide (t10 < n)) (cond (decide (0 ≤ h0 t10.toNat) && decide (h0 t10.toNat < (↑64 : Int))) (cond (fits IntKind.i64 (shlI 1 (h0 t10.toNat))) (cond (fits IntKind.i64 (t10 + 1)) (kn (bitI BinOp.or IntKind.i64 seen (shlI 1 (h0 t10.toNat))) (t10 + 1)) (z)) (z)) (z)) (cond (fits IntKind.i64 (t10 + 1)) (kn seen (t10 + 1)) (z))))) (cond (decide (n ≤ h0 t10.toNat)) (k0) (cond (decide (t10 < n)) (cond (decide (0 ≤ h0 t10.toNat) && decide (h0 t10.toNat < (↑64 : Int))) (cond (fits IntKind.i64 (shlI 1 (h0 t10.toNat))) (cond (fits IntKind.i64 (t10 + 1)) (kn (bitI BinOp.or IntKind.i64 seen (shlI 1 (h0 t10.toNat))) (t10 + 1)) (z)) (z)) (z)) (cond (fits IntKind.i64 (t10 + 1)) (kn seen (t10 + 1)) (z))))) (z)) (z)) (k1 seen)
def ordL (w : Nat) (z : β) (n : Int) (h0 : Nat → Int) : Nat → Int → Int → β → (Int → β) → β
  | 0, _, _, _, _ => z
  | m + 1, seen, t10, k0, k1 => ordS w z n h0 seen t10 (fun seen t10 => ordL w z n h0 m seen t10 k0 k1) k0 k1

/-- A round of it. -/
def ordF (n : Nat) (p : Nat → Int) (i s : Nat) : Nat ⊕ Unit :=
  if n ≤ i then (if p i = 0 then .inl s else .inr ()) else if p i < n then .inl (s ||| 2 ^ (p i).toNat) else .inr ()
theorem ordF_inv {n i s s' : Nat} {p : Nat → Int} (hp : 0 ≤ p i) (hn : n ≤ 8) (hs : s < 256) (h : ordF n p i s = .inl s') : s' < 256 := by
  unfold ordF at h
  split at h
  · split at h
    · cases h; exact hs
    · cases h
  · split at h
    · cases h
      refine Nat.or_lt_two_pow (n := 8) hs ?_
      exact Nat.pow_lt_pow_right (by omega) (by omega)
    · cases h
theorem ordL_val (w : Nat) (hw : w ≤ 64) (z : β) (n : Nat) (hn : 1 ≤ n) (hn8 : n ≤ 8) (p : Nat → Int) (hp : ∀ j, 0 ≤ p j) (k0 : β) (k1 : Int → β) {N : Nat} (hN : w < N) :
    ordL w z n p N 0 0 k0 k1 = orOut (fun s : Nat => k1 (s : Int)) (fun _ => k0) (iterE (ordF n p) w 0 0) := by
  refine up_to_E (L := fun m i (s : Nat) => ordL w z n p m (s : Int) (i : Int) k0 k1) (n := w) (out := fun s : Nat => k1 (s : Int)) (ex := fun _ => k0) (f := ordF n p) (I := fun _ s => s < 256) ?_ ?_ w N 0 0 (by omega) hN (by omega)
  · intro m i s hi hs
    have h0 := hp i
    simp only [ordL, ordS, c_and, Int.toNat_natCast]
    by_cases h1 : n ≤ i
    · by_cases h2 : p i = 0
      · left
        refine ⟨s, by unfold ordF; rw [if_pos h1, if_pos h2], ?_, hs⟩
        simp (disch := omega) only [c_lt, c_nlt, c_le, c_nle, c_blt, c_nne, c_fits]
        rfl
      · right
        refine ⟨(), by unfold ordF; rw [if_pos h1, if_neg h2], ?_⟩
        simp (disch := omega) only [c_lt, c_nlt, c_le, c_nle, c_blt, c_ne, c_fits]
    · by_cases h2 : p i < n
      · left
        have hs2 : s ||| 2 ^ (p i).toNat < 256 := Nat.or_lt_two_pow (n := 8) hs (Nat.pow_lt_pow_right (by omega) (by omega))
        refine ⟨s ||| 2 ^ (p i).toNat, by unfold ordF; rw [if_neg h1, if_pos h2], ?_, hs2⟩
        obtain ⟨v, hv⟩ : ∃ v : Nat, p i = (v : Int) := ⟨(p i).toNat, by omega⟩
        have hv8 : v < 8 := by omega
        have hpow : 2 ^ v < 256 := Nat.pow_lt_pow_right (n := 8) (by omega) hv8
        simp only [hv, Int.toNat_natCast, shlI_one] at *
        generalize 2 ^ v = q at *
        simp (disch := omega) only [c_lt, c_nlt, c_le, c_nle, c_blt, c_ne, c_fits]
        rw [bitI_or_nat (by omega) (by omega)]
        rfl
      · right
        refine ⟨(), by unfold ordF; rw [if_neg h1, if_neg h2], ?_⟩
        simp (disch := omega) only [c_lt, c_nlt, c_le, c_nle, c_blt, c_ne, c_fits]
  · intro m s _
    simp (disch := omega) only [ordL, ordS, c_nlt]

/-- Are the cells from some on in bounds? -/
def OkFrom (w n : Nat) (p : Nat → Int) (i : Nat) : Prop := ∀ j, i ≤ j → j < w → (n ≤ j → p j = 0) ∧ (j < n → p j < n)
theorem OkFrom.step {w n i : Nat} {p : Nat → Int} (hi : i < w) : OkFrom w n p i ↔ ((n ≤ i → p i = 0) ∧ (i < n → p i < n)) ∧ OkFrom w n p (i + 1) := by
  refine ⟨fun h => ⟨h i (by omega) hi, fun j h1 h2 => h j (by omega) h2⟩, fun ⟨h1, h2⟩ j h3 h4 => ?_⟩
  by_cases e : j = i
  · subst e; exact h1
  · exact h2 j (by omega) h4
theorem ordF_run {w n : Nat} {p : Nat → Int} : ∀ (d i s : Nat), i + d = w →
    (∃ s', iterE (ordF n p) d i s = .inl s' ∧ OkFrom w n p i ∧ ∀ r, s'.testBit r = true ↔ s.testBit r = true ∨ ∃ j, i ≤ j ∧ j < n ∧ j < w ∧ (p j).toNat = r) ∨ (iterE (ordF n p) d i s = .inr () ∧ ¬ OkFrom w n p i) := by
  intro d
  induction d with
  | zero =>
    intro i s hi
    left
    refine ⟨s, rfl, fun j h1 h2 => by omega, fun r => ⟨.inl, fun h => ?_⟩⟩
    rcases h with h | ⟨j, h1, _, h2, _⟩
    · exact h
    · omega
  | succ d ih =>
    intro i s hi
    rw [OkFrom.step (by omega)]
    have key : ∀ s', ordF n p i s = .inl s' → ((n ≤ i → p i = 0) ∧ (i < n → p i < n)) → (∀ r, s'.testBit r = true ↔ s.testBit r = true ∨ (i < n ∧ (p i).toNat = r)) →
        (∃ s', iterE (ordF n p) (d + 1) i s = .inl s' ∧ (((n ≤ i → p i = 0) ∧ (i < n → p i < n)) ∧ OkFrom w n p (i + 1)) ∧ ∀ r, s'.testBit r = true ↔ s.testBit r = true ∨ ∃ j, i ≤ j ∧ j < n ∧ j < w ∧ (p j).toNat = r) ∨
        (iterE (ordF n p) (d + 1) i s = .inr () ∧ ¬ (((n ≤ i → p i = 0) ∧ (i < n → p i < n)) ∧ OkFrom w n p (i + 1))) := by
      intro s' h1 h2 h3
      rcases ih (i + 1) s' (by omega) with ⟨s2, h4, h5, h6⟩ | ⟨h4, h5⟩
      · left
        refine ⟨s2, by rw [iterE, h1]; exact h4, ⟨h2, h5⟩, fun r => ?_⟩
        rw [h6, h3]
        constructor
        · rintro ((h | ⟨h, h'⟩) | ⟨j, g1, g2, g3, g4⟩)
          · exact .inl h
          · exact .inr ⟨i, by omega, h, by omega, h'⟩
          · exact .inr ⟨j, by omega, g2, g3, g4⟩
        · rintro (h | ⟨j, g1, g2, g3, g4⟩)
          · exact .inl (.inl h)
          · by_cases e : j = i
            · subst e; exact .inl (.inr ⟨g2, g4⟩)
            · exact .inr ⟨j, by omega, g2, g3, g4⟩
      · right
        exact ⟨by rw [iterE, h1]; exact h4, fun h => h5 h.2⟩
    by_cases h1 : n ≤ i
    · by_cases h2 : p i = 0
      · exact key s (by unfold ordF; rw [if_pos h1, if_pos h2]) ⟨fun _ => h2, fun h => by omega⟩ fun r => ⟨.inl, fun h => h.elim id fun h => by omega⟩
      · right
        refine ⟨?_, fun h => h2 (h.1.1 h1)⟩
        rw [iterE]
        have : ordF n p i s = .inr () := by unfold ordF; rw [if_pos h1, if_neg h2]
        rw [this]
    · by_cases h2 : p i < n
      · refine key (s ||| 2 ^ (p i).toNat) (by unfold ordF; rw [if_neg h1, if_pos h2]) ⟨fun h => by omega, fun _ => h2⟩ fun r => ?_
        rw [Nat.testBit_or, Nat.testBit_two_pow, Bool.or_eq_true, decide_eq_true_eq]
        exact ⟨fun h => h.imp id fun h => ⟨by omega, h⟩, fun h => h.imp id fun h => h.2⟩
      · right
        refine ⟨?_, fun h => h2 (h.1.2 (by omega))⟩
        rw [iterE]
        have : ordF n p i s = .inr () := by unfold ordF; rw [if_neg h1, if_neg h2]
        rw [this]

/-- The program's test of an order. -/
theorem ord_val (w : Nat) (hw : w ≤ 64) (z : β) (n : Nat) (hn : 1 ≤ n) (hn8 : n ≤ 8) (hnw : n ≤ w) (p : Nat → Int) (hp : ∀ j, 0 ≤ p j) (k : Bool → β) {N : Nat} (hN : w < N) :
    ordL w z n p N 0 0 (k false) (fun q5 => cond (decide (0 ≤ (n : Int)) && decide ((n : Int) < (↑64 : Int))) (cond (fits IntKind.i64 (shlI 1 n)) (cond (fits IntKind.i64 (shlI 1 n - 1)) (k (q5 == shlI 1 n - 1)) (z)) (z)) (z)) = k (permB w n p) := by
  rw [ordL_val w hw z n hn hn8 p hp _ _ hN]
  have hpow : 2 ^ n ≤ 256 := Nat.pow_le_pow_right (n := 2) (by omega) hn8
  have hpos : 0 < 2 ^ n := Nat.two_pow_pos n
  rcases ordF_run (w := w) (n := n) (p := p) w 0 0 (by omega) with ⟨s, h1, h2, h3⟩ | ⟨h1, h2⟩
  · rw [h1]
    simp only [orOut, shlI_one, c_and]
    simp (disch := omega) only [c_lt, c_le, c_fits]
    refine congrArg k (permB_of ?_)
    have hb : ∀ r, s.testBit r = true ↔ ∃ j, j < n ∧ (p j).toNat = r := fun r => by
      rw [h3]
      simp only [Nat.zero_testBit, Bool.false_eq_true, false_or]
      exact ⟨fun ⟨j, _, a, _, b⟩ => ⟨j, a, b⟩, fun ⟨j, a, b⟩ => ⟨j, by omega, a, by omega, b⟩⟩
    have hf : ∀ i, i < n → (p i).toNat < n := fun i hi => by have := (h2 i (by omega) (by omega)).2 hi; omega
    have e1 : ((s : Int) == ((2 ^ n : Nat) : Int) - 1) = true ↔ ∀ r, r < n → ∃ j, j < n ∧ (p j).toNat = r := by
      constructor
      · intro h r hr
        have : s = 2 ^ n - 1 := by simp only [beq_iff_eq] at h; omega
        rw [← hb, this, Nat.testBit_two_pow_sub_one]
        exact decide_eq_true hr
      · intro h
        have : s = 2 ^ n - 1 := by
          apply Nat.eq_of_testBit_eq
          intro r
          rw [Nat.testBit_two_pow_sub_one]
          by_cases hr : r < n
          · rw [decide_eq_true hr, hb]; exact h r hr
          · rw [decide_eq_false hr, ← Bool.not_eq_true, hb]
            rintro ⟨j, a, b⟩
            have := hf j a
            omega
        simp only [beq_iff_eq]
        omega
    rw [e1]
    constructor
    · intro h
      refine ⟨fun j a b => (h2 j (by omega) b).1 a, fun j a => (h2 j (by omega) (by omega)).2 a, fun i j a b e => inj_of_surj n (fun i => (p i).toNat) hf h i j a b (by rw [e])⟩
    · rintro ⟨_, _, h⟩
      exact surj_of_inj n (fun i => (p i).toNat) hf fun i j a b e => h i j a b (by have := hp i; have := hp j; omega)
  · rw [h1]
    simp only [orOut]
    refine congrArg k (permB_of ⟨fun h => (by cases h), fun h => absurd (fun j _ b => ⟨fun a => h.1 j a b, fun a => h.2.1 j a⟩) h2⟩)
end order
end Go.AM

namespace Go.AM
section perm
variable {β : Type}
/-- The loop of the reference that tests a permutation, for any width. -/
def permS (w : Nat) (z : β) (n : Int) (h0 : Nat → Int) (i : Int) (h1 : Nat → Bool) (kn : Int → (Nat → Bool) → β) (k0 : (Nat → Bool) → β) (k1 : (Nat → Bool) → β) : β :=
  cond (decide (i < (w : Int))) (cond (decide (n ≤ i)) (cond (decide (0 ≤ i) && decide (i < (↑w : Int))) (cond (i.toNat.blt w) (cond (h0 i.toNat != 0) (k0 h1) (cond (fits IntKind.i64 (i + 1)) (kn (i + 1) h1) (z))) (z)) (z)) (cond (decide (0 ≤ i) && decide (i < (↑w : Int))) (cond (i.toNat.blt w) (cond (decide (n ≤ h0 i.toNat)) (k0 h1) (cond (decide (0 ≤ i) && decide (i < (↑w : Int))) (cond (i.toNat.blt w) (cond (decide (0 ≤ h0 i.toNat) && decide (h0 i.toNat < (↑w : Int))) (cond ((h0 i.toNat).toNat.blt w) (cond (h1 (h0 i.toNat).toNat) (k0 h1) (cond (decide (0 ≤ i) && decide (i < (↑w : Int))) (cond (i.toNat.blt w) (cond (decide (0 ≤ h0 i.toNat) && decide (h0 i.toNat < (↑w : Int))) (cond ((h0 i.toNat).toNat.blt w) (cond (fits IntKind.i64 (i + 1)) (kn (i + 1) (upd h1 (h0 i.toNat).toNat true)) (z)) (z)) (z)) (z)) (z))) (z)) (z)) (z)) (z))) (z)) (z))) (k1 h1)
def permL (w : Nat) (z : β) (n : Int) (h0 : Nat → Int) : Nat → Int → (Nat → Bool) → ((Nat → Bool) → β) → ((Nat → Bool) → β) → β
  | 0, _, _, _, _ => z
  | m + 1, i, h1, k0, k1 => permS w z n h0 i h1 (fun i h1 => permL w z n h0 m i h1 k0 k1) k0 k1

/-- A round of it. -/
def permF (n : Nat) (p : Nat → Int) (i : Nat) (met : Nat → Bool) : (Nat → Bool) ⊕ Unit :=
  if n ≤ i then (if p i = 0 then .inl met else .inr ()) else if p i < n then (if met (p i).toNat = true then .inr () else .inl (upd met (p i).toNat true)) else .inr ()
theorem permL_val (w : Nat) (hw : w ≤ 64) (z : β) (n : Nat) (hnw : n ≤ w) (p : Nat → Int) (hp : ∀ j, 0 ≤ p j) (kf kt : β) {N : Nat} (hN : w < N) (met : Nat → Bool) :
    permL w z n p N 0 met (fun _ => kf) (fun _ => kt) = orOut (fun _ => kt) (fun _ => kf) (iterE (permF n p) w 0 met) := by
  refine up_to_E (L := fun m i (s : Nat → Bool) => permL w z n p m (i : Int) s (fun _ => kf) (fun _ => kt)) (n := w) (out := fun _ => kt) (ex := fun _ => kf) (f := permF n p) (I := fun _ _ => True) ?_ ?_ w N 0 met (by omega) hN trivial
  · intro m i s hi _
    have h0 := hp i
    simp only [permL, permS, c_and, Int.toNat_natCast]
    by_cases h1 : n ≤ i
    · by_cases h2 : p i = 0
      · left
        refine ⟨s, by unfold permF; rw [if_pos h1, if_pos h2], ?_, trivial⟩
        simp (disch := omega) only [c_lt, c_nlt, c_le, c_nle, c_blt, c_nne, c_fits]
        rfl
      · right
        refine ⟨(), by unfold permF; rw [if_pos h1, if_neg h2], ?_⟩
        simp (disch := omega) only [c_lt, c_nlt, c_le, c_nle, c_blt, c_ne, c_fits]
    · by_cases h2 : p i < n
      · cases h3 : s (p i).toNat with
        | true =>
          right
          refine ⟨(), by unfold permF; rw [if_neg h1, if_pos h2, if_pos h3], ?_⟩
          simp (disch := omega) only [c_lt, c_nlt, c_le, c_nle, c_blt, c_ne, c_fits, h3, c_true]
        | false =>
          left
          refine ⟨upd s (p i).toNat true, by unfold permF; rw [if_neg h1, if_pos h2, if_neg (by simp [h3])], ?_, trivial⟩
          simp (disch := omega) only [c_lt, c_nlt, c_le, c_nle, c_blt, c_ne, c_fits, h3, c_false]
          rfl
      · right
        refine ⟨(), by unfold permF; rw [if_neg h1, if_neg h2], ?_⟩
        simp (disch := omega) only [c_lt, c_nlt, c_le, c_nle, c_blt, c_ne, c_fits]
  · intro m s _
    simp (disch := omega) only [permL, permS, c_nlt]

/-- From some cell on: in bounds, not met before, and no two alike. -/
def FreeFrom (w n : Nat) (p : Nat → Int) (i : Nat) (met : Nat → Bool) : Prop :=
  OkFrom w n p i ∧ (∀ j, i ≤ j → j < n → j < w → met (p j).toNat = false) ∧ ∀ a b, i ≤ a → a < b → b < n → b < w → (p a).toNat ≠ (p b).toNat
theorem permF_run {w n : Nat} {p : Nat → Int} : ∀ (d i : Nat) (met : Nat → Bool), i + d = w →
    ((∃ m, iterE (permF n p) d i met = .inl m) ∧ FreeFrom w n p i met) ∨ (iterE (permF n p) d i met = .inr () ∧ ¬ FreeFrom w n p i met) := by
  intro d
  induction d with
  | zero =>
    intro i met hi
    left
    exact ⟨⟨met, rfl⟩, fun j h1 h2 => by omega, fun j h1 _ h2 => by omega, fun a b h1 h2 _ h3 => by omega⟩
  | succ d ih =>
    intro i met hi
    have bad : permF n p i met = .inr () → ¬ FreeFrom w n p i met → ((∃ m, iterE (permF n p) (d + 1) i met = .inl m) ∧ FreeFrom w n p i met) ∨ (iterE (permF n p) (d + 1) i met = .inr () ∧ ¬ FreeFrom w n p i met) := by
      intro h1 h2
      right
      exact ⟨by rw [iterE, h1], h2⟩
    have good : ∀ met', permF n p i met = .inl met' → (FreeFrom w n p i met ↔ FreeFrom w n p (i + 1) met') → ((∃ m, iterE (permF n p) (d + 1) i met = .inl m) ∧ FreeFrom w n p i met) ∨ (iterE (permF n p) (d + 1) i met = .inr () ∧ ¬ FreeFrom w n p i met) := by
      intro met' h1 h2
      rw [h2, iterE, h1]
      exact ih (i + 1) met' (by omega)
    by_cases h1 : n ≤ i
    · by_cases h2 : p i = 0
      · refine good met (by unfold permF; rw [if_pos h1, if_pos h2]) ?_
        unfold FreeFrom
        rw [OkFrom.step (by omega)]
        exact ⟨fun ⟨⟨_, a⟩, b, c⟩ => ⟨a, fun j g1 g2 g3 => b j (by omega) g2 g3, fun x y g1 g2 g3 g4 => c x y (by omega) g2 g3 g4⟩,
          fun ⟨a, b, c⟩ => ⟨⟨⟨fun _ => h2, fun h => by omega⟩, a⟩, fun j g1 g2 g3 => by omega, fun x y g1 g2 g3 g4 => by omega⟩⟩
      · exact bad (by unfold permF; rw [if_pos h1, if_neg h2]) fun h => h2 ((h.1 i (by omega) (by omega)).1 h1)
    · by_cases h2 : p i < n
      · cases h3 : met (p i).toNat with
        | true => exact bad (by unfold permF; rw [if_neg h1, if_pos h2, if_pos h3]) fun h => by have := h.2.1 i (by omega) (by omega) (by omega); rw [h3] at this; cases this
        | false =>
          refine good (upd met (p i).toNat true) (by unfold permF; rw [if_neg h1, if_pos h2, if_neg (by simp [h3])]) ?_
          unfold FreeFrom
          rw [OkFrom.step (by omega)]
          constructor
          · rintro ⟨⟨_, a⟩, b, c⟩
            refine ⟨a, fun j g1 g2 g3 => ?_, fun x y g1 g2 g3 g4 => c x y (by omega) g2 g3 g4⟩
            rw [upd_at, if_neg (fun e => c i j (by omega) (by omega) g2 g3 e.symm)]
            exact b j (by omega) g2 g3
          · rintro ⟨a, b, c⟩
            have b' : ∀ j, i + 1 ≤ j → j < n → j < w → (p j).toNat ≠ (p i).toNat ∧ met (p j).toNat = false := by
              intro j g1 g2 g3
              have := b j g1 g2 g3
              rw [upd_at] at this
              split at this
              · cases this
              · rename_i e; exact ⟨e, this⟩
            refine ⟨⟨⟨fun h => by omega, fun _ => h2⟩, a⟩, fun j g1 g2 g3 => ?_, fun x y g1 g2 g3 g4 => ?_⟩
            · by_cases e : j = i
              · subst e; exact h3
              · exact (b' j (by omega) g2 g3).2
            · by_cases e : x = i
              · subst e; exact fun e => (b' y (by omega) g3 g4).1 e.symm
              · exact c x y (by omega) g2 g3 g4
      · exact bad (by unfold permF; rw [if_neg h1, if_neg h2]) fun h => h2 ((h.1 i (by omega) (by omega)).2 (by omega))

/-- The reference's test of a permutation. -/
theorem perm_val (w : Nat) (hw : w ≤ 64) (z : β) (n : Nat) (hnw : n ≤ w) (p : Nat → Int) (hp : ∀ j, 0 ≤ p j) (k : Bool → β) {N : Nat} (hN : w < N) :
    permL w z n p N 0 (fun _ => false) (fun _ => k false) (fun _ => k true) = k (permB w n p) := by
  rw [permL_val w hw z n hnw p hp _ _ hN]
  rcases permF_run (w := w) (n := n) (p := p) w 0 (fun _ => false) (by omega) with ⟨⟨m, h1⟩, h2, _, h3⟩ | ⟨h1, h2⟩
  · rw [h1]
    refine congrArg k (permB_of ⟨fun _ => ⟨fun j a b => (h2 j (by omega) b).1 a, fun j a => (h2 j (by omega) (by omega)).2 a, fun i j a b e => ?_⟩, fun _ => rfl⟩)
    rcases Nat.lt_trichotomy i j with g | g | g
    · exact absurd (by rw [e]) (h3 i j (by omega) g b (by omega))
    · exact g
    · exact absurd (by rw [e]) (h3 j i (by omega) g a (by omega))
  · rw [h1]
    refine congrArg k (permB_of ⟨fun h => (by cases h), fun h => absurd ⟨fun j _ b => ⟨fun a => h.1 j a b, fun a => h.2.1 j a⟩, fun _ _ _ _ => rfl, fun a b _ g1 g2 _ e => ?_⟩ h2⟩)
    have := h.2.2 a b (by omega) g2 (by have := hp a; have := hp b; omega)
    omega
end perm
end Go.AM

namespace Go.AM
section
variable {β : Type}
theorem i_within_val (z : β) (N : Nat) (x lo hi : Int) (k : Bool → β) : i_within z N x lo hi k = k (decide (lo ≤ x ∧ x ≤ hi)) := by
  unfold i_within
  by_cases h : lo ≤ x
  · rw [c_le h]; congr 1; exact decide_eq_decide.2 ⟨fun h2 => ⟨h, h2⟩, fun h2 => h2.2⟩
  · rw [c_nle (by omega), decide_eq_false (fun h2 => h h2.1)]
theorem s_l01In_val (z : β) (N : Nat) (x lo hi : Int) (k : Bool → β) : s_l01In z N x lo hi k = k (decide (lo ≤ x ∧ x ≤ hi)) := by
  unfold s_l01In
  by_cases h : lo ≤ x
  · rw [c_le h]; congr 1; exact decide_eq_decide.2 ⟨fun h2 => ⟨h, h2⟩, fun h2 => h2.2⟩
  · rw [c_nle (by omega), decide_eq_false (fun h2 => h h2.1)]
theorem w_toByteA64_val (z : β) {N : Nat} (hN : 64 < N) (a : Nat → Int) (k0 : (Nat → Int) → β) : w_toByteA64 z N a k0 = k0 (fun j => if j < 64 then a j else 0) := by
  unfold w_toByteA64
  have := up_to (L := fun m i h => w_toByteA64_l0 z a (fun _ => 0) m (i : Int) h k0) (n := 64) (out := k0) (f := fun i h => upd h i (a i)) (I := fun _ _ => True)
    (fun m i s hi _ => ⟨by
      simp only [w_toByteA64_l0, w_toByteA64_l0_s, c_and, Int.toNat_natCast]
      simp (disch := omega) only [c_lt, c_le, c_blt, c_fits]
      rfl, trivial⟩)
    (fun m s _ => by simp (disch := omega) only [w_toByteA64_l0, w_toByteA64_l0_s, c_nlt]) 64 N 0 (fun _ => 0) rfl hN trivial
  rw [iter_set] at this
  refine this.trans (congrArg k0 (funext fun j => ?_))
  simp
end
end Go.AM

namespace Go.AM
section
variable {β : Type}
/-! primes -/
def primeN (p : Nat) : Bool := allFrom (fun k => (p : Int).tmod ((k + 2 : Nat) : Int) != 0) (p - 2) 0
def rootN (p : Nat) : Nat := if p < 4 then 2 else if p < 9 then 3 else if p < 16 then 4 else if p < 25 then 5 else if p < 36 then 6 else if p < 49 then 7 else if p < 64 then 8 else if p < 81 then 9 else 10
theorem rootN_spec : ∀ p : Nat, p < 98 → 3 ≤ p → (∀ d, d < rootN p → d * d ≤ p) ∧ p < rootN p * rootN p ∧ 2 ≤ rootN p ∧ rootN p ≤ 10 := by decide +kernel
theorem prime_root : ∀ p : Nat, p < 98 → 3 ≤ p → allFrom (fun k => (p : Int).tmod ((k + 2 : Nat) : Int) != 0) (rootN p - 2) 0 = primeN p := by decide +kernel
def primeB (p : Int) : Bool := decide (3 ≤ p ∧ p ≤ 97) && primeN p.toNat
theorem primeB_bd {p : Int} (h : primeB p = true) : 3 ≤ p ∧ p ≤ 97 := by
  unfold primeB at h
  simp only [Bool.and_eq_true, decide_eq_true_eq] at h
  exact h.1
theorem s_l08Prime_val (z : β) {N : Nat} (hN : 100 < N) (p : Int) (k : Bool → β) : s_l08Prime z N p k = k (primeB p) := by
  unfold s_l08Prime primeB
  rw [s_l01In_val]
  by_cases h : 3 ≤ p ∧ p ≤ 97
  · obtain ⟨q, rfl⟩ : ∃ q : Nat, p = q := ⟨p.toNat, by omega⟩
    rw [decide_eq_true h, Bool.not_true, c_false, Bool.true_and, Int.toNat_natCast]
    refine (up_to_all (L := fun m i => s_l08Prime_l0 z q m ((i + 2 : Nat) : Int) (k false) (k true)) (n := q - 2) (kt := k true) (kf := k false) (p := fun k => (q : Int).tmod ((k + 2 : Nat) : Int) != 0)
      (fun m i hi => by
        have h0 : (!((i + 2 : Nat) : Int) == 0) = true := by simp; omega
        simp only [s_l08Prime_l0, s_l08Prime_l0_s]
        rw [c_lt (by omega), h0, c_true, c_fits (by omega), ← c_not]
        rfl)
      (fun m => by rw [s_l08Prime_l0, s_l08Prime_l0_s, c_nlt (by omega)]) (q - 2) N 0 (by omega) (by omega)).trans ?_
    unfold primeN
    cases allFrom (fun k => (q : Int).tmod ((k + 2 : Nat) : Int) != 0) (q - 2) 0 <;> rfl
  · rw [decide_eq_false h]; rfl
theorem i_isPrime_val (z : β) {N : Nat} (hN : 100 < N) (p : Int) (k : Bool → β) : i_isPrime z N p k = k (primeB p) := by
  unfold i_isPrime primeB
  rw [i_within_val]
  by_cases h : 3 ≤ p ∧ p ≤ 97
  · obtain ⟨q, rfl⟩ : ∃ q : Nat, p = q := ⟨p.toNat, by omega⟩
    rw [decide_eq_true h, Bool.not_true, c_false, Bool.true_and, Int.toNat_natCast]
    obtain ⟨r1, r2, r3, r4⟩ := rootN_spec q (by omega) (by omega)
    rw [← prime_root q (by omega) (by omega)]
    refine (up_to_all (L := fun m i => i_isPrime_l0 z q m ((i + 2 : Nat) : Int) (k false) (k true)) (n := rootN q - 2) (kt := k true) (kf := k false) (p := fun k => (q : Int).tmod ((k + 2 : Nat) : Int) != 0)
      (fun m i hi => by
        have h0 : (!((i + 2 : Nat) : Int) == 0) = true := by simp; omega
        have h1 := r1 (i + 2) (by omega)
        have h2 : ((i + 2 : Nat) : Int) * ((i + 2 : Nat) : Int) = (((i + 2) * (i + 2) : Nat) : Int) := (Int.natCast_mul _ _).symm
        simp only [i_isPrime_l0, i_isPrime_l0_s]
        rw [h2, c_fits (by omega), c_le (by omega), h0, c_true, c_fits (by omega), ← c_not]
        rfl)
      (fun m => by
        have h2 : ((rootN q - 2 + 2 : Nat) : Int) * ((rootN q - 2 + 2 : Nat) : Int) = ((rootN q * rootN q : Nat) : Int) := by rw [show rootN q - 2 + 2 = rootN q by omega]; exact (Int.natCast_mul _ _).symm
        have h3 : rootN q * rootN q ≤ 10 * 10 := Nat.mul_le_mul r4 r4
        rw [i_isPrime_l0, i_isPrime_l0_s, h2, c_fits (by omega), c_nle (by omega)]) (rootN q - 2) N 0 (by omega) (by omega)).trans ?_
    cases allFrom (fun k => (q : Int).tmod ((k + 2 : Nat) : Int) != 0) (rootN q - 2) 0 <;> rfl
  · rw [decide_eq_false h]; rfl
end
end Go.AM

namespace Go.AM
/-! matrices in tables -/
abbrev Mat := Nat → Nat → Int
/-- A table of rows of the same length. -/
structure TabF (ids : List (Nat × Nat)) (pool : List (List Int)) (R W : Nat) (m : Mat) : Prop where
  len : R ≤ ids.length
  lt : ∀ i, i < R → (idAt ids i).1 < pool.length
  sz : ∀ i, i < R → (idAt ids i).2 = W
  wide : ∀ i, i < R → (rowAt pool (idAt ids i).1).length = W
  cell : ∀ i j, i < R → j < W → (rowAt pool (idAt ids i).1)[j]?.getD 0 = m i j
  inj : ∀ i j, i < R → j < R → (idAt ids i).1 = (idAt ids j).1 → i = j
theorem idAt_set {ids : List (Nat × Nat)} {a : Nat} {v : Nat × Nat} (ha : a < ids.length) (b : Nat) : idAt (ids.set a v) b = if b = a then v else idAt ids b := by
  unfold idAt
  rw [List.getElem?_set]
  by_cases e : b = a
  · subst e; rw [if_pos rfl, if_pos ha, if_pos rfl]; rfl
  · rw [if_neg (Ne.symm e), if_neg e]
def swapN (a b i : Nat) : Nat := if i = b then a else if i = a then b else i
def swapM (a b : Nat) (m : Mat) : Mat := fun i j => m (swapN a b i) j
theorem swapN_lt {a b i R : Nat} (ha : a < R) (hb : b < R) (hi : i < R) : swapN a b i < R := by
  unfold swapN; split
  · exact ha
  · split <;> omega
theorem swapN_inj {a b i j : Nat} (h : swapN a b i = swapN a b j) : i = j := by
  unfold swapN at h
  split at h
  · split at h
    · omega
    · split at h <;> omega
  · split at h
    · split at h
      · omega
      · split at h <;> omega
    · split at h
      · omega
      · split at h <;> omega
theorem idAt_swap {ids : List (Nat × Nat)} {a b : Nat} (ha : a < ids.length) (hb : b < ids.length) (i : Nat) : idAt ((ids.set a (idAt ids b)).set b (idAt ids a)) i = idAt ids (swapN a b i) := by
  rw [idAt_set (by simpa using hb), idAt_set ha]
  unfold swapN
  split
  · rfl
  · split <;> rfl
theorem TabF.swap {ids : List (Nat × Nat)} {pool : List (List Int)} {R W : Nat} {m : Mat} (h : TabF ids pool R W m) {a b : Nat} (ha : a < R) (hb : b < R) : TabF ((ids.set a (idAt ids b)).set b (idAt ids a)) pool R W (swapM a b m) := by
  have hl := h.len
  have e := fun i => idAt_swap (ids := ids) (a := a) (b := b) (by omega) (by omega) i
  refine ⟨by simpa using hl, fun i hi => ?_, fun i hi => ?_, fun i hi => ?_, fun i j hi hj => ?_, fun i j hi hj he => ?_⟩
  · rw [e]; exact h.lt _ (swapN_lt ha hb hi)
  · rw [e]; exact h.sz _ (swapN_lt ha hb hi)
  · rw [e]; exact h.wide _ (swapN_lt ha hb hi)
  · rw [e]; exact h.cell _ j (swapN_lt ha hb hi) hj
  · rw [e, e] at he; exact swapN_inj (h.inj _ _ (swapN_lt ha hb hi) (swapN_lt ha hb hj) he)
def putM (m : Mat) (i j : Nat) (v : Int) : Mat := fun i' j' => if i' = i ∧ j' = j then v else m i' j'
def putP (ids : List (Nat × Nat)) (pool : List (List Int)) (i j : Nat) (v : Int) : List (List Int) := pool.set (idAt ids i).1 ((rowAt pool (idAt ids i).1).set j v)
theorem TabF.put {ids : List (Nat × Nat)} {pool : List (List Int)} {R W : Nat} {m : Mat} (h : TabF ids pool R W m) {i j : Nat} (hi : i < R) (hj : j < W) (v : Int) : TabF ids (putP ids pool i j v) R W (putM m i j v) := by
  have hlt := h.lt i hi
  have e := fun b => rowAt_set (P := pool) (ys := (rowAt pool (idAt ids i).1).set j v) hlt b
  unfold putP
  refine ⟨h.len, fun i' hi' => by rw [List.length_set]; exact h.lt i' hi', h.sz, fun i' hi' => ?_, fun i' j' hi' hj' => ?_, h.inj⟩
  · rw [e]; split
    · rw [List.length_set]; exact h.wide i hi
    · exact h.wide i' hi'
  · rw [e]
    unfold putM
    by_cases e1 : i' = i
    · subst e1
      rw [if_pos rfl, List.getElem?_set]
      by_cases e2 : j' = j
      · subst e2; rw [if_pos rfl, if_pos (by rw [h.wide i' hi']; exact hj), if_pos ⟨rfl, rfl⟩]; rfl
      · rw [if_neg (Ne.symm e2), if_neg (fun hh => e2 hh.2)]; exact h.cell i' j' hi' hj'
    · rw [if_neg (fun hh => e1 (h.inj _ _ hi' hi hh)), if_neg (fun hh => e1 hh.1)]; exact h.cell i' j' hi' hj'
/-- A row that is put in another's place. -/
def rowM (m : Mat) (i : Nat) (xs : List Int) : Mat := fun i' j' => if i' = i then xs[j']?.getD 0 else m i' j'
theorem TabF.fresh {ids : List (Nat × Nat)} {pool : List (List Int)} {R W : Nat} {m : Mat} (h : TabF ids pool R W m) {i : Nat} (hi : i < R) {xs : List Int} (hx : xs.length = W) {v : Nat × Nat} (hv : v = (pool.length, W)) :
    TabF (ids.set i v) (pool ++ [xs]) R W (rowM m i xs) := by
  subst hv
  have hl := h.len
  have e := fun b => idAt_set (ids := ids) (a := i) (v := (pool.length, W)) (by omega) b
  have ro : ∀ a, a < pool.length → rowAt (pool ++ [xs]) a = rowAt pool a := fun a ha => by unfold rowAt; rw [List.getElem?_append_left ha]
  have rn : rowAt (pool ++ [xs]) pool.length = xs := by unfold rowAt; simp
  refine ⟨by simpa using hl, fun i' hi' => ?_, fun i' hi' => ?_, fun i' hi' => ?_, fun i' j' hi' hj' => ?_, fun i1 i2 h1 h2 he => ?_⟩
  · rw [e, List.length_append, List.length_singleton]; split
    · simp
    · have := h.lt i' hi'; omega
  · rw [e]; split
    · rfl
    · exact h.sz i' hi'
  · rw [e]; split
    · rw [rn]; exact hx
    · rw [ro _ (h.lt i' hi')]; exact h.wide i' hi'
  · rw [e]; unfold rowM; split
    · rw [rn]
    · rw [ro _ (h.lt i' hi')]; exact h.cell i' j' hi' hj'
  · rw [e, e] at he
    split at he
    · split at he
      · omega
      · have := h.lt i2 h2; simp only at he; omega
    · split at he
      · have := h.lt i1 h1; simp only at he; omega
      · exact h.inj _ _ h1 h2 he
/-! elimination modulo p -/
def firstNZ (f : Nat → Int) : Nat → Nat → Nat
  | 0, i => i
  | d + 1, i => if f i = 0 then firstNZ f d (i + 1) else i
theorem firstNZ_spec (f : Nat → Int) : ∀ d i, i ≤ firstNZ f d i ∧ firstNZ f d i ≤ i + d ∧ (firstNZ f d i < i + d → f (firstNZ f d i) ≠ 0) ∧ ∀ k, i ≤ k → k < firstNZ f d i → f k = 0 := by
  intro d
  induction d with
  | zero => intro i; exact ⟨Nat.le_refl _, Nat.le_refl _, fun h => by simp [firstNZ] at h, fun k h1 h2 => by simp [firstNZ] at h2; omega⟩
  | succ d ih =>
    intro i
    rw [firstNZ]
    by_cases h : f i = 0
    · rw [if_pos h]
      obtain ⟨h1, h2, h3, h4⟩ := ih (i + 1)
      refine ⟨by omega, by omega, fun hh => h3 (by omega), fun k k1 k2 => ?_⟩
      by_cases e : k = i
      · rw [e]; exact h
      · exact h4 k (by omega) k2
    · rw [if_neg h]
      exact ⟨Nat.le_refl _, by omega, fun _ => h, fun k k1 k2 => by omega⟩
/-- The number that a number is multiplied with to be 1 modulo p. -/
def invF (p x : Nat) : Nat → Nat → Nat
  | 0, y => y
  | d + 1, y => if x * y % p = 1 then y else invF p x d (y + 1)
def invN (p x : Nat) : Nat := invF p x (p - 1) 1
theorem invF_spec (p x : Nat) : ∀ d y, y ≤ invF p x d y ∧ invF p x d y ≤ y + d ∧ (invF p x d y < y + d → x * invF p x d y % p = 1) ∧ ∀ k, y ≤ k → k < invF p x d y → x * k % p ≠ 1 := by
  intro d
  induction d with
  | zero => intro y; exact ⟨Nat.le_refl _, Nat.le_refl _, fun h => by simp [invF] at h, fun k h1 h2 => by simp [invF] at h2; omega⟩
  | succ d ih =>
    intro y
    rw [invF]
    by_cases h : x * y % p = 1
    · rw [if_pos h]
      exact ⟨Nat.le_refl _, by omega, fun _ => h, fun k k1 k2 => by omega⟩
    · rw [if_neg h]
      obtain ⟨h1, h2, h3, h4⟩ := ih (y + 1)
      refine ⟨by omega, by omega, fun hh => h3 (by omega), fun k k1 k2 => ?_⟩
      by_cases e : k = y
      · rw [e]; exact h
      · exact h4 k (by omega) k2
def invOk (p : Nat) : Bool := !primeN p || allFrom (fun x => decide (invN p x < p)) (p - 1) 1
theorem inv_all : allFrom invOk 95 3 = true := by decide +kernel
theorem inv_lt {p : Int} (hp : primeB p = true) {x : Nat} (h1 : 1 ≤ x) (h2 : x < p.toNat) : 1 ≤ invN p.toNat x ∧ invN p.toNat x < p.toNat ∧ x * invN p.toNat x % p.toNat = 1 ∧ ∀ k, 1 ≤ k → k < invN p.toNat x → x * k % p.toNat ≠ 1 := by
  have hb := primeB_bd hp
  have := (allFrom_iff 95 3).1 inv_all p.toNat (by omega) (by omega)
  unfold invOk at this
  unfold primeB at hp
  rw [Bool.and_eq_true] at hp
  rw [hp.2, Bool.not_true, Bool.false_or] at this
  have h3 := of_decide_eq_true ((allFrom_iff _ _).1 this x h1 (by omega))
  obtain ⟨s1, s2, s3, s4⟩ := invF_spec p.toNat x (p.toNat - 1) 1
  exact ⟨s1, h3, s3 (by unfold invN at h3; omega), s4⟩
theorem tmod_nn {a b : Int} (h : 0 ≤ a) : a.tmod b = a % b := Int.tmod_eq_emod_of_nonneg h
/-- Both ways to take a row away are one. -/
theorem sub_mod {p x t y : Int} (hp : 0 < p) (hx : 0 ≤ x) (ht : t < p) (hy : 0 ≤ y) : ((x - t * y).tmod p + p).tmod p = (x + (p - t) * y).tmod p := by
  have h1 : 0 ≤ (p - t) * y := Int.mul_nonneg (by omega) hy
  rw [tmod_nn (a := x + (p - t) * y) (by omega)]
  have h2 : -p < (x - t * y).tmod p := Int.lt_tmod_of_pos _ hp
  rw [tmod_nn (by omega), Int.add_emod_right]
  have h3 : (x - t * y).tmod p = (x - t * y) - p * ((x - t * y).tdiv p) := by have := Int.mul_tdiv_add_tmod (x - t * y) p; omega
  rw [h3, Int.sub_mul_emod_self_left]
  have h4 : x + (p - t) * y = (x - t * y) + p * y := by rw [Int.sub_mul]; omega
  rw [h4, Int.add_mul_emod_self_left]
end Go.AM

namespace Go.AM
/-! a step of the elimination -/
theorem TabF.congr {ids : List (Nat × Nat)} {pool : List (List Int)} {R W : Nat} {m m' : Mat} (h : TabF ids pool R W m) (e : ∀ i j, i < R → j < W → m i j = m' i j) : TabF ids pool R W m' :=
  ⟨h.len, h.lt, h.sz, h.wide, fun i j hi hj => (h.cell i j hi hj).trans (e i j hi hj), h.inj⟩
def Bnd (p : Int) (R W : Nat) (m : Mat) : Prop := ∀ i j, i < R → j < W → 0 ≤ m i j ∧ m i j < p
def scaleM (m : Mat) (p f : Int) (r : Nat) : Mat := fun i j => if i = r then (m r j * f).tmod p else m i j
def clearM (m : Mat) (p : Int) (r c : Nat) : Mat := fun i j => if i = r ∨ m i c = 0 then m i j else (m i j + (p - m i c) * m r j).tmod p
def pivE (R c : Nat) (s : Mat × Nat) : Nat := firstNZ (fun i => s.1 i c) (R - s.2) s.2
def facE (p : Int) (R c : Nat) (s : Mat × Nat) : Int := invN p.toNat (s.1 (pivE R c s) c).toNat
def scaE (p : Int) (R c : Nat) (s : Mat × Nat) : Mat := scaleM (swapM s.2 (pivE R c s) s.1) p (facE p R c s) s.2
def stepE (p : Int) (R c : Nat) (s : Mat × Nat) : Mat × Nat := if pivE R c s < R then (clearM (scaE p R c s) p s.2 c, s.2 + 1) else s
def elimE (p : Int) (R W : Nat) (m : Mat) : Mat × Nat := iter (stepE p R) W 0 (m, 0)
theorem tmodE_bd {a p : Int} (ha : 0 ≤ a) (hp : 0 < p) : 0 ≤ a.tmod p ∧ a.tmod p < p := by
  rw [tmod_nn ha]
  exact ⟨Int.emod_nonneg _ (by omega), Int.emod_lt_of_pos _ hp⟩
theorem mul_bd {a b : Int} (ha : 0 ≤ a ∧ a < 100) (hb : 0 ≤ b ∧ b < 100) : 0 ≤ a * b ∧ a * b < 10000 := by
  refine ⟨Int.mul_nonneg ha.1 hb.1, ?_⟩
  have h1 : a * b ≤ 99 * b := Int.mul_le_mul_of_nonneg_right (by omega) hb.1
  omega
theorem pivE_spec (R c : Nat) {s : Mat × Nat} (hr : s.2 ≤ R) : s.2 ≤ pivE R c s ∧ pivE R c s ≤ R ∧ (pivE R c s < R → s.1 (pivE R c s) c ≠ 0) ∧ ∀ k, s.2 ≤ k → k < pivE R c s → s.1 k c = 0 := by
  obtain ⟨h1, h2, h3, h4⟩ := firstNZ_spec (fun i => s.1 i c) (R - s.2) s.2
  exact ⟨h1, by unfold pivE; omega, fun h => h3 (by unfold pivE at h; omega), h4⟩
theorem facE_spec {p : Int} (hp : primeB p = true) {R W c : Nat} {s : Mat × Nat} (hb : Bnd p R W s.1) (hr : s.2 ≤ R) (hc : c < W) (hk : pivE R c s < R) :
    1 ≤ facE p R c s ∧ facE p R c s < p ∧ (s.1 (pivE R c s) c * facE p R c s).tmod p = 1 ∧ ∀ k : Nat, 1 ≤ k → (k : Int) < facE p R c s → (s.1 (pivE R c s) c * (k : Int)).tmod p ≠ 1 := by
  have hpb := primeB_bd hp
  have hv := hb _ c hk hc
  have hn := (pivE_spec R c hr).2.2.1 hk
  obtain ⟨h1, h2, h3, h4⟩ := inv_lt hp (x := (s.1 (pivE R c s) c).toNat) (by omega) (by omega)
  have key : ∀ k : Nat, (s.1 (pivE R c s) c * (k : Int)).tmod p = (((s.1 (pivE R c s) c).toNat * k % p.toNat : Nat) : Int) := fun k => by
    rw [tmod_nn (Int.mul_nonneg hv.1 (by omega)), Int.natCast_emod, Int.natCast_mul, Int.toNat_of_nonneg hv.1, Int.toNat_of_nonneg (by omega)]
  unfold facE
  refine ⟨by omega, by omega, ?_, fun k k1 k2 => ?_⟩
  · rw [key, h3]; rfl
  · rw [key]
    have := h4 k k1 (by omega)
    omega
theorem swapM_bd {p : Int} {R W a b : Nat} {m : Mat} (h : Bnd p R W m) (ha : a < R) (hb : b < R) : Bnd p R W (swapM a b m) := fun i j hi hj => h _ j (swapN_lt ha hb hi) hj
theorem scaleM_bd {p f : Int} {R W r : Nat} {m : Mat} (hp : 0 < p) (h : Bnd p R W m) (hr : r < R) (hf : 0 ≤ f) : Bnd p R W (scaleM m p f r) := fun i j hi hj => by
  unfold scaleM
  split
  · exact tmodE_bd (Int.mul_nonneg (h r j hr hj).1 hf) hp
  · exact h i j hi hj
theorem clearM_bd {p : Int} {R W r c : Nat} {m : Mat} (hp : 0 < p) (h : Bnd p R W m) (hr : r < R) (hc : c < W) : Bnd p R W (clearM m p r c) := fun i j hi hj => by
  unfold clearM
  split
  · exact h i j hi hj
  · have h1 := h i j hi hj
    have h2 := h i c hi hc
    have h3 := h r j hr hj
    have := Int.mul_nonneg (a := p - m i c) (b := m r j) (by omega) h3.1
    exact tmodE_bd (by omega) hp
structure ElimI (p : Int) (R W : Nat) (s : Mat × Nat) : Prop where
  bd : Bnd p R W s.1
  rk : s.2 ≤ R
theorem ElimI.step {p : Int} (hp : primeB p = true) {R W c : Nat} {s : Mat × Nat} (h : ElimI p R W s) (hc : c < W) : ElimI p R W (stepE p R c s) := by
  have hpb := primeB_bd hp
  unfold stepE
  split
  · rename_i hk
    obtain ⟨h1, _⟩ := pivE_spec R c h.rk
    have hf := facE_spec hp h.bd h.rk hc hk
    refine ⟨clearM_bd (by omega) (scaleM_bd (by omega) (swapM_bd h.bd (by omega) hk) (by omega) (by omega)) (by omega) hc, ?_⟩
    show s.2 + 1 ≤ R
    omega
  · exact h
theorem ElimI.sca {p : Int} (hp : primeB p = true) {R W c : Nat} {s : Mat × Nat} (h : ElimI p R W s) (hc : c < W) (hk : pivE R c s < R) : Bnd p R W (scaE p R c s) := by
  have hpb := primeB_bd hp
  obtain ⟨h1, _⟩ := pivE_spec R c h.rk
  have hf := facE_spec hp h.bd h.rk hc hk
  exact scaleM_bd (by omega) (swapM_bd h.bd (by omega) hk) (by omega) (by omega)
theorem elimE_inv {p : Int} (hp : primeB p = true) {R W : Nat} {m : Mat} (h : Bnd p R W m) : ElimI p R W (elimE p R W m) := by
  have := iter_inv (f := stepE p R) (n := W) (I := fun _ s => ElimI p R W s) (fun i s hi hs => hs.step hp hi) W 0 (m, 0) (by omega) ⟨h, Nat.zero_le _⟩
  exact this
end Go.AM

namespace Go.AM
section
variable {β : Type}
theorem isOrder_s2_ordL (z : β) (n a : Int) (h g : Nat → Int) : ∀ m s t k0 k1, i_isOrder_l0_s2 z n a h g m s t k0 k1 = ordL 8 z n h m s t k0 k1 := by
  intro m
  induction m with
  | zero => intros; rfl
  | succ m ih => intro s t k0 k1; simp only [i_isOrder_l0_s2, ordL, ih]; rfl
theorem isOrder_s3_ordL (z : β) (n a : Int) (h g : Nat → Int) : ∀ m s t k0 k1, i_isOrder_l0_s3 z n a h g m s t k0 k1 = ordL 8 z n g m s t k0 k1 := by
  intro m
  induction m with
  | zero => intros; rfl
  | succ m ih => intro s t k0 k1; simp only [i_isOrder_l0_s3, ordL, ih]; rfl
theorem l01Perm_permL (z : β) (n : Int) (h : Nat → Int) : ∀ m i s k0 k1, s_l01Perm_l0 z n h m i s k0 k1 = permL 8 z n h m i s k0 k1 := by
  intro m
  induction m with
  | zero => intros; rfl
  | succ m ih => intro s t k0 k1; simp only [s_l01Perm_l0, permL, ih]; rfl

theorem s_l01Perm_val (z : β) {N : Nat} (hN : 8 < N) {m : Nat} (hm : m ≤ 8) (X : Nat → Int) (hX : ∀ j, 0 ≤ X j) (k : Bool → β) : s_l01Perm z N X m k = k (permB 8 m X) := by
  unfold s_l01Perm
  rw [l01Perm_permL]
  exact perm_val 8 (by omega) z m hm X hX k hN
theorem i_isOrder_s2_val (z : β) {N : Nat} (hN : 8 < N) {m : Nat} (h1 : 1 ≤ m) (hm : m ≤ 8) (a : Int) (X O : Nat → Int) (hX : ∀ j, 0 ≤ X j) (k : Bool → β) : i_isOrder_s2 z N m a X O k = k (permB 8 m X) := by
  unfold i_isOrder_s2
  rw [isOrder_s2_ordL]
  exact ord_val 8 (by omega) z m h1 hm hm X hX k hN
theorem i_isOrder_s3_val (z : β) {N : Nat} (hN : 8 < N) {m : Nat} (h1 : 1 ≤ m) (hm : m ≤ 8) (a : Int) (X O : Nat → Int) (hO : ∀ j, 0 ≤ O j) (k : Bool → β) : i_isOrder_s3 z N m a X O k = k (permB 8 m O) := by
  unfold i_isOrder_s3
  rw [isOrder_s3_ordL]
  exact ord_val 8 (by omega) z m h1 hm hm O hO k hN

/-- Cells of eight bytes. -/
def clip8 (a : Nat → Int) : Nat → Int := fun j => if j < 8 then a j else 0
theorem clip8_lt {a : Nat → Int} {j : Nat} (h : j < 8) : clip8 a j = a j := if_pos h
theorem clip8_nn {a : Nat → Int} (h : ∀ j, j < 8 → 0 ≤ a j) : ∀ j, 0 ≤ clip8 a j := fun j => by unfold clip8; split; exact h j ‹_›; omega
theorem clip8_le {a : Nat → Int} (h : ∀ j, j < 8 → a j ≤ 255) : ∀ j, clip8 a j ≤ 255 := fun j => by unfold clip8; split; exact h j ‹_›; omega
theorem w_toByteA8_val (z : β) {N : Nat} (hN : 8 < N) (a : Nat → Int) (k0 : (Nat → Int) → β) : w_toByteA8 z N a k0 = k0 (clip8 a) := by
  unfold w_toByteA8
  have := up_to (L := fun m i h => w_toByteA8_l0 z a (fun _ => 0) m (i : Int) h k0) (n := 8) (out := k0) (f := fun i h => upd h i (a i)) (I := fun _ _ => True)
    (fun m i s hi _ => ⟨by
      simp only [w_toByteA8_l0, w_toByteA8_l0_s, c_and, Int.toNat_natCast]
      simp (disch := omega) only [c_lt, c_le, c_blt, c_fits]
      rfl, trivial⟩)
    (fun m s _ => by simp (disch := omega) only [w_toByteA8_l0, w_toByteA8_l0_s, c_nlt]) 8 N 0 (fun _ => 0) rfl hN trivial
  rw [iter_set] at this
  refine this.trans (congrArg k0 (funext fun j => ?_))
  simp [clip8]
theorem w_toGrid_val (z : β) {N : Nat} (hN : 8 < N) (n : Int) (a b : Nat → Int) (k0 : (Nat → Int) → (Nat → Int) → β) : w_toGrid z N n a b k0 = k0 (clip8 a) (clip8 b) := by
  unfold w_toGrid
  rw [w_toByteA8_val z hN, w_toByteA8_val z hN]

/-- No column with both marks in one cell. -/
def apartB (n : Nat) (X O : Nat → Int) : Bool := allFrom (fun i => !(X i == O i)) n 0
/-- Is it a grid? -/
noncomputable def gridB (n : Int) (X O : Nat → Int) : Bool := decide (2 ≤ n ∧ n ≤ 8) && (permB 8 n.toNat X && (permB 8 n.toNat O && apartB n.toNat X O))
/-- A grid: its size is between 2 and 8, both lists are permutations, no column with both marks in one cell. -/
structure GridP (n : Nat) (X O : Nat → Int) : Prop where
  lo : 2 ≤ n
  hi : n ≤ 8
  px : PermP 8 n X
  po : PermP 8 n O
  ne : ∀ i, i < n → X i ≠ O i
theorem gridB_iff {n : Int} {X O : Nat → Int} : gridB n X O = true ↔ ∃ m : Nat, n = m ∧ GridP m X O := by
  unfold gridB
  simp only [Bool.and_eq_true, decide_eq_true_eq, permB_iff, apartB, allFrom_iff]
  constructor
  · rintro ⟨⟨h1, h2⟩, h3, h4, h5⟩
    refine ⟨n.toNat, by omega, by omega, by omega, h3, h4, fun i hi => ?_⟩
    have := h5 i (by omega) (by omega)
    simpa using this
  · rintro ⟨m, rfl, g⟩
    have := g.lo
    have := g.hi
    refine ⟨by omega, g.px, g.po, fun j _ h => ?_⟩
    have := g.ne j (by simpa using h)
    simpa using this
theorem gridB_false {n : Int} {X O : Nat → Int} (h : ¬ (2 ≤ n ∧ n ≤ 8)) : gridB n X O = false := by unfold gridB; rw [decide_eq_false h]; rfl

theorem s_l01Is_val (z : β) {N : Nat} (hN : 8 < N) (n : Int) (X O : Nat → Int) (hX : ∀ j, 0 ≤ X j) (hO : ∀ j, 0 ≤ O j) (k : Bool → β) : s_l01Is z N n X O k = k (gridB n X O) := by
  unfold s_l01Is
  rw [s_l01In_val]
  by_cases h : 2 ≤ n ∧ n ≤ 8
  · obtain ⟨m, rfl⟩ : ∃ m : Nat, n = (m : Int) := ⟨n.toNat, by omega⟩
    simp only [decide_eq_true h, Bool.not_true, c_false]
    rw [s_l01Perm_val z hN (by omega) X hX]
    unfold gridB
    rw [decide_eq_true h, Int.toNat_natCast]
    cases permB 8 m X with
    | false => rfl
    | true =>
      simp only [Bool.not_true, c_false, Bool.true_and]
      rw [s_l01Perm_val z hN (by omega) O hO]
      cases permB 8 m O with
      | false => rfl
      | true =>
        simp only [Bool.not_true, c_false, Bool.true_and]
        have := up_to_all (L := fun j i => s_l01Is_l0 z m X O j (i : Int) (k false) (k true)) (n := m) (kt := k true) (kf := k false) (p := fun i => !(X i == O i))
          (fun j i hi => by
            simp only [s_l01Is_l0, s_l01Is_l0_s, c_and, Int.toNat_natCast]
            simp (disch := omega) only [c_lt, c_le, c_blt, c_fits, c_not]
            rfl)
          (fun j => by simp (disch := omega) only [s_l01Is_l0, s_l01Is_l0_s, c_nlt]) m N 0 (by omega) (by omega)
        refine this.trans ?_
        unfold apartB
        cases allFrom (fun i => !(X i == O i)) m 0 <;> rfl
  · simp only [decide_eq_false h, Bool.not_false, c_true]
    rw [gridB_false h]

theorem i_IsGrid_val (z : β) {N : Nat} (hN : 8 < N) (n : Int) (X O : Nat → Int) (hX : ∀ j, 0 ≤ X j) (hO : ∀ j, 0 ≤ O j) (k : Bool → β) : i_IsGrid z N n X O k = k (gridB n X O) := by
  unfold i_IsGrid
  rw [i_within_val]
  by_cases h : 2 ≤ n ∧ n ≤ 8
  · obtain ⟨m, rfl⟩ : ∃ m : Nat, n = (m : Int) := ⟨n.toNat, by omega⟩
    simp only [decide_eq_true h, Bool.not_true, c_false, i_Grid_n]
    rw [i_isOrder_s2_val z hN (by omega) (by omega) _ X O hX]
    unfold gridB
    rw [decide_eq_true h, Int.toNat_natCast]
    cases permB 8 m X with
    | false => rfl
    | true =>
      simp only [Bool.not_true, c_false, Bool.true_and]
      rw [i_isOrder_s3_val z hN (by omega) (by omega) _ X O hO]
      cases permB 8 m O with
      | false => rfl
      | true =>
        simp only [Bool.not_true, c_false, Bool.true_and]
        have := up_to_all (L := fun j i => i_IsGrid_l0 z m m X O j (i : Int) (k false) (k true)) (n := m) (kt := k true) (kf := k false) (p := fun i => !(X i == O i))
          (fun j i hi => by
            simp only [i_IsGrid_l0, i_IsGrid_l0_s, c_and, Int.toNat_natCast]
            simp (disch := omega) only [c_lt, c_le, c_blt, c_fits, c_not]
            rfl)
          (fun j => by simp (disch := omega) only [i_IsGrid_l0, i_IsGrid_l0_s, c_nlt]) m N 0 (by omega) (by omega)
        refine this.trans ?_
        unfold apartB
        cases allFrom (fun i => !(X i == O i)) m 0 <;> rfl
  · simp only [decide_eq_false h, Bool.not_false, c_true]
    rw [gridB_false h]
/-- Equal states are equal. -/
theorem w_eqState_refl (z : β) {N : Nat} (hN : 8 < N) (a : Nat → Int) (k0 : Bool → β) : w_eqState z N a a k0 = k0 true := by
  unfold w_eqState
  have := up_to_all (L := fun k i => w_eqState_l0 z a a k (i : Int) (k0 false) (k0 true)) (n := 8) (kt := k0 true) (kf := k0 false) (p := fun _ => true)
    (fun j i hi => by
      simp only [w_eqState_l0, w_eqState_l0_s, c_and, Int.toNat_natCast]
      simp (disch := omega) only [c_lt, c_le, c_blt, c_fits, c_nne]
      rfl)
    (fun k => by simp (disch := omega) only [w_eqState_l0, w_eqState_l0_s, c_nlt]) 8 N 0 (by omega) (by omega)
  refine this.trans ?_
  rfl
end
end Go.AM

namespace Go.AM
section
variable {β : Type}
theorem app1 (x : Int) : fromTo ((List.replicate 1 (0 : Int)).set 0 x) 0 1 = [x] := rfl
theorem len1 {γ : Type} (s : List γ) (x : γ) : (s ++ [x]).length = s.length + 1 := by simp
/-- Does a column's line cross the level? -/
def crossB (X O : Nat → Int) (r : Int) (i : Nat) : Bool := decide (X i ≤ r) != decide (O i ≤ r)
def relF (X O : Nat → Int) (r : Int) (i : Nat) (s : List Int) : List Int := cond (crossB X O r i) (s ++ [(i : Int)]) s
/-- The columns that cross a level. -/
def relL (n : Nat) (X O : Nat → Int) (r : Int) : List Int := iter (relF X O r) n 0 []
theorem relF_len {X O : Nat → Int} {r : Int} {i : Nat} {s : List Int} (h : s.length ≤ i) : (relF X O r i s).length ≤ i + 1 := by
  unfold relF
  cases crossB X O r i with
  | true => rw [c_true, len1]; omega
  | false => rw [c_false]; omega
theorem relL_len (n : Nat) (X O : Nat → Int) (r : Int) : (relL n X O r).length ≤ n := by
  have := iter_inv (f := relF X O r) (n := n) (I := fun i s => s.length ≤ i) (fun i s _ h => relF_len h) n 0 [] (by omega) (Nat.le_refl _)
  rwa [Nat.zero_add] at this
theorem s_l08Relation_val (z : β) {N n : Nat} (hN : n < N) (hn : n ≤ 8) (X O : Nat → Int) (r : Int) (k : Nat → Nat → Nat → List Int → β) :
    s_l08Relation z N n X O r k = k (relL n X O r).length (relL n X O r).length (relL n X O r).length (relL n X O r) := by
  unfold s_l08Relation
  exact up_to (L := fun m i (s : List Int) => s_l08Relation_l0 z r n X O m s.length s.length s.length (i : Int) s fun q7 q8 q9 q10 => k q7 q8 q9 q10) (n := n) (out := fun s => k s.length s.length s.length s) (f := relF X O r) (I := fun i s => s.length ≤ i)
    (fun m i s hi hs => ⟨by
      unfold relF crossB
      simp only [s_l08Relation_l0, s_l08Relation_l0_s, c_and, Int.toNat_natCast, app1, c_true]
      simp (disch := omega) only [c_lt, c_le, c_blt, c_ble, c_nble, c_beq, c_fits]
      cases decide (X i ≤ r) != decide (O i ≤ r) with
      | true => simp only [c_true, len1]; rfl
      | false => rfl, relF_len hs⟩)
    (fun m s _ => by simp (disch := omega) only [s_l08Relation_l0, s_l08Relation_l0_s, c_nlt]) n N 0 [] (by omega) hN (by simp)
def relsF (n : Nat) (X O : Nat → Int) (r : Nat) (T : List (List Int)) : List (List Int) := T ++ [relL n X O r]
/-- All relations. -/
def relsT (n : Nat) (X O : Nat → Int) : List (List Int) := iter (relsF n X O) (n - 1) 0 []
theorem relsT_spec (n : Nat) (X O : Nat → Int) : (relsT n X O).length = n - 1 ∧ ∀ i, i < n - 1 → rowAt (relsT n X O) i = relL n X O i := by
  have := iter_inv (f := relsF n X O) (n := n - 1) (I := fun i T => T.length = i ∧ ∀ j, j < i → rowAt T j = relL n X O j) (fun i T _ ⟨h1, h2⟩ => by
    unfold relsF
    refine ⟨by rw [len1, h1], fun j hj => ?_⟩
    unfold rowAt
    by_cases e : j = i
    · subst e; rw [List.getElem?_append_right (by omega), h1, Nat.sub_self]; rfl
    · rw [List.getElem?_append_left (by omega)]; exact h2 j (by omega)) (n - 1) 0 [] (by omega) ⟨rfl, fun j hj => by omega⟩
  rwa [Nat.zero_add] at this
theorem relsT_small {N n : Nat} (hN : 16 < N) (hn : n ≤ 8) (X O : Nat → Int) : SmallT N (relsT n X O) := by
  obtain ⟨h1, h2⟩ := relsT_spec n X O
  refine ⟨⟨by omega, by omega⟩, fun i hi => ?_⟩
  rw [h2 i (by omega)]
  have := relL_len n X O i
  omega
theorem s_RelationsOf_val (z : β) {N n : Nat} (hN : 16 < N) {X O : Nat → Int} (g : GridP n X O) (hX : ∀ j, 0 ≤ X j) (hO : ∀ j, 0 ≤ O j) (k0 : Int → β) (k1 : Nat → Nat → Nat → Int → List (Nat × Nat) → List (List Int) → β) :
    s_RelationsOf z N n X O k0 k1 = k1 (idsOf (relsT n X O)).length (relsT n X O).length (relsT n X O).length 0 (idsOf (relsT n X O)) (relsT n X O) := by
  have hlo := g.lo
  have hhi := g.hi
  unfold s_RelationsOf
  rw [s_l01Is_val z (by omega) _ _ _ hX hO, gridB_iff.2 ⟨n, rfl, g⟩]
  simp only [Bool.not_true, c_false]
  refine (up_to (L := fun m i (T : List (List Int)) => s_RelationsOf_l0 z N n X O m (idsOf T).length T.length T.length (i : Int) T (idsOf T) fun q7 q8 q9 q10 q11 => k1 q7 q8 q9 0 q11 q10) (n := n - 1) (out := fun T => k1 (idsOf T).length T.length T.length 0 (idsOf T) T) (f := relsF n X O) (I := fun i T => T.length = i)
    (fun m i T hi hT => ⟨?_, by unfold relsF; rw [len1, hT]⟩) (fun m T _ => by simp (disch := omega) only [s_RelationsOf_l0, s_RelationsOf_l0_s, c_nlt, c_fits]) (n - 1) N 0 [] (by omega) (by omega) rfl)
  have hl := relL_len n X O i
  have hi2 := idsOf_len T
  unfold relsF
  simp only [s_RelationsOf_l0, s_RelationsOf_l0_s, c_and]
  simp (disch := omega) only [c_lt, c_fits]
  rw [s_l08Relation_val z (by omega) hhi]
  simp only [c_true]
  simp (disch := omega) only [c_lt, c_le, c_blt, c_ble, c_nble, c_beq, c_fits]
  rw [idsOf_app, len1, len1]
  rfl
theorem cross_min (a b r : Int) : (decide (a ≤ r) != decide (b ≤ r)) = (decide ((bif decide (b < a) then b else a) ≤ r) && decide (r < bif decide (a < b) then b else a)) := by
  by_cases h1 : a ≤ r <;> by_cases h2 : b ≤ r <;> by_cases h3 : a < b <;> by_cases h4 : b < a <;> simp [h1, h2, h3, h4] <;> omega
theorem i_Grid_relations_l1_val (z : β) {N n : Nat} (hN : n < N) (hn : n ≤ 8) (X O : Nat → Int) (r : Int) (a b c : Nat) (t10 t11 : Int) (h1 : List (List Int)) (h2 : List (Nat × Nat)) (k : Nat → Nat → Nat → List Int → β) :
    i_Grid_relations_l1 z a b c r t10 t11 n n X O h1 h2 N 0 0 0 0 (List.replicate 0 0) k = k (relL n X O r).length (relL n X O r).length (relL n X O r).length (relL n X O r) := by
  exact up_to (L := fun m i (s : List Int) => i_Grid_relations_l1 z a b c r t10 t11 n n X O h1 h2 m s.length s.length s.length (i : Int) s k) (n := n) (out := fun s => k s.length s.length s.length s) (f := relF X O r) (I := fun i s => s.length ≤ i)
    (fun m i s hi hs => ⟨by
      unfold relF crossB
      rw [cross_min, c_and]
      simp only [i_Grid_relations_l1, i_Grid_relations_l1_s, c_and, Int.toNat_natCast, app1, c_true]
      simp (disch := omega) only [c_lt, c_le, c_blt, c_ble, c_nble, c_beq, c_fits]
      cases decide ((bif decide (O i < X i) then O i else X i) ≤ r) with
      | true =>
        simp only [c_true]
        cases decide (r < bif decide (X i < O i) then O i else X i) with
        | true => simp only [c_true, len1]; rfl
        | false => rfl
      | false => rfl, relF_len hs⟩)
    (fun m s _ => by simp (disch := omega) only [i_Grid_relations_l1, i_Grid_relations_l1_s, c_nlt]) n N 0 [] (by omega) hN (by simp)
theorem i_Grid_relations_val (z : β) {N n : Nat} (hN : 16 < N) (hlo : 2 ≤ n) (hhi : n ≤ 8) (X O : Nat → Int) (k : Nat → Nat → Nat → List (Nat × Nat) → List (List Int) → β) :
    i_Grid_relations z N n X O k = k (idsOf (relsT n X O)).length (relsT n X O).length (relsT n X O).length (idsOf (relsT n X O)) (relsT n X O) := by
  unfold i_Grid_relations i_Grid_n
  rw [c_fits (by omega)]
  refine (up_to (L := fun m i (T : List (List Int)) => i_Grid_relations_l0 z N (n - 1 : Int) n X O m (idsOf T).length T.length T.length (i : Int) T (idsOf T) fun q6 q7 q8 q9 q10 => k q6 q7 q8 q10 q9) (n := n - 1) (out := fun T => k (idsOf T).length T.length T.length (idsOf T) T) (f := relsF n X O) (I := fun i T => T.length = i)
    (fun m i T hi hT => ⟨?_, by unfold relsF; rw [len1, hT]⟩) (fun m T _ => by simp (disch := omega) only [i_Grid_relations_l0, i_Grid_relations_l0_s, c_nlt]) (n - 1) N 0 [] (by omega) (by omega) rfl)
  have hl := relL_len n X O i
  have hi2 := idsOf_len T
  unfold relsF
  simp only [i_Grid_relations_l0, i_Grid_relations_l0_s, i_Grid_n, c_and]
  simp (disch := omega) only [c_lt]
  rw [i_Grid_relations_l1_val z (by omega) hhi]
  simp only [c_true]
  simp (disch := omega) only [c_lt, c_le, c_blt, c_ble, c_nble, c_beq, c_fits]
  rw [idsOf_app, len1, len1]
  rfl
/-- Copies of the rows of a table. -/
def rowCopyF (xs : List Int) (j : Nat) (s : List Int) : List Int := s ++ [xs[j]?.getD 0]
theorem copy_take (xs : List Int) : ∀ d, d ≤ xs.length → iter (rowCopyF xs) d 0 [] = xs.take d := by
  intro d
  induction d with
  | zero => intro _; rfl
  | succ d ih =>
    intro hd
    rw [iter_succ, ih (by omega), Nat.zero_add]
    unfold rowCopyF
    rw [List.take_add_one, List.getElem?_eq_getElem (by omega)]
    rfl
theorem i_RelationsOf_1_l1_val (z : β) {N : Nat} {xs : List Int} {P : List (List Int)} {q : Nat} (hq : rowAt P q = xs) (hN : xs.length < N) (hx : xs.length ≤ 1000) (a b c d e f : Nat) (t12 t13 : Int) (n : Int) (X O : Nat → Int) (h1 : List (List Int)) (h2 h3 : List (Nat × Nat)) (k : Nat → Nat → Nat → List Int → β) :
    i_RelationsOf_1_l1 z a b c d e f t12 t13 q 0 xs.length xs.length xs.length xs.length n X O h1 h2 h3 P N 0 0 0 0 (List.replicate 0 0) k = k xs.length xs.length xs.length xs := by
  unfold rowAt at hq
  have := up_to (L := fun m j (s : List Int) => i_RelationsOf_1_l1 z a b c d e f t12 t13 q 0 xs.length xs.length xs.length (xs.length : Int) n X O h1 h2 h3 P m s.length s.length s.length (j : Int) s k)
      (n := xs.length) (f := rowCopyF xs) (I := fun j s => s.length = j) (out := fun s => k s.length s.length s.length s)
    (fun m j s hj hs => ⟨by
      unfold rowCopyF
      simp only [i_RelationsOf_1_l1, i_RelationsOf_1_l1_s, c_and, Int.toNat_natCast, addO_eq, Nat.zero_add, app1, c_true, hq]
      simp (disch := omega) only [c_lt, c_le, c_blt, c_ble, c_nble, c_beq, c_fits]
      rw [len1]
      rfl, by unfold rowCopyF; rw [len1, hs]⟩)
    (fun m s hs => by simp (disch := omega) only [i_RelationsOf_1_l1, i_RelationsOf_1_l1_s, c_nlt]) xs.length N 0 [] (by omega) (by omega) rfl
  rw [copy_take xs xs.length (Nat.le_refl _), List.take_length] at this
  exact this
theorem i_RelationsOf_1_val (z : β) {N n : Nat} (hN : 16 < N) (hlo : 2 ≤ n) (hhi : n ≤ 8) (X O : Nat → Int) (k : Nat → Nat → Nat → List (Nat × Nat) → List (List Int) → β) :
    i_RelationsOf_1 z N n X O k = k (idsOf (relsT n X O)).length (relsT n X O).length (relsT n X O).length (idsOf (relsT n X O)) (relsT n X O) := by
  unfold i_RelationsOf_1
  rw [i_Grid_relations_val z hN hlo hhi]
  obtain ⟨hl, hr⟩ := relsT_spec n X O
  have hb := relsT_small hN hhi X O
  have hP := TabP.of_app (relsT n X O)
  have hi2 := idsOf_len (relsT n X O)
  rw [c_ble (by omega)]
  have he : relsT n X O = iter (relsF n X O) (n - 1) 0 [] := rfl
  generalize hT : relsT n X O = T at *
  refine Eq.trans (up_to (L := fun m i (S : List (List Int)) => i_RelationsOf_1_l0 z N (idsOf T).length T.length T.length (T.length : Int) n X O (idsOf T) T m (idsOf S).length S.length S.length (i : Int) S (idsOf S) fun q11 q12 q13 q14 q15 => k q11 q12 q13 q15 q14) (n := T.length) (out := fun T => k (idsOf T).length T.length T.length (idsOf T) T) (f := relsF n X O) (I := fun i T => T.length = i)
    (fun m i S hi hS => ⟨?_, by unfold relsF; rw [len1, hS]⟩) (fun m T _ => by simp (disch := omega) only [i_RelationsOf_1_l0, i_RelationsOf_1_l0_s, c_nlt]) T.length N 0 [] (by omega) (by omega) rfl) (by simp only [hl, ← he])
  have e1 := hP.sz i hi
  have e2 := hP.row i hi
  have e3 := hb.cols i hi
  have hi3 := idsOf_len S
  unfold idAt at e1 e2
  unfold relsF
  simp only [i_RelationsOf_1_l0, i_RelationsOf_1_l0_s, c_and, Int.toNat_natCast]
  simp (disch := omega) only [c_lt, c_le, c_blt, c_ble, c_beq, e1]
  rw [i_RelationsOf_1_l1_val z e2 (by omega) (by omega), hr i (by omega)]
  rw [hr i (by omega)] at e3
  simp only [c_true]
  simp (disch := omega) only [c_lt, c_le, c_blt, c_ble, c_nble, c_beq, c_fits]
  rw [idsOf_app, len1, len1]
  rfl
theorem i_RelationsOf_val (z : β) {N n : Nat} (hN : 16 < N) {X O : Nat → Int} (g : GridP n X O) (hX : ∀ j, 0 ≤ X j) (hO : ∀ j, 0 ≤ O j) (k0 : Int → β) (k1 : Nat → Nat → Nat → Int → List (Nat × Nat) → List (List Int) → β) :
    i_RelationsOf z N n X O k0 k1 = k1 (idsOf (relsT n X O)).length (relsT n X O).length (relsT n X O).length 0 (idsOf (relsT n X O)) (relsT n X O) := by
  unfold i_RelationsOf i_whole_int64_s2
  rw [i_IsGrid_val z (by omega) _ _ _ hX hO, gridB_iff.2 ⟨n, rfl, g⟩]
  simp only [Bool.not_true, c_false]
  rw [i_RelationsOf_1_val z hN g.lo g.hi]
theorem w_FnExactRelationsOf_val (z : β) {N : Nat} (hN : 100 < N) (n : Int) (X O : Nat → Int) (hX : ∀ j, j < 8 → 0 ≤ X j ∧ X j ≤ 255) (hO : ∀ j, j < 8 → 0 ≤ O j ∧ O j ≤ 255) (k0 : Bool → β) : w_FnExactRelationsOf z N n X O k0 = k0 true := by
  unfold w_FnExactRelationsOf
  have hN8 : 8 < N := by omega
  have hX0 := clip8_nn (a := X) fun j hj => (hX j hj).1
  have hO0 := clip8_nn (a := O) fun j hj => (hO j hj).1
  simp only [w_toGrid_val z hN8]
  cases hg : gridB n (clip8 X) (clip8 O) with
  | false =>
    simp (disch := omega) only [s_RelationsOf, i_RelationsOf, i_whole_int64_s2, s_l01Is_val z hN8 _ _ _ hX0 hO0, i_IsGrid_val z hN8 _ _ _ hX0 hO0, hg, Bool.not_false, c_true, eqNil, markNil, heldNil, Bool.not_true, c_false, c_nne]
  | true =>
    obtain ⟨m, rfl, g⟩ := gridB_iff.1 hg
    have h8 := g.hi
    have hs := relsT_small (N := N) (by omega) h8 (clip8 X) (clip8 O)
    have hP := TabP.of_app (relsT m (clip8 X) (clip8 O))
    have hM := markTab_spec hP
    have hn := relsT_spec m (clip8 X) (clip8 O)
    have hb := hs.total (relsT m (clip8 X) (clip8 O)).length (Nat.le_refl _)
    simp only [s_RelationsOf_val z (N := N) (by omega) g hX0 hO0, i_RelationsOf_val z (N := N) (by omega) g hX0 hO0, eqTab z hP hP hs, markTab z hP hs, heldTab z hM hs, Bool.not_true, c_false]
    simp (disch := omega) only [c_nne, c_nlt]
end
end Go.AM

namespace Go.AM
section
variable {β : Type}
/-- Steps that agree along the way. -/
theorem iter_congr {σ : Type} {f g : Nat → σ → σ} : ∀ (d i : Nat) (s : σ), (∀ j s, i ≤ j → j < i + d → f j s = g j s) → iter f d i s = iter g d i s := by
  intro d
  induction d with
  | zero => intro i s _; rfl
  | succ d ih =>
    intro i s h
    rw [iter, iter, h i s (Nat.le_refl _) (by omega)]
    exact ih (i + 1) _ fun j s h1 h2 => h j s (by omega) (by omega)
theorem get_app_lt {xs : List Int} {x : Int} {j : Nat} (h : j < xs.length) : (xs ++ [x])[j]?.getD 0 = xs[j]?.getD 0 := by rw [List.getElem?_append_left h]
theorem get_app_eq {xs : List Int} {x : Int} : (xs ++ [x])[xs.length]?.getD 0 = x := by simp
/-- One, minus one and so on. -/
def sgn (j : Nat) : Int := if j % 2 = 0 then 1 else -1
theorem sgn_bd (j : Nat) : sgn j = 1 ∨ sgn j = -1 := by unfold sgn; split <;> simp
theorem sgn_succ (j : Nat) : sgn (j + 1) = -sgn j := by unfold sgn; by_cases h : j % 2 = 0 <;> simp [h] <;> omega
def lineF (xs : List Int) (j : Nat) (f : Nat → Int) : Nat → Int := upd f (xs[j]?.getD 0).toNat (sgn j)
/-- The line of an equation. -/
def lineS (xs : List Int) : Nat → Int := iter (lineF xs) xs.length 0 fun _ => 0
theorem lineS_app (xs : List Int) (x : Int) : lineS (xs ++ [x]) = upd (lineS xs) x.toNat (sgn xs.length) := by
  unfold lineS
  rw [len1, iter_succ, iter_congr (g := lineF xs)]
  · unfold lineF
    rw [Nat.zero_add, get_app_eq]
  · intro j s _ hj
    unfold lineF
    rw [get_app_lt (by omega)]
theorem lineS_bd (xs : List Int) (c : Nat) : lineS xs c = 0 ∨ lineS xs c = 1 ∨ lineS xs c = -1 := by
  have := iter_inv (f := lineF xs) (n := xs.length) (I := fun _ f => f c = 0 ∨ f c = 1 ∨ f c = -1) (fun i s _ h => by
    unfold lineF
    rw [upd_at]
    split
    · exact .inr (sgn_bd i)
    · exact h) xs.length 0 (fun _ => 0) (by omega) (.inl rfl)
  exact this
theorem relL_lt (n : Nat) (X O : Nat → Int) (r : Int) : ∀ j, j < (relL n X O r).length → 0 ≤ (relL n X O r)[j]?.getD 0 ∧ (relL n X O r)[j]?.getD 0 < n := by
  have := iter_inv (f := relF X O r) (n := n) (I := fun i s => ∀ j, j < s.length → 0 ≤ s[j]?.getD 0 ∧ s[j]?.getD 0 < i) (fun i s _ h j hj => by
    unfold relF at hj ⊢
    cases hc : crossB X O r i with
    | true =>
      rw [hc, c_true, len1] at hj
      rw [c_true]
      by_cases e : j = s.length
      · subst e; rw [get_app_eq]; omega
      · rw [get_app_lt (by omega)]; have := h j (by omega); omega
    | false =>
      rw [hc, c_false] at hj
      rw [c_false]
      have := h j hj; omega) n 0 [] (by omega) (fun j hj => by simp at hj)
  rw [Nat.zero_add] at this
  exact this
def eqnR (n : Nat) (X O : Nat → Int) (r : Nat) : List Int := (List.range n).map (lineS (relL n X O r))
theorem eqnR_len (n : Nat) (X O : Nat → Int) (r : Nat) : (eqnR n X O r).length = n := by simp [eqnR]
theorem eqnR_at {n : Nat} (X O : Nat → Int) (r : Nat) {c : Nat} (hc : c < n) : (eqnR n X O r)[c]?.getD 0 = lineS (relL n X O r) c := by simp [eqnR, hc]
def eqnsF (n : Nat) (X O : Nat → Int) (r : Nat) (T : List (List Int)) : List (List Int) := T ++ [eqnR n X O r]
/-- The equations of a grid. -/
def eqnsT (n : Nat) (X O : Nat → Int) : List (List Int) := iter (eqnsF n X O) (n - 1) 0 []
theorem eqnsT_spec (n : Nat) (X O : Nat → Int) : (eqnsT n X O).length = n - 1 ∧ ∀ i, i < n - 1 → rowAt (eqnsT n X O) i = eqnR n X O i := by
  have := iter_inv (f := eqnsF n X O) (n := n - 1) (I := fun i T => T.length = i ∧ ∀ j, j < i → rowAt T j = eqnR n X O j) (fun i T _ ⟨h1, h2⟩ => by
    unfold eqnsF
    refine ⟨by rw [len1, h1], fun j hj => ?_⟩
    unfold rowAt
    by_cases e : j = i
    · subst e; rw [List.getElem?_append_right (by omega), h1, Nat.sub_self]; rfl
    · rw [List.getElem?_append_left (by omega)]; exact h2 j (by omega)) (n - 1) 0 [] (by omega) ⟨rfl, fun j hj => by omega⟩
  rwa [Nat.zero_add] at this
theorem i_Grid_equations_l1_val (z : β) {N n : Nat} {xs : List Int} {P : List (List Int)} {q : Nat} (hq : rowAt P q = xs) (hN : xs.length < N) (hx : xs.length ≤ 1000) (hlt : ∀ j, j < xs.length → 0 ≤ xs[j]?.getD 0 ∧ xs[j]?.getD 0 < n)
    (a b c d e f : Nat) (t12 t13 : Int) (n0 : Int) (X O : Nat → Int) (h1 : List (List Int)) (h2 h3 : List (Nat × Nat)) (k : (Nat → Int) → β) :
    i_Grid_equations_l1 z a b c n n n d e f t12 t13 q 0 xs.length xs.length xs.length xs.length n0 X O h1 h2 h3 P n N 1 0 (fun _ => 0) k = k (lineS xs) := by
  unfold rowAt at hq
  exact up_to (L := fun m j s => i_Grid_equations_l1 z a b c n n n d e f t12 t13 q 0 xs.length xs.length xs.length xs.length n0 X O h1 h2 h3 P n m (sgn j) (j : Int) s k)
      (n := xs.length) (f := lineF xs) (I := fun _ _ => True) (out := k)
    (fun m j s hj _ => ⟨by
      obtain ⟨l1, l2⟩ := hlt j hj
      have := sgn_bd j
      unfold lineF
      simp only [i_Grid_equations_l1, i_Grid_equations_l1_s, c_and, Int.toNat_natCast, addO_eq, Nat.zero_add, hq]
      simp (disch := omega) only [c_lt, c_le, c_blt, c_ble, c_nble, c_beq, c_fits]
      rw [sgn_succ]
      rfl, trivial⟩)
    (fun m s hs => by simp (disch := omega) only [i_Grid_equations_l1, i_Grid_equations_l1_s, c_nlt]) xs.length N 0 _ (by omega) (by omega) trivial
theorem i_Grid_equations_val (z : β) {N n : Nat} (hN : 16 < N) (hlo : 2 ≤ n) (hhi : n ≤ 8) (X O : Nat → Int) (k : Nat → Nat → Nat → List (Nat × Nat) → List (List Int) → β) :
    i_Grid_equations z N n X O k = k (idsOf (eqnsT n X O)).length (eqnsT n X O).length (eqnsT n X O).length (idsOf (eqnsT n X O)) (eqnsT n X O) := by
  unfold i_Grid_equations
  rw [i_Grid_relations_val z hN hlo hhi]
  obtain ⟨hl, hr⟩ := relsT_spec n X O
  have hb := relsT_small hN hhi X O
  have hP := TabP.of_app (relsT n X O)
  have hi2 := idsOf_len (relsT n X O)
  rw [c_ble (by omega)]
  generalize hT : relsT n X O = T at *
  have he : eqnsT n X O = iter (eqnsF n X O) (n - 1) 0 [] := rfl
  refine Eq.trans (up_to (L := fun m i (S : List (List Int)) => i_Grid_equations_l0 z N (idsOf T).length T.length T.length (T.length : Int) n X O (idsOf T) T m (idsOf S).length S.length S.length (i : Int) S (idsOf S) fun q11 q12 q13 q14 q15 => k q11 q12 q13 q15 q14) (n := T.length) (out := fun T => k (idsOf T).length T.length T.length (idsOf T) T) (f := eqnsF n X O) (I := fun i T => T.length = i)
    (fun m i S hi hS => ⟨?_, by unfold eqnsF; rw [len1, hS]⟩) (fun m T _ => by simp (disch := omega) only [i_Grid_equations_l0, i_Grid_equations_l0_s, c_nlt]) T.length N 0 [] (by omega) (by omega) rfl) (by simp only [hl, ← he])
  have e1 := hP.sz i hi
  have e2 := hP.row i hi
  have e3 := hb.cols i hi
  have hi3 := idsOf_len S
  unfold idAt at e1 e2
  unfold eqnsF
  simp only [i_Grid_equations_l0, i_Grid_equations_l0_s, i_Grid_n, c_and, c_true, Int.toNat_natCast]
  simp (disch := omega) only [c_lt, c_le, c_blt, c_ble, c_beq, e1]
  rw [i_Grid_equations_l1_val z e2 (by omega) (by omega) (by rw [hr i (by omega)]; exact relL_lt n X O i), hr i (by omega)]
  simp only [List.length_map, List.length_range]
  simp (disch := omega) only [c_lt, c_le, c_blt, c_ble, c_nble, c_beq, c_fits]
  rw [show (List.range n).map (lineS (relL n X O i)) = eqnR n X O i from rfl]
  simp only [idsOf_app, len1, eqnR_len]
  rfl
end
end Go.AM

namespace Go.AM
section
variable {β : Type}
theorem fromTo_all (xs : List Int) {l : Nat} (h : l = xs.length) : fromTo xs 0 l = xs := by
  subst h; simp [fromTo]
theorem s_l01Own_val (z : β) (N : Nat) {W q : Nat} (hW : 0 < W) (hW2 : W ≤ 1000) {P : List (List Int)} (hq : (rowAt P q).length = W) (k0 : List Int → β) (k1 k2 : Nat → Nat → Nat → List Int → β) :
    s_l01Own z N q 0 W W W P k0 k1 k2 = k2 W W W (rowAt P q) := by
  unfold s_l01Own
  have e : P[q]?.getD [] = rowAt P q := rfl
  rw [e]
  have e2 : fromTo (List.replicate 0 (0 : Int)) 0 0 ++ fromTo (rowAt P q) 0 W = rowAt P q := by rw [fromTo_all _ hq.symm]; rfl
  rw [e2, hq, Nat.zero_add]
  simp only [c_and]
  simp (disch := omega) only [c_beq, c_nbeq, c_ble, c_nble]
theorem TabF.of_app {T : List (List Int)} {R W : Nat} {m : Mat} (hl : T.length = R) (hw : ∀ i, i < R → (rowAt T i).length = W) (hc : ∀ i j, i < R → j < W → (rowAt T i)[j]?.getD 0 = m i j) : TabF (idsOf T) T R W m := by
  refine ⟨by rw [idsOf_len]; omega, fun i hi => ?_, fun i hi => ?_, fun i hi => ?_, fun i j hi hj => ?_, fun i j hi hj e => ?_⟩
  · rw [idsOf_at T (by omega)]; show i < T.length; omega
  · rw [idsOf_at T (by omega)]; exact hw i hi
  · rw [idsOf_at T (by omega)]; exact hw i hi
  · rw [idsOf_at T (by omega)]; exact hc i j hi hj
  · rw [idsOf_at T (by omega), idsOf_at T (by omega)] at e; exact e
/-- Copies of all rows. -/
theorem red_l0 (z : β) {N R W : Nat} (hN : R < N) (hR : R ≤ 1000) (hW : 0 < W) (hW2 : W ≤ 1000) {ids0 : List (Nat × Nat)} {P0 : List (List Int)} {m : Mat} (h : TabF ids0 P0 R W m) (hl : ids0.length = R) (t1 : Int) (c0 : Nat)
    (k : Nat → Nat → Nat → List (List Int) → List (Nat × Nat) → β) :
    ∃ T : List (List Int), T.length = R ∧ TabF (idsOf T) T R W m ∧ s_l08Reduce_l0 z N R R c0 t1 ids0 P0 N 0 0 0 0 (List.replicate 0 []) (List.map (fun (i : Nat) => (i, 0)) (List.range 0)) k = k R R R T (idsOf T) := by
  have := up_to_ex (L := fun M i (T : List (List Int)) => s_l08Reduce_l0 z N R R c0 t1 ids0 P0 M i i i (i : Int) T (idsOf T) k) (n := R) (out := fun T => k R R R T (idsOf T))
    (I := fun i T => T.length = i ∧ (∀ a, a < i → (rowAt T a).length = W) ∧ ∀ a b, a < i → b < W → (rowAt T a)[b]?.getD 0 = m a b)
    (fun i T hi ⟨i1, i2, i3⟩ => ⟨T ++ [rowAt P0 (idAt ids0 i).1], fun M => by
      have e1 := h.sz i hi
      unfold idAt at e1
      have hlen := idsOf_len T
      simp only [s_l08Reduce_l0, s_l08Reduce_l0_s, c_and, c_true, Int.toNat_natCast]
      simp (disch := omega) only [c_lt, c_le, c_blt, c_ble, c_beq, e1]
      rw [s_l01Own_val z N hW hW2 (h.wide i hi)]
      have e2 := h.wide i hi
      unfold idAt at e2 ⊢
      rw [e2]
      simp (disch := omega) only [c_lt, c_le, c_blt, c_ble, c_nble, c_beq, c_fits]
      rw [idsOf_app, show ((ids0[i]?.getD (0, 0)).1) = (idAt ids0 i).1 from rfl, h.wide i hi, List.length_append, hlen, List.length_singleton, i1]
      rfl, by rw [len1, i1], fun a ha => by
        unfold rowAt
        by_cases e : a = i
        · subst e; rw [List.getElem?_append_right (by omega), i1, Nat.sub_self]; exact h.wide a hi
        · rw [List.getElem?_append_left (by omega)]; exact i2 a (by omega), fun a b ha hb => by
        unfold rowAt
        by_cases e : a = i
        · subst e; rw [List.getElem?_append_right (by omega), i1, Nat.sub_self]; exact h.cell a b hi hb
        · rw [List.getElem?_append_left (by omega)]; exact i3 a b (by omega) hb⟩)
    (fun M T ⟨i1, _, _⟩ => by simp (disch := omega) only [s_l08Reduce_l0, s_l08Reduce_l0_s, c_ble, c_nlt]) R N 0 [] (by omega) hN ⟨rfl, fun a ha => by omega, fun a b ha => by omega⟩
  obtain ⟨T, h1, h2, h3, h4⟩ := this
  exact ⟨T, h2, TabF.of_app h2 h3 h4, h1⟩
theorem red_l2 (z : β) {R W c : Nat} {m : Mat} {ids : List (Nat × Nat)} {pool : List (List Int)} (h : TabF ids pool R W m) (hl : ids.length = R) (hR : R ≤ 1000) (hc : c < W) (hW2 : W ≤ 1000) (t1 t7 : Int) (tc : Nat) (h0 : List (Nat × Nat)) (h1 : List (List Int)) (k : Int → β) :
    ∀ d M i, i + d = R → d < M → s_l08Reduce_l2 z t1 R R tc t7 c h0 h1 pool ids M i k = k (firstNZ (fun i => m i c) d i : Nat) := by
  intro d
  induction d with
  | zero =>
    intro M i hi hM
    obtain ⟨M, rfl⟩ : ∃ M', M = M' + 1 := ⟨M - 1, by omega⟩
    simp (disch := omega) only [s_l08Reduce_l2, s_l08Reduce_l2_s, c_ble, c_nlt]
    rfl
  | succ d ih =>
    intro M i hi hM
    obtain ⟨M, rfl⟩ : ∃ M', M = M' + 1 := ⟨M - 1, by omega⟩
    have e1 := h.sz i (by omega)
    have e2 := h.wide i (by omega)
    have e3 := h.cell i c (by omega) hc
    unfold idAt at e1 e2 e3
    unfold rowAt at e2 e3
    rw [s_l08Reduce_l2, s_l08Reduce_l2_s]
    simp only [c_and, Int.toNat_natCast, e1, e2, e3, hl]
    simp (disch := omega) only [c_lt, c_le, c_blt, c_ble, c_beq]
    rw [firstNZ]
    by_cases hz : m i c = 0
    · rw [if_pos hz, c_eq hz, c_fits (by omega)]
      exact ih M (i + 1) (by omega) (by omega)
    · rw [if_neg hz, c_neq hz]
theorem red_l3 (z : β) {W c q F : Nat} {p v : Int} {pool : List (List Int)} (hw : (rowAt pool q).length = W) (hv : (rowAt pool q)[c]?.getD 0 = v) (hc : c < W) (hW2 : W ≤ 1000) (hp : 3 ≤ p ∧ p ≤ 97) (hv2 : 0 ≤ v ∧ v < p)
    (f1 : 1 ≤ F) (f2 : (F : Int) < p) (f3 : (v * (F : Int)).tmod p = 1) (f4 : ∀ k : Nat, 1 ≤ k → k < F → (v * (k : Int)).tmod p ≠ 1) (a b tc : Nat) (t7 : Int) (h0 h3 : List (Nat × Nat)) (h1 : List (List Int)) (k : Int → β) :
    ∀ d M y, 1 ≤ y → y + d = F → d < M → s_l08Reduce_l3 z p a b tc t7 c q 0 W W W h0 h1 pool h3 M y k = k F := by
  unfold rowAt at hw hv
  intro d
  induction d with
  | zero =>
    intro M y hy hd hM
    obtain ⟨M, rfl⟩ : ∃ M', M = M' + 1 := ⟨M - 1, by omega⟩
    have : y = F := by omega
    subst this
    have hb := mul_bd (a := v) (b := (y : Int)) (by omega) (by omega)
    rw [s_l08Reduce_l3, s_l08Reduce_l3_s]
    simp only [c_and, c_not, Int.toNat_natCast, addO_eq, Nat.zero_add, hw, hv, Int.mul_comm (y : Int) v]
    simp (disch := omega) only [c_lt, c_le, c_blt, c_beq, c_fits, c_neq, c_nne]
  | succ d ih =>
    intro M y hy hd hM
    obtain ⟨M, rfl⟩ : ∃ M', M = M' + 1 := ⟨M - 1, by omega⟩
    have hb := mul_bd (a := v) (b := (y : Int)) (by omega) (by omega)
    have hne := f4 y hy (by omega)
    rw [s_l08Reduce_l3, s_l08Reduce_l3_s]
    simp only [c_and, c_not, Int.toNat_natCast, addO_eq, Nat.zero_add, hw, hv, Int.mul_comm (y : Int) v]
    simp (disch := omega) only [c_lt, c_le, c_blt, c_beq, c_fits, c_neq]
    rw [c_ne hne]
    exact ih M (y + 1) (by omega) (by omega) (by omega)
/-- A row that is multiplied up to a column. -/
def scaP (m : Mat) (p f : Int) (r j : Nat) : Mat := fun i' j' => if i' = r ∧ j' < j then (m r j' * f).tmod p else m i' j'
theorem red_l4 (z : β) {N R W r : Nat} (hN : W < N) {m : Mat} {p f : Int} {ids : List (Nat × Nat)} {pool : List (List Int)} (h : TabF ids pool R W m) (hr : r < R) (hW2 : W ≤ 1000) (hp : 3 ≤ p ∧ p ≤ 97) (hb : Bnd p R W m) (hf : 0 ≤ f ∧ f < p)
    (a b tc : Nat) (t7 t8 : Int) (h0 h3 : List (Nat × Nat)) (h1 : List (List Int)) (k : List (List Int) → β) :
    ∃ pool', TabF ids pool' R W (scaleM m p f r) ∧ s_l08Reduce_l4 z p a b tc t7 t8 (idAt ids r).1 0 W W W f h0 h1 h3 N 0 pool k = k pool' := by
  have := up_to_ex (L := fun M j (P : List (List Int)) => s_l08Reduce_l4 z p a b tc t7 t8 (idAt ids r).1 0 W W W f h0 h1 h3 M (j : Int) P k) (n := W) (out := k)
    (I := fun j P => TabF ids P R W (scaP m p f r j))
    (fun j P hj hI => ⟨putP ids P r j ((m r j * f).tmod p), fun M => by
      have e2 := hI.wide r hr
      have e3 := hI.cell r j hr hj
      rw [show scaP m p f r j r j = m r j by unfold scaP; rw [if_neg (by omega)]] at e3
      have hv := hb r j hr hj
      have hm := mul_bd (a := m r j) (b := f) (by omega) (by omega)
      unfold rowAt at e2 e3
      unfold putP rowAt
      rw [s_l08Reduce_l4, s_l08Reduce_l4_s]
      simp only [c_and, c_not, Int.toNat_natCast, addO_eq, Nat.zero_add, e2, e3]
      simp (disch := omega) only [c_lt, c_le, c_blt, c_ble, c_beq, c_fits, c_neq]
      rfl, (hI.put hr hj _).congr fun i' j' hi' hj' => by
        unfold putM scaP
        by_cases e1 : i' = r
        · by_cases e2 : j' = j
          · rw [if_pos ⟨e1, e2⟩, if_pos ⟨e1, by omega⟩, e2]
          · rw [if_neg (fun hh => e2 hh.2)]
            by_cases e3 : j' < j
            · rw [if_pos ⟨e1, e3⟩, if_pos ⟨e1, by omega⟩]
            · rw [if_neg (fun hh => e3 hh.2), if_neg (by omega)]
        · rw [if_neg (fun hh => e1 hh.1), if_neg (fun hh => e1 hh.1), if_neg (fun hh => e1 hh.1)]⟩)
    (fun M P _ => by simp (disch := omega) only [s_l08Reduce_l4, s_l08Reduce_l4_s, c_ble, c_nlt]) W N 0 pool (by omega) hN (h.congr fun i' j' _ _ => by unfold scaP; rw [if_neg (by omega)])
  obtain ⟨P, h1, h2⟩ := this
  exact ⟨P, h2.congr fun i' j' _ hj' => by
    unfold scaP scaleM
    by_cases e1 : i' = r
    · rw [if_pos ⟨e1, hj'⟩, if_pos e1]
    · rw [if_neg (fun hh => e1 hh.1), if_neg e1], h1⟩
end
end Go.AM

namespace Go.AM
section
variable {β : Type}
def nxtF (val : Nat → Int) (j : Nat) (s : List Int) : List Int := s ++ [val j]
theorem nxtF_spec (val : Nat → Int) (W : Nat) : (iter (nxtF val) W 0 []).length = W ∧ ∀ j, j < W → (iter (nxtF val) W 0 [])[j]?.getD 0 = val j := by
  have := iter_inv (f := nxtF val) (n := W) (I := fun i s => s.length = i ∧ ∀ j, j < i → s[j]?.getD 0 = val j) (fun i s _ ⟨h1, h2⟩ => by
    unfold nxtF
    refine ⟨by rw [len1, h1], fun j hj => ?_⟩
    by_cases e : j = i
    · subst e
      have := get_app_eq (xs := s) (x := val j)
      rwa [h1] at this
    · rw [get_app_lt (by omega)]; exact h2 j (by omega)) W 0 [] (by omega) ⟨rfl, fun j hj => by omega⟩
  rwa [Nat.zero_add] at this
theorem red_l6 (z : β) {N R W r i : Nat} (hN : W < N) {m : Mat} {p t : Int} {ids : List (Nat × Nat)} {pool : List (List Int)} (h : TabF ids pool R W m) (hl : ids.length = R) (hR : R ≤ 1000) (hr : r < R) (hi : i < R) (hW2 : W ≤ 1000) (hp : 3 ≤ p ∧ p ≤ 97) (hb : Bnd p R W m) (ht : 0 ≤ t ∧ t < p)
    (tc : Nat) (t7 t8 : Int) (h0 : List (Nat × Nat)) (h1 : List (List Int)) (k : Nat → Nat → Nat → List Int → β) :
    s_l08Reduce_l6 z p R R tc t7 t8 (idAt ids r).1 0 W W W i t h0 h1 pool ids N 0 0 0 0 (List.replicate 0 0) k =
      k W W W (iter (nxtF fun j => ((m i j - t * m r j).tmod p + p).tmod p) W 0 []) := by
  have hlen : ∀ j, (iter (nxtF fun j => ((m i j - t * m r j).tmod p + p).tmod p) j 0 []).length = j := fun j => (nxtF_spec _ j).1
  have := up_to (L := fun M j (s : List Int) => s_l08Reduce_l6 z p R R tc t7 t8 (idAt ids r).1 0 W W W i t h0 h1 pool ids M s.length s.length s.length (j : Int) s k) (n := W) (out := fun s => k s.length s.length s.length s) (f := nxtF fun j => ((m i j - t * m r j).tmod p + p).tmod p)
    (I := fun j s => s.length = j)
    (fun M j s hj hs => ⟨by
      have a2 := h.wide r hr
      have a3 := h.cell r j hr hj
      have b1 := h.sz i hi
      have b2 := h.wide i hi
      have b3 := h.cell i j hi hj
      have v1 := hb i j hi hj
      have v2 := hb r j hr hj
      have hm := mul_bd (a := t) (b := m r j) (by omega) (by omega)
      have tb1 : -p < (m i j - t * m r j).tmod p := Int.lt_tmod_of_pos _ (by omega)
      have tb2 : (m i j - t * m r j).tmod p < p := Int.tmod_lt_of_pos _ (by omega)
      unfold idAt at b1 b2 b3 a2 a3 ⊢
      unfold rowAt at a2 a3 b2 b3
      rw [s_l08Reduce_l6, s_l08Reduce_l6_s]
      simp only [c_and, c_not, c_true, Int.toNat_natCast, addO_eq, Nat.zero_add, hl, a2, a3, b1, b2, b3]
      simp (disch := omega) only [c_lt, c_le, c_blt, c_ble, c_nble, c_beq, c_fits, c_neq]
      unfold nxtF
      have e : fromTo ((List.replicate 1 (0 : Int)).set 0 (((m i j - t * m r j).tmod p + p).tmod p)) 0 1 = [((m i j - t * m r j).tmod p + p).tmod p] := rfl
      rw [e, len1]
      rfl, by unfold nxtF; rw [len1, hs]⟩)
    (fun M s hs => by simp (disch := omega) only [s_l08Reduce_l6, s_l08Reduce_l6_s, c_ble, c_nlt]) W N 0 [] (by omega) hN rfl
  rw [hlen W] at this
  exact this
/-- Rows that are cleared up to one. -/
def clrP (m : Mat) (p : Int) (r c i : Nat) : Mat := fun i' j' => if i' < i then clearM m p r c i' j' else m i' j'
theorem clr_eq {m : Mat} {p : Int} {R W r c : Nat} (hp : 3 ≤ p ∧ p ≤ 97) (hb : Bnd p R W m) (hr : r < R) (hc : c < W) {i j : Nat} (hi : i < R) (hj : j < W) (h1 : i ≠ r) (h2 : m i c ≠ 0) :
    ((m i j - m i c * m r j).tmod p + p).tmod p = clearM m p r c i j := by
  unfold clearM
  rw [if_neg (by rintro (h | h) <;> contradiction)]
  have v1 := hb i j hi hj
  have v2 := hb r j hr hj
  have v3 := hb i c hi hc
  exact sub_mod (by omega) v1.1 v3.2 v2.1
theorem clrP_row {m : Mat} {p : Int} {r c i j : Nat} : clrP m p r c i r j = m r j := by
  unfold clrP clearM
  split
  · rw [if_pos (.inl rfl)]
  · rfl
theorem clrP_own {m : Mat} {p : Int} {r c i j : Nat} : clrP m p r c i i j = m i j := by
  unfold clrP; rw [if_neg (by omega)]
theorem clrP_bd {m : Mat} {p : Int} {R W r c i : Nat} (hp : 0 < p) (hb : Bnd p R W m) (hr : r < R) (hc : c < W) : Bnd p R W (clrP m p r c i) := fun i' j' hi hj => by
  unfold clrP
  split
  · exact clearM_bd hp hb hr hc i' j' hi hj
  · exact hb i' j' hi hj
theorem red_l5 (z : β) {N R W r c : Nat} (hN : W < N ∧ R < N) {m : Mat} {p : Int} {ids : List (Nat × Nat)} {pool : List (List Int)} (h : TabF ids pool R W m) (hl : ids.length = R) (hR : R ≤ 1000) (hr : r < R) (hc : c < W) (hW2 : W ≤ 1000) (hp : 3 ≤ p ∧ p ≤ 97) (hb : Bnd p R W m)
    (tc : Nat) (h0 : List (Nat × Nat)) (h1 : List (List Int)) (k : List (List Int) → List (Nat × Nat) → β) :
    ∃ pool' ids', TabF ids' pool' R W (clearM m p r c) ∧ ids'.length = R ∧ s_l08Reduce_l5 z N p R R tc r c (idAt ids r).1 0 W W W h0 h1 N 0 pool ids k = k pool' ids' := by
  have := up_to_ex (L := fun M i (s : List (List Int) × List (Nat × Nat)) => s_l08Reduce_l5 z N p R R tc r c (idAt ids r).1 0 W W W h0 h1 M (i : Int) s.1 s.2 k) (n := R) (out := fun s => k s.1 s.2)
    (I := fun i s => TabF s.2 s.1 R W (clrP m p r c i) ∧ s.2.length = R ∧ (idAt s.2 r).1 = (idAt ids r).1)
    (fun i s hi ⟨i1, i2, i3⟩ => by
      obtain ⟨P, I⟩ := s
      simp only at i1 i2 i3 ⊢
      have b1 := i1.sz i hi
      have b2 := i1.wide i hi
      have b3 := i1.cell i c hi hc
      rw [clrP_own] at b3
      unfold idAt at b1 b2 b3
      unfold rowAt at b2 b3
      by_cases e1 : i = r
      · refine ⟨(P, I), fun M => ?_, i1.congr fun i' j' _ _ => ?_, i2, i3⟩
        · rw [s_l08Reduce_l5, s_l08Reduce_l5_s]
          simp only [c_and, Int.toNat_natCast, i2, b1, b2, b3]
          simp (disch := omega) only [c_lt, c_le, c_blt, c_ble, c_beq, c_fits, c_eq]
          rfl
        · unfold clrP
          by_cases a : i' < i
          · rw [if_pos a, if_pos (by omega)]
          · rw [if_neg a]
            split
            · have : i' = r := by omega
              unfold clearM; rw [if_pos (.inl this)]
            · rfl
      · by_cases e2 : m i c = 0
        · refine ⟨(P, I), fun M => ?_, i1.congr fun i' j' _ _ => ?_, i2, i3⟩
          · rw [s_l08Reduce_l5, s_l08Reduce_l5_s]
            simp only [c_and, Int.toNat_natCast, i2, b1, b2, b3]
            simp (disch := omega) only [c_lt, c_le, c_blt, c_ble, c_beq, c_fits, c_eq, c_neq]
            rfl
          · unfold clrP
            by_cases a : i' < i
            · rw [if_pos a, if_pos (by omega)]
            · rw [if_neg a]
              split
              · have : i' = i := by omega
                unfold clearM; rw [if_pos (.inr (by rw [this]; exact e2))]
              · rfl
        · have hxs := nxtF_spec (fun j => ((clrP m p r c i i j - m i c * clrP m p r c i r j).tmod p + p).tmod p) W
          refine ⟨(P ++ [iter (nxtF fun j => ((clrP m p r c i i j - m i c * clrP m p r c i r j).tmod p + p).tmod p) W 0 []], I.set i (P.length, W)), fun M => ?_, ?_, by simpa using i2, ?_⟩
          · rw [s_l08Reduce_l5, s_l08Reduce_l5_s]
            simp only [c_and, Int.toNat_natCast, i2, b1, b2, b3]
            simp (disch := omega) only [c_lt, c_le, c_blt, c_ble, c_beq, c_fits, c_neq]
            have v := hb i c hi hc
            rw [← i3, red_l6 z hN.1 i1 i2 hR hr hi hW2 hp (clrP_bd (by omega) hb hr hc) v]
            simp only [hxs.1]
            simp (disch := omega) only [c_lt, c_le, c_blt, c_ble, c_beq, c_fits, c_true]
            rfl
          · refine (i1.fresh hi hxs.1 rfl).congr fun i' j' hi' hj' => ?_
            unfold rowM
            by_cases a : i' = i
            · subst a
              rw [if_pos rfl, hxs.2 j' hj', clrP_own, clrP_row, clr_eq hp hb hr hc hi' hj' e1 e2]
              unfold clrP
              rw [if_pos (by omega)]
            · rw [if_neg a]
              unfold clrP
              by_cases a2 : i' < i
              · rw [if_pos a2, if_pos (by omega)]
              · rw [if_neg a2, if_neg (by omega)]
          · rw [idAt_set (by omega), if_neg (Ne.symm e1)]; exact i3)
    (fun M s _ => by simp (disch := omega) only [s_l08Reduce_l5, s_l08Reduce_l5_s, c_ble, c_nlt]) R N 0 (pool, ids) (by omega) hN.2 ⟨h.congr fun i' j' _ _ => by unfold clrP; rw [if_neg (by omega)], hl, rfl⟩
  obtain ⟨s, h1, h2, h3, _⟩ := this
  exact ⟨s.1, s.2, h2.congr fun i' j' hi' _ => by unfold clrP; rw [if_pos hi'], h3, h1⟩
end
end Go.AM

namespace Go.AM
section
variable {β : Type}
theorem red_l1 (z : β) {N R W : Nat} (hN : W < N ∧ R < N ∧ 100 < N) {p : Int} (hpr : primeB p = true) (hR : 1 ≤ R ∧ R ≤ 1000) (hW2 : W ≤ 1000) (tc : Nat) (h0 : List (Nat × Nat)) (h1 : List (List Int)) (k : Int → List (List Int) → List (Nat × Nat) → β) :
    ∀ d M c (s : Mat × Nat) (pool : List (List Int)) (ids : List (Nat × Nat)), c + d = W → d < M → TabF ids pool R W s.1 → ids.length = R → ElimI p R W s →
    ∃ pool' ids', s_l08Reduce_l1 z N p R R tc h0 h1 M s.2 c pool ids k = k (iter (stepE p R) d c s).2 pool' ids' ∧ TabF ids' pool' R W (iter (stepE p R) d c s).1 ∧ ids'.length = R := by
  have hp := primeB_bd hpr
  intro d
  induction d with
  | zero =>
    intro M c s pool ids hc hM h hl hE
    obtain ⟨M, rfl⟩ : ∃ M', M = M' + 1 := ⟨M - 1, by omega⟩
    have b1 := h.sz 0 (by omega)
    unfold idAt at b1
    refine ⟨pool, ids, ?_, h, hl⟩
    rw [s_l08Reduce_l1, s_l08Reduce_l1_s]
    simp only [c_and, hl, b1]
    simp (disch := omega) only [c_lt, c_nlt, c_ble, c_blt, c_beq]
    rfl
  | succ d ih =>
    intro M c s pool ids hc hM h hl hE
    obtain ⟨M, rfl⟩ : ∃ M', M = M' + 1 := ⟨M - 1, by omega⟩
    have b1 := h.sz 0 (by omega)
    unfold idAt at b1
    have hrk := hE.rk
    obtain ⟨q1, q2, q3, q4⟩ := pivE_spec R c hrk
    rw [s_l08Reduce_l1, s_l08Reduce_l1_s]
    simp only [c_and, hl, b1]
    simp (disch := omega) only [c_lt, c_ble, c_blt, c_beq]
    rw [red_l2 z h hl (by omega) (by omega) hW2 p s.2 tc h0 h1 _ (R - s.2) N s.2 (by omega) (by omega), show firstNZ (fun i => s.1 i c) (R - s.2) s.2 = pivE R c s from rfl]
    rw [iter]
    by_cases hk : pivE R c s < R
    · have hs : stepE p R c s = (clearM (scaE p R c s) p s.2 c, s.2 + 1) := by unfold stepE; rw [if_pos hk]
      have hE' := hE.step hpr (c := c) (by omega)
      rw [hs] at hE' ⊢
      have F := facE_spec hpr hE.bd hrk (c := c) (by omega) hk
      have hsw := h.swap (a := s.2) (b := pivE R c s) (by omega) hk
      have hl2 : ((ids.set s.2 (idAt ids (pivE R c s))).set (pivE R c s) (idAt ids s.2)).length = R := by simpa using hl
      have hsz1 := h.sz (pivE R c s) hk
      have hsz2 := h.sz s.2 (by omega)
      have hw := h.wide (pivE R c s) hk
      have hv := h.cell (pivE R c s) c hk (by omega)
      have hvb := hE.bd (pivE R c s) c hk (by omega)
      have hnz := q3 hk
      -- both orders of the exchange come to the same header
      have hcom : (ids.set (pivE R c s) (idAt ids s.2)).set s.2 (idAt ids (pivE R c s)) = (ids.set s.2 (idAt ids (pivE R c s))).set (pivE R c s) (idAt ids s.2) := by
        by_cases e : s.2 = pivE R c s
        · rw [← e]
        · exact List.set_comm _ _ (Ne.symm e)
      have eid : idAt ((ids.set s.2 (idAt ids (pivE R c s))).set (pivE R c s) (idAt ids s.2)) s.2 = idAt ids (pivE R c s) := by
        rw [idAt_swap (by omega) (by omega)]
        congr 1
        unfold swapN
        split
        · omega
        · rw [if_pos rfl]
      have hF : facE p R c s = ((invN p.toNat (s.1 (pivE R c s) c).toNat : Nat) : Int) := rfl
      rw [hF] at F
      obtain ⟨pool2, t2, e2⟩ := red_l4 z hN.1 hsw (by omega : s.2 < R) hW2 hp (swapM_bd hE.bd (by omega) hk) (f := facE p R c s) (by rw [hF]; omega) R R tc s.2 c h0 (ids.set (pivE R c s) (idAt ids s.2)) h1
        (fun q16 => s_l08Reduce_l5 z N p R R tc s.2 c (idAt ids (pivE R c s)).1 0 W W W h0 h1 N 0 q16 ((ids.set s.2 (idAt ids (pivE R c s))).set (pivE R c s) (idAt ids s.2)) (fun q17 q18 => s_l08Reduce_l1 z N p R R tc h0 h1 M (s.2 + 1 : Nat) (c + 1 : Nat) q17 q18 k))
      rw [eid] at e2
      obtain ⟨pool3, ids3, t3, l3, e3⟩ := red_l5 z ⟨hN.1, hN.2.1⟩ t2 hl2 (by omega) (by omega : s.2 < R) (by omega : c < W) hW2 hp (hE.sca hpr (by omega) hk) tc h0 h1 (fun q17 q18 => s_l08Reduce_l1 z N p R R tc h0 h1 M (s.2 + 1 : Nat) (c + 1 : Nat) q17 q18 k)
      rw [eid] at e3
      obtain ⟨pool4, ids4, e4, t4, l4⟩ := ih M (c + 1) (clearM (scaE p R c s) p s.2 c, s.2 + 1) pool3 ids3 (by omega) (by omega) t3 l3 hE'
      refine ⟨pool4, ids4, ?_, t4, l4⟩
      refine Eq.trans ?_ (e2.trans (e3.trans e4))
      simp only [Int.toNat_natCast, List.length_set, hl]
      simp (disch := omega) only [c_lt, c_le, c_ble, c_blt, c_beq, c_neq]
      rw [show (ids[pivE R c s]?.getD (0, 0)) = idAt ids (pivE R c s) from rfl, show (ids[s.2]?.getD (0, 0)) = idAt ids s.2 from rfl]
      rw [hsz1]
      refine Eq.trans (red_l3 z hw hv (by omega) hW2 hp hvb (by omega) (by omega) F.2.2.1 (fun k' k1 k2 => F.2.2.2 k' k1 (by omega)) R R tc s.2 h0 _ h1 _ (invN p.toNat (s.1 (pivE R c s) c).toNat - 1) N 1 (by omega) (by omega) (by omega)) ?_
      rw [hF]
      congr 1
      funext q16
      simp (disch := omega) only [c_beq, c_fits]
      rw [show ((idAt ids s.2).1, (idAt ids s.2).2) = idAt ids s.2 from rfl, show ((idAt ids (pivE R c s)).1, W) = idAt ids (pivE R c s) by rw [← hsz1]]
      rw [hcom]
      congr 1
    · have hs : stepE p R c s = s := by unfold stepE; rw [if_neg hk]
      rw [hs]
      have : pivE R c s = R := by omega
      simp (disch := omega) only [c_eq, c_fits]
      exact ih M (c + 1) s pool ids (by omega) (by omega) h hl hE
end
end Go.AM

namespace Go.AM
section
variable {β : Type}
/-- A matrix modulo p. -/
def modM (m : Mat) (p : Int) : Mat := fun i j => ((m i j).tmod p + p).tmod p
theorem modM_bd {m : Mat} {p : Int} (hp : 3 ≤ p) (R W : Nat) : Bnd p R W (modM m p) := fun i j _ _ => by
  have : -p < (m i j).tmod p := Int.lt_tmod_of_pos _ (by omega)
  exact tmodE_bd (by omega) (by omega)
theorem ech_l1 (z : β) {N W q : Nat} (hN : W < N) {P : List (List Int)} {v : Nat → Int} (hw : (rowAt P q).length = W) (hv : ∀ j, j < W → (rowAt P q)[j]?.getD 0 = v j) (hW2 : W ≤ 1000) {p : Int} (hp : 3 ≤ p ∧ p ≤ 97)
    (t1 t26 t27 : Int) (a b c d e f : Nat) (h0 h3 : List (Nat × Nat)) (h2 : List (List Int)) (h4 : List Int) (k : Nat → Nat → Nat → List Int → β) :
    i_echelon_l1 z t1 p a b c d e f t26 t27 q 0 W W W W h0 P h2 h3 h4 N 0 0 0 0 (List.replicate 0 0) k = k W W W (iter (nxtF fun j => ((v j).tmod p + p).tmod p) W 0 []) := by
  have hlen : ∀ j, (iter (nxtF fun j => ((v j).tmod p + p).tmod p) j 0 []).length = j := fun j => (nxtF_spec _ j).1
  have := up_to (L := fun M j (s : List Int) => i_echelon_l1 z t1 p a b c d e f t26 t27 q 0 W W W W h0 P h2 h3 h4 M s.length s.length s.length (j : Int) s k) (n := W) (out := fun s => k s.length s.length s.length s) (f := nxtF fun j => ((v j).tmod p + p).tmod p)
    (I := fun j s => s.length = j)
    (fun M j s hj hs => ⟨by
      have a3 := hv j hj
      have tb1 : -p < (v j).tmod p := Int.lt_tmod_of_pos _ (by omega)
      have tb2 : (v j).tmod p < p := Int.tmod_lt_of_pos _ (by omega)
      unfold rowAt at a3 hw
      rw [i_echelon_l1, i_echelon_l1_s]
      simp only [c_and, c_not, c_true, Int.toNat_natCast, addO_eq, Nat.zero_add, hw, a3]
      simp (disch := omega) only [c_lt, c_le, c_blt, c_ble, c_nble, c_beq, c_fits, c_neq]
      unfold nxtF
      have e : fromTo ((List.replicate 1 (0 : Int)).set 0 (((v j).tmod p + p).tmod p)) 0 1 = [((v j).tmod p + p).tmod p] := rfl
      rw [e, len1]
      rfl, by unfold nxtF; rw [len1, hs]⟩)
    (fun M s hs => by simp (disch := omega) only [i_echelon_l1, i_echelon_l1_s, c_nlt]) W N 0 [] (by omega) hN rfl
  rw [hlen W] at this
  exact this
theorem ech_l0 (z : β) {N R W : Nat} (hN : R < N ∧ W < N) (hR : R ≤ 1000) (hW2 : W ≤ 1000) {ids0 : List (Nat × Nat)} {P0 : List (List Int)} {m : Mat} (h : TabF ids0 P0 R W m) (hl : ids0.length = R) {p : Int} (hp : 3 ≤ p ∧ p ≤ 97) (t1 : Int) (c0 : Nat) (h4 : List Int)
    (k : Nat → Nat → Nat → List (List Int) → List (Nat × Nat) → β) :
    ∃ T : List (List Int), T.length = R ∧ TabF (idsOf T) T R W (modM m p) ∧ i_echelon_l0 z N t1 p R R c0 R ids0 P0 h4 N 0 0 0 0 (List.replicate 0 []) (List.map (fun (i : Nat) => (i, 0)) (List.range 0)) k = k R R R T (idsOf T) := by
  have := up_to_ex (L := fun M i (T : List (List Int)) => i_echelon_l0 z N t1 p R R c0 R ids0 P0 h4 M i i i (i : Int) T (idsOf T) k) (n := R) (out := fun T => k R R R T (idsOf T))
    (I := fun i T => T.length = i ∧ (∀ a, a < i → (rowAt T a).length = W) ∧ ∀ a b, a < i → b < W → (rowAt T a)[b]?.getD 0 = modM m p a b)
    (fun i T hi ⟨i1, i2, i3⟩ => ⟨T ++ [iter (nxtF fun j => ((m i j).tmod p + p).tmod p) W 0 []], fun M => by
      have e1 := h.sz i hi
      have e2 := h.wide i hi
      have hx := nxtF_spec (fun j => ((m i j).tmod p + p).tmod p) W
      unfold idAt at e1 e2
      have hlen := idsOf_len T
      rw [i_echelon_l0, i_echelon_l0_s]
      simp only [c_and, c_true, Int.toNat_natCast, hl]
      simp (disch := omega) only [c_lt, c_le, c_blt, c_ble, c_beq, e1]
      rw [ech_l1 z hN.2 e2 (fun j hj => h.cell i j hi hj) hW2 hp]
      simp only [hx.1]
      simp (disch := omega) only [c_lt, c_le, c_blt, c_ble, c_nble, c_beq, c_fits]
      rw [idsOf_app, hx.1, List.length_append, hlen, List.length_singleton, i1]
      rfl, by rw [len1, i1], fun a ha => by
        have hx := nxtF_spec (fun j => ((m i j).tmod p + p).tmod p) W
        unfold rowAt
        by_cases e : a = i
        · subst e; rw [List.getElem?_append_right (by omega), i1, Nat.sub_self]; exact hx.1
        · rw [List.getElem?_append_left (by omega)]; exact i2 a (by omega), fun a b ha hb => by
        have hx := nxtF_spec (fun j => ((m i j).tmod p + p).tmod p) W
        unfold rowAt
        by_cases e : a = i
        · subst e; rw [List.getElem?_append_right (by omega), i1, Nat.sub_self]; exact hx.2 b hb
        · rw [List.getElem?_append_left (by omega)]; exact i3 a b (by omega) hb⟩)
    (fun M T ⟨i1, _, _⟩ => by simp (disch := omega) only [i_echelon_l0, i_echelon_l0_s, c_nlt]) R N 0 [] (by omega) hN.1 ⟨rfl, fun a ha => by omega, fun a b ha => by omega⟩
  obtain ⟨T, h1, h2, h3, h4⟩ := this
  exact ⟨T, h2, TabF.of_app h2 h3 h4, h1⟩
theorem idx_l0 (z : β) {N R W c : Nat} {m : Mat} {ids : List (Nat × Nat)} {pool : List (List Int)} (h : TabF ids pool R W m) (hl : ids.length = R) (hR : R ≤ 1000) (hc : c < W) (hW2 : W ≤ 1000) {o l cc : Nat} (hol : o + l = R) (k0 : Int → β) (k1 : β) :
    ∀ d M i, i + d = l → d < M → slices_IndexFunc_int64_int64_l0_s2 z N o R l cc l ids c pool M i k0 k1 = if firstNZ (fun i => m i c) d (o + i) < R then k0 ((firstNZ (fun i => m i c) d (o + i) : Int) - o) else k1 := by
  intro d
  induction d with
  | zero =>
    intro M i hi hM
    obtain ⟨M, rfl⟩ : ∃ M', M = M' + 1 := ⟨M - 1, by omega⟩
    rw [if_neg (by unfold firstNZ; omega)]
    simp (disch := omega) only [slices_IndexFunc_int64_int64_l0_s2, slices_IndexFunc_int64_int64_l0_s2_s, c_nlt]
  | succ d ih =>
    intro M i hi hM
    obtain ⟨M, rfl⟩ : ∃ M', M = M' + 1 := ⟨M - 1, by omega⟩
    have e1 := h.sz (o + i) (by omega)
    have e2 := h.wide (o + i) (by omega)
    have e3 := h.cell (o + i) c (by omega) hc
    unfold idAt at e1 e2 e3
    unfold rowAt at e2 e3
    rw [slices_IndexFunc_int64_int64_l0_s2, slices_IndexFunc_int64_int64_l0_s2_s]
    simp only [i_echelon_1, c_and, Int.toNat_natCast, addO_eq, Nat.zero_add, e1, e2, e3, hl]
    simp (disch := omega) only [c_lt, c_le, c_blt, c_ble, c_beq]
    rw [firstNZ]
    by_cases hz : m (o + i) c = 0
    · rw [if_pos hz, c_nne hz, c_fits (by omega)]
      exact ih M (i + 1) (by omega) (by omega)
    · rw [if_neg hz, c_ne hz, if_pos (by omega)]
      congr 1
      omega
theorem inv_val (z : β) {N F : Nat} (hN : 100 < N) {p v : Int} (hp : 3 ≤ p ∧ p ≤ 97) (hv2 : 0 ≤ v ∧ v < p) (f1 : 1 ≤ F) (f2 : (F : Int) < p) (f3 : (v * (F : Int)).tmod p = 1) (f4 : ∀ k : Nat, 1 ≤ k → k < F → (v * (k : Int)).tmod p ≠ 1) (k : Int → β) :
    i_inverse z N v p k = k F := by
  unfold i_inverse
  have key : ∀ d M y, y + d = F → d < M → i_inverse_l0 z v p p M y (fun q5 => k q5) (k 0) = k F := by
    intro d
    induction d with
    | zero =>
      intro M y hd hM
      obtain ⟨M, rfl⟩ : ∃ M', M = M' + 1 := ⟨M - 1, by omega⟩
      have : y = F := by omega
      subst this
      have hb := mul_bd (a := v) (b := (y : Int)) (by omega) (by omega)
      rw [i_inverse_l0, i_inverse_l0_s]
      simp only [c_not]
      simp (disch := omega) only [c_lt, c_fits, c_neq, c_eq]
    | succ d ih =>
      intro M y hd hM
      obtain ⟨M, rfl⟩ : ∃ M', M = M' + 1 := ⟨M - 1, by omega⟩
      have hb := mul_bd (a := v) (b := (y : Int)) (by omega) (by omega)
      have hne : (v * (y : Int)).tmod p ≠ 1 := by
        rcases Nat.eq_zero_or_pos y with e | e
        · subst e; simp
        · exact f4 y e (by omega)
      rw [i_inverse_l0, i_inverse_l0_s]
      simp only [c_not]
      simp (disch := omega) only [c_lt, c_fits, c_neq]
      exact ih M (y + 1) (by omega) (by omega)
  exact key F N 0 (by omega) (by omega)
theorem ech_l3 (z : β) {N R W r : Nat} (hN : W < N) {m : Mat} {p f : Int} {ids : List (Nat × Nat)} {pool : List (List Int)} (h : TabF ids pool R W m) (hl : ids.length = R) (hr : r < R) (hR : R ≤ 1000) (hW2 : W ≤ 1000) (hp : 3 ≤ p ∧ p ≤ 97) (hb : Bnd p R W m) (hf : 0 ≤ f ∧ f < p)
    (tc a b c : Nat) (t54 t55 h5 : Int) (h0 : List (Nat × Nat)) (h1 : List (List Int)) (h4 : List Int) (k : List (List Int) → β) :
    ∃ pool', TabF ids pool' R W (scaleM m p f r) ∧ i_echelon_l3 z p R R tc a b c r f t54 t55 W h0 h1 ids h4 h5 N 0 pool k = k pool' := by
  have := up_to_ex (L := fun M j (P : List (List Int)) => i_echelon_l3 z p R R tc a b c r f t54 t55 W h0 h1 ids h4 h5 M (j : Int) P k) (n := W) (out := k)
    (I := fun j P => TabF ids P R W (scaP m p f r j))
    (fun j P hj hI => ⟨putP ids P r j ((m r j * f).tmod p), fun M => by
      have e1 := hI.sz r hr
      have e2 := hI.wide r hr
      have e3 := hI.cell r j hr hj
      rw [show scaP m p f r j r j = m r j by unfold scaP; rw [if_neg (by omega)]] at e3
      have hv := hb r j hr hj
      have hm := mul_bd (a := m r j) (b := f) (by omega) (by omega)
      unfold putP
      unfold idAt at e1 e2 e3 ⊢
      unfold rowAt at e2 e3 ⊢
      rw [i_echelon_l3, i_echelon_l3_s]
      simp only [c_and, c_not, Int.toNat_natCast, hl, e1, e2, e3]
      simp (disch := omega) only [c_lt, c_le, c_blt, c_ble, c_beq, c_fits, c_neq]
      rfl, (hI.put hr hj _).congr fun i' j' hi' hj' => by
        unfold putM scaP
        by_cases e1 : i' = r
        · by_cases e2 : j' = j
          · rw [if_pos ⟨e1, e2⟩, if_pos ⟨e1, by omega⟩, e2]
          · rw [if_neg (fun hh => e2 hh.2)]
            by_cases e3 : j' < j
            · rw [if_pos ⟨e1, e3⟩, if_pos ⟨e1, by omega⟩]
            · rw [if_neg (fun hh => e3 hh.2), if_neg (by omega)]
        · rw [if_neg (fun hh => e1 hh.1), if_neg (fun hh => e1 hh.1), if_neg (fun hh => e1 hh.1)]⟩)
    (fun M P _ => by simp (disch := omega) only [i_echelon_l3, i_echelon_l3_s, c_nlt]) W N 0 pool (by omega) hN (h.congr fun i' j' _ _ => by unfold scaP; rw [if_neg (by omega)])
  obtain ⟨P, h1, h2⟩ := this
  exact ⟨P, h2.congr fun i' j' _ hj' => by
    unfold scaP scaleM
    by_cases e1 : i' = r
    · rw [if_pos ⟨e1, hj'⟩, if_pos e1]
    · rw [if_neg (fun hh => e1 hh.1), if_neg e1], h1⟩
/-- A loop that comes to an end, whatever comes behind it. -/
theorem up_to_exA {σ κ : Type} {L : κ → Nat → Nat → σ → β} {n : Nat} {out : κ → σ → β} {I : Nat → σ → Prop}
    (hs : ∀ i s, i < n → I i s → ∃ s', (∀ k m, L k (m + 1) i s = L k m (i + 1) s') ∧ I (i + 1) s') (he : ∀ k m s, I n s → L k (m + 1) n s = out k s) :
    ∀ (d i : Nat) (s : σ), i + d = n → I i s → ∃ s', I n s' ∧ ∀ k m, d < m → L k m i s = out k s' := by
  intro d
  induction d with
  | zero =>
    intro i s hi h0
    have : i = n := by omega
    subst this
    refine ⟨s, h0, fun k m hm => ?_⟩
    obtain ⟨m, rfl⟩ : ∃ m', m = m' + 1 := ⟨m - 1, by omega⟩
    exact he k m s h0
  | succ d ih =>
    intro i s hi h0
    obtain ⟨s', h1, h2⟩ := hs i s (by omega) h0
    obtain ⟨s'', h3, h4⟩ := ih (i + 1) s' (by omega) h2
    refine ⟨s'', h3, fun k m hm => ?_⟩
    obtain ⟨m, rfl⟩ : ∃ m', m = m' + 1 := ⟨m - 1, by omega⟩
    rw [h1]
    exact h4 k m (by omega)
/-- A row from which another is taken away up to a column. -/
def subP (m : Mat) (p t : Int) (r i j : Nat) : Mat := fun i' j' => if i' = i ∧ j' < j then (m i j' + (p - t) * m r j').tmod p else m i' j'
theorem ech_l5_all (z : β) {N R W r i : Nat} (hN : W < N) {m : Mat} {p t : Int} {ids : List (Nat × Nat)} {pool : List (List Int)} (h : TabF ids pool R W m) (hl : ids.length = R) (hr : r < R) (hi : i < R) (hir : i ≠ r) (hR : R ≤ 1000) (hW2 : W ≤ 1000) (hp : 3 ≤ p ∧ p ≤ 97) (hb : Bnd p R W m) (ht : 0 < t ∧ t < p)
    (tc a b c : Nat) (t54 t55 t119 h5 : Int) (t120 : Int) (h0 : List (Nat × Nat)) (h1 : List (List Int)) (h4 : List Int) :
    ∃ pool', TabF ids pool' R W (subP m p t r i W) ∧ ∀ k : List (List Int) → β, i_echelon_l5 z p R R tc a b c r i t t54 t55 t119 t120 W h0 h1 ids h4 h5 N 0 pool k = k pool' := by
  have := up_to_exA (κ := List (List Int) → β) (L := fun k M j (P : List (List Int)) => i_echelon_l5 z p R R tc a b c r i t t54 t55 t119 t120 W h0 h1 ids h4 h5 M (j : Int) P k) (n := W) (out := fun k => k)
    (I := fun j P => TabF ids P R W (subP m p t r i j))
    (fun j P hj hI => ⟨putP ids P i j ((m i j + (p - t) * m r j).tmod p), fun k M => by
      have a1 := hI.sz r hr
      have a2 := hI.wide r hr
      have a3 := hI.cell r j hr hj
      have b1 := hI.sz i hi
      have b2 := hI.wide i hi
      have b3 := hI.cell i j hi hj
      rw [show subP m p t r i j r j = m r j by unfold subP; rw [if_neg (by omega)]] at a3
      rw [show subP m p t r i j i j = m i j by unfold subP; rw [if_neg (by omega)]] at b3
      have hv := hb r j hr hj
      have hv' := hb i j hi hj
      have hm := mul_bd (a := p - t) (b := m r j) (by omega) (by omega)
      unfold putP
      unfold idAt at a1 a2 a3 b1 b2 b3 ⊢
      unfold rowAt at a2 a3 b2 b3 ⊢
      rw [i_echelon_l5, i_echelon_l5_s]
      simp only [c_and, c_not, Int.toNat_natCast, hl, a1, a2, a3, b1, b2, b3]
      simp (disch := omega) only [c_lt, c_le, c_blt, c_ble, c_beq, c_fits, c_neq]
      rfl, (hI.put hi hj _).congr fun i' j' hi' hj' => by
        unfold putM subP
        by_cases e1 : i' = i
        · by_cases e2 : j' = j
          · rw [if_pos ⟨e1, e2⟩, if_pos ⟨e1, by omega⟩, e2]
          · rw [if_neg (fun hh => e2 hh.2)]
            by_cases e3 : j' < j
            · rw [if_pos ⟨e1, e3⟩, if_pos ⟨e1, by omega⟩]
            · rw [if_neg (fun hh => e3 hh.2), if_neg (by omega)]
        · rw [if_neg (fun hh => e1 hh.1), if_neg (fun hh => e1 hh.1), if_neg (fun hh => e1 hh.1)]⟩)
    (fun k M P _ => by simp (disch := omega) only [i_echelon_l5, i_echelon_l5_s, c_nlt]) W 0 pool (by omega) (h.congr fun i' j' _ _ => by unfold subP; rw [if_neg (by omega)])
  obtain ⟨P, h1, h2⟩ := this
  exact ⟨P, h1, fun k => h2 k N hN⟩
end
end Go.AM

namespace Go.AM
section
variable {β : Type}
theorem ech_l4 (z : β) {N R W r c : Nat} (hN : W < N ∧ R < N) {m : Mat} {p : Int} {ids : List (Nat × Nat)} {pool : List (List Int)} (h : TabF ids pool R W m) (hl : ids.length = R) (hr : r < R) (hc : c < W) (hR : R ≤ 1000) (hW2 : W ≤ 1000) (hp : 3 ≤ p ∧ p ≤ 97) (hb : Bnd p R W m)
    (tc a b d : Nat) (t54 t55 : Int) (h0 : List (Nat × Nat)) (h1 : List (List Int)) (h4 : List Int) (k : List (List Int) → β) :
    ∃ pool', TabF ids pool' R W (clearM m p r c) ∧ i_echelon_l4 z N p R R tc a b d r t54 t55 R h0 h1 ids h4 c N 0 pool k = k pool' := by
  have := up_to_ex (L := fun M i (P : List (List Int)) => i_echelon_l4 z N p R R tc a b d r t54 t55 R h0 h1 ids h4 c M (i : Int) P k) (n := R) (out := k)
    (I := fun i P => TabF ids P R W (clrP m p r c i))
    (fun i P hi hI => by
      have b1 := hI.sz i hi
      have b2 := hI.wide i hi
      have b3 := hI.cell i c hi hc
      rw [clrP_own] at b3
      unfold idAt at b1 b2 b3
      unfold rowAt at b2 b3
      have go : ∀ K : Int → List (List Int) → β, i_echelon_l4_s z N p R R tc a b d r t54 t55 R h0 h1 ids h4 c i P K k =
          (if i = r ∨ m i c = 0 then K ((i : Int) + 1) P else i_echelon_l5 z p R R tc a b d r i (m i c) t54 t55 R i W h0 h1 ids h4 c N 0 P (fun q22 => K ((i : Int) + 1) q22)) := fun K => by
        rw [i_echelon_l4_s]
        simp only [c_and, Int.toNat_natCast, hl, b1, b2, b3]
        simp (disch := omega) only [c_lt, c_le, c_blt, c_ble, c_beq, c_fits]
        by_cases e1 : i = r
        · rw [if_pos (.inl e1), c_nne (by omega)]
        · rw [c_ne (by omega)]
          by_cases e2 : m i c = 0
          · rw [if_pos (.inr e2), c_nne e2]
          · rw [if_neg (by rintro (x | x) <;> contradiction), c_ne e2]
      by_cases e : i = r ∨ m i c = 0
      · refine ⟨P, fun M => ?_, hI.congr fun i' j' _ _ => ?_⟩
        · rw [i_echelon_l4, go, if_pos e]
          rfl
        · unfold clrP
          by_cases q : i' < i
          · rw [if_pos q, if_pos (by omega)]
          · rw [if_neg q]
            split
            · have e0 : i' = i := by omega
              unfold clearM
              rw [if_pos (by rw [e0]; exact e)]
            · rfl
      · have e1 : i ≠ r := fun x => e (.inl x)
        have e2 : m i c ≠ 0 := fun x => e (.inr x)
        have hv := hb i c hi hc
        have ex2 : ∃ pool', TabF ids pool' R W (subP (clrP m p r c i) p (m i c) r i W) ∧ ∀ K : List (List Int) → β, i_echelon_l5 z p R R tc a b d r i (m i c) t54 t55 R i W h0 h1 ids h4 c N 0 P K = K pool' := ech_l5_all z hN.1 hI hl hr hi e1 hR hW2 hp (clrP_bd (by omega) hb hr hc) (by omega) tc a b d t54 t55 R c i h0 h1 h4
        obtain ⟨pool', t, hk⟩ := ex2
        refine ⟨pool', fun M => ?_, t.congr fun i' j' hi' hj' => ?_⟩
        · rw [i_echelon_l4, go, if_neg e, hk]
          rfl
        · unfold subP
          by_cases q : i' = i
          · subst q
            rw [if_pos ⟨rfl, hj'⟩, clrP_own, clrP_row]
            unfold clrP
            rw [if_pos (by omega)]
            unfold clearM
            rw [if_neg e]
          · rw [if_neg (fun x => q x.1)]
            unfold clrP
            by_cases q2 : i' < i
            · rw [if_pos q2, if_pos (by omega)]
            · rw [if_neg q2, if_neg (by omega)])
    (fun M P _ => by simp (disch := omega) only [i_echelon_l4, i_echelon_l4_s, c_nlt]) R N 0 pool (by omega) hN.2 (h.congr fun i' j' _ _ => by unfold clrP; rw [if_neg (by omega)])
  obtain ⟨P, h1, h2⟩ := this
  exact ⟨P, h2.congr fun i' j' hi' _ => by unfold clrP; rw [if_pos hi'], h1⟩
end
end Go.AM

namespace Go.AM
section
variable {β : Type}
theorem idx_any (z : β) {N R W r c : Nat} (hN : R < N) {m : Mat} {ids : List (Nat × Nat)} {pool : List (List Int)} (h : TabF ids pool R W m) (hl : ids.length = R) (hR : 1 ≤ R ∧ R ≤ 1000) (hc : c < W) (hW2 : W ≤ 1000) (hr : r ≤ R) (K : Int → β) :
    cond (r.beq 0) (slices_IndexFunc_int64_int64_s2 z N 0 R (R - r) (R - r) ids c pool K)
      (cond (false || r.blt R) (slices_IndexFunc_int64_int64_s2 z N (offS R r 1) R (R - r) (R - r) ids c pool K)
        (cond (Nat.blt 0 R) (slices_IndexFunc_int64_int64_s2 z N 0 (R - 1) (R - r) (R - r) ids c pool K) z)) =
    K (if pivE R c (m, r) < R then (pivE R c (m, r) : Int) - r else -1) := by
  have ev : ∀ b : Prop, ∀ _ : Decidable b, ∀ x : Int, (if b then K x else K (-1)) = K (if b then x else -1) := fun b _ x => by split <;> rfl
  unfold slices_IndexFunc_int64_int64_s2
  by_cases h0 : r = 0
  · subst h0
    rw [c_beq rfl, c_ble (by omega)]
    exact (idx_l0 z h hl hR.2 hc hW2 (o := 0) (l := R - 0) (by omega) _ _ (R - 0) N 0 (by omega) (by omega)).trans (ev _ _ _)
  · rw [c_nbeq h0]
    by_cases h1 : r < R
    · have eo : offS R r 1 = r := by
        obtain ⟨q, rfl⟩ : ∃ q, r = q + 1 := ⟨r - 1, by omega⟩
        show cond (Nat.beq R (q + 1)) 0 (mulS (q + 1) 1) = q + 1
        rw [c_nbeq (by omega)]; rfl
      rw [Bool.false_or, c_blt h1, c_ble (by omega), eo]
      exact (idx_l0 z h hl hR.2 hc hW2 (o := r) (l := R - r) (by omega) _ _ (R - r) N 0 (by omega) (by omega)).trans (ev _ _ _)
    · have : r = R := by omega
      subst this
      rw [Bool.false_or, c_nblt (Nat.le_refl _), c_blt (by omega), c_ble (by omega), Nat.sub_self]
      obtain ⟨N, rfl⟩ : ∃ N', N = N' + 1 := ⟨N - 1, by omega⟩
      rw [slices_IndexFunc_int64_int64_l0_s2, slices_IndexFunc_int64_int64_l0_s2_s, c_nlt (by omega), if_neg]
      unfold pivE
      rw [Nat.sub_self]
      unfold firstNZ
      omega
/-- The columns of the pivots. -/
def pivL (p : Int) (R : Nat) : Nat → Nat → Mat × Nat → List Int
  | 0, _, _ => []
  | d + 1, c, s => (if pivE R c s < R then [(c : Int)] else []) ++ pivL p R d (c + 1) (stepE p R c s)
theorem ech_l2 (z : β) {N R W : Nat} (hN : W < N ∧ R < N ∧ 100 < N) {p : Int} (hpr : primeB p = true) (hR : 1 ≤ R ∧ R ≤ 1000) (hW2 : W ≤ 1000) (h0 : List (Nat × Nat)) (h1 : List (List Int)) (k : Nat → Nat → Nat → Int → List (List Int) → List (Nat × Nat) → List Int → β) :
    ∀ d M c (s : Mat × Nat) (pool : List (List Int)) (ids : List (Nat × Nat)) (pv : List Int), c + d = W → d < M → TabF ids pool R W s.1 → ids.length = R → ElimI p R W s → pv.length + d ≤ 2000 →
    ∃ pool' ids', i_echelon_l2 z N p R R R W h0 h1 M pv.length pv.length pv.length s.2 c pool ids pv k = k (pv ++ pivL p R d c s).length (pv ++ pivL p R d c s).length (pv ++ pivL p R d c s).length (iter (stepE p R) d c s).2 pool' ids' (pv ++ pivL p R d c s) ∧ TabF ids' pool' R W (iter (stepE p R) d c s).1 ∧ ids'.length = R := by
  have hp := primeB_bd hpr
  intro d
  induction d with
  | zero =>
    intro M c s pool ids pv hc hM h hl hE hpv
    obtain ⟨M, rfl⟩ : ∃ M', M = M' + 1 := ⟨M - 1, by omega⟩
    refine ⟨pool, ids, ?_, h, hl⟩
    rw [i_echelon_l2, i_echelon_l2_s, c_nlt (by omega)]
    simp only [pivL, List.append_nil]
    rfl
  | succ d ih =>
    intro M c s pool ids pv hc hM h hl hE hpv
    obtain ⟨M, rfl⟩ : ∃ M', M = M' + 1 := ⟨M - 1, by omega⟩
    have hrk := hE.rk
    obtain ⟨q1, q2, q3, q4⟩ := pivE_spec R c hrk
    rw [i_echelon_l2, i_echelon_l2_s]
    rw [c_lt (by omega)]
    simp only [c_and, c_true, Int.toNat_natCast]
    simp (disch := omega) only [c_le, c_beq]
    rw [idx_any z hN.2.1 h hl hR (by omega : c < W) hW2 hrk]
    rw [show ((s.1, s.2) : Mat × Nat) = s from rfl, iter, pivL]
    by_cases hk : pivE R c s < R
    · have hs : stepE p R c s = (clearM (scaE p R c s) p s.2 c, s.2 + 1) := by unfold stepE; rw [if_pos hk]
      have hE' := hE.step hpr (c := c) (by omega)
      rw [if_pos hk, if_pos hk]
      rw [hs] at hE' ⊢
      have F := facE_spec hpr hE.bd hrk (c := c) (by omega) hk
      have hsw := h.swap (a := s.2) (b := pivE R c s) (by omega) hk
      have hl2 : ((ids.set s.2 (idAt ids (pivE R c s))).set (pivE R c s) (idAt ids s.2)).length = R := by simpa using hl
      have hF : facE p R c s = ((invN p.toNat (s.1 (pivE R c s) c).toNat : Nat) : Int) := rfl
      rw [hF] at F
      have esw : swapM s.2 (pivE R c s) s.1 s.2 c = s.1 (pivE R c s) c := by
        unfold swapM swapN
        split
        · rename_i e; rw [← e]
        · rw [if_pos rfl]
      have w1 := hsw.sz s.2 (by omega)
      have w2 := hsw.wide s.2 (by omega)
      have w3 := hsw.cell s.2 c (by omega) (by omega)
      rw [esw] at w3
      have hvb := hE.bd (pivE R c s) c hk (by omega)
      have hlen : (pv ++ [(c : Int)]).length = pv.length + 1 := by simp
      have epv : pv ++ ([(c : Int)] ++ pivL p R d (c + 1) (clearM (scaE p R c s) p s.2 c, s.2 + 1)) = (pv ++ [(c : Int)]) ++ pivL p R d (c + 1) (clearM (scaE p R c s) p s.2 c, s.2 + 1) := by simp
      rw [epv]
      have K4 := fun q21 t => ech_l4 z ⟨hN.1, hN.2.1⟩ (pool := q21) t hl2 (by omega : s.2 < R) (by omega : c < W) hR.2 hW2 hp (hE.sca hpr (by omega) hk) R pv.length pv.length pv.length W c h0 h1 pv
        (fun q22 => i_echelon_l2 z N p R R R W h0 h1 M (pv ++ [(c : Int)]).length (pv ++ [(c : Int)]).length (pv ++ [(c : Int)]).length (s.2 + 1 : Nat) (c + 1 : Nat) q22 ((ids.set s.2 (idAt ids (pivE R c s))).set (pivE R c s) (idAt ids s.2)) (pv ++ [(c : Int)]) k)
      obtain ⟨pool2, t2, e2⟩ := ech_l3 z hN.1 hsw hl2 (by omega : s.2 < R) hR.2 hW2 hp (swapM_bd hE.bd (by omega) hk) (f := facE p R c s) (by rw [hF]; omega) R pv.length pv.length pv.length W c c h0 h1 pv
        (fun q21 => i_echelon_l4 z N p R R R pv.length pv.length pv.length s.2 W c R h0 h1 ((ids.set s.2 (idAt ids (pivE R c s))).set (pivE R c s) (idAt ids s.2)) pv c N 0 q21 (fun q22 => i_echelon_l2 z N p R R R W h0 h1 M (pv ++ [(c : Int)]).length (pv ++ [(c : Int)]).length (pv ++ [(c : Int)]).length (s.2 + 1 : Nat) (c + 1 : Nat) q22 ((ids.set s.2 (idAt ids (pivE R c s))).set (pivE R c s) (idAt ids s.2)) (pv ++ [(c : Int)]) k))
      obtain ⟨pool3, t3, e3⟩ := K4 pool2 t2
      obtain ⟨pool4, ids4, e4, t4, l4⟩ := ih M (c + 1) (clearM (scaE p R c s) p s.2 c, s.2 + 1) pool3 _ (pv ++ [(c : Int)]) (by omega) (by omega) t3 hl2 hE' (by rw [hlen]; omega)
      refine ⟨pool4, ids4, ?_, t4, l4⟩
      refine Eq.trans ?_ (e2.trans (e3.trans e4))
      have eS : (s.2 : Int) + ((pivE R c s : Int) - (s.2 : Int)) = (pivE R c s : Int) := by omega
      have e0 : fromTo ((List.replicate 1 (0 : Int)).set 0 (c : Int)) 0 1 = [(c : Int)] := rfl
      simp only [eS, Int.toNat_natCast]
      rw [show (ids[pivE R c s]?.getD (0, 0)) = idAt ids (pivE R c s) from rfl, show (ids[s.2]?.getD (0, 0)) = idAt ids s.2 from rfl]
      rw [show ((idAt ids s.2).1, (idAt ids s.2).2) = idAt ids s.2 from rfl, show ((idAt ids (pivE R c s)).1, (idAt ids (pivE R c s)).2) = idAt ids (pivE R c s) from rfl]
      generalize hJ : (ids.set s.2 (idAt ids (pivE R c s))).set (pivE R c s) (idAt ids s.2) = J at *
      unfold idAt at w1 w2 w3
      unfold rowAt at w2 w3
      simp only [w1, w2, w3, hl2, hl, List.length_set, e0]
      rw [c_nlt (by omega)]
      simp (disch := omega) only [c_lt, c_le, c_ble, c_nble, c_blt, c_beq, c_fits]
      refine Eq.trans (inv_val z hN.2.2 hp hvb (by omega) (by omega) F.2.2.1 (fun k' k1 k2 => F.2.2.2 k' k1 (by omega)) _) ?_
      rw [hF, hlen]
      rfl
    · have hs : stepE p R c s = s := by unfold stepE; rw [if_neg hk]
      rw [hs, if_neg hk, if_neg hk, List.nil_append, c_lt (by omega), c_fits (by omega)]
      exact ih M (c + 1) s pool ids pv (by omega) (by omega) h hl hE (by omega)
end
end Go.AM

namespace Go.AM
section
variable {β : Type}
def modV (p x : Int) : Int := (x.tmod p + p).tmod p
theorem modV_zero {p : Int} (hp : 3 ≤ p) : modV p 0 = 0 := by
  unfold modV
  rw [Int.zero_tmod, Int.zero_add, Int.tmod_self]
theorem modV_sgn {p : Int} (hp : 3 ≤ p) (j : Nat) : (p + 1 - 2 * (j : Int).tmod 2).tmod p = modV p (sgn j) := by
  unfold modV sgn
  have h2 : (j : Int).tmod 2 = ((j % 2 : Nat) : Int) := rfl
  rw [h2]
  by_cases h : j % 2 = 0
  · rw [if_pos h, h]
    have e1 : (1 : Int).tmod p = 1 := Int.tmod_eq_of_lt (by omega) (by omega)
    rw [e1]
    congr 1
    omega
  · have h1 : j % 2 = 1 := by omega
    rw [if_neg h, h1]
    have e1 : (-1 : Int).tmod p = -1 := by
      rw [Int.neg_tmod, Int.tmod_eq_of_lt (by omega) (by omega)]
    rw [e1]
    congr 1
    omega
/-- The matrix of the equations. -/
def eqM (n : Nat) (X O : Nat → Int) : Mat := fun i j => lineS (relL n X O i) j
theorem rows_l1 (z : β) {N n : Nat} {xs : List Int} (hN : xs.length < N) (hx : xs.length ≤ 1000) (hlt : ∀ j, j < xs.length → 0 ≤ xs[j]?.getD 0 ∧ xs[j]?.getD 0 < n) {p : Int} (hp : 3 ≤ p ∧ p ≤ 97)
    (a b c : Nat) (r : Int) (g0 : Int) (X O : Nat → Int) (h1 : List (List Int)) (h2 : List (Nat × Nat)) (k : (Nat → Int) → β) :
    s_l08Rows_l1 z p a b c r n n n xs.length xs.length xs.length g0 X O h1 h2 n xs N 0 (fun _ => 0) k = k (fun c => modV p (lineS xs c)) := by
  have := up_to (L := fun M j (g : Nat → Int) => s_l08Rows_l1 z p a b c r n n n xs.length xs.length xs.length g0 X O h1 h2 n xs M (j : Int) (fun c => modV p (g c)) k) (n := xs.length) (f := lineF xs) (I := fun _ _ => True) (out := fun g => k fun c => modV p (g c))
    (fun M j g hj _ => ⟨by
      obtain ⟨l1, l2⟩ := hlt j hj
      have hm : (j : Int).tmod 2 = ((j % 2 : Nat) : Int) := rfl
      have e : upd (fun c => modV p (g c)) (xs[j]?.getD 0).toNat (modV p (sgn j)) = fun c => modV p (lineF xs j g c) := by
        funext c
        unfold lineF
        rw [upd_at, upd_at]
        split <;> rfl
      rw [s_l08Rows_l1, s_l08Rows_l1_s]
      simp only [c_and, c_not, Int.toNat_natCast]
      simp (disch := omega) only [c_lt, c_le, c_blt, c_ble, c_beq, c_fits, c_neq]
      rw [modV_sgn hp.1, e]
      rfl, trivial⟩)
    (fun M g _ => by simp (disch := omega) only [s_l08Rows_l1, s_l08Rows_l1_s, c_ble, c_nlt]) xs.length N 0 (fun _ => 0) (by omega) hN trivial
  simp only [modV_zero hp.1] at this
  exact this
theorem s_l08Rows_val (z : β) {N n : Nat} (hN : 16 < N) (hlo : 2 ≤ n) (hhi : n ≤ 8) (X O : Nat → Int) {p : Int} (hp : 3 ≤ p ∧ p ≤ 97) (k : Nat → Nat → Nat → List (Nat × Nat) → List (List Int) → β) :
    ∃ T : List (List Int), T.length = n - 1 ∧ TabF (idsOf T) T (n - 1) n (modM (eqM n X O) p) ∧ s_l08Rows z N n X O p k = k (n - 1) (n - 1) (n - 1) (idsOf T) T := by
  unfold s_l08Rows
  have := up_to_ex (L := fun M i (T : List (List Int)) => s_l08Rows_l0 z N p n X O M i i i (i : Int) T (idsOf T) (fun q7 q8 q9 q10 q11 => k q7 q8 q9 q11 q10)) (n := n - 1) (out := fun T => k (n - 1) (n - 1) (n - 1) (idsOf T) T)
    (I := fun i T => T.length = i ∧ (∀ a, a < i → (rowAt T a).length = n) ∧ ∀ a b, a < i → b < n → (rowAt T a)[b]?.getD 0 = modM (eqM n X O) p a b)
    (fun i T hi ⟨i1, i2, i3⟩ => ⟨T ++ [(List.range n).map fun c => modV p (lineS (relL n X O i) c)], fun M => by
      have hlen := idsOf_len T
      have hrel := relL_len n X O i
      rw [s_l08Rows_l0, s_l08Rows_l0_s]
      simp only [c_and, c_true, Int.toNat_natCast]
      rw [c_fits (by omega), c_lt (by omega), c_le (by omega), c_le (by omega), c_le (by omega), s_l08Relation_val z (by omega) hhi, rows_l1 z (by omega) (by omega) (relL_lt n X O i) hp]
      simp only [List.length_map, List.length_range]
      simp (disch := omega) only [c_lt, c_le, c_blt, c_ble, c_nble, c_beq, c_fits]
      rw [idsOf_app, List.length_append, hlen, List.length_singleton, i1, List.length_map, List.length_range]
      rfl, by rw [len1, i1], fun a ha => by
        unfold rowAt
        by_cases e : a = i
        · subst e; rw [List.getElem?_append_right (by omega), i1, Nat.sub_self]; simp
        · rw [List.getElem?_append_left (by omega)]; exact i2 a (by omega), fun a b ha hb => by
        unfold rowAt
        by_cases e : a = i
        · subst e; rw [List.getElem?_append_right (by omega), i1, Nat.sub_self]; simp [hb]; rfl
        · rw [List.getElem?_append_left (by omega)]; exact i3 a b (by omega) hb⟩)
    (fun M T ⟨i1, _, _⟩ => by
      rw [s_l08Rows_l0, s_l08Rows_l0_s, c_fits (by omega), c_nlt (by omega)]) (n - 1) N 0 [] (by omega) (by omega) ⟨rfl, fun a ha => by omega, fun a b ha => by omega⟩
  obtain ⟨T, h1, h2, h3, h4⟩ := this
  exact ⟨T, h2, TabF.of_app h2 h3 h4, h1⟩
theorem pivL_len (p : Int) (R : Nat) : ∀ d c s, s.2 + (pivL p R d c s).length = (iter (stepE p R) d c s).2 := by
  intro d
  induction d with
  | zero => intro c s; rfl
  | succ d ih =>
    intro c s
    rw [iter, pivL, ← ih (c + 1) (stepE p R c s), List.length_append]
    unfold stepE
    by_cases h : pivE R c s < R
    · rw [if_pos h, if_pos h]
      simp only [List.length_singleton]
      omega
    · rw [if_neg h, if_neg h]
      simp
/-- The spec's reduced rows. -/
theorem s_l08Reduce_val (z : β) {N R W : Nat} (hN : W < N ∧ R < N ∧ 100 < N) {p : Int} (hpr : primeB p = true) (hR : 1 ≤ R ∧ R ≤ 1000) (hW : 0 < W) (hW2 : W ≤ 1000) {ids : List (Nat × Nat)} {P : List (List Int)} {m : Mat} (h : TabF ids P R W m) (hl : ids.length = R) (hb : Bnd p R W m) (c0 : Nat)
    (k : Nat → Nat → Nat → List (List Int) → List (Nat × Nat) → β) :
    ∃ pool' ids', TabF ids' pool' R W (elimE p R W m).1 ∧ ids'.length = R ∧ s_l08Reduce z N R R c0 p ids P k = k R (elimE p R W m).2 R pool' ids' := by
  unfold s_l08Reduce
  obtain ⟨T, e1, e2, e3⟩ := red_l0 z hN.2.1 hR.2 hW hW2 h hl p c0 (fun q9 q10 q11 q12 q13 => s_l08Reduce_l1 z N p q9 q10 q11 ids P N 0 0 q12 q13 (fun q14 q15 q16 => cond (q9.beq q16.length && true) (cond (decide (0 ≤ q14) && decide (q14 ≤ (q11 : Int)) && decide ((q11 : Int) ≤ (q11 : Int))) (k q9 (q14.toNat - 0) ((q11 : Int).toNat - 0) q15 q16) z) z))
  have hE0 : ElimI p R W (m, 0) := ⟨hb, Nat.zero_le _⟩
  obtain ⟨pool', ids', f1, f2, f3⟩ := red_l1 z hN hpr hR hW2 R ids P (fun q14 q15 q16 => cond (R.beq q16.length && true) (cond (decide (0 ≤ q14) && decide (q14 ≤ (R : Int)) && decide ((R : Int) ≤ (R : Int))) (k R (q14.toNat - 0) ((R : Int).toNat - 0) q15 q16) z) z) W N 0 (m, 0) T (idsOf T) (by omega) hN.1 e2 (by rw [idsOf_len]; exact e1) hE0
  have hrk := (elimE_inv hpr hb).rk
  refine ⟨pool', ids', f2, f3, e3.trans (f1.trans ?_)⟩
  rw [show iter (stepE p R) W 0 (m, 0) = elimE p R W m from rfl]
  simp only [c_and, c_true, Int.toNat_natCast, Nat.sub_zero]
  simp (disch := omega) only [c_beq, c_le]
/-- The program's. -/
theorem i_echelon_val (z : β) {N R W : Nat} (hN : W < N ∧ R < N ∧ 100 < N) {p : Int} (hpr : primeB p = true) (hR : 1 ≤ R ∧ R ≤ 1000) (hW2 : W ≤ 1000) {ids : List (Nat × Nat)} {P : List (List Int)} {m : Mat} (h : TabF ids P R W m) (hl : ids.length = R) (c0 : Nat)
    (k : Nat → Nat → Nat → Nat → Nat → Nat → List (List Int) → List (Nat × Nat) → List Int → β) :
    ∃ pool' ids', TabF ids' pool' R W (elimE p R W (modM m p)).1 ∧ ids'.length = R ∧
      i_echelon z N R R c0 W p ids P k = k R (elimE p R W (modM m p)).2 R (pivL p R W 0 (modM m p, 0)).length (pivL p R W 0 (modM m p, 0)).length (pivL p R W 0 (modM m p, 0)).length pool' ids' (pivL p R W 0 (modM m p, 0)) := by
  have hp := primeB_bd hpr
  unfold i_echelon
  rw [c_ble (by omega)]
  obtain ⟨T, e1, e2, e3⟩ := ech_l0 z ⟨hN.2.1, hN.1⟩ hR.2 hW2 h hl hp W c0 (List.replicate 0 0) (fun q10 q11 q12 q13 q14 => i_echelon_l2 z N p q10 q11 q12 W ids P N 0 0 0 0 0 q13 q14 (List.replicate 0 0) (fun q15 q16 q17 q18 q19 q20 q21 => cond (q10.beq q20.length && true) (cond (decide (0 ≤ q18) && decide (q18 ≤ (q12 : Int)) && decide ((q12 : Int) ≤ (q12 : Int))) (k q10 (q18.toNat - 0) ((q12 : Int).toNat - 0) q15 q16 q17 q19 q20 q21) z) z))
  have hb := modM_bd (m := m) hp.1 R W
  have hE0 : ElimI p R W (modM m p, 0) := ⟨hb, Nat.zero_le _⟩
  obtain ⟨pool', ids', f1, f2, f3⟩ := ech_l2 z hN hpr hR hW2 ids P (fun q15 q16 q17 q18 q19 q20 q21 => cond (R.beq q20.length && true) (cond (decide (0 ≤ q18) && decide (q18 ≤ (R : Int)) && decide ((R : Int) ≤ (R : Int))) (k R (q18.toNat - 0) ((R : Int).toNat - 0) q15 q16 q17 q19 q20 q21) z) z) W N 0 (modM m p, 0) T (idsOf T) [] (by omega) hN.1 e2 (by rw [idsOf_len]; exact e1) hE0 (by simp; omega)
  have hrk := (elimE_inv hpr hb).rk
  refine ⟨pool', ids', f2, f3, e3.trans (f1.trans ?_)⟩
  rw [show iter (stepE p R) W 0 (modM m p, 0) = elimE p R W (modM m p) from rfl]
  simp only [c_and, c_true, Int.toNat_natCast, Nat.sub_zero, List.nil_append]
  simp (disch := omega) only [c_beq, c_le]
end
end Go.AM

namespace Go.AM
/-! rows below the rank begin at their pivots -/
structure Stairs (p : Int) (R : Nat) (c : Nat) (s : Mat × Nat) (pv : List Int) : Prop where
  len : pv.length = s.2
  zero : ∀ i, s.2 ≤ i → i < R → ∀ j, j < c → s.1 i j = 0
  own : ∀ k, k < s.2 → ∃ q : Nat, pv[k]? = some (q : Int) ∧ q < c ∧ s.1 k q ≠ 0 ∧ ∀ j, j < q → s.1 k j = 0
  inj : ∀ (a b q : Nat), pv[a]? = some (q : Int) → pv[b]? = some (q : Int) → a = b
theorem Stairs.step {p : Int} (hpr : primeB p = true) {R W c : Nat} {s : Mat × Nat} {pv : List Int} (h : Stairs p R c s pv) (hE : ElimI p R W s) (hc : c < W) :
    Stairs p R (c + 1) (stepE p R c s) (pv ++ if pivE R c s < R then [(c : Int)] else []) := by
  have hp := primeB_bd hpr
  obtain ⟨q1, q2, q3, q4⟩ := pivE_spec R c hE.rk
  by_cases hk : pivE R c s < R
  · have hs : stepE p R c s = (clearM (scaE p R c s) p s.2 c, s.2 + 1) := by unfold stepE; rw [if_pos hk]
    rw [if_pos hk, hs]
    have F := facE_spec hpr hE.bd hE.rk hc hk
    -- the scaled matrix
    have sw : ∀ i j, swapM s.2 (pivE R c s) s.1 i j = s.1 (swapN s.2 (pivE R c s) i) j := fun i j => rfl
    have scLow : ∀ k j, k < s.2 → scaE p R c s k j = s.1 k j := fun k j hk' => by
      unfold scaE scaleM
      rw [if_neg (by omega), sw]
      congr 1
      unfold swapN
      rw [if_neg (by omega), if_neg (by omega)]
    have scRow : ∀ j, scaE p R c s s.2 j = (s.1 (pivE R c s) j * facE p R c s).tmod p := fun j => by
      unfold scaE scaleM
      rw [if_pos rfl, sw]
      congr 2
      unfold swapN
      split
      · rename_i e; rw [← e]
      · rw [if_pos rfl]
    have one : scaE p R c s s.2 c = 1 := by rw [scRow]; exact F.2.2.1
    have rowZ : ∀ j, j < c → scaE p R c s s.2 j = 0 := fun j hj => by
      rw [scRow, h.zero _ q1 hk j hj, Int.zero_mul, Int.zero_tmod]
    have hiZ : ∀ i j, s.2 < i → i < R → j < c → scaE p R c s i j = 0 := fun i j h1 h2 hj => by
      unfold scaE scaleM
      rw [if_neg (by omega), sw]
      refine h.zero _ ?_ ?_ j hj
      · unfold swapN; split
        · omega
        · split <;> omega
      · exact swapN_lt (by omega) hk h2
    have hb := hE.sca hpr hc hk
    have cl : ∀ i j, clearM (scaE p R c s) p s.2 c i j = if i = s.2 ∨ scaE p R c s i c = 0 then scaE p R c s i j else (scaE p R c s i j + (p - scaE p R c s i c) * scaE p R c s s.2 j).tmod p := fun i j => rfl
    have clZ : ∀ i j, j < c → i < R → clearM (scaE p R c s) p s.2 c i j = scaE p R c s i j := fun i j hj hi => by
      rw [cl]
      split
      · rfl
      · rw [rowZ j hj, Int.mul_zero, Int.add_zero, Int.tmod_eq_of_lt (hb i j hi (by omega)).1 (hb i j hi (by omega)).2]
    refine ⟨by simp [h.len], fun i h1 h2 j hj => ?_, fun k hk' => ?_, fun a b q ha hb' => ?_⟩
    · simp only at h1
      rcases Nat.lt_or_ge j c with hjc | hjc
      · show clearM (scaE p R c s) p s.2 c i j = 0
        rw [clZ i j hjc h2]; exact hiZ i j (by omega) h2 hjc
      · have : j = c := by omega
        subst this
        show clearM (scaE p R j s) p s.2 j i j = 0
        rw [cl]
        by_cases e : scaE p R j s i j = 0
        · rw [if_pos (.inr e)]; exact e
        · rw [if_neg (by rintro (x | x); omega; exact e x), one, Int.mul_one]
          rw [show scaE p R j s i j + (p - scaE p R j s i j) = p by omega, Int.tmod_self]
    · simp only at hk'
      by_cases e : k = s.2
      · subst e
        refine ⟨c, by rw [← h.len]; simp, by omega, ?_, fun j hj => ?_⟩
        · show clearM (scaE p R c s) p s.2 c s.2 c ≠ 0
          rw [cl, if_pos (.inl rfl), one]; omega
        · show clearM (scaE p R c s) p s.2 c s.2 j = 0
          rw [cl, if_pos (.inl rfl)]; exact rowZ j hj
      · obtain ⟨q, g1, g2, g3, g4⟩ := h.own k (by omega)
        refine ⟨q, by rw [List.getElem?_append_left (by rw [h.len]; omega)]; exact g1, by omega, ?_, fun j hj => ?_⟩
        · show clearM (scaE p R c s) p s.2 c k q ≠ 0
          rw [clZ k q g2 (by omega), scLow k q (by omega)]; exact g3
        · show clearM (scaE p R c s) p s.2 c k j = 0
          rw [clZ k j (by omega) (by omega), scLow k j (by omega)]; exact g4 j hj
    · have lt : ∀ a, (pv ++ [(c : Int)])[a]? = some (q : Int) → (a < pv.length ∧ pv[a]? = some (q : Int) ∧ q < c) ∨ (a = pv.length ∧ q = c) := fun a ha => by
        rcases Nat.lt_or_ge a pv.length with hl | hl
        · rw [List.getElem?_append_left hl] at ha
          refine .inl ⟨hl, ha, ?_⟩
          obtain ⟨q', g1, g2, _⟩ := h.own a (by rw [← h.len]; exact hl)
          rw [ha] at g1
          simp only [Option.some.injEq] at g1
          omega
        · rw [List.getElem?_append_right hl] at ha
          rcases Nat.eq_zero_or_pos (a - pv.length) with e | e
          · rw [e] at ha
            simp at ha
            exact .inr ⟨by omega, by omega⟩
          · rw [List.getElem?_eq_none (by simp; omega)] at ha; cases ha
      rcases lt a ha with ⟨a1, a2, a3⟩ | ⟨a1, a2⟩ <;> rcases lt b hb' with ⟨b1, b2, b3⟩ | ⟨b1, b2⟩
      · exact h.inj a b q a2 b2
      · omega
      · omega
      · omega
  · have hs : stepE p R c s = s := by unfold stepE; rw [if_neg hk]
    rw [if_neg hk, hs, List.append_nil]
    refine ⟨h.len, fun i h1 h2 j hj => ?_, fun k hk' => ?_, h.inj⟩
    · rcases Nat.lt_or_ge j c with hjc | hjc
      · exact h.zero i h1 h2 j hjc
      · have : j = c := by omega
        subst this
        exact q4 i h1 (by omega)
    · obtain ⟨q, g1, g2, g3, g4⟩ := h.own k hk'
      exact ⟨q, g1, by omega, g3, g4⟩
theorem stairs {p : Int} (hpr : primeB p = true) {R W : Nat} : ∀ d c (s : Mat × Nat) (pv : List Int), c + d = W → ElimI p R W s → Stairs p R c s pv → Stairs p R W (iter (stepE p R) d c s) (pv ++ pivL p R d c s) := by
  intro d
  induction d with
  | zero =>
    intro c s pv hc _ h
    have : c = W := by omega
    subst this
    rw [pivL, List.append_nil]
    exact h
  | succ d ih =>
    intro c s pv hc hE h
    rw [iter, pivL, ← List.append_assoc]
    exact ih (c + 1) _ _ (by omega) (hE.step hpr (by omega)) (h.step hpr hE (by omega))
end Go.AM

namespace Go.AM
/-- The rows of a matrix as lists. -/
def tabM (m : Mat) (r W : Nat) : List (List Int) := (List.range r).map fun i => (List.range W).map (m i)
theorem tabM_len (m : Mat) (r W : Nat) : (tabM m r W).length = r := by simp [tabM]
theorem tabM_row (m : Mat) {r W i : Nat} (hi : i < r) : rowAt (tabM m r W) i = (List.range W).map (m i) := by
  unfold rowAt tabM
  simp [hi]
theorem row_ext {xs : List Int} {W : Nat} {f : Nat → Int} (hl : xs.length = W) (h : ∀ j, j < W → xs[j]?.getD 0 = f j) : xs = (List.range W).map f := by
  apply List.ext_getElem
  · simp [hl]
  · intro j h1 h2
    have := h j (by omega)
    rw [List.getElem?_eq_getElem h1] at this
    simp only [Option.getD_some] at this
    rw [this]
    simp
theorem TabF.toP {ids : List (Nat × Nat)} {pool : List (List Int)} {R W : Nat} {m : Mat} (h : TabF ids pool R W m) {r : Nat} (hr : r ≤ R) : TabP ids pool (tabM m r W) := by
  have hl := h.len
  refine ⟨by rw [tabM_len]; omega, fun i hi => ?_, fun i hi => ?_, fun i hi => ?_, fun i j hi hj e => ?_⟩
  · rw [tabM_len] at hi; exact h.lt i (by omega)
  · rw [tabM_len] at hi; rw [tabM_row m hi, h.sz i (by omega)]; simp
  · rw [tabM_len] at hi; rw [tabM_row m hi]; exact row_ext (h.wide i (by omega)) fun j hj => h.cell i j (by omega) hj
  · rw [tabM_len] at hi hj; exact h.inj i j (by omega) (by omega) e
theorem TabP.take {ids : List (Nat × Nat)} {pool T : List (List Int)} (h : TabP ids pool T) {r : Nat} (hr : T.length ≤ r) : TabP (ids.take r) pool T := by
  have e : ∀ i, i < T.length → idAt (ids.take r) i = idAt ids i := fun i hi => by
    unfold idAt
    rw [List.getElem?_take, if_pos (by omega)]
  refine ⟨by have := h.len; simp; omega, fun i hi => ?_, fun i hi => ?_, fun i hi => ?_, fun i j hi hj he => ?_⟩
  · rw [e i hi]; exact h.lt i hi
  · rw [e i hi]; exact h.sz i hi
  · rw [e i hi]; exact h.row i hi
  · rw [e i hi, e j hj] at he; exact h.inj i j hi hj he
theorem tabM_small {N : Nat} (m : Mat) {r W : Nat} (hr : r < N ∧ r ≤ 1000) (hW : W < N ∧ W ≤ 1000) : SmallT N (tabM m r W) := by
  refine ⟨by rw [tabM_len]; exact hr, fun i hi => ?_⟩
  rw [tabM_len] at hi
  rw [tabM_row m hi]
  simpa using hW
end Go.AM
namespace Go.AM
theorem pigeon : ∀ (n : Nat) (l : List Int), (∀ c : Nat, c < n → (c : Int) ∈ l) → n ≤ l.length := by
  intro n
  induction n with
  | zero => intro l _; exact Nat.zero_le _
  | succ n ih =>
    intro l h
    have hn := h n (by omega)
    have := ih (l.erase (n : Int)) fun c hc => (List.mem_erase_of_ne (by omega)).2 (h c (by omega))
    rw [List.length_erase_of_mem hn] at this
    have := List.length_pos_of_mem hn
    omega
/-- The columns without a pivot. -/
def freeL (n : Nat) (pv : List Int) : List Nat := (List.range n).filter fun c => !pv.contains (c : Int)
theorem freeL_pos {n : Nat} {pv : List Int} (h : pv.length < n) : 1 ≤ (freeL n pv).length := by
  rcases Nat.eq_zero_or_pos (freeL n pv).length with e | e
  · exfalso
    have := pigeon n pv fun c hc => by
      have hnil := List.length_eq_zero_iff.1 e
      unfold freeL at hnil
      rw [List.filter_eq_nil_iff] at hnil
      have := hnil c (List.mem_range.2 hc)
      simpa using this
    omega
  · exact e
theorem freeL_le (n : Nat) (pv : List Int) : (freeL n pv).length ≤ n := by
  unfold freeL
  exact Nat.le_trans (List.length_filter_le _ _) (by simp)
theorem freeL_succ (i : Nat) (pv : List Int) : freeL (i + 1) pv = freeL i pv ++ (if pv.contains (i : Int) then [] else [i]) := by
  unfold freeL
  rw [List.range_succ, List.filter_append]
  congr 1
  cases h : pv.contains (i : Int) <;> simp_all
def rowI (m : Mat) (pv : List Int) (c k : Nat) : Nat → Int := iter (fun k s => upd s (pv[k]?.getD 0).toNat (-(m k c))) k 0 (upd (fun _ => 0) c 1)
def rowS (m : Mat) (p : Int) (pv : List Int) (c k : Nat) : Nat → Int := iter (fun k s => upd s (pv[k]?.getD 0).toNat ((p - m k c).tmod p)) k 0 (upd (fun _ => 0) c 1)
theorem modV_neg {p x : Int} (hp : 3 ≤ p) (hx : 0 ≤ x ∧ x < p) : (p - x).tmod p = modV p (-x) := by
  unfold modV
  have : (-x).tmod p = -x := by rw [Int.neg_tmod, Int.tmod_eq_of_lt hx.1 hx.2]
  rw [this]
  congr 1
  omega
theorem modV_one {p : Int} (hp : 3 ≤ p) : modV p 1 = 1 := by
  have := modV_sgn hp 0
  unfold sgn at this
  simp only [Nat.zero_mod, if_true] at this
  rw [← this]
  show (p + 1 - 2 * (0 : Int).tmod 2).tmod p = 1
  rw [Int.zero_tmod, show p + 1 - 2 * 0 = 1 + p by omega, tmod_nn (by omega), Int.add_emod_right, Int.emod_eq_of_lt (by omega) (by omega)]
theorem rowS_eq {m : Mat} {p : Int} {R W : Nat} (hp : 3 ≤ p) (hb : Bnd p R W m) {pv : List Int} {c : Nat} (hc : c < W) : ∀ k, k ≤ R → rowS m p pv c k = fun j => modV p (rowI m pv c k j) := by
  intro k
  induction k with
  | zero =>
    intro _
    funext j
    show upd (fun _ => (0 : Int)) c 1 j = modV p (upd (fun _ => (0 : Int)) c 1 j)
    rw [upd_at]
    split
    · exact (modV_one hp).symm
    · exact (modV_zero hp).symm
  | succ k ih =>
    intro hk
    have h1 : rowS m p pv c (k + 1) = upd (rowS m p pv c k) (pv[k]?.getD 0).toNat ((p - m k c).tmod p) := by
      unfold rowS; rw [iter_succ, Nat.zero_add]
    have h2 : rowI m pv c (k + 1) = upd (rowI m pv c k) (pv[k]?.getD 0).toNat (-(m k c)) := by
      unfold rowI; rw [iter_succ, Nat.zero_add]
    rw [h1, h2, ih (by omega)]
    funext j
    rw [upd_at, upd_at]
    split
    · exact modV_neg hp (hb k c (by omega) hc)
    · rfl
theorem rowI_lim {m : Mat} {p : Int} {R W : Nat} (hp : 3 ≤ p ∧ p ≤ 97) (hb : Bnd p R W m) {pv : List Int} {c : Nat} (hc : c < W) : ∀ k, k ≤ R → ∀ j, -100 ≤ rowI m pv c k j ∧ rowI m pv c k j ≤ 100 := by
  intro k
  induction k with
  | zero =>
    intro _ j
    show -100 ≤ upd (fun _ => (0 : Int)) c 1 j ∧ upd (fun _ => (0 : Int)) c 1 j ≤ 100
    rw [upd_at]; split <;> omega
  | succ k ih =>
    intro hk j
    have h2 : rowI m pv c (k + 1) = upd (rowI m pv c k) (pv[k]?.getD 0).toNat (-(m k c)) := by
      unfold rowI; rw [iter_succ, Nat.zero_add]
    rw [h2, upd_at]
    have := hb k c (by omega) hc
    split
    · omega
    · exact ih (by omega) j
end Go.AM
namespace Go.AM
theorem stairs0 {p : Int} (hpr : primeB p = true) {R W : Nat} {m : Mat} (hb : Bnd p R W m) : Stairs p R W (elimE p R W m) (pivL p R W 0 (m, 0)) := by
  have := stairs hpr W 0 (m, 0) [] (by omega) (⟨hb, Nat.zero_le _⟩ : ElimI p R W (m, 0)) ⟨rfl, fun i _ _ j hj => by omega, fun k hk => by omega, fun a b q ha _ => by simp at ha⟩
  rw [List.nil_append] at this
  exact this
end Go.AM

namespace Go.AM
section
variable {β : Type}
/-- Pivots of reduced rows. -/
structure PvP (W R rk : Nat) (m : Mat) (pv : List Int) : Prop where
  len : pv.length = rk
  le : rk ≤ R
  own : ∀ k, k < rk → ∃ q : Nat, pv[k]? = some (q : Int) ∧ q < W ∧ m k q ≠ 0 ∧ ∀ j, j < q → m k j = 0
theorem own_at {W R rk : Nat} {m : Mat} {pv : List Int} (h : PvP W R rk m pv) {k : Nat} (hk : k < rk) : ∃ q : Nat, pv[k]?.getD 0 = (q : Int) ∧ q < W := by
  obtain ⟨q, h1, h2, _⟩ := h.own k hk
  exact ⟨q, by rw [h1]; rfl, h2⟩
theorem basis_l1 (z : β) {R W : Nat} (hW2 : W ≤ 1000) {ids : List (Nat × Nat)} {pool : List (List Int)} {m : Mat} (h : TabF ids pool R W m) (hl : ids.length = R) {i rk q : Nat} (hi : i < rk) (hr : rk ≤ R) (hq : q < W) (hne : m i q ≠ 0) (hz : ∀ j, j < q → m i j = 0)
    (p : Int) (tc a b c : Nat) (h00 : Int) (h01 h02 : Nat → Int) (h1 : List (Nat × Nat)) (h2 : List (List Int)) (h5 : Nat → Bool) (h6 : List Int) (k : Int → β) :
    ∀ d M j, j + d = q → d < M → s_ColouringBasis_l1 z p R rk tc a b c i h00 h01 h02 h1 h2 pool ids h5 h6 M j k = k q := by
  have e1 := h.sz i (by omega)
  have e2 := h.wide i (by omega)
  have e3 := fun j hj => h.cell i j (by omega) hj
  unfold idAt rowAt at *
  intro d
  induction d with
  | zero =>
    intro M j hj hM
    obtain ⟨M, rfl⟩ : ∃ m', M = m' + 1 := ⟨M - 1, by omega⟩
    have : j = q := by omega
    subst this
    rw [s_ColouringBasis_l1, s_ColouringBasis_l1_s]
    simp only [c_and, Int.toNat_natCast, e1]
    simp (disch := omega) only [c_lt, c_le, c_blt, c_beq]
    rw [e3 j hq, c_neq hne]
  | succ d ih =>
    intro M j hj hM
    obtain ⟨M, rfl⟩ : ∃ m', M = m' + 1 := ⟨M - 1, by omega⟩
    rw [s_ColouringBasis_l1, s_ColouringBasis_l1_s]
    simp only [c_and, Int.toNat_natCast, e1]
    simp (disch := omega) only [c_lt, c_le, c_blt, c_beq]
    rw [e3 j (by omega), c_eq (hz j (by omega)), c_fits (by omega)]
    exact ih M (j + 1) (by omega) (by omega)
theorem basis_l1' (z : β) {N R W : Nat} (hN : W < N) (hW2 : W ≤ 1000) {ids : List (Nat × Nat)} {pool : List (List Int)} {m : Mat} (h : TabF ids pool R W m) (hl : ids.length = R) {i rk q : Nat} (hi : i < rk) (hr : rk ≤ R) (hq : q < W) (hne : m i q ≠ 0) (hz : ∀ j, j < q → m i j = 0)
    (p : Int) (tc a b c : Nat) (h00 : Int) (h01 h02 : Nat → Int) (h1 : List (Nat × Nat)) (h2 : List (List Int)) (h5 : Nat → Bool) (h6 : List Int) (k : Int → β) :
    s_ColouringBasis_l1 z p R rk tc a b c i h00 h01 h02 h1 h2 pool ids h5 h6 N 0 k = k q :=
  basis_l1 z hW2 h hl hi hr hq hne hz p tc a b c h00 h01 h02 h1 h2 h5 h6 k q N 0 (by omega) (by omega)
theorem basis_l0 (z : β) {N R W : Nat} (hN : W < N ∧ R < N) (hR : R ≤ 1000) (hW2 : W ≤ 8) {ids : List (Nat × Nat)} {pool : List (List Int)} {m : Mat} (h : TabF ids pool R W m) (hl : ids.length = R) {rk : Nat} {pv : List Int} (hp : PvP W R rk m pv)
    (p : Int) (tc : Nat) (h00 : Int) (h01 h02 : Nat → Int) (h1 : List (Nat × Nat)) (h2 : List (List Int)) (k : Nat → Nat → Nat → (Nat → Bool) → List Int → β) :
    s_ColouringBasis_l0 z N p R rk tc h00 h01 h02 h1 h2 pool ids N 0 0 0 0 (fun (x : Nat) => false) (List.replicate 0 0) k = k rk rk rk (fun j => pv.contains (j : Int)) pv := by
  have hrk := hp.le
  have hlen := hp.len
  have key : ∀ d M i, i + d = rk → d < M → s_ColouringBasis_l0 z N p R rk tc h00 h01 h02 h1 h2 pool ids M i i i (i : Int) (fun j => (pv.take i).contains (j : Int)) (pv.take i) k = k rk rk rk (fun j => pv.contains (j : Int)) pv := by
    intro d
    induction d with
    | zero =>
      intro M i hi hM
      obtain ⟨M, rfl⟩ : ∃ m', M = m' + 1 := ⟨M - 1, by omega⟩
      have : i = rk := by omega
      subst this
      rw [s_ColouringBasis_l0, s_ColouringBasis_l0_s, c_ble (by omega), c_nlt (by omega), List.take_of_length_le (by omega)]
    | succ d ih =>
      intro M i hi hM
      obtain ⟨M, rfl⟩ : ∃ m', M = m' + 1 := ⟨M - 1, by omega⟩
      obtain ⟨q, o1, o2, o3, o4⟩ := hp.own i (by omega)
      have ht : (pv.take i).length = i := by rw [List.length_take]; omega
      have hs : pv.take (i + 1) = pv.take i ++ [(q : Int)] := by
        rw [List.take_add_one, o1]; rfl
      have hc : upd (fun j : Nat => (pv.take i).contains (j : Int)) q true = fun j : Nat => (pv.take (i + 1)).contains (j : Int) := by
        funext j
        rw [hs, upd_at]
        by_cases e : j = q
        · subst e; rw [if_pos rfl]; simp
        · rw [if_neg e]
          have : ((j : Int) == (q : Int)) = false := by simp; omega
          simp [this]
          omega
      rw [s_ColouringBasis_l0, s_ColouringBasis_l0_s, c_ble (by omega), c_lt (by omega), basis_l1' z (by omega : W < N) (by omega) h hl (by omega : i < rk) hrk o2 o3 o4]
      simp only [c_and, c_true, Int.toNat_natCast, hc]
      simp (disch := omega) only [c_lt, c_le, c_blt, c_ble, c_nble, c_beq, c_fits]
      have hf : fromTo ((List.replicate 1 (0 : Int)).set 0 (q : Int)) 0 1 = [(q : Int)] := rfl
      rw [hf, ← hs, List.length_take, Nat.min_eq_left (by omega)]
      exact ih M (i + 1) (by omega) (by omega)
  have := key rk N 0 (by omega) (by omega)
  simpa using this
theorem basis_l3 (z : β) {N R W : Nat} (hN : W < N ∧ R < N) (hR : R ≤ 1000) (hW2 : W ≤ 8) {ids : List (Nat × Nat)} {pool : List (List Int)} {m : Mat} (h : TabF ids pool R W m) (hl : ids.length = R) {rk : Nat} {pv : List Int} (hp : PvP W R rk m pv)
    {p : Int} (hpp : 3 ≤ p ∧ p ≤ 97) (hb : Bnd p R W m) {c : Nat} (hc : c < W) (tc pc a b c' : Nat) (h00 : Int) (h01 h02 : Nat → Int) (h1 : List (Nat × Nat)) (h2 : List (List Int)) (h5 : Nat → Bool) (h7 : List (List Int)) (h8 : List (Nat × Nat)) (k : (Nat → Int) → β) :
    s_ColouringBasis_l3 z p R rk tc rk rk pc a b c' (c : Int) W W W h00 h01 h02 h1 h2 pool ids h5 pv h7 h8 W N 0 (upd (fun (x : Nat) => 0) c 1) k = k (rowS m p pv c rk) := by
  have hrk := hp.le
  have hlen := hp.len
  have := up_to (L := fun M i s => s_ColouringBasis_l3 z p R rk tc rk rk pc a b c' (c : Int) W W W h00 h01 h02 h1 h2 pool ids h5 pv h7 h8 W M (i : Int) s k) (n := rk) (out := k)
    (f := fun k s => upd s (pv[k]?.getD 0).toNat ((p - m k c).tmod p)) (I := fun _ _ => True)
    (fun M i s hi _ => ⟨by
      have e1 := h.sz i (by omega)
      have e2 := h.wide i (by omega)
      have e3 := h.cell i c (by omega) hc
      unfold idAt at e1 e2 e3
      unfold rowAt at e2 e3
      obtain ⟨q, o1, o2⟩ := own_at hp hi
      have hbb := hb i c (by omega) hc
      rw [s_ColouringBasis_l3, s_ColouringBasis_l3_s]
      simp only [c_and, c_not, Int.toNat_natCast, e1, o1, e3]
      simp (disch := omega) only [c_lt, c_le, c_blt, c_ble, c_beq, c_fits, c_neq]
      rfl, trivial⟩)
    (fun M s _ => by simp (disch := omega) only [s_ColouringBasis_l3, s_ColouringBasis_l3_s, c_ble, c_nlt]) rk N 0 (upd (fun _ => 0) c 1) (by omega) (by omega) trivial
  exact this
end
end Go.AM

namespace Go.AM
section
variable {β : Type}
/-- The rows of the free columns. -/
def freeT (n : Nat) (f : Nat → Nat → Int) (pv : List Int) (i : Nat) : List (List Int) := (freeL i pv).map fun c => (List.range n).map (f c)
def freeM (n : Nat) (f : Nat → Nat → Int) (pv : List Int) : Mat := fun a b => f ((freeL n pv)[a]?.getD 0) b
theorem freeT_len (n : Nat) (f : Nat → Nat → Int) (pv : List Int) (i : Nat) : (freeT n f pv i).length = (freeL i pv).length := by simp [freeT]
theorem freeT_in {n : Nat} {f : Nat → Nat → Int} {pv : List Int} {i : Nat} (h : pv.contains (i : Int) = true) : freeT n f pv (i + 1) = freeT n f pv i := by
  unfold freeT; rw [freeL_succ, h]; simp
theorem freeT_out {n : Nat} {f : Nat → Nat → Int} {pv : List Int} {i : Nat} (h : pv.contains (i : Int) = false) : freeT n f pv (i + 1) = freeT n f pv i ++ [(List.range n).map (f i)] := by
  unfold freeT; rw [freeL_succ, h]; simp
theorem freeL_lt {n : Nat} {pv : List Int} {a : Nat} (h : a < (freeL n pv).length) : (freeL n pv)[a]?.getD 0 < n := by
  rw [List.getElem?_eq_getElem h, Option.getD_some]
  have := List.getElem_mem h
  generalize (freeL n pv)[a] = y at this
  unfold freeL at this
  simpa using (List.mem_filter.1 this).1
theorem freeL_not {n : Nat} {pv : List Int} {a : Nat} (h : a < (freeL n pv).length) : pv.contains (((freeL n pv)[a]?.getD 0 : Nat) : Int) = false := by
  rw [List.getElem?_eq_getElem h, Option.getD_some]
  have := List.getElem_mem h
  generalize (freeL n pv)[a] = y at this
  unfold freeL at this
  simpa using (List.mem_filter.1 this).2
theorem freeT_tab (n : Nat) (f : Nat → Nat → Int) (pv : List Int) : TabF (idsOf (freeT n f pv n)) (freeT n f pv n) (freeL n pv).length n (freeM n f pv) := by
  have e : ∀ a, a < (freeL n pv).length → rowAt (freeT n f pv n) a = (List.range n).map (f ((freeL n pv)[a]?.getD 0)) := fun a ha => by
    unfold rowAt freeT
    rw [List.getElem?_map, List.getElem?_eq_getElem ha]
    rfl
  refine TabF.of_app (freeT_len n f pv n) (fun a ha => by rw [e a ha]; simp) (fun a b ha hb => ?_)
  rw [e a ha]
  simp [hb, freeM]
theorem basis_l2 (z : β) {N R W : Nat} (hN : W < N ∧ R < N) (hR : R ≤ 1000) (hW2 : W ≤ 8) {ids : List (Nat × Nat)} {pool : List (List Int)} {m : Mat} (h : TabF ids pool R W m) (hl : ids.length = R) {rk : Nat} {pv : List Int} (hp : PvP W R rk m pv)
    {p : Int} (hpp : 3 ≤ p ∧ p ≤ 97) (hb : Bnd p R W m) (tc pc : Nat) (h01 h02 : Nat → Int) (h1 : List (Nat × Nat)) (h2 : List (List Int)) (k : Nat → Nat → Nat → List (List Int) → List (Nat × Nat) → β) :
    s_ColouringBasis_l2 z N p R rk tc rk rk pc W h01 h02 h1 h2 pool ids (fun j => pv.contains (j : Int)) pv N 0 0 0 0 (List.replicate 0 []) (List.map (fun (i : Nat) => (i, 0)) (List.range 0)) k =
      k (freeL W pv).length (freeL W pv).length (freeL W pv).length (freeT W (fun c => rowS m p pv c rk) pv W) (idsOf (freeT W (fun c => rowS m p pv c rk) pv W)) := by
  have key : ∀ d M i, i + d = W → d < M → s_ColouringBasis_l2 z N p R rk tc rk rk pc W h01 h02 h1 h2 pool ids (fun j => pv.contains (j : Int)) pv M (freeL i pv).length (freeL i pv).length (freeL i pv).length (i : Int) (freeT W (fun c => rowS m p pv c rk) pv i) (idsOf (freeT W (fun c => rowS m p pv c rk) pv i)) k =
      k (freeL W pv).length (freeL W pv).length (freeL W pv).length (freeT W (fun c => rowS m p pv c rk) pv W) (idsOf (freeT W (fun c => rowS m p pv c rk) pv W)) := by
    intro d
    induction d with
    | zero =>
      intro M i hi hM
      obtain ⟨M, rfl⟩ : ∃ m', M = m' + 1 := ⟨M - 1, by omega⟩
      have : i = W := by omega
      subst this
      rw [s_ColouringBasis_l2, s_ColouringBasis_l2_s, c_nlt (by omega)]
    | succ d ih =>
      intro M i hi hM
      obtain ⟨M, rfl⟩ : ∃ m', M = m' + 1 := ⟨M - 1, by omega⟩
      have hfl := freeL_le i pv
      have hlen := freeT_len W (fun c => rowS m p pv c rk) pv i
      have hid := idsOf_len (freeT W (fun c => rowS m p pv c rk) pv i)
      have hnext := ih M (i + 1) (by omega) (by omega)
      rw [s_ColouringBasis_l2, s_ColouringBasis_l2_s, c_lt (by omega)]
      simp only [Int.toNat_natCast]
      rw [c_and, c_le (by omega), c_lt (by omega), c_blt (by omega)]
      cases hc : pv.contains (i : Int) with
      | true =>
        have hfs : freeL (i + 1) pv = freeL i pv := by rw [freeL_succ, hc]; simp
        rw [c_true, c_fits (by omega)]
        rw [freeT_in hc, hfs] at hnext
        exact hnext
      | false =>
        have hfs : (freeL (i + 1) pv).length = (freeL i pv).length + 1 := by rw [freeL_succ, hc]; simp
        rw [freeT_out hc, hfs, idsOf_app, hlen, List.length_map, List.length_range] at hnext
        simp only [c_and, c_true, c_false]
        simp (disch := omega) only [c_lt, c_le, c_blt, c_beq]
        rw [basis_l3 z hN hR hW2 h hl hp hpp hb (by omega : i < W)]
        simp only [List.length_map, List.length_range]
        simp (disch := omega) only [c_and, c_true, c_lt, c_le, c_blt, c_ble, c_nble, c_beq, c_fits]
        rw [List.length_append, List.length_singleton, hid, hlen]
        exact hnext
  have := key W N 0 (by omega) (by omega)
  exact this
theorem index_l0 (z : β) (h : List Int) (v : Int) (hs : h.length ≤ 1000) (K : Bool → β) :
    ∀ d M j, j + d = h.length → d < M → slices_Index_int_int_l0 z h.length h.length h.length v h.length h M j (fun q => K (decide (0 ≤ q))) (K (decide ((0 : Int) ≤ -1))) = K ((h.drop j).contains v) := by
  intro d
  induction d with
  | zero =>
    intro M j hj hM
    obtain ⟨M, rfl⟩ : ∃ m', M = m' + 1 := ⟨M - 1, by omega⟩
    rw [slices_Index_int_int_l0, slices_Index_int_int_l0_s, c_nlt (by omega), List.drop_of_length_le (by omega)]
    rfl
  | succ d ih =>
    intro M j hj hM
    obtain ⟨M, rfl⟩ : ∃ m', M = m' + 1 := ⟨M - 1, by omega⟩
    have hd : h.drop j = h[j]?.getD 0 :: h.drop (j + 1) := by
      rw [List.drop_eq_getElem_cons (by omega : j < h.length), List.getElem?_eq_getElem (by omega)]; rfl
    rw [slices_Index_int_int_l0, slices_Index_int_int_l0_s]
    simp only [c_and, Int.toNat_natCast]
    simp (disch := omega) only [c_lt, c_le, c_blt, c_beq, c_fits]
    rw [hd, List.contains_cons]
    by_cases e : v = h[j]?.getD 0
    · rw [c_eq e, decide_eq_true (by omega)]; simp [← e]
    · rw [c_neq e, show (v == h[j]?.getD 0) = false by simpa using e, Bool.false_or]
      exact ih M (j + 1) (by omega) (by omega)
theorem contains_val (z : β) {N : Nat} {h : List Int} (hN : h.length < N) (hs : h.length ≤ 1000) (v : Int) (K : Bool → β) :
    slices_Contains_int_int z N h.length h.length h.length v h K = K (h.contains v) := by
  unfold slices_Contains_int_int slices_Index_int_int
  rw [c_ble (by omega)]
  exact index_l0 z h v hs K h.length N 0 (by omega) hN
theorem basisI_l1 (z : β) {N R W : Nat} (hN : W < N ∧ R < N) (hR : R ≤ 1000) (hW2 : W ≤ 8) {ids : List (Nat × Nat)} {pool : List (List Int)} {m : Mat} (h : TabF ids pool R W m) (hl : ids.length = R) {rk : Nat} {pv : List Int} (hp : PvP W R rk m pv)
    {p : Int} (hpp : 3 ≤ p ∧ p ≤ 97) (hb : Bnd p R W m) {c : Nat} (hc : c < W) (tc x1 x2 x3 y1 y2 y3 w3 : Nat) (t23 t24 : Int) (h00 : Int) (h01 h02 : Nat → Int) (h1 : Int) (h2 : List (Nat × Nat)) (h3 : List (List Int)) (h7 : List (List Int)) (h8 : List (Nat × Nat)) (k : (Nat → Int) → β) :
    i_ColouringBasis_1_l1 z R rk tc x1 x2 x3 y1 y2 y3 (c : Int) W W W t23 t24 rk rk w3 (rk : Int) h00 h01 h02 h1 h2 h3 pool ids pv h7 h8 W N 0 (upd (fun (x : Nat) => 0) c 1) k = k (rowI m pv c rk) := by
  have hrk := hp.le
  have hlen := hp.len
  have := up_to (L := fun M i s => i_ColouringBasis_1_l1 z R rk tc x1 x2 x3 y1 y2 y3 (c : Int) W W W t23 t24 rk rk w3 (rk : Int) h00 h01 h02 h1 h2 h3 pool ids pv h7 h8 W M (i : Int) s k) (n := rk) (out := k)
    (f := fun k s => upd s (pv[k]?.getD 0).toNat (-(m k c))) (I := fun _ _ => True)
    (fun M i s hi _ => ⟨by
      have e1 := h.sz i (by omega)
      have e2 := h.wide i (by omega)
      have e3 := h.cell i c (by omega) hc
      unfold idAt at e1 e2 e3
      unfold rowAt at e2 e3
      obtain ⟨q, o1, o2⟩ := own_at hp hi
      have hbb := hb i c (by omega) hc
      rw [i_ColouringBasis_1_l1, i_ColouringBasis_1_l1_s]
      simp only [c_and, c_not, Int.toNat_natCast, e1, o1, e3]
      simp (disch := omega) only [c_lt, c_le, c_blt, c_ble, c_beq, c_fits, c_neq]
      rfl, trivial⟩)
    (fun M s _ => by simp (disch := omega) only [i_ColouringBasis_1_l1, i_ColouringBasis_1_l1_s, c_ble, c_nlt]) rk N 0 (upd (fun _ => 0) c 1) (by omega) (by omega) trivial
  exact this
theorem basisI_l0 (z : β) {N R W : Nat} (hN : W < N ∧ R < N) (hR : R ≤ 1000) (hW2 : W ≤ 8) {ids : List (Nat × Nat)} {pool : List (List Int)} {m : Mat} (h : TabF ids pool R W m) (hl : ids.length = R) {rk : Nat} {pv : List Int} (hp : PvP W R rk m pv)
    {p : Int} (hpp : 3 ≤ p ∧ p ≤ 97) (hb : Bnd p R W m) (tc : Nat) (h01 h02 : Nat → Int) (h1 : Int) (h2 : List (Nat × Nat)) (h3 : List (List Int)) (k : Nat → Nat → Nat → List (List Int) → List (Nat × Nat) → β) :
    i_ColouringBasis_1_l0 z N R rk tc pv.length pv.length pv.length W W h01 h02 h1 h2 h3 pool ids pv N 0 0 0 0 (List.replicate 0 []) (List.map (fun (i : Nat) => (i, 0)) (List.range 0)) k =
      k (freeL W pv).length (freeL W pv).length (freeL W pv).length (freeT W (fun c => rowI m pv c rk) pv W) (idsOf (freeT W (fun c => rowI m pv c rk) pv W)) := by
  have hrk := hp.le
  have hpl := hp.len
  have key : ∀ d M i, i + d = W → d < M → i_ColouringBasis_1_l0 z N R rk tc pv.length pv.length pv.length W W h01 h02 h1 h2 h3 pool ids pv M (freeL i pv).length (freeL i pv).length (freeL i pv).length (i : Int) (freeT W (fun c => rowI m pv c rk) pv i) (idsOf (freeT W (fun c => rowI m pv c rk) pv i)) k =
      k (freeL W pv).length (freeL W pv).length (freeL W pv).length (freeT W (fun c => rowI m pv c rk) pv W) (idsOf (freeT W (fun c => rowI m pv c rk) pv W)) := by
    intro d
    induction d with
    | zero =>
      intro M i hi hM
      obtain ⟨M, rfl⟩ : ∃ m', M = m' + 1 := ⟨M - 1, by omega⟩
      have : i = W := by omega
      subst this
      rw [i_ColouringBasis_1_l0, i_ColouringBasis_1_l0_s, c_nlt (by omega)]
    | succ d ih =>
      intro M i hi hM
      obtain ⟨M, rfl⟩ : ∃ m', M = m' + 1 := ⟨M - 1, by omega⟩
      have hfl := freeL_le i pv
      have hlen := freeT_len W (fun c => rowI m pv c rk) pv i
      have hid := idsOf_len (freeT W (fun c => rowI m pv c rk) pv i)
      have hnext := ih M (i + 1) (by omega) (by omega)
      rw [i_ColouringBasis_1_l0, i_ColouringBasis_1_l0_s, c_lt (by omega), contains_val z (by omega) (by omega)]
      unfold i_Grid_n
      simp only [Int.toNat_natCast]
      cases hc : pv.contains (i : Int) with
      | true =>
        have hfs : freeL (i + 1) pv = freeL i pv := by rw [freeL_succ, hc]; simp
        rw [c_true, c_fits (by omega)]
        rw [freeT_in hc, hfs] at hnext
        exact hnext
      | false =>
        have hfs : (freeL (i + 1) pv).length = (freeL i pv).length + 1 := by rw [freeL_succ, hc]; simp
        rw [freeT_out hc, hfs, idsOf_app, hlen, List.length_map, List.length_range] at hnext
        simp only [c_and, c_true, c_false]
        simp (disch := omega) only [c_lt, c_le, c_blt, c_beq, c_ble]
        have := basisI_l1 z hN hR hW2 h hl hp hpp hb (by omega : i < W) tc
        rw [hpl]
        rw [this]
        simp only [List.length_map, List.length_range]
        simp (disch := omega) only [c_and, c_true, c_lt, c_le, c_blt, c_ble, c_nble, c_beq, c_fits]
        rw [List.length_append, List.length_singleton, hid, hlen]
        rw [hpl] at hnext
        exact hnext
  have := key W N 0 (by omega) (by omega)
  exact this
end
end Go.AM

namespace Go.AM
section
variable {β : Type}
theorem s_CountColourings_val (z : β) {N n : Nat} {X O : Nat → Int} (hN : 100 < N) (g : GridP n X O) (hX : ∀ j, 0 ≤ X j) (hO : ∀ j, 0 ≤ O j) (p : Int) (k : Int → Int → β) :
    s_CountColourings z N n X O p k = cond (primeB p) (k ((n : Int) - (elimE p (n - 1) n (modM (eqM n X O) p)).2) 0) (k 0 2) := by
  have hlo := g.lo
  have hhi := g.hi
  unfold s_CountColourings s_l08Code
  rw [s_l01Is_val z (by omega) _ _ _ hX hO, gridB_iff.2 ⟨n, rfl, g⟩, Bool.not_true, c_false, s_l08Prime_val z hN]
  cases hpr : primeB p with
  | false => rfl
  | true =>
    have hp := primeB_bd hpr
    rw [Bool.not_true, c_false]
    show cond ((0 : Int) != 0) _ _ = _
    rw [c_nne rfl, c_true]
    have hb := modM_bd (m := eqM n X O) hp.1 (n - 1) n
    have hrk := (elimE_inv hpr hb).rk
    obtain ⟨T, h1, h2, h3⟩ := s_l08Rows_val z (N := N) (by omega) hlo hhi X O hp (fun q8 q9 q10 q11 q12 => s_l08Reduce z N q8 q9 q10 p q11 q12 (fun q13 q14 q15 q16 q17 => cond (q14.ble 9223372036854775807) (cond (fits IntKind.i64 ((n : Int) - (q14 : Int))) (k ((n : Int) - (q14 : Int)) 0) z) z))
    obtain ⟨pool', ids', f1, f2, f3⟩ := s_l08Reduce_val z (N := N) (W := n) (by omega) hpr (by omega : 1 ≤ n - 1 ∧ n - 1 ≤ 1000) (by omega) (by omega) h2 (by rw [idsOf_len]; exact h1) hb (n - 1) (fun q13 q14 q15 q16 q17 => cond (q14.ble 9223372036854775807) (cond (fits IntKind.i64 ((n : Int) - (q14 : Int))) (k ((n : Int) - (q14 : Int)) 0) z) z)
    refine h3.trans (f3.trans ?_)
    simp (disch := omega) only [c_ble, c_fits]
theorem i_CountColourings_val (z : β) {N n : Nat} {X O : Nat → Int} (hN : 100 < N) (g : GridP n X O) (hX : ∀ j, 0 ≤ X j) (hO : ∀ j, 0 ≤ O j) (p : Int) (k : Int → Int → β) :
    i_CountColourings z N n X O p k = cond (primeB p) (k ((n : Int) - (elimE p (n - 1) n (modM (eqM n X O) p)).2) 0) (k 0 2) := by
  have hlo := g.lo
  have hhi := g.hi
  unfold i_CountColourings i_coloured_int64
  rw [i_IsGrid_val z (by omega) _ _ _ hX hO, gridB_iff.2 ⟨n, rfl, g⟩, Bool.not_true, c_false, i_isPrime_val z hN]
  cases hpr : primeB p with
  | false => rfl
  | true =>
    have hp := primeB_bd hpr
    rw [Bool.not_true, c_false, c_true]
    unfold i_CountColourings_1
    rw [i_Grid_equations_val z (by omega) hlo hhi]
    unfold i_Grid_n
    have hb := modM_bd (m := eqM n X O) hp.1 (n - 1) n
    have hrk := (elimE_inv hpr hb).rk
    obtain ⟨hl, hr⟩ := eqnsT_spec n X O
    have ht : TabF (idsOf (eqnsT n X O)) (eqnsT n X O) (n - 1) n (eqM n X O) := TabF.of_app hl (fun i hi => by rw [hr i hi]; exact eqnR_len n X O i) (fun i j hi hj => by rw [hr i hi]; exact eqnR_at X O i hj)
    have hli : (idsOf (eqnsT n X O)).length = n - 1 := by rw [idsOf_len]; exact hl
    rw [hli, hl]
    obtain ⟨pool', ids', f1, f2, f3⟩ := i_echelon_val z (N := N) (W := n) (by omega) hpr (by omega : 1 ≤ n - 1 ∧ n - 1 ≤ 1000) (by omega) ht hli (n - 1) (fun q12 q13 q14 q15 q16 q17 q18 q19 q20 => cond (q16.ble 9223372036854775807) (cond (fits IntKind.i64 ((n : Int) - (q16 : Int))) (k ((n : Int) - (q16 : Int)) 0) z) z)
    refine f3.trans ?_
    have hpv : (pivL p (n - 1) n 0 (modM (eqM n X O) p, 0)).length = (elimE p (n - 1) n (modM (eqM n X O) p)).2 := by
      have := pivL_len p (n - 1) n 0 (modM (eqM n X O) p, 0)
      rw [Nat.zero_add] at this
      exact this
    rw [hpv]
    simp (disch := omega) only [c_ble, c_fits]
theorem w_FnExactCountColourings_val (z : β) {N : Nat} (hN : 100 < N) (n : Int) (X O : Nat → Int) (p : Int) (hX : ∀ j, j < 8 → 0 ≤ X j ∧ X j ≤ 255) (hO : ∀ j, j < 8 → 0 ≤ O j ∧ O j ≤ 255) (k0 : Bool → β) : w_FnExactCountColourings z N n X O p k0 = k0 true := by
  unfold w_FnExactCountColourings
  have N8 : 8 < N := by omega
  have hX0 := clip8_nn fun j h => (hX j h).1
  have hO0 := clip8_nn fun j h => (hO j h).1
  simp only [w_toGrid_val z N8]
  cases hg : gridB n (clip8 X) (clip8 O) with
  | false =>
    have s : ∀ k : Int → Int → β, s_CountColourings z N n (clip8 X) (clip8 O) p k = k 0 1 := fun k => by
      unfold s_CountColourings s_l08Code; rw [s_l01Is_val z N8 _ _ _ hX0 hO0, hg]; rfl
    have i : ∀ k : Int → Int → β, i_CountColourings z N n (clip8 X) (clip8 O) p k = k 0 1 := fun k => by
      unfold i_CountColourings i_coloured_int64; rw [i_IsGrid_val z N8 _ _ _ hX0 hO0, hg]; rfl
    rw [s]
    simp only [i, bne_self_eq_false, cond_false]
  | true =>
    obtain ⟨m, rfl, g⟩ := gridB_iff.1 hg
    rw [s_CountColourings_val z hN g hX0 hO0]
    simp only [i_CountColourings_val z hN g hX0 hO0]
    cases primeB p <;> simp only [cond_true, cond_false, bne_self_eq_false]
end
end Go.AM

namespace Go.AM
theorem stay {p : Int} {R : Nat} : ∀ d c (s : Mat × Nat), (iter (stepE p R) d c s).2 = s.2 → iter (stepE p R) d c s = s := by
  intro d
  induction d with
  | zero => intro c s _; rfl
  | succ d ih =>
    intro c s h
    rw [iter] at h ⊢
    have h1 := pivL_len p R d (c + 1) (stepE p R c s)
    by_cases hk : pivE R c s < R
    · have : (stepE p R c s).2 = s.2 + 1 := by unfold stepE; rw [if_pos hk]
      omega
    · have e : stepE p R c s = s := by unfold stepE; rw [if_neg hk]
      rw [e] at h ⊢
      exact ih (c + 1) s h
theorem rank_pos {p : Int} (hpr : primeB p = true) {R W : Nat} {m : Mat} (hb : Bnd p R W m) {a b : Nat} (ha : a < R) (hb' : b < W) (hne : m a b ≠ 0) : 1 ≤ (elimE p R W m).2 := by
  rcases Nat.eq_zero_or_pos (elimE p R W m).2 with e | e
  · exfalso
    have h1 : elimE p R W m = (m, 0) := stay W 0 (m, 0) e
    have h2 := (stairs0 hpr hb).zero a (by rw [e]; omega) ha b hb'
    rw [h1] at h2
    exact hne h2
  · exact e
def bRows (n : Nat) (X O : Nat → Int) (p : Int) : Mat × Nat := elimE p (n - 1) n (modM (eqM n X O) p)
def bPiv (n : Nat) (X O : Nat → Int) (p : Int) : List Int := pivL p (n - 1) n 0 (modM (eqM n X O) p, 0)
def bFree (n : Nat) (X O : Nat → Int) (p : Int) : Mat := freeM n (fun c => rowI (bRows n X O p).1 (bPiv n X O p) c (bRows n X O p).2) (bPiv n X O p)
def bNum (n : Nat) (X O : Nat → Int) (p : Int) : Nat := (freeL n (bPiv n X O p)).length
def bRed (n : Nat) (X O : Nat → Int) (p : Int) : Mat × Nat := elimE p (bNum n X O p) n (modM (bFree n X O p) p)
def basT (n : Nat) (X O : Nat → Int) (p : Int) : List (List Int) := tabM (bRed n X O p).1 (bRed n X O p).2 n
theorem rowI_keep {m : Mat} {pv : List Int} {c : Nat} (hc : pv.contains (c : Int) = false) (hq : ∀ k, k < pv.length → ∃ q : Nat, pv[k]? = some (q : Int)) : ∀ k, k ≤ pv.length → rowI m pv c k c = 1 := by
  intro k
  induction k with
  | zero => intro _; show upd (fun _ => (0 : Int)) c 1 c = 1; rw [upd_at, if_pos rfl]
  | succ k ih =>
    intro hk
    have h2 : rowI m pv c (k + 1) = upd (rowI m pv c k) (pv[k]?.getD 0).toNat (-(m k c)) := by
      unfold rowI; rw [iter_succ, Nat.zero_add]
    obtain ⟨q, hq⟩ := hq k (by omega)
    rw [h2, upd_at, if_neg, ih (by omega)]
    rw [hq]
    intro e
    have e : c = q := e
    subst e
    have : (c : Int) ∈ pv := List.mem_of_getElem? hq
    have : pv.contains (c : Int) = true := by simpa using this
    rw [this] at hc
    cases hc
structure BasP (n : Nat) (X O : Nat → Int) (p : Int) : Prop where
  pr : primeB p = true
  lo : 2 ≤ n
  hi : n ≤ 8
theorem BasP.bnd {n : Nat} {X O : Nat → Int} {p : Int} (h : BasP n X O p) : Bnd p (n - 1) n (bRows n X O p).1 :=
  (elimE_inv h.pr (modM_bd (m := eqM n X O) (primeB_bd h.pr).1 (n - 1) n)).bd
theorem BasP.pv {n : Nat} {X O : Nat → Int} {p : Int} (h : BasP n X O p) : PvP n (n - 1) (bRows n X O p).2 (bRows n X O p).1 (bPiv n X O p) := by
  have hb := modM_bd (m := eqM n X O) (primeB_bd h.pr).1 (n - 1) n
  have s := stairs0 h.pr hb
  have e := (elimE_inv h.pr hb).rk
  exact ⟨s.len, e, s.own⟩
theorem BasP.num {n : Nat} {X O : Nat → Int} {p : Int} (h : BasP n X O p) : 1 ≤ bNum n X O p ∧ bNum n X O p ≤ n := by
  refine ⟨freeL_pos ?_, freeL_le _ _⟩
  have := h.lo
  have := h.pv.len
  have := h.pv.le
  omega
theorem BasP.rank {n : Nat} {X O : Nat → Int} {p : Int} (h : BasP n X O p) : 1 ≤ (bRed n X O p).2 ∧ (bRed n X O p).2 ≤ bNum n X O p := by
  have hp := primeB_bd h.pr
  have hb := modM_bd (m := bFree n X O p) hp.1 (bNum n X O p) n
  have hn := h.num
  refine ⟨rank_pos h.pr hb (a := 0) (b := (freeL n (bPiv n X O p))[0]?.getD 0) (by omega) (freeL_lt hn.1) ?_, (elimE_inv h.pr hb).rk⟩
  have hq := rowI_keep (m := (bRows n X O p).1) (freeL_not (a := 0) hn.1) (fun k hk => by
    obtain ⟨q, h1, _⟩ := h.pv.own k (by rw [← h.pv.len]; exact hk)
    exact ⟨q, h1⟩) (bRows n X O p).2 (by rw [h.pv.len]; exact Nat.le_refl _)
  show modV p (bFree n X O p 0 _) ≠ 0
  have : bFree n X O p 0 ((freeL n (bPiv n X O p))[0]?.getD 0) = 1 := hq
  rw [this, modV_one hp.1]
  omega
theorem BasP.free {n : Nat} {X O : Nat → Int} {p : Int} (h : BasP n X O p) (a b : Nat) (ha : a < bNum n X O p) (_hb : b < n) :
    freeM n (fun c => rowS (bRows n X O p).1 p (bPiv n X O p) c (bRows n X O p).2) (bPiv n X O p) a b = modM (bFree n X O p) p a b := by
  have hp := primeB_bd h.pr
  have := rowS_eq (pv := bPiv n X O p) hp.1 h.bnd (freeL_lt (a := a) ha) (bRows n X O p).2 h.pv.le
  show rowS (bRows n X O p).1 p (bPiv n X O p) _ (bRows n X O p).2 b = _
  rw [this]
  rfl
theorem BasP.small {n : Nat} {X O : Nat → Int} {p : Int} (h : BasP n X O p) {N : Nat} (hN : 100 < N) : SmallT N (basT n X O p) := by
  have := h.rank; have := h.num; have := h.hi
  exact tabM_small _ (by omega) (by omega)
section
variable {β : Type}
theorem s_ColouringBasis_val (z : β) {N n : Nat} {X O : Nat → Int} (hN : 100 < N) (g : GridP n X O) (hX : ∀ j, 0 ≤ X j) (hO : ∀ j, 0 ≤ O j) {p : Int} (hpr : primeB p = true) (k0 : Int → β) (k1 : Nat → Nat → Nat → Int → List (Nat × Nat) → List (List Int) → β) :
    ∃ ids pool, TabP ids pool (basT n X O p) ∧ s_ColouringBasis z N n X O p k0 k1 = k1 ids.length (basT n X O p).length ids.length 0 ids pool := by
  have hlo := g.lo
  have hhi := g.hi
  have hp := primeB_bd hpr
  have B : BasP n X O p := ⟨hpr, hlo, hhi⟩
  have hn := B.num
  have hr := B.rank
  have hrk := B.pv.le
  unfold s_ColouringBasis s_l08Code
  rw [s_l01Is_val z (by omega) _ _ _ hX hO, gridB_iff.2 ⟨n, rfl, g⟩, Bool.not_true, c_false, s_l08Prime_val z hN, hpr, Bool.not_true, c_false]
  have e0 : ∀ a b : β, cond ((0 : Int) != 0) a b = b := fun a b => c_nne rfl
  simp only [c_true, e0]
  have hb := modM_bd (m := eqM n X O) hp.1 (n - 1) n
  have hb2 := modM_bd (m := bFree n X O p) hp.1 (bNum n X O p) n
  have tf := (freeT_tab n (fun c => rowS (bRows n X O p).1 p (bPiv n X O p) c (bRows n X O p).2) (bPiv n X O p)).congr B.free
  have tl := idsOf_len (freeT n (fun c => rowS (bRows n X O p).1 p (bPiv n X O p) c (bRows n X O p).2) (bPiv n X O p) n)
  rw [freeT_len] at tl
  obtain ⟨pool2, ids2, g1, g2, g3⟩ := s_l08Reduce_val z (N := N) (W := n) (by omega) hpr (R := bNum n X O p) (by omega) (by omega) (by omega) tf tl hb2 (bNum n X O p) (fun q28 q29 q30 q31 q32 => k1 q28 q29 q30 0 q32 q31)
  obtain ⟨T, h1, h2, h3⟩ := s_l08Rows_val z (N := N) (by omega) hlo hhi X O hp (fun q8 q9 q10 q11 q12 => s_l08Reduce z N q8 q9 q10 p q11 q12 (fun q13 q14 q15 q16 q17 => s_ColouringBasis_l0 z N p q13 q14 q15 n X O q11 q12 q16 q17 N 0 0 0 0 (fun (x : Nat) => false) (List.replicate 0 0) (fun q18 q19 q20 q21 q22 => s_ColouringBasis_l2 z N p q13 q14 q15 q18 q19 q20 n X O q11 q12 q16 q17 q21 q22 N 0 0 0 0 (List.replicate 0 []) (List.map (fun (i : Nat) => (i, 0)) (List.range 0)) (fun q23 q24 q25 q26 q27 => s_l08Reduce z N q23 q24 q25 p q27 q26 (fun q28 q29 q30 q31 q32 => k1 q28 q29 q30 0 q32 q31)))))
  obtain ⟨pool', ids', f1, f2, f3⟩ := s_l08Reduce_val z (N := N) (W := n) (by omega) hpr (by omega : 1 ≤ n - 1 ∧ n - 1 ≤ 1000) (by omega) (by omega) h2 (by rw [idsOf_len]; exact h1) hb (n - 1) (fun q13 q14 q15 q16 q17 => s_ColouringBasis_l0 z N p q13 q14 q15 n X O (idsOf T) T q16 q17 N 0 0 0 0 (fun (x : Nat) => false) (List.replicate 0 0) (fun q18 q19 q20 q21 q22 => s_ColouringBasis_l2 z N p q13 q14 q15 q18 q19 q20 n X O (idsOf T) T q16 q17 q21 q22 N 0 0 0 0 (List.replicate 0 []) (List.map (fun (i : Nat) => (i, 0)) (List.range 0)) (fun q23 q24 q25 q26 q27 => s_l08Reduce z N q23 q24 q25 p q27 q26 (fun q28 q29 q30 q31 q32 => k1 q28 q29 q30 0 q32 q31))))
  have hT : (basT n X O p).length = (bRed n X O p).2 := tabM_len _ _ _
  rw [show elimE p (n - 1) n (modM (eqM n X O) p) = bRows n X O p from rfl] at f1 f3
  refine ⟨ids2, pool2, g1.toP hr.2, h3.trans (f3.trans ?_)⟩
  show s_ColouringBasis_l0 z N p (n - 1) (bRows n X O p).2 (n - 1) n X O (idsOf T) T pool' ids' N 0 0 0 0 (fun (x : Nat) => false) (List.replicate 0 0) _ = _
  rw [basis_l0 z (by omega) (by omega) hhi f1 f2 B.pv]
  rw [basis_l2 z (by omega) (by omega) hhi f1 f2 B.pv hp B.bnd]
  rw [g2, hT]
  exact g3
theorem clone_val (z : β) {N R l : Nat} {ids : List (Nat × Nat)} {pool : List (List Int)} (hl : ids.length = R) (h1 : 1 ≤ l) (h2 : l ≤ R) (hR : R ≤ 1000) (k0 : List (List Int) → List (Nat × Nat) → β) (k1 : Nat → Nat → Nat → List (Nat × Nat) → β) :
    slices_Clone_int64_int64 z N R l R ids pool k0 k1 = k1 (ids.take l).length l l (ids.take l) := by
  have e : fromTo ids 0 l = ids.take l := by
    rw [fromTo]
    by_cases hh : l = ids.length
    · rw [show Nat.beq l ids.length = true from by rw [hh]; exact Nat.beq_refl _, List.take_of_length_le (by omega)]; rfl
    · exact c_nbeq hh
  unfold slices_Clone_int64_int64
  simp only [c_and, Nat.zero_add, e]
  simp (disch := omega) only [c_blt, c_beq, c_ble, c_nble, c_nbeq]
theorem i_ColouringBasis_val (z : β) {N n : Nat} {X O : Nat → Int} (hN : 100 < N) (g : GridP n X O) (hX : ∀ j, 0 ≤ X j) (hO : ∀ j, 0 ≤ O j) {p : Int} (hpr : primeB p = true) (k0 : Int → β) (k1 : Int → List (Nat × Nat) → List (List Int) → β) (k2 : Nat → Nat → Nat → Int → List (Nat × Nat) → List (List Int) → β) :
    ∃ ids pool, TabP ids pool (basT n X O p) ∧ i_ColouringBasis z N n X O p k0 k1 k2 = k2 ids.length (basT n X O p).length (basT n X O p).length 0 ids pool := by
  have hlo := g.lo
  have hhi := g.hi
  have hp := primeB_bd hpr
  have B : BasP n X O p := ⟨hpr, hlo, hhi⟩
  have hn := B.num
  have hr := B.rank
  have hrk := B.pv.le
  have hT : (basT n X O p).length = (bRed n X O p).2 := tabM_len _ _ _
  unfold i_ColouringBasis i_coloured_int64_v1
  rw [i_IsGrid_val z (by omega) _ _ _ hX hO, gridB_iff.2 ⟨n, rfl, g⟩, Bool.not_true, c_false, i_isPrime_val z hN, hpr, Bool.not_true, c_false]
  unfold i_ColouringBasis_1
  rw [i_Grid_equations_val z (by omega) hlo hhi]
  unfold i_Grid_n
  have tf := freeT_tab n (fun c => rowI (bRows n X O p).1 (bPiv n X O p) c (bRows n X O p).2) (bPiv n X O p)
  have tl := idsOf_len (freeT n (fun c => rowI (bRows n X O p).1 (bPiv n X O p) c (bRows n X O p).2) (bPiv n X O p) n)
  rw [freeT_len] at tl
  obtain ⟨pool2, ids2, g1, g2, g3⟩ := i_echelon_val z (N := N) (W := n) (by omega) hpr (R := bNum n X O p) (by omega) (by omega) tf tl (bNum n X O p) (fun q26 q27 q28 q29 q30 q31 q32 q33 q34 => slices_Clone_int64_int64 z N q26 q27 q28 q33 q32 (fun q35 q36 => k1 0 q36 q35) (fun q35 q36 q37 q38 => k2 q35 q36 q37 0 q38 q32))
  obtain ⟨hl, hr'⟩ := eqnsT_spec n X O
  have ht : TabF (idsOf (eqnsT n X O)) (eqnsT n X O) (n - 1) n (eqM n X O) := TabF.of_app hl (fun i hi => by rw [hr' i hi]; exact eqnR_len n X O i) (fun i j hi hj => by rw [hr' i hi]; exact eqnR_at X O i hj)
  have hli : (idsOf (eqnsT n X O)).length = n - 1 := by rw [idsOf_len]; exact hl
  rw [hli, hl]
  obtain ⟨pool', ids', f1, f2, f3⟩ := i_echelon_val z (N := N) (W := n) (by omega) hpr (by omega : 1 ≤ n - 1 ∧ n - 1 ≤ 1000) (by omega) ht hli (n - 1) (fun q12 q13 q14 q15 q16 q17 q18 q19 q20 => i_ColouringBasis_1_l0 z N q12 q13 q14 q15 q16 q17 n n X O p (idsOf (eqnsT n X O)) (eqnsT n X O) q18 q19 q20 N 0 0 0 0 (List.replicate 0 []) (List.map (fun (i : Nat) => (i, 0)) (List.range 0)) (fun q21 q22 q23 q24 q25 => i_echelon z N q21 q22 q23 n p q25 q24 (fun q26 q27 q28 q29 q30 q31 q32 q33 q34 => slices_Clone_int64_int64 z N q26 q27 q28 q33 q32 (fun q35 q36 => k1 0 q36 q35) (fun q35 q36 q37 q38 => k2 q35 q36 q37 0 q38 q32))))
  rw [show elimE p (n - 1) n (modM (eqM n X O) p) = bRows n X O p from rfl] at f1 f3
  refine ⟨ids2.take (bRed n X O p).2, pool2, (g1.toP hr.2).take (by rw [tabM_len]; exact Nat.le_refl _), f3.trans ?_⟩
  show i_ColouringBasis_1_l0 z N (n - 1) (bRows n X O p).2 (n - 1) (bPiv n X O p).length (bPiv n X O p).length (bPiv n X O p).length n n X O p (idsOf (eqnsT n X O)) (eqnsT n X O) pool' ids' (bPiv n X O p) N 0 0 0 0 (List.replicate 0 []) (List.map (fun (i : Nat) => (i, 0)) (List.range 0)) _ = _
  rw [basisI_l0 z (by omega) (by omega) hhi f1 f2 B.pv hp B.bnd]
  refine g3.trans ?_
  show slices_Clone_int64_int64 z N (bNum n X O p) (bRed n X O p).2 (bNum n X O p) ids2 pool2 _ _ = _
  rw [clone_val z g2 hr.1 hr.2 (by omega), hT]
theorem w_FnExactColouringBasis_val (z : β) {N : Nat} (hN : 100 < N) (n : Int) (X O : Nat → Int) (p : Int) (hX : ∀ j, j < 8 → 0 ≤ X j ∧ X j ≤ 255) (hO : ∀ j, j < 8 → 0 ≤ O j ∧ O j ≤ 255) (k0 : Bool → β) : w_FnExactColouringBasis z N n X O p k0 = k0 true := by
  unfold w_FnExactColouringBasis
  have N8 : 8 < N := by omega
  have hX0 := clip8_nn fun j h => (hX j h).1
  have hO0 := clip8_nn fun j h => (hO j h).1
  simp only [w_toGrid_val z N8]
  cases hg : gridB n (clip8 X) (clip8 O) with
  | false =>
    have s : ∀ k0 k1, s_ColouringBasis z N n (clip8 X) (clip8 O) p k0 k1 = (k0 1 : β) := fun k0 k1 => by
      unfold s_ColouringBasis s_l08Code; rw [s_l01Is_val z N8 _ _ _ hX0 hO0, hg]; rfl
    have i : ∀ k0 k1 k2, i_ColouringBasis z N n (clip8 X) (clip8 O) p k0 k1 k2 = (k0 1 : β) := fun k0 k1 k2 => by
      unfold i_ColouringBasis i_coloured_int64_v1; rw [i_IsGrid_val z N8 _ _ _ hX0 hO0, hg]; rfl
    rw [s]
    simp only [i, eqNil z (by omega : 0 < N), markNil z (by omega : 0 < N), heldNil z (by omega : 0 < N), bne_self_eq_false, cond_false, Bool.not_true]
  | true =>
    obtain ⟨m, rfl, g⟩ := gridB_iff.1 hg
    cases hpr : primeB p with
    | false =>
      have s : ∀ k0 k1, s_ColouringBasis z N m (clip8 X) (clip8 O) p k0 k1 = (k0 2 : β) := fun k0 k1 => by
        unfold s_ColouringBasis s_l08Code; rw [s_l01Is_val z N8 _ _ _ hX0 hO0, hg, Bool.not_true, c_false, s_l08Prime_val z hN, hpr]; rfl
      have i : ∀ k0 k1 k2, i_ColouringBasis z N m (clip8 X) (clip8 O) p k0 k1 k2 = (k0 2 : β) := fun k0 k1 k2 => by
        unfold i_ColouringBasis i_coloured_int64_v1; rw [i_IsGrid_val z N8 _ _ _ hX0 hO0, hg, Bool.not_true, c_false, i_isPrime_val z hN, hpr]; rfl
      rw [s]
      simp only [i, eqNil z (by omega : 0 < N), markNil z (by omega : 0 < N), heldNil z (by omega : 0 < N), bne_self_eq_false, cond_false, Bool.not_true]
    | true =>
      have sm := (⟨hpr, g.lo, g.hi⟩ : BasP m (clip8 X) (clip8 O) p).small hN
      obtain ⟨ids, pool, tp, e⟩ := s_ColouringBasis_val z hN g hX0 hO0 hpr _ _
      refine e.trans ?_
      clear e
      obtain ⟨ids1, pool1, tp1, e1⟩ := i_ColouringBasis_val z hN g hX0 hO0 hpr _ _ _
      refine e1.trans ?_
      clear e1
      simp only [eqTab z tp1 tp sm, Bool.not_true, cond_false, bne_self_eq_false]
      simp only [markTab z tp1 sm]
      have h0 : decide ((1 : Int) + (total (basT m (clip8 X) (clip8 O) p) (basT m (clip8 X) (clip8 O) p).length : Int) < 0) = false := decide_eq_false (by omega)
      simp only [heldTab z (markTab_spec tp1) sm, h0, bne_self_eq_false, cond_false]
      obtain ⟨ids2, pool2, tp2, e2⟩ := i_ColouringBasis_val z hN g hX0 hO0 hpr _ _ _
      refine e2.trans ?_
      clear e2
      simp only [eqTab z tp2 tp sm, Bool.not_true, cond_false, bne_self_eq_false]
end
end Go.AM
