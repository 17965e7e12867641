/- A part of a proof about the given program: an abstract machine, what the given functions come to, and plain laws. -/
import Derived.Test.YtoginabccpjeoaaMachB
import Derived.Test.YtoginabccpjeoaaDallLawCrossings1
set_option linter.unusedVariables false
set_option linter.unusedSimpArgs false
namespace Go.AM
section guards
variable {β : Type} {x y : β}
theorem c_and (a b : Bool) : cond (a && b) x y = cond a (cond b x y) y := by cases a <;> rfl
theorem c_not (a : Bool) : cond (!a) x y = cond a y x := by cases a <;> rfl
theorem c_lt {a b : Int} (h : a < b) : cond (decide (a < b)) x y = x := by rw [decide_eq_true h]; rfl
theorem c_nlt {a b : Int} (h : b <= a) : cond (decide (a < b)) x y = y := by rw [decide_eq_false (by omega)]; rfl
theorem c_le {a b : Int} (h : a <= b) : cond (decide (a <= b)) x y = x := by rw [decide_eq_true h]; rfl
theorem c_nle {a b : Int} (h : b < a) : cond (decide (a <= b)) x y = y := by rw [decide_eq_false (by omega)]; rfl
theorem c_ne {a b : Int} (h : a ≠ b) : cond (a != b) x y = x := by rw [show (a != b) = true by simpa using h]; rfl
theorem c_nne {a b : Int} (h : a = b) : cond (a != b) x y = y := by rw [show (a != b) = false by simpa using h]; rfl
theorem c_eq {a b : Int} (h : a = b) : cond (a == b) x y = x := by rw [show (a == b) = true by simpa using h]; rfl
theorem c_neq {a b : Int} (h : a ≠ b) : cond (a == b) x y = y := by rw [show (a == b) = false by simpa using h]; rfl
theorem c_blt {a b : Nat} (h : a < b) : cond (a.blt b) x y = x := by rw [show a.blt b = true by rwa [Nat.blt_eq]]; rfl
theorem c_ble {a b : Nat} (h : a <= b) : cond (a.ble b) x y = x := by rw [show a.ble b = true by rwa [Nat.ble_eq]]; rfl
theorem c_nble {a b : Nat} (h : b < a) : cond (a.ble b) x y = y := by rw [show a.ble b = false by rw [<- Bool.not_eq_true, Nat.ble_eq]; omega]; rfl
theorem c_beq {a b : Nat} (h : a = b) : cond (a.beq b) x y = x := by rw [show a.beq b = true by subst h; exact Nat.beq_refl a]; rfl
theorem c_nbeq {a b : Nat} (h : a ≠ b) : cond (a.beq b) x y = y := by rw [show a.beq b = false by rw [<- Bool.not_eq_true]; exact fun e => h (Nat.eq_of_beq_eq_true e)]; rfl
theorem fits64 {x : Int} (h : -9223372036854775808 <= x ∧ x <= 9223372036854775807) : fits .i64 x = true := by rw [fits_iff]; exact h
theorem c_fits {a : Int} (h : -9223372036854775808 <= a ∧ a <= 9223372036854775807) : cond (fits .i64 a) x y = x := by rw [fits64 h]; rfl
theorem c_true : cond true x y = x := rfl
theorem c_false : cond false x y = y := rfl
theorem c_dec (p : Prop) [Decidable p] : cond (decide p) x y = if p then x else y := by by_cases h : p <;> simp [h]
end guards
section upd
variable {β : Type}
theorem upd_at (f : Nat -> β) (i : Nat) (v : β) (j : Nat) : upd f i v j = if j = i then v else f j := by
  unfold upd
  by_cases h : j = i
  · subst h; rw [Nat.beq_refl]; simp
  · rw [show Nat.beq j i = false by rw [<- Bool.not_eq_true]; exact fun e => h (Nat.eq_of_beq_eq_true e), if_neg h]; rfl
end upd
section loops
variable {β σ ρ : Type}
def iter (f : Nat -> σ -> σ) : Nat -> Nat -> σ -> σ
  | 0, _, s => s
  | d + 1, i, s => iter f d (i + 1) (f i s)
theorem iter_succ (f : Nat -> σ -> σ) : ∀ (d i : Nat) (s : σ), iter f (d + 1) i s = f (i + d) (iter f d i s) := by
  intro d
  induction d with
  | zero => intro i s; rfl
  | succ d ih => intro i s; rw [iter, ih, iter]; congr 1; omega
theorem iter_inv {f : Nat -> σ -> σ} {I : Nat -> σ -> Prop} {n : Nat} (h : ∀ i s, i < n -> I i s -> I (i + 1) (f i s)) : ∀ (d i : Nat) (s : σ), i + d <= n -> I i s -> I (i + d) (iter f d i s) := by
  intro d
  induction d with
  | zero => intro i s _ h0; exact h0
  | succ d ih =>
    intro i s hn h0
    have := ih (i + 1) (f i s) (by omega) (h i s (by omega) h0)
    rw [show i + 1 + d = i + (d + 1) by omega] at this
    exact this
theorem up_to {L : Nat -> Nat -> σ -> β} {n : Nat} {out : σ -> β} {f : Nat -> σ -> σ} {I : Nat -> σ -> Prop}
    (hs : ∀ m i s, i < n -> I i s -> L (m + 1) i s = L m (i + 1) (f i s) ∧ I (i + 1) (f i s)) (he : ∀ m s, I n s -> L (m + 1) n s = out s) :
    ∀ (d m i : Nat) (s : σ), i + d = n -> d < m -> I i s -> L m i s = out (iter f d i s) := by
  intro d
  induction d with
  | zero =>
    intro m i s hi hm h0
    obtain ⟨m, rfl⟩ : ∃ m', m = m' + 1 := ⟨m - 1, by omega⟩
    have : i = n := by omega
    subst this
    exact he m s h0
  | succ d ih =>
    intro m i s hi hm h0
    obtain ⟨m, rfl⟩ : ∃ m', m = m' + 1 := ⟨m - 1, by omega⟩
    obtain ⟨h1, h2⟩ := hs m i s (by omega) h0
    rw [h1]
    exact ih m (i + 1) (f i s) (by omega) (by omega) h2
theorem up_to_ex {L : Nat -> Nat -> σ -> β} {n : Nat} {out : σ -> β} {I : Nat -> σ -> Prop}
    (hs : ∀ i s, i < n -> I i s -> ∃ s', (∀ m, L (m + 1) i s = L m (i + 1) s') ∧ I (i + 1) s') (he : ∀ m s, I n s -> L (m + 1) n s = out s) :
    ∀ (d m i : Nat) (s : σ), i + d = n -> d < m -> I i s -> ∃ s', L m i s = out s' ∧ I n s' := by
  intro d
  induction d with
  | zero =>
    intro m i s hi hm h0
    obtain ⟨m, rfl⟩ : ∃ m', m = m' + 1 := ⟨m - 1, by omega⟩
    have : i = n := by omega
    subst this
    exact ⟨s, he m s h0, h0⟩
  | succ d ih =>
    intro m i s hi hm h0
    obtain ⟨m, rfl⟩ : ∃ m', m = m' + 1 := ⟨m - 1, by omega⟩
    obtain ⟨s', h1, h2⟩ := hs i s (by omega) h0
    rw [h1]
    exact ih m (i + 1) s' (by omega) (by omega) h2
def iterE (f : Nat -> σ -> σ ⊕ ρ) : Nat -> Nat -> σ -> σ ⊕ ρ
  | 0, _, s => .inl s
  | d + 1, i, s => match f i s with
    | .inl s' => iterE f d (i + 1) s'
    | .inr r => .inr r
def orOut (out : σ -> β) (ex : ρ -> β) : σ ⊕ ρ -> β
  | .inl s => out s
  | .inr r => ex r
theorem up_to_E {L : Nat -> Nat -> σ -> β} {n : Nat} {out : σ -> β} {ex : ρ -> β} {f : Nat -> σ -> σ ⊕ ρ} {I : Nat -> σ -> Prop}
    (hs : ∀ m i s, i < n -> I i s -> (∃ s', f i s = .inl s' ∧ L (m + 1) i s = L m (i + 1) s' ∧ I (i + 1) s') ∨ ∃ r, f i s = .inr r ∧ L (m + 1) i s = ex r) (he : ∀ m s, I n s -> L (m + 1) n s = out s) :
    ∀ (d m i : Nat) (s : σ), i + d = n -> d < m -> I i s -> L m i s = orOut out ex (iterE f d i s) := by
  intro d
  induction d with
  | zero =>
    intro m i s hi hm h0
    obtain ⟨m, rfl⟩ : ∃ m', m = m' + 1 := ⟨m - 1, by omega⟩
    have : i = n := by omega
    subst this
    exact he m s h0
  | succ d ih =>
    intro m i s hi hm h0
    obtain ⟨m, rfl⟩ : ∃ m', m = m' + 1 := ⟨m - 1, by omega⟩
    rcases hs m i s (by omega) h0 with ⟨s', h1, h2, h3⟩ | ⟨r, h1, h2⟩
    · rw [h2, iterE, h1]
      exact ih m (i + 1) s' (by omega) (by omega) h3
    · rw [h2, iterE, h1]; rfl
def allFrom (p : Nat -> Bool) : Nat -> Nat -> Bool
  | 0, _ => true
  | d + 1, i => p i && allFrom p d (i + 1)
theorem allFrom_iff {p : Nat -> Bool} : ∀ (d i : Nat), allFrom p d i = true ↔ ∀ j, i <= j -> j < i + d -> p j = true := by
  intro d
  induction d with
  | zero => intro i; exact ⟨fun _ j h1 h2 => by omega, fun _ => rfl⟩
  | succ d ih =>
    intro i
    rw [allFrom, Bool.and_eq_true, ih]
    refine ⟨fun ⟨h1, h2⟩ j h3 h4 => ?_, fun h => ⟨h i (by omega) (by omega), fun j h3 h4 => h j (by omega) (by omega)⟩⟩
    by_cases e : j = i
    · subst e; exact h1
    · exact h2 j (by omega) (by omega)
theorem up_to_all {L : Nat -> Nat -> β} {n : Nat} {kt kf : β} {p : Nat -> Bool}
    (hs : ∀ m i, i < n -> L (m + 1) i = cond (p i) (L m (i + 1)) kf) (he : ∀ m, L (m + 1) n = kt) :
    ∀ (d m i : Nat), i + d = n -> d < m -> L m i = cond (allFrom p d i) kt kf := by
  intro d
  induction d with
  | zero =>
    intro m i hi hm
    obtain ⟨m, rfl⟩ : ∃ m', m = m' + 1 := ⟨m - 1, by omega⟩
    have : i = n := by omega
    subst this
    exact he m
  | succ d ih =>
    intro m i hi hm
    obtain ⟨m, rfl⟩ : ∃ m', m = m' + 1 := ⟨m - 1, by omega⟩
    rw [hs m i (by omega), allFrom]
    cases p i with
    | false => rfl
    | true => exact ih m (i + 1) (by omega) (by omega)
theorem iter_set {γ : Type} (g : Nat -> γ) : ∀ (d i : Nat) (h : Nat -> γ), iter (fun i h => upd h i (g i)) d i h = fun j => if i <= j ∧ j < i + d then g j else h j := by
  intro d
  induction d with
  | zero => intro i h; funext j; rw [if_neg (by omega)]; rfl
  | succ d ih =>
    intro i h
    rw [iter, ih]
    funext j
    simp only [upd_at]
    by_cases e : j = i
    · subst e; rw [if_neg (by omega), if_pos (by omega)]; simp
    · by_cases e2 : i + 1 <= j ∧ j < i + 1 + d
      · rw [if_pos e2, if_pos (by omega)]
      · rw [if_neg e2, if_neg e, if_neg (by omega)]
end loops
end Go.AM
namespace Go.AM
theorem surj_of_inj : ∀ (n : Nat) (f : Nat -> Nat), (∀ i, i < n -> f i < n) -> (∀ i j, i < n -> j < n -> f i = f j -> i = j) -> ∀ r, r < n -> ∃ i, i < n ∧ f i = r := by
  intro n
  induction n with
  | zero => intro f _ _ r hr; omega
  | succ n ih =>
    intro f hf hi r hr
    have hg := ih (fun i => if f i = n then f n else f i) (fun i h => by
      try simp only
      split
      · rename_i e
        have h1 := hf n (by omega)
        have h2 : f n ≠ n := fun e2 => by have := hi i n (by omega) (by omega) (by omega); omega
        omega
      · have := hf i (by omega); omega) (fun i j h1 h2 e => by
      try simp only at e
      split at e <;> split at e
      · exact hi i j (by omega) (by omega) (by omega)
      · have := hi n j (by omega) (by omega) e; omega
      · have := hi i n (by omega) (by omega) e; omega
      · exact hi i j (by omega) (by omega) e)
    by_cases e : r = n
    · subst e
      by_cases e2 : f r = r
      · exact ⟨r, by omega, e2⟩
      · obtain ⟨i, h1, h2⟩ := hg (f r) (by have := hf r (by omega); omega)
        try simp only at h2
        split at h2
        · rename_i e3; exact ⟨i, by omega, e3⟩
        · have := hi i r (by omega) (by omega) h2; omega
    · obtain ⟨i, h1, h2⟩ := hg r (by omega)
      try simp only at h2
      split at h2
      · exact ⟨n, by omega, h2⟩
      · exact ⟨i, by omega, h2⟩
theorem inj_of_surj (n : Nat) (f : Nat -> Nat) (hf : ∀ i, i < n -> f i < n) (hs : ∀ r, r < n -> ∃ i, i < n ∧ f i = r) : ∀ i j, i < n -> j < n -> f i = f j -> i = j := by
  have hc : ∀ r, ∃ i, r < n -> i < n ∧ f i = r := fun r => by
    by_cases h : r < n
    · obtain ⟨i, hi⟩ := hs r h; exact ⟨i, fun _ => hi⟩
    · exact ⟨0, fun h' => absurd h' h⟩
  obtain ⟨g, hg⟩ := Classical.axiomOfChoice hc
  have hgs := surj_of_inj n g (fun i h => (hg i h).1) (fun i j h1 h2 e => by have a := (hg i h1).2; have b := (hg j h2).2; rw [e] at a; omega)
  intro i j hi hj e
  obtain ⟨r, h1, h2⟩ := hgs i hi
  obtain ⟨s, h3, h4⟩ := hgs j hj
  have a := (hg r h1).2
  have b := (hg s h3).2
  rw [h2] at a
  rw [h4] at b
  have : r = s := by omega
  rw [<- h2, <- h4, this]
theorem bitI_or_nat {a b : Nat} (ha : a < 2 ^ 63) (hb : b < 2 ^ 63) : bitI .or .i64 (a : Int) (b : Int) = ((a ||| b : Nat) : Int) := by
  have e : bitI .or .i64 (a : Int) (b : Int) = IntKind.wrap .i64 ((BitVec.ofInt 64 a ||| BitVec.ofInt 64 b).toNat : Int) := rfl
  rw [e, BitVec.ofInt_natCast, BitVec.ofInt_natCast, BitVec.toNat_or, BitVec.toNat_ofNat, BitVec.toNat_ofNat, Nat.mod_eq_of_lt (by omega), Nat.mod_eq_of_lt (by omega)]
  apply wrap_fits
  have := Nat.or_lt_two_pow ha hb
  exact fits64 (by omega)
theorem shlI_one (x : Nat) : shlI 1 (x : Int) = ((2 ^ x : Nat) : Int) := by
  unfold shlI
  simp
def PermP (w n : Nat) (p : Nat -> Int) : Prop := (∀ j, n <= j -> j < w -> p j = 0) ∧ (∀ j, j < n -> p j < n) ∧ ∀ i j, i < n -> j < n -> p i = p j -> i = j
noncomputable def permB (w n : Nat) (p : Nat -> Int) : Bool := @decide (PermP w n p) (Classical.propDecidable _)
theorem permB_iff {w n : Nat} {p : Nat -> Int} : permB w n p = true ↔ PermP w n p := by
  unfold permB; exact @decide_eq_true_iff _ (Classical.propDecidable _)
theorem permB_of {w n : Nat} {p : Nat -> Int} {b : Bool} (h : b = true ↔ PermP w n p) : b = permB w n p := by
  cases b <;> cases hq : permB w n p <;> simp_all [permB_iff, <- permB_iff]
section order
variable {β : Type}
def ordS (w : Nat) (z : β) (n : Int) (h0 : Nat -> Int) (seen : Int) (t10 : Int) (kn : Int -> Int -> β) (k0 : β) (k1 : Int -> β) : β :=
  cond (decide (t10 < (w : Int))) (cond (decide (0 <= t10) && decide (t10 < (↑w : Int))) (cond (t10.toNat.blt w) (cond (decide (n <= t10)) (cond (h0 t10.toNat != 0) (k0) (cond (decide (n <= h0 t10.toNat)) (k0) (cond (decide (t10 < n)) (cond (decide (0 <= h0 t10.toNat) && decide (h0 t10.toNat < (↑64 : Int))) (cond (fits .i64 (shlI 1 (h0 t10.toNat))) (cond (fits .i64 (t10 + 1)) (kn (bitI BinOp.or IntKind.i64 seen (shlI 1 (h0 t10.toNat))) (t10 + 1)) (z)) (z)) (z)) (cond (fits .i64 (t10 + 1)) (kn seen (t10 + 1)) (z))))) (cond (decide (n <= h0 t10.toNat)) (k0) (cond (decide (t10 < n)) (cond (decide (0 <= h0 t10.toNat) && decide (h0 t10.toNat < (↑64 : Int))) (cond (fits .i64 (shlI 1 (h0 t10.toNat))) (cond (fits .i64 (t10 + 1)) (kn (bitI BinOp.or IntKind.i64 seen (shlI 1 (h0 t10.toNat))) (t10 + 1)) (z)) (z)) (z)) (cond (fits .i64 (t10 + 1)) (kn seen (t10 + 1)) (z))))) (z)) (z)) (k1 seen)
def ordL (w : Nat) (z : β) (n : Int) (h0 : Nat -> Int) : Nat -> Int -> Int -> β -> (Int -> β) -> β
  | 0, _, _, _, _ => z
  | m + 1, seen, t10, k0, k1 => ordS w z n h0 seen t10 (fun seen t10 => ordL w z n h0 m seen t10 k0 k1) k0 k1
def ordF (n : Nat) (p : Nat -> Int) (i s : Nat) : Nat ⊕ Unit :=
  if n <= i then (if p i = 0 then .inl s else .inr ()) else if p i < n then .inl (s ||| 2 ^ (p i).toNat) else .inr ()
theorem ordL_val (w : Nat) (hw : w <= 64) (z : β) (n : Nat) (hn : 1 <= n) (hn8 : n <= 8) (p : Nat -> Int) (hp : ∀ j, 0 <= p j) (k0 : β) (k1 : Int -> β) {N : Nat} (hN : w < N) :
    ordL w z n p N 0 0 k0 k1 = orOut (fun s : Nat => k1 (s : Int)) (fun _ => k0) (iterE (ordF n p) w 0 0) := by
  refine up_to_E (L := fun m i (s : Nat) => ordL w z n p m (s : Int) (i : Int) k0 k1) (n := w) (out := fun s : Nat => k1 (s : Int)) (ex := fun _ => k0) (f := ordF n p) (I := fun _ s => s < 256) ?_ ?_ w N 0 0 (by omega) hN (by omega)
  · intro m i s hi hs
    have h0 := hp i
    simp only [ordL, ordS, c_and, Int.toNat_natCast]
    by_cases h1 : n <= i
    · by_cases h2 : p i = 0
      · left
        refine ⟨s, by unfold ordF; rw [if_pos h1, if_pos h2], ?_, hs⟩
        simp (disch := omega) only [c_lt, c_nlt, c_le, c_nle, c_blt, c_nne, c_fits]
        rfl
      · right
        refine ⟨(), by unfold ordF; rw [if_pos h1, if_neg h2], ?_⟩
        simp (disch := omega) only [c_lt, c_nlt, c_le, c_nle, c_blt, c_ne, c_fits]
    · by_cases h2 : p i < n
      · left
        have hs2 : s ||| 2 ^ (p i).toNat < 256 := Nat.or_lt_two_pow (n := 8) hs (Nat.pow_lt_pow_right (by omega) (by omega))
        refine ⟨s ||| 2 ^ (p i).toNat, by unfold ordF; rw [if_neg h1, if_pos h2], ?_, hs2⟩
        obtain ⟨v, hv⟩ : ∃ v : Nat, p i = (v : Int) := ⟨(p i).toNat, by omega⟩
        have hv8 : v < 8 := by omega
        have hpow : 2 ^ v < 256 := Nat.pow_lt_pow_right (n := 8) (by omega) hv8
        simp only [hv, Int.toNat_natCast, shlI_one] at *
        generalize 2 ^ v = q at *
        simp (disch := omega) only [c_lt, c_nlt, c_le, c_nle, c_blt, c_ne, c_fits]
        rw [bitI_or_nat (by omega) (by omega)]
        rfl
      · right
        refine ⟨(), by unfold ordF; rw [if_neg h1, if_neg h2], ?_⟩
        simp (disch := omega) only [c_lt, c_nlt, c_le, c_nle, c_blt, c_ne, c_fits]
  · intro m s _
    simp (disch := omega) only [ordL, ordS, c_nlt]
def OkFrom (w n : Nat) (p : Nat -> Int) (i : Nat) : Prop := ∀ j, i <= j -> j < w -> (n <= j -> p j = 0) ∧ (j < n -> p j < n)
theorem OkFrom.step {w n i : Nat} {p : Nat -> Int} (hi : i < w) : OkFrom w n p i ↔ ((n <= i -> p i = 0) ∧ (i < n -> p i < n)) ∧ OkFrom w n p (i + 1) := by
  refine ⟨fun h => ⟨h i (by omega) hi, fun j h1 h2 => h j (by omega) h2⟩, fun ⟨h1, h2⟩ j h3 h4 => ?_⟩
  by_cases e : j = i
  · subst e; exact h1
  · exact h2 j (by omega) h4
theorem ordF_run {w n : Nat} {p : Nat -> Int} : ∀ (d i s : Nat), i + d = w ->
    (∃ s', iterE (ordF n p) d i s = .inl s' ∧ OkFrom w n p i ∧ ∀ r, s'.testBit r = true ↔ s.testBit r = true ∨ ∃ j, i <= j ∧ j < n ∧ j < w ∧ (p j).toNat = r) ∨ (iterE (ordF n p) d i s = .inr () ∧ ¬ OkFrom w n p i) := by
  intro d
  induction d with
  | zero =>
    intro i s hi
    left
    refine ⟨s, rfl, fun j h1 h2 => by omega, fun r => ⟨.inl, fun h => ?_⟩⟩
    rcases h with h | ⟨j, h1, _, h2, _⟩
    · exact h
    · omega
  | succ d ih =>
    intro i s hi
    rw [OkFrom.step (by omega)]
    have key : ∀ s', ordF n p i s = .inl s' -> ((n <= i -> p i = 0) ∧ (i < n -> p i < n)) -> (∀ r, s'.testBit r = true ↔ s.testBit r = true ∨ (i < n ∧ (p i).toNat = r)) ->
        (∃ s', iterE (ordF n p) (d + 1) i s = .inl s' ∧ (((n <= i -> p i = 0) ∧ (i < n -> p i < n)) ∧ OkFrom w n p (i + 1)) ∧ ∀ r, s'.testBit r = true ↔ s.testBit r = true ∨ ∃ j, i <= j ∧ j < n ∧ j < w ∧ (p j).toNat = r) ∨
        (iterE (ordF n p) (d + 1) i s = .inr () ∧ ¬ (((n <= i -> p i = 0) ∧ (i < n -> p i < n)) ∧ OkFrom w n p (i + 1))) := by
      intro s' h1 h2 h3
      rcases ih (i + 1) s' (by omega) with ⟨s2, h4, h5, h6⟩ | ⟨h4, h5⟩
      · left
        refine ⟨s2, by rw [iterE, h1]; exact h4, ⟨h2, h5⟩, fun r => ?_⟩
        rw [h6, h3]
        constructor
        · rintro ((h | ⟨h, h'⟩) | ⟨j, g1, g2, g3, g4⟩)
          · exact .inl h
          · exact .inr ⟨i, by omega, h, by omega, h'⟩
          · exact .inr ⟨j, by omega, g2, g3, g4⟩
        · rintro (h | ⟨j, g1, g2, g3, g4⟩)
          · exact .inl (.inl h)
          · by_cases e : j = i
            · subst e; exact .inl (.inr ⟨g2, g4⟩)
            · exact .inr ⟨j, by omega, g2, g3, g4⟩
      · right
        exact ⟨by rw [iterE, h1]; exact h4, fun h => h5 h.2⟩
    by_cases h1 : n <= i
    · by_cases h2 : p i = 0
      · exact key s (by unfold ordF; rw [if_pos h1, if_pos h2]) ⟨fun _ => h2, fun h => by omega⟩ fun r => ⟨.inl, fun h => h.elim id fun h => by omega⟩
      · right
        refine ⟨?_, fun h => h2 (h.1.1 h1)⟩
        rw [iterE]
        have : ordF n p i s = .inr () := by unfold ordF; rw [if_pos h1, if_neg h2]
        rw [this]
    · by_cases h2 : p i < n
      · refine key (s ||| 2 ^ (p i).toNat) (by unfold ordF; rw [if_neg h1, if_pos h2]) ⟨fun h => by omega, fun _ => h2⟩ fun r => ?_
        rw [Nat.testBit_or, Nat.testBit_two_pow, Bool.or_eq_true, decide_eq_true_eq]
        exact ⟨fun h => h.imp id fun h => ⟨by omega, h⟩, fun h => h.imp id fun h => h.2⟩
      · right
        refine ⟨?_, fun h => h2 (h.1.2 (by omega))⟩
        rw [iterE]
        have : ordF n p i s = .inr () := by unfold ordF; rw [if_neg h1, if_neg h2]
        rw [this]
theorem ord_val (w : Nat) (hw : w <= 64) (z : β) (n : Nat) (hn : 1 <= n) (hn8 : n <= 8) (hnw : n <= w) (p : Nat -> Int) (hp : ∀ j, 0 <= p j) (k : Bool -> β) {N : Nat} (hN : w < N) :
    ordL w z n p N 0 0 (k false) (fun q5 => cond (decide (0 <= (n : Int)) && decide ((n : Int) < (↑64 : Int))) (cond (fits .i64 (shlI 1 n)) (cond (fits .i64 (shlI 1 n - 1)) (k (q5 == shlI 1 n - 1)) (z)) (z)) (z)) = k (permB w n p) := by
  rw [ordL_val w hw z n hn hn8 p hp _ _ hN]
  have hpow : 2 ^ n <= 256 := Nat.pow_le_pow_right (n := 2) (by omega) hn8
  have hpos : 0 < 2 ^ n := Nat.two_pow_pos n
  rcases ordF_run (w := w) (n := n) (p := p) w 0 0 (by omega) with ⟨s, h1, h2, h3⟩ | ⟨h1, h2⟩
  · rw [h1]
    simp only [orOut, shlI_one, c_and]
    simp (disch := omega) only [c_lt, c_le, c_fits]
    refine congrArg k (permB_of ?_)
    have hb : ∀ r, s.testBit r = true ↔ ∃ j, j < n ∧ (p j).toNat = r := fun r => by
      rw [h3]
      simp only [Nat.zero_testBit, Bool.false_eq_true, false_or]
      exact ⟨fun ⟨j, _, a, _, b⟩ => ⟨j, a, b⟩, fun ⟨j, a, b⟩ => ⟨j, by omega, a, by omega, b⟩⟩
    have hf : ∀ i, i < n -> (p i).toNat < n := fun i hi => by have := (h2 i (by omega) (by omega)).2 hi; omega
    have e1 : ((s : Int) == ((2 ^ n : Nat) : Int) - 1) = true ↔ ∀ r, r < n -> ∃ j, j < n ∧ (p j).toNat = r := by
      constructor
      · intro h r hr
        have : s = 2 ^ n - 1 := by simp only [beq_iff_eq] at h; omega
        rw [<- hb, this, Nat.testBit_two_pow_sub_one]
        exact decide_eq_true hr
      · intro h
        have : s = 2 ^ n - 1 := by
          apply Nat.eq_of_testBit_eq
          intro r
          rw [Nat.testBit_two_pow_sub_one]
          by_cases hr : r < n
          · rw [decide_eq_true hr, hb]; exact h r hr
          · rw [decide_eq_false hr, <- Bool.not_eq_true, hb]
            rintro ⟨j, a, b⟩
            have := hf j a
            omega
        simp only [beq_iff_eq]
        omega
    rw [e1]
    constructor
    · intro h
      refine ⟨fun j a b => (h2 j (by omega) b).1 a, fun j a => (h2 j (by omega) (by omega)).2 a, fun i j a b e => inj_of_surj n (fun i => (p i).toNat) hf h i j a b (by rw [e])⟩
    · rintro ⟨_, _, h⟩
      exact surj_of_inj n (fun i => (p i).toNat) hf fun i j a b e => h i j a b (by have := hp i; have := hp j; omega)
  · rw [h1]
    simp only [orOut]
    refine congrArg k (permB_of ⟨fun h => (by cases h), fun h => absurd (fun j _ b => ⟨fun a => h.1 j a b, fun a => h.2.1 j a⟩) h2⟩)
end order
end Go.AM
namespace Go.AM
section perm
variable {β : Type}
def permS (w : Nat) (z : β) (n : Int) (h0 : Nat -> Int) (i : Int) (h1 : Nat -> Bool) (kn : Int -> (Nat -> Bool) -> β) (k0 : (Nat -> Bool) -> β) (k1 : (Nat -> Bool) -> β) : β :=
  cond (decide (i < (w : Int))) (cond (decide (n <= i)) (cond (decide (0 <= i) && decide (i < (↑w : Int))) (cond (i.toNat.blt w) (cond (h0 i.toNat != 0) (k0 h1) (cond (fits .i64 (i + 1)) (kn (i + 1) h1) (z))) (z)) (z)) (cond (decide (0 <= i) && decide (i < (↑w : Int))) (cond (i.toNat.blt w) (cond (decide (n <= h0 i.toNat)) (k0 h1) (cond (decide (0 <= i) && decide (i < (↑w : Int))) (cond (i.toNat.blt w) (cond (decide (0 <= h0 i.toNat) && decide (h0 i.toNat < (↑w : Int))) (cond ((h0 i.toNat).toNat.blt w) (cond (h1 (h0 i.toNat).toNat) (k0 h1) (cond (decide (0 <= i) && decide (i < (↑w : Int))) (cond (i.toNat.blt w) (cond (decide (0 <= h0 i.toNat) && decide (h0 i.toNat < (↑w : Int))) (cond ((h0 i.toNat).toNat.blt w) (cond (fits .i64 (i + 1)) (kn (i + 1) (upd h1 (h0 i.toNat).toNat true)) (z)) (z)) (z)) (z)) (z))) (z)) (z)) (z)) (z))) (z)) (z))) (k1 h1)
def permL (w : Nat) (z : β) (n : Int) (h0 : Nat -> Int) : Nat -> Int -> (Nat -> Bool) -> ((Nat -> Bool) -> β) -> ((Nat -> Bool) -> β) -> β
  | 0, _, _, _, _ => z
  | m + 1, i, h1, k0, k1 => permS w z n h0 i h1 (fun i h1 => permL w z n h0 m i h1 k0 k1) k0 k1
def permF (n : Nat) (p : Nat -> Int) (i : Nat) (met : Nat -> Bool) : (Nat -> Bool) ⊕ Unit :=
  if n <= i then (if p i = 0 then .inl met else .inr ()) else if p i < n then (if met (p i).toNat = true then .inr () else .inl (upd met (p i).toNat true)) else .inr ()
theorem permL_val (w : Nat) (hw : w <= 64) (z : β) (n : Nat) (hnw : n <= w) (p : Nat -> Int) (hp : ∀ j, 0 <= p j) (kf kt : β) {N : Nat} (hN : w < N) (met : Nat -> Bool) :
    permL w z n p N 0 met (fun _ => kf) (fun _ => kt) = orOut (fun _ => kt) (fun _ => kf) (iterE (permF n p) w 0 met) := by
  refine up_to_E (L := fun m i (s : Nat -> Bool) => permL w z n p m (i : Int) s (fun _ => kf) (fun _ => kt)) (n := w) (out := fun _ => kt) (ex := fun _ => kf) (f := permF n p) (I := fun _ _ => True) ?_ ?_ w N 0 met (by omega) hN trivial
  · intro m i s hi _
    have h0 := hp i
    simp only [permL, permS, c_and, Int.toNat_natCast]
    by_cases h1 : n <= i
    · by_cases h2 : p i = 0
      · left
        refine ⟨s, by unfold permF; rw [if_pos h1, if_pos h2], ?_, trivial⟩
        simp (disch := omega) only [c_lt, c_nlt, c_le, c_nle, c_blt, c_nne, c_fits]
        rfl
      · right
        refine ⟨(), by unfold permF; rw [if_pos h1, if_neg h2], ?_⟩
        simp (disch := omega) only [c_lt, c_nlt, c_le, c_nle, c_blt, c_ne, c_fits]
    · by_cases h2 : p i < n
      · cases h3 : s (p i).toNat with
        | true =>
          right
          refine ⟨(), by unfold permF; rw [if_neg h1, if_pos h2, if_pos h3], ?_⟩
          simp (disch := omega) only [c_lt, c_nlt, c_le, c_nle, c_blt, c_ne, c_fits, h3, c_true]
        | false =>
          left
          refine ⟨upd s (p i).toNat true, by unfold permF; rw [if_neg h1, if_pos h2, if_neg (by simp [h3])], ?_, trivial⟩
          simp (disch := omega) only [c_lt, c_nlt, c_le, c_nle, c_blt, c_ne, c_fits, h3, c_false]
          rfl
      · right
        refine ⟨(), by unfold permF; rw [if_neg h1, if_neg h2], ?_⟩
        simp (disch := omega) only [c_lt, c_nlt, c_le, c_nle, c_blt, c_ne, c_fits]
  · intro m s _
    simp (disch := omega) only [permL, permS, c_nlt]
def FreeFrom (w n : Nat) (p : Nat -> Int) (i : Nat) (met : Nat -> Bool) : Prop :=
  OkFrom w n p i ∧ (∀ j, i <= j -> j < n -> j < w -> met (p j).toNat = false) ∧ ∀ a b, i <= a -> a < b -> b < n -> b < w -> (p a).toNat ≠ (p b).toNat
theorem permF_run {w n : Nat} {p : Nat -> Int} : ∀ (d i : Nat) (met : Nat -> Bool), i + d = w ->
    ((∃ m, iterE (permF n p) d i met = .inl m) ∧ FreeFrom w n p i met) ∨ (iterE (permF n p) d i met = .inr () ∧ ¬ FreeFrom w n p i met) := by
  intro d
  induction d with
  | zero =>
    intro i met hi
    left
    exact ⟨⟨met, rfl⟩, fun j h1 h2 => by omega, fun j h1 _ h2 => by omega, fun a b h1 h2 _ h3 => by omega⟩
  | succ d ih =>
    intro i met hi
    have bad : permF n p i met = .inr () -> ¬ FreeFrom w n p i met -> ((∃ m, iterE (permF n p) (d + 1) i met = .inl m) ∧ FreeFrom w n p i met) ∨ (iterE (permF n p) (d + 1) i met = .inr () ∧ ¬ FreeFrom w n p i met) := by
      intro h1 h2
      right
      exact ⟨by rw [iterE, h1], h2⟩
    have good : ∀ met', permF n p i met = .inl met' -> (FreeFrom w n p i met ↔ FreeFrom w n p (i + 1) met') -> ((∃ m, iterE (permF n p) (d + 1) i met = .inl m) ∧ FreeFrom w n p i met) ∨ (iterE (permF n p) (d + 1) i met = .inr () ∧ ¬ FreeFrom w n p i met) := by
      intro met' h1 h2
      rw [h2, iterE, h1]
      exact ih (i + 1) met' (by omega)
    by_cases h1 : n <= i
    · by_cases h2 : p i = 0
      · refine good met (by unfold permF; rw [if_pos h1, if_pos h2]) ?_
        unfold FreeFrom
        rw [OkFrom.step (by omega)]
        exact ⟨fun ⟨⟨_, a⟩, b, c⟩ => ⟨a, fun j g1 g2 g3 => b j (by omega) g2 g3, fun x y g1 g2 g3 g4 => c x y (by omega) g2 g3 g4⟩,
          fun ⟨a, b, c⟩ => ⟨⟨⟨fun _ => h2, fun h => by omega⟩, a⟩, fun j g1 g2 g3 => by omega, fun x y g1 g2 g3 g4 => by omega⟩⟩
      · exact bad (by unfold permF; rw [if_pos h1, if_neg h2]) fun h => h2 ((h.1 i (by omega) (by omega)).1 h1)
    · by_cases h2 : p i < n
      · cases h3 : met (p i).toNat with
        | true => exact bad (by unfold permF; rw [if_neg h1, if_pos h2, if_pos h3]) fun h => by have := h.2.1 i (by omega) (by omega) (by omega); rw [h3] at this; cases this
        | false =>
          refine good (upd met (p i).toNat true) (by unfold permF; rw [if_neg h1, if_pos h2, if_neg (by simp [h3])]) ?_
          unfold FreeFrom
          rw [OkFrom.step (by omega)]
          constructor
          · rintro ⟨⟨_, a⟩, b, c⟩
            refine ⟨a, fun j g1 g2 g3 => ?_, fun x y g1 g2 g3 g4 => c x y (by omega) g2 g3 g4⟩
            rw [upd_at, if_neg (fun e => c i j (by omega) (by omega) g2 g3 e.symm)]
            exact b j (by omega) g2 g3
          · rintro ⟨a, b, c⟩
            have b' : ∀ j, i + 1 <= j -> j < n -> j < w -> (p j).toNat ≠ (p i).toNat ∧ met (p j).toNat = false := by
              intro j g1 g2 g3
              have := b j g1 g2 g3
              rw [upd_at] at this
              split at this
              · cases this
              · rename_i e; exact ⟨e, this⟩
            refine ⟨⟨⟨fun h => by omega, fun _ => h2⟩, a⟩, fun j g1 g2 g3 => ?_, fun x y g1 g2 g3 g4 => ?_⟩
            · by_cases e : j = i
              · subst e; exact h3
              · exact (b' j (by omega) g2 g3).2
            · by_cases e : x = i
              · subst e; exact fun e => (b' y (by omega) g3 g4).1 e.symm
              · exact c x y (by omega) g2 g3 g4
      · exact bad (by unfold permF; rw [if_neg h1, if_neg h2]) fun h => h2 ((h.1 i (by omega) (by omega)).2 (by omega))
theorem perm_val (w : Nat) (hw : w <= 64) (z : β) (n : Nat) (hnw : n <= w) (p : Nat -> Int) (hp : ∀ j, 0 <= p j) (k : Bool -> β) {N : Nat} (hN : w < N) :
    permL w z n p N 0 (fun _ => false) (fun _ => k false) (fun _ => k true) = k (permB w n p) := by
  rw [permL_val w hw z n hnw p hp _ _ hN]
  rcases permF_run (w := w) (n := n) (p := p) w 0 (fun _ => false) (by omega) with ⟨⟨m, h1⟩, h2, _, h3⟩ | ⟨h1, h2⟩
  · rw [h1]
    refine congrArg k (permB_of ⟨fun _ => ⟨fun j a b => (h2 j (by omega) b).1 a, fun j a => (h2 j (by omega) (by omega)).2 a, fun i j a b e => ?_⟩, fun _ => rfl⟩)
    rcases Nat.lt_trichotomy i j with g | g | g
    · exact absurd (by rw [e]) (h3 i j (by omega) g b (by omega))
    · exact g
    · exact absurd (by rw [e]) (h3 j i (by omega) g a (by omega))
  · rw [h1]
    refine congrArg k (permB_of ⟨fun h => (by cases h), fun h => absurd ⟨fun j _ b => ⟨fun a => h.1 j a b, fun a => h.2.1 j a⟩, fun _ _ _ _ => rfl, fun a b _ g1 g2 _ e => ?_⟩ h2⟩)
    have := h.2.2 a b (by omega) g2 (by have := hp a; have := hp b; omega)
    omega
end perm
end Go.AM
namespace Go.AM
section
variable {β : Type}
theorem i_within_val (z : β) (N : Nat) (x lo hi : Int) (k : Bool -> β) : q001 z N x lo hi k = k (decide (lo <= x ∧ x <= hi)) := by
  unfold q001
  by_cases h : lo <= x
  · rw [c_le h]; congr 1; exact decide_eq_decide.2 ⟨fun h2 => ⟨h, h2⟩, fun h2 => h2.2⟩
  · rw [c_nle (by omega), decide_eq_false (fun h2 => h h2.1)]
theorem s_l01In_val (z : β) (N : Nat) (x lo hi : Int) (k : Bool -> β) : q000 z N x lo hi k = k (decide (lo <= x ∧ x <= hi)) := by
  unfold q000
  by_cases h : lo <= x
  · rw [c_le h]; congr 1; exact decide_eq_decide.2 ⟨fun h2 => ⟨h, h2⟩, fun h2 => h2.2⟩
  · rw [c_nle (by omega), decide_eq_false (fun h2 => h h2.1)]
end
end Go.AM
namespace Go.AM
section
variable {β : Type}
theorem isOrder_s2_ordL (z : β) (n a : Int) (h g : Nat -> Int) : ∀ m s t k0 k1, q00a z n a h g m s t k0 k1 = ordL 8 z n h m s t k0 k1 := by
  intro m
  induction m with
  | zero => intros; rfl
  | succ m ih => intro s t k0 k1; simp only [q00a, ordL, ih]; rfl
theorem isOrder_s3_ordL (z : β) (n a : Int) (h g : Nat -> Int) : ∀ m s t k0 k1, q00d z n a h g m s t k0 k1 = ordL 8 z n g m s t k0 k1 := by
  intro m
  induction m with
  | zero => intros; rfl
  | succ m ih => intro s t k0 k1; simp only [q00d, ordL, ih]; rfl
theorem l01Perm_permL (z : β) (n : Int) (h : Nat -> Int) : ∀ m i s k0 k1, q003 z n h m i s k0 k1 = permL 8 z n h m i s k0 k1 := by
  intro m
  induction m with
  | zero => intros; rfl
  | succ m ih => intro s t k0 k1; simp only [q003, permL, ih]; rfl
theorem s_l01Perm_val (z : β) {N : Nat} (hN : 8 < N) {m : Nat} (hm : m <= 8) (X : Nat -> Int) (hX : ∀ j, 0 <= X j) (k : Bool -> β) : q004 z N X m k = k (permB 8 m X) := by
  unfold q004
  rw [l01Perm_permL]
  exact perm_val 8 (by omega) z m hm X hX k hN
theorem i_isOrder_s2_val (z : β) {N : Nat} (hN : 8 < N) {m : Nat} (h1 : 1 <= m) (hm : m <= 8) (a : Int) (X O : Nat -> Int) (hX : ∀ j, 0 <= X j) (k : Bool -> β) : q00b z N m a X O k = k (permB 8 m X) := by
  unfold q00b
  rw [isOrder_s2_ordL]
  exact ord_val 8 (by omega) z m h1 hm hm X hX k hN
theorem i_isOrder_s3_val (z : β) {N : Nat} (hN : 8 < N) {m : Nat} (h1 : 1 <= m) (hm : m <= 8) (a : Int) (X O : Nat -> Int) (hO : ∀ j, 0 <= O j) (k : Bool -> β) : q00e z N m a X O k = k (permB 8 m O) := by
  unfold q00e
  rw [isOrder_s3_ordL]
  exact ord_val 8 (by omega) z m h1 hm hm O hO k hN
def apartB (n : Nat) (X O : Nat -> Int) : Bool := allFrom (fun i => !(X i == O i)) n 0
noncomputable def gridB (n : Int) (X O : Nat -> Int) : Bool := decide (2 <= n ∧ n <= 8) && (permB 8 n.toNat X && (permB 8 n.toNat O && apartB n.toNat X O))
structure GridP (n : Nat) (X O : Nat -> Int) : Prop where
  lo : 2 <= n
  hi : n <= 8
  px : PermP 8 n X
  po : PermP 8 n O
  ne : ∀ i, i < n -> X i ≠ O i
theorem gridB_iff {n : Int} {X O : Nat -> Int} : gridB n X O = true ↔ ∃ m : Nat, n = m ∧ GridP m X O := by
  unfold gridB
  simp only [Bool.and_eq_true, decide_eq_true_eq, permB_iff, apartB, allFrom_iff]
  constructor
  · rintro ⟨⟨h1, h2⟩, h3, h4, h5⟩
    refine ⟨n.toNat, by omega, by omega, by omega, h3, h4, fun i hi => ?_⟩
    have := h5 i (by omega) (by omega)
    simpa using this
  · rintro ⟨m, rfl, g⟩
    have := g.lo
    have := g.hi
    refine ⟨by omega, g.px, g.po, fun j _ h => ?_⟩
    have := g.ne j (by simpa using h)
    simpa using this
theorem gridB_false {n : Int} {X O : Nat -> Int} (h : ¬ (2 <= n ∧ n <= 8)) : gridB n X O = false := by unfold gridB; rw [decide_eq_false h]; rfl
theorem s_l01Is_val (z : β) {N : Nat} (hN : 8 < N) (n : Int) (X O : Nat -> Int) (hX : ∀ j, 0 <= X j) (hO : ∀ j, 0 <= O j) (k : Bool -> β) : q007 z N n X O k = k (gridB n X O) := by
  unfold q007
  rw [s_l01In_val]
  by_cases h : 2 <= n ∧ n <= 8
  · obtain ⟨m, rfl⟩ : ∃ m : Nat, n = (m : Int) := ⟨n.toNat, by omega⟩
    simp only [decide_eq_true h, Bool.not_true, c_false]
    rw [s_l01Perm_val z hN (by omega) X hX]
    unfold gridB
    rw [decide_eq_true h, Int.toNat_natCast]
    cases permB 8 m X with
    | false => rfl
    | true =>
      simp only [Bool.not_true, c_false, Bool.true_and]
      rw [s_l01Perm_val z hN (by omega) O hO]
      cases permB 8 m O with
      | false => rfl
      | true =>
        simp only [Bool.not_true, c_false, Bool.true_and]
        have := up_to_all (L := fun j i => q006 z m X O j (i : Int) (k false) (k true)) (n := m) (kt := k true) (kf := k false) (p := fun i => !(X i == O i))
          (fun j i hi => by
            simp only [q006, q005, c_and, Int.toNat_natCast]
            simp (disch := omega) only [c_lt, c_le, c_blt, c_fits, c_not]
            rfl)
          (fun j => by simp (disch := omega) only [q006, q005, c_nlt]) m N 0 (by omega) (by omega)
        refine this.trans ?_
        unfold apartB
        cases allFrom (fun i => !(X i == O i)) m 0 <;> rfl
  · simp only [decide_eq_false h, Bool.not_false, c_true]
    rw [gridB_false h]
theorem i_IsGrid_val (z : β) {N : Nat} (hN : 8 < N) (n : Int) (X O : Nat -> Int) (hX : ∀ j, 0 <= X j) (hO : ∀ j, 0 <= O j) (k : Bool -> β) : q00h z N n X O k = k (gridB n X O) := by
  unfold q00h
  rw [i_within_val]
  by_cases h : 2 <= n ∧ n <= 8
  · obtain ⟨m, rfl⟩ : ∃ m : Nat, n = (m : Int) := ⟨n.toNat, by omega⟩
    simp only [decide_eq_true h, Bool.not_true, c_false, q008]
    rw [i_isOrder_s2_val z hN (by omega) (by omega) _ X O hX]
    unfold gridB
    rw [decide_eq_true h, Int.toNat_natCast]
    cases permB 8 m X with
    | false => rfl
    | true =>
      simp only [Bool.not_true, c_false, Bool.true_and]
      rw [i_isOrder_s3_val z hN (by omega) (by omega) _ X O hO]
      cases permB 8 m O with
      | false => rfl
      | true =>
        simp only [Bool.not_true, c_false, Bool.true_and]
        have := up_to_all (L := fun j i => q00g z m m X O j (i : Int) (k false) (k true)) (n := m) (kt := k true) (kf := k false) (p := fun i => !(X i == O i))
          (fun j i hi => by
            simp only [q00g, q00f, c_and, Int.toNat_natCast]
            simp (disch := omega) only [c_lt, c_le, c_blt, c_fits, c_not]
            rfl)
          (fun j => by simp (disch := omega) only [q00g, q00f, c_nlt]) m N 0 (by omega) (by omega)
        refine this.trans ?_
        unfold apartB
        cases allFrom (fun i => !(X i == O i)) m 0 <;> rfl
  · simp only [decide_eq_false h, Bool.not_false, c_true]
    rw [gridB_false h]
end
end Go.AM
namespace Go.AM
section
variable {β : Type}
end
end Go.AM
namespace Go.AM
section
variable {β : Type}
theorem perm_surj {n : Nat} {X : Nat -> Int} (h : PermP 8 n X) (hX : ∀ j, 0 <= X j) {r : Nat} (hr : r < n) : ∃ i, i < n ∧ X i = r := by
  obtain ⟨i, h1, h2⟩ := surj_of_inj n (fun i => (X i).toNat) (fun i hi => by have := h.2.1 i hi; have := hX i; omega) (fun i j hi hj e => h.2.2 i j hi hj (by have := hX i; have := hX j; omega)) r hr
  exact ⟨i, h1, by have := hX i; omega⟩
noncomputable def rowOf (n : Nat) (X : Nat -> Int) (r : Nat) : Nat := @dite _ (∃ i, i < n ∧ X i = r) (Classical.propDecidable _) (fun h => Classical.choose h) (fun _ => 0)
theorem rowOf_spec {n : Nat} {X : Nat -> Int} (h : PermP 8 n X) (hX : ∀ j, 0 <= X j) {r : Nat} (hr : r < n) : rowOf n X r < n ∧ X (rowOf n X r) = r := by
  have hx := perm_surj h hX hr
  unfold rowOf
  rw [dif_pos hx]
  exact Classical.choose_spec hx
theorem rowOf_eq {n : Nat} {X : Nat -> Int} (h : PermP 8 n X) (hX : ∀ j, 0 <= X j) {r i : Nat} (hi : i < n) (hr : X i = r) : rowOf n X r = i := by
  have := h.2.1 i hi
  have h2 := rowOf_spec h hX (r := r) (by omega)
  exact h.2.2 _ _ h2.1 hi (by omega)
theorem s_l01Row_val (z : β) {N : Nat} (hN : 8 < N) {n : Nat} (h8 : n <= 8) {X : Nat -> Int} (h : PermP 8 n X) (hX : ∀ j, 0 <= X j) {r : Nat} (hr : r < n) (k : Int -> β) : q00k z N X n r k = k (rowOf n X r) := by
  unfold q00k
  obtain ⟨h1, h2⟩ := rowOf_spec h hX hr
  have key : ∀ (d i m : Nat), i + d = rowOf n X r -> d < m -> q00j z n r X m (i : Int) k (k 0) = k (rowOf n X r) := by
    intro d
    induction d with
    | zero =>
      intro i m hi hm
      obtain ⟨m, rfl⟩ : ∃ m', m = m' + 1 := ⟨m - 1, by omega⟩
      have e : i = rowOf n X r := by omega
      subst e
      simp only [q00j, q00i, c_and, Int.toNat_natCast]
      simp (disch := omega) only [c_lt, c_le, c_blt, c_eq]
    | succ d ih =>
      intro i m hi hm
      obtain ⟨m, rfl⟩ : ∃ m', m = m' + 1 := ⟨m - 1, by omega⟩
      have hne : X i ≠ (r : Int) := fun e => by have := rowOf_eq h hX (by omega) e; omega
      simp only [q00j, q00i, c_and, Int.toNat_natCast]
      simp (disch := omega) only [c_lt, c_le, c_blt, c_neq, c_fits]
      exact ih (i + 1) m (by omega) (by omega)
  exact key (rowOf n X r) 0 N (by omega) (by omega)
def plc (n : Nat) (X : Nat -> Int) : Nat -> Int := iter (fun i h => upd h (X i).toNat (i : Int)) n 0 (fun _ => 0)
theorem plc_spec {n : Nat} {X : Nat -> Int} (h : PermP 8 n X) (hX : ∀ j, 0 <= X j) {r : Nat} (hr : r < n) : plc n X r = rowOf n X r := by
  have := iter_inv (f := fun i (h : Nat -> Int) => upd h (X i).toNat (i : Int)) (I := fun i h => ∀ j, j < i -> h (X j).toNat = j) (n := n)
    (fun i s hi hs j hj => by
      simp only [upd_at]
      by_cases e : (X j).toNat = (X i).toNat
      · rw [if_pos e]
        have := h.2.2 j i (by omega) hi (by have := hX i; have := hX j; omega)
        omega
      · rw [if_neg e]
        exact hs j (by by_cases e2 : j = i; (· subst e2; exact absurd rfl e); omega)) n 0 (fun _ => 0) (by omega) (fun j hj => by omega)
  rw [Nat.zero_add] at this
  obtain ⟨h1, h2⟩ := rowOf_spec h hX hr
  have h3 := this _ h1
  rw [h2, Int.toNat_natCast] at h3
  exact h3
theorem i_Grid_places_val (z : β) {N : Nat} (hN : 8 < N) {n : Nat} (h8 : n <= 8) {Y : Nat -> Int} (h : PermP 8 n Y) (hY : ∀ j, 0 <= Y j) (X O : Nat -> Int) (k : (Nat -> Int) -> β) : q00n z N n X O Y k = k (plc n Y) := by
  unfold q00n q008
  refine up_to (L := fun m i h => q00m z n n X O Y (fun _ => 0) m (i : Int) h k) (n := n) (out := k) (f := fun i h => upd h (Y i).toNat (i : Int)) (I := fun _ _ => True)
    (fun m i s hi _ => ⟨?_, trivial⟩) (fun m s _ => by simp (disch := omega) only [q00m, q00l, c_nlt]) n N 0 (fun _ => 0) (by omega) (by omega) trivial
  have h1 := hY i
  have h3 := h.2.1 i hi
  simp only [q00m, q00l, c_and, Int.toNat_natCast]
  simp (disch := omega) only [c_lt, c_le, c_blt, c_fits]
  rfl
end
end Go.AM
namespace Go.AM
section
variable {β : Type}
end
end Go.AM
namespace Go.AM
section
variable {β : Type}
theorem tmod_pos {a b : Int} (ha : 0 <= a) : a.tmod b = a % b := Int.tmod_eq_emod_of_nonneg ha
theorem tmod_bnd {a b : Int} (hb : 0 < b) : -b < a.tmod b ∧ a.tmod b < b := by
  refine ⟨?_, Int.tmod_lt_of_pos a hb⟩
  have := Int.tmod_lt_of_pos (-a) hb
  rw [Int.neg_tmod] at this
  omega
theorem tmod_twice (a : Int) {n : Int} (hn : 0 < n) : (a.tmod n + n).tmod n = a % n := by
  have h := tmod_bnd (a := a) hn
  rw [tmod_pos (by omega), Int.add_emod_right]
  have h1 : a.tmod n = a - n * a.tdiv n := by have := Int.mul_tdiv_add_tmod a n; omega
  rw [h1]
  have : a - n * a.tdiv n = a + n * (-(a.tdiv n)) := by rw [Int.mul_neg]; omega
  rw [this, Int.add_mul_emod_self_left]
theorem emod_bd (a : Int) {n : Int} (hn : 0 < n) : 0 <= a % n ∧ a % n < n := ⟨Int.emod_nonneg a (by omega), Int.emod_lt_of_pos a hn⟩
def rollF (n : Nat) (X O : Nat -> Int) (v u : Int) (i : Nat) (h : (Nat -> Int) × (Nat -> Int)) : (Nat -> Int) × (Nat -> Int) :=
  (upd h.1 ((i + u) % (n : Int)).toNat (wrapU .u8 ((X i + v) % (n : Int))), upd h.2 ((i + u) % (n : Int)).toNat (wrapU .u8 ((O i + v) % (n : Int))))
def rollP (n : Nat) (X O : Nat -> Int) (v u : Int) : (Nat -> Int) × (Nat -> Int) := iter (rollF n X O v u) n 0 (fun _ => 0, fun _ => 0)
theorem s_l01Rolled_val (z : β) {N : Nat} (hN : 8 < N) {n : Nat} {X O : Nat -> Int} (h2 : 2 <= n) (h8 : n <= 8) (hX : ∀ j, 0 <= X j ∧ X j <= 255) (hO : ∀ j, 0 <= O j ∧ O j <= 255) {v u : Int} (hv : -1000 <= v ∧ v <= 1000) (hu : -1000 <= u ∧ u <= 1000) (k0 : (Nat -> Int) -> (Nat -> Int) -> β) :
    q00q z N n X O v u k0 = k0 (rollP n X O v u).1 (rollP n X O v u).2 := by
  unfold q00q
  refine up_to (L := fun m i (h : (Nat -> Int) × (Nat -> Int)) => q00p z v u n n X O 0 (fun _ => 0) (fun _ => 0) n m (i : Int) h.1 h.2 k0) (n := n) (out := fun h => k0 h.1 h.2) (f := rollF n X O v u) (I := fun _ _ => True)
    (fun m i s hi _ => ⟨?_, trivial⟩) (fun m s _ => by simp (disch := omega) only [q00p, q00o, c_nlt]) n N 0 (fun _ => 0, fun _ => 0) (by omega) (by omega) trivial
  have h1 := hX i
  have h3 := hO i
  have hn : (0 : Int) < n := by omega
  have b1 := tmod_bnd (a := (i : Int) + u) hn
  have b2 := tmod_bnd (a := X i + v) hn
  have b3 := tmod_bnd (a := O i + v) hn
  have b4 := emod_bd ((i : Int) + u) hn
  simp only [q00p, q00o, c_and, c_not, Int.toNat_natCast, tmod_twice _ hn]
  simp (disch := omega) only [c_lt, c_le, c_blt, c_fits, c_neq]
  rfl
end
end Go.AM
namespace Go.AM
section
variable {β : Type}
def upm (n : Nat) (p : Nat -> Int) (left : Nat) (b : Int) (k : Nat) : Int := (p (((left : Int) + k) % n).toNat - b + n) % n
def cntF (n : Nat) (p : Nat -> Int) (left : Nat) (b h : Int) (k : Nat) (c : Int) : Int := if upm n p left b k < h then c + 1 else c
def cntM (n : Nat) (p : Nat -> Int) (left : Nat) (b h : Int) (w : Nat) : Int := iter (cntF n p left b h) w 0 0
def rectL (n : Nat) (X O x : Nat -> Int) (left w : Nat) : List Int :=
  [(left : Int), x left, (w : Int), upm n x left (x left) w, cntM n X left (x left) (upm n x left (x left) w) w, cntM n O left (x left) (upm n x left (x left) w) w]
end
end Go.AM
namespace Go.AM
section
variable {β : Type}
def recs (n : Nat) (X O x : Nat -> Int) (ps : List (Nat × Nat)) : List Int := ps.flatMap fun p => rectL n X O x p.1 p.2
end
end Go.AM
namespace Go.AM
section
variable {β : Type}
theorem s_l01Row_int (z : β) {N : Nat} (hN : 8 < N) {n : Nat} (h8 : n <= 8) {X : Nat -> Int} (h : PermP 8 n X) (hX : ∀ j, 0 <= X j) {r : Int} (h0 : 0 <= r) (hr : r < n) (k : Int -> β) : q00k z N X n r k = k (rowOf n X r.toNat) := by
  have := s_l01Row_val z hN h8 h hX (r := r.toNat) (by omega) k
  rwa [Int.toNat_of_nonneg h0] at this
theorem GridP.swap {n : Nat} {X O : Nat -> Int} (g : GridP n X O) : GridP n O X := ⟨g.lo, g.hi, g.po, g.px, fun i hi => (g.ne i hi).symm⟩
end
end Go.AM
namespace Go.AM
section
variable {β : Type}
def walkH (nxt : Nat -> Nat) (c : Int) : Nat -> Nat -> (Nat -> Int) -> Nat -> Int
  | 0, _, h => h
  | d + 1, k, h => if h k < 0 then walkH nxt c d (nxt k) (upd h k c) else h
def cntU (n : Nat) (h : Nat -> Int) : Nat := (List.range n).countP fun j => decide (h j < 0)
theorem cntU_le (n : Nat) (h : Nat -> Int) : cntU n h <= n := by
  have := List.countP_le_length (p := fun j => decide (h j < 0)) (l := List.range n)
  simpa [cntU] using this
theorem cntU_zero {n : Nat} {h : Nat -> Int} (e : cntU n h = 0) {k : Nat} (hk : k < n) : 0 <= h k := by
  unfold cntU at e
  rw [List.countP_eq_zero] at e
  have := e k (by simpa using hk)
  simpa using this
theorem cntU_upd {n : Nat} {h : Nat -> Int} {k : Nat} (hk : k < n) (hu : h k < 0) {c : Int} (hc : 0 <= c) : cntU n (upd h k c) + 1 <= cntU n h := by
  unfold cntU
  have key : ∀ (l : List Nat), k ∈ l -> (l.countP fun j => decide (upd h k c j < 0)) + 1 <= l.countP fun j => decide (h j < 0) := by
    intro l
    have hle : ∀ l : List Nat, (l.countP fun j => decide (upd h k c j < 0)) <= l.countP fun j => decide (h j < 0) := fun l =>
      List.countP_mono_left fun j _ hj => by
        rw [decide_eq_true_eq, upd_at] at hj
        split at hj
        · omega
        · simpa using hj
    induction l with
    | nil => intro h; simp at h
    | cons x xs ih =>
      intro hm
      rw [List.countP_cons, List.countP_cons]
      by_cases e : x = k
      · subst e
        have := hle xs
        rw [decide_eq_false (show ¬ upd h x c x < 0 by rw [upd_at, if_pos rfl]; omega), decide_eq_true hu]
        simp
        exact this
      · have := ih (by simpa [Ne.symm e] using hm)
        rw [show upd h k c x = h x by rw [upd_at, if_neg e]]
        omega
  exact key _ (by simpa using hk)
theorem walk_loop {L : Nat -> Nat -> (Nat -> Int) -> β} {out : (Nat -> Int) -> β} {n : Nat} {nxt : Nat -> Nat} {c : Int} (hc : 0 <= c) (hn : ∀ k, k < n -> nxt k < n) {I : (Nat -> Int) -> Prop}
    (hI : ∀ k h, k < n -> I h -> h k < 0 -> I (upd h k c))
    (h1 : ∀ m k h, k < n -> I h -> h k < 0 -> L (m + 1) k h = L m (nxt k) (upd h k c)) (h2 : ∀ m k h, k < n -> I h -> 0 <= h k -> L (m + 1) k h = out h) :
    ∀ (d m k : Nat) (h : Nat -> Int), cntU n h <= d -> d < m -> k < n -> I h -> L m k h = out (walkH nxt c d k h) := by
  intro d
  induction d with
  | zero =>
    intro m k h hd hm hk hi
    obtain ⟨m, rfl⟩ : ∃ m', m = m' + 1 := ⟨m - 1, by omega⟩
    exact h2 m k h hk hi (cntU_zero (by omega) hk)
  | succ d ih =>
    intro m k h hd hm hk hi
    obtain ⟨m, rfl⟩ : ∃ m', m = m' + 1 := ⟨m - 1, by omega⟩
    simp only [walkH]
    by_cases hu : h k < 0
    · rw [if_pos hu, h1 m k h hk hi hu]
      have := cntU_upd hk hu hc
      exact ih m (nxt k) _ (by omega) (by omega) (hn k hk) (hI k h hk hi hu)
    · rw [if_neg hu]
      exact h2 m k h hk hi (by omega)
theorem walkH_val (nxt : Nat -> Nat) (c : Int) : ∀ (d k : Nat) (h : Nat -> Int) (j : Nat), walkH nxt c d k h j = h j ∨ (h j < 0 ∧ walkH nxt c d k h j = c) := by
  intro d
  induction d with
  | zero => exact fun k h j => .inl rfl
  | succ d ih =>
    intro k h j
    simp only [walkH]
    split
    · rename_i hu
      rcases ih (nxt k) (upd h k c) j with e | ⟨e1, e2⟩
      · rw [e, upd_at]
        split
        · rename_i hj; subst hj; exact .inr ⟨hu, rfl⟩
        · exact .inl rfl
      · rw [upd_at] at e1
        split at e1
        · rename_i hj; subst hj; exact .inr ⟨hu, e2⟩
        · exact .inr ⟨e1, e2⟩
    · exact .inl rfl
theorem walkH_start (nxt : Nat -> Nat) {c : Int} (hc : 0 <= c) (d k : Nat) (h : Nat -> Int) : 0 <= walkH nxt c (d + 1) k h k := by
  simp only [walkH]
  split
  · rcases walkH_val nxt c d (nxt k) (upd h k c) k with e | ⟨_, e⟩
    · rw [e, upd_at, if_pos rfl]; exact hc
    · rw [e]; exact hc
  · omega
theorem walkH_lt {nxt : Nat -> Nat} {c : Int} {n : Nat} (hn : ∀ k, k < n -> nxt k < n) : ∀ (d k : Nat) (h : Nat -> Int), k < n -> ∀ j, n <= j -> walkH nxt c d k h j = h j := by
  intro d
  induction d with
  | zero => exact fun k h _ j _ => rfl
  | succ d ih =>
    intro k h hk j hj
    simp only [walkH]
    split
    · rw [ih _ _ (hn k hk) j hj, upd_at, if_neg (by omega)]
    · rfl
def compF (nxt : Nat -> Nat) (n i : Nat) (s : (Nat -> Int) × Int) : (Nat -> Int) × Int := if s.1 i < 0 then (walkH nxt s.2 n i s.1, s.2 + 1) else s
def compS (nxt : Nat -> Nat) (n : Nat) : (Nat -> Int) × Int := iter (compF nxt n) n 0 ((fun j => if j < 8 then -1 else 0), 0)
structure CompI (n i : Nat) (s : (Nat -> Int) × Int) : Prop where
  nn : 0 <= s.2
  le : s.2 <= i
  set : ∀ j, j < i -> 0 <= s.1 j
  bd : ∀ j, j < 8 -> -1 <= s.1 j ∧ s.1 j < s.2 ∨ s.1 j = -1
  rest : ∀ j, n <= j -> j < 8 -> s.1 j = -1
theorem compF_step {nxt : Nat -> Nat} {n i : Nat} (hn : ∀ k, k < n -> nxt k < n) (hi : i < n) {s : (Nat -> Int) × Int} (h : CompI n i s) : CompI n (i + 1) (compF nxt n i s) := by
  unfold compF
  obtain ⟨n', rfl⟩ : ∃ n', n = n' + 1 := ⟨n - 1, by omega⟩
  split
  · rename_i hu
    refine ⟨by have := h.nn; simp only; omega, by have := h.le; simp only; omega, fun j hj => ?_, fun j hj => ?_, fun j h1 h2 => ?_⟩
    · simp only
      by_cases e : j = i
      · subst e; exact walkH_start nxt h.nn n' j s.1
      · rcases walkH_val nxt s.2 (n' + 1) i s.1 j with e2 | ⟨_, e2⟩
        · rw [e2]; exact h.set j (by omega)
        · rw [e2]; exact h.nn
    · simp only
      have h1 := h.bd j hj
      have h2 := h.nn
      rcases walkH_val nxt s.2 (n' + 1) i s.1 j with e2 | ⟨_, e2⟩
      · rw [e2]; omega
      · rw [e2]; omega
    · simp only
      rw [walkH_lt hn _ _ _ hi j h1]
      exact h.rest j h1 h2
  · rename_i hu
    refine ⟨h.nn, by have := h.le; omega, fun j hj => ?_, h.bd, h.rest⟩
    by_cases e : j = i
    · subst e; omega
    · exact h.set j (by omega)
theorem compS_inv {nxt : Nat -> Nat} {n : Nat} (hn : ∀ k, k < n -> nxt k < n) : CompI n n (compS nxt n) := by
  have := iter_inv (f := compF nxt n) (I := fun i s => CompI n i s) (n := n) (fun i s hi h => compF_step hn hi h) n 0 ((fun j => if j < 8 then -1 else 0), 0) (by omega)
    ⟨Int.le_refl _, Int.le_refl _, fun j hj => by omega, fun j hj => by simp [hj], fun j _ hj => by simp [hj]⟩
  rwa [Nat.zero_add] at this
noncomputable def nxtC (n : Nat) (X O : Nat -> Int) (i : Nat) : Nat := rowOf n X (O i).toNat
theorem nxtC_lt {n : Nat} {X O : Nat -> Int} (g : GridP n X O) (hX : ∀ j, 0 <= X j) (hO : ∀ j, 0 <= O j) : ∀ k, k < n -> nxtC n X O k < n := fun k hk => by
  have o1 := g.po.2.1 k hk
  have o2 := hO k
  exact (rowOf_spec g.px hX (by omega)).1
theorem s_l01Follow_val (z : β) {N : Nat} (hN : 8 < N) {n : Nat} {X O : Nat -> Int} (g : GridP n X O) (hX : ∀ j, 0 <= X j) (hO : ∀ j, 0 <= O j) {i : Nat} (hi : i < n) (k : Int -> β) : q00t z N n X O i k = k (nxtC n X O i) := by
  have h8 := g.hi
  have o1 := g.po.2.1 i hi
  have o2 := hO i
  unfold q00t
  simp only [c_and, Int.toNat_natCast, s_l01Row_int z hN h8 g.px hX o2 o1]
  simp (disch := omega) only [c_lt, c_le, c_blt]
  rfl
theorem s_l01Components_val (z : β) {N : Nat} (hN : 8 < N) {n : Nat} {X O : Nat -> Int} (g : GridP n X O) (hX : ∀ j, 0 <= X j) (hO : ∀ j, 0 <= O j) (k : (Nat -> Int) -> Int -> β) :
    q00y z N n X O k = k (compS (nxtC n X O) n).1 (compS (nxtC n X O) n).2 := by
  have h8 := g.hi
  unfold q00y
  have first : ∀ kk : (Nat -> Int) -> β, q00s z n X O (fun _ => 0) N 0 (fun _ => 0) kk = kk (fun j => if j < 8 then -1 else 0) := by
    intro kk
    refine (up_to (L := fun m i h => q00s z n X O (fun _ => 0) m (i : Int) h kk) (n := 8) (out := kk) (f := fun i h => upd h i (-1)) (I := fun _ _ => True)
      (fun m i s hi _ => ⟨by
        simp only [q00s, q00r, c_and, Int.toNat_natCast]
        simp (disch := omega) only [c_lt, c_le, c_blt, c_fits]
        rfl, trivial⟩)
      (fun m s _ => by simp (disch := omega) only [q00s, q00r, c_nlt]) 8 N 0 (fun _ => 0) rfl hN trivial).trans ?_
    rw [iter_set (fun _ => (-1 : Int))]
    congr 1
    funext j
    simp
  rw [first]
  refine up_to (L := fun m i s => q00x z N n X O (fun _ => 0) m s.2 (i : Int) s.1 fun q7 q8 => k q8 q7) (n := n) (out := fun s => k s.1 s.2) (f := compF (nxtC n X O) n) (I := CompI n)
    (fun m i s hi hI => ⟨?_, compF_step (nxtC_lt g hX hO) hi hI⟩) (fun m s _ => by simp (disch := omega) only [q00x, q00w, c_nlt]) n N 0 ((fun j => if j < 8 then -1 else 0), 0) (by omega) (by omega)
    ⟨Int.le_refl _, Int.le_refl _, fun j hj => by omega, fun j hj => by simp [hj], fun j _ hj => by simp [hj]⟩
  have h1 := hI.nn
  have h2 := hI.le
  have walk : ∀ kk : (Nat -> Int) -> β, q00v z N s.2 i n X O (fun _ => 0) N (i : Int) s.1 kk = kk (walkH (nxtC n X O) s.2 n i s.1) := by
    intro kk
    refine walk_loop (L := fun m k h => q00v z N s.2 i n X O (fun _ => 0) m (k : Int) h kk) (out := kk) (n := n) (nxt := nxtC n X O) (c := s.2) h1 (nxtC_lt g hX hO) (I := fun _ => True) (fun _ _ _ _ _ => trivial)
      (fun m k h hk _ hu => ?_) (fun m k h hk _ hu => ?_) n N i s.1 (cntU_le _ _) (by omega) hi trivial
    · simp only [q00v, q00u, c_and, Int.toNat_natCast, s_l01Follow_val z hN g hX hO hk]
      simp (disch := omega) only [c_lt, c_le, c_blt]
    · simp only [q00v, q00u, c_and, Int.toNat_natCast]
      simp (disch := omega) only [c_lt, c_nlt, c_le, c_blt]
  simp only [q00x, q00w, c_and, Int.toNat_natCast, walk]
  simp (disch := omega) only [c_lt, c_le, c_blt, c_fits]
  unfold compF
  by_cases hu : s.1 i < 0
  · rw [c_nle hu, if_pos hu]
    rfl
  · rw [c_le (by omega), if_neg hu]
    rfl
end
end Go.AM
namespace Go.AM
section
variable {β : Type}
end
end Go.AM
namespace Go.AM
section
variable {β : Type}
def betB (x a b : Int) : Bool := decide ((bif decide (b < a) then b else a) < x) && decide (x < bif decide (a < b) then b else a)
theorem i_isBetween_val (z : β) (N : Nat) (x a b : Int) (k : Bool -> β) : q018 z N x a b k = k (betB x a b) := by
  unfold q018 betB
  cases decide ((bif decide (b < a) then b else a) < x) <;> rfl
theorem l01In_between (z : β) (N : Nat) (x a b : Int) (k : Bool -> β) : q000 z N x ((bif decide (b < a) then b else a) + 1) ((bif decide (a < b) then b else a) - 1) k = k (betB x a b) := by
  rw [s_l01In_val]
  unfold betB
  congr 1
  rw [Bool.eq_iff_iff, decide_eq_true_iff, Bool.and_eq_true, decide_eq_true_iff, decide_eq_true_iff]
  omega
noncomputable def crossV (n : Nat) (X O : Nat -> Int) (i r : Nat) : Int :=
  cond (betB r (X i) (O i)) (cond (betB i (rowOf n X r) (rowOf n O r)) (cond (decide (X i < O i) == decide ((rowOf n X r : Int) < rowOf n O r)) 1 (-1)) 0) 0
theorem crossV_cases (n : Nat) (X O : Nat -> Int) (i r : Nat) : crossV n X O i r = 0 ∨ crossV n X O i r = 1 ∨ crossV n X O i r = -1 := by
  unfold crossV
  cases betB r (X i) (O i) <;> cases betB i (rowOf n X r) (rowOf n O r) <;> cases (decide (X i < O i) == decide ((rowOf n X r : Int) < rowOf n O r)) <;> simp
theorem min_bd {a b n : Int} (ha : 0 <= a ∧ a < n) (hb : 0 <= b ∧ b < n) : 0 <= (bif decide (b < a) then b else a) ∧ (bif decide (b < a) then b else a) < n := by cases decide (b < a) <;> simp <;> omega
theorem max_bd {a b n : Int} (ha : 0 <= a ∧ a < n) (hb : 0 <= b ∧ b < n) : 0 <= (bif decide (a < b) then b else a) ∧ (bif decide (a < b) then b else a) < n := by cases decide (a < b) <;> simp <;> omega
theorem GridP.bdX {n : Nat} {X O : Nat -> Int} (g : GridP n X O) (hX : ∀ j, 0 <= X j) {i : Nat} (hi : i < n) : 0 <= X i ∧ X i < n := by
  have := g.px.2.1 i hi
  have := hX i
  omega
theorem s_l03Cross_val (z : β) {N : Nat} (hN : 8 < N) {n : Nat} {X O : Nat -> Int} (g : GridP n X O) (hX : ∀ j, 0 <= X j) (hO : ∀ j, 0 <= O j) {i r : Nat} (hi : i < n) (hr : r < n) (k : Int -> β) :
    q00z z N n X O i r k = k (crossV n X O i r) := by
  have h8 := g.hi
  have b1 := g.bdX hX hi
  have b2 := g.swap.bdX hO hi
  have r1 := (rowOf_spec g.px hX hr).1
  have r2 := (rowOf_spec g.po hO hr).1
  have m1 := min_bd (n := n) b1 b2
  have m2 := max_bd (n := n) b1 b2
  have m3 := min_bd (a := (rowOf n X r : Int)) (b := (rowOf n O r : Int)) (n := n) (by omega) (by omega)
  have m4 := max_bd (a := (rowOf n X r : Int)) (b := (rowOf n O r : Int)) (n := n) (by omega) (by omega)
  unfold q00z crossV
  simp only [c_and, Int.toNat_natCast]
  simp (disch := omega) only [c_lt, c_le, c_blt]
  rw [s_l01Row_val z hN h8 g.px hX hr, s_l01Row_val z hN h8 g.po hO hr]
  rw [c_fits (by omega), c_fits (by omega), l01In_between]
  cases betB r (X i) (O i) with
  | false => rfl
  | true =>
    simp only [Bool.not_true, c_false, c_true]
    rw [c_fits (by omega), c_fits (by omega), l01In_between]
    cases betB i (rowOf n X r) (rowOf n O r) with
    | false => rfl
    | true =>
      simp only [Bool.not_true, c_false, c_true]
      cases (decide (X i < O i) == decide ((rowOf n X r : Int) < rowOf n O r)) <;> rfl
noncomputable def crossF (n : Nat) (X O : Nat -> Int) (i r : Nat) (s : List Int) : List Int := cond (crossV n X O i r != 0) (s ++ [(i : Int), (r : Int), crossV n X O i r]) s
noncomputable def crossR (n : Nat) (X O : Nat -> Int) (i : Nat) (s : List Int) : List Int := iter (crossF n X O i) n 0 s
noncomputable def crossL (n : Nat) (X O : Nat -> Int) : List Int := iter (crossR n X O) n 0 []
structure CrossI (m : Nat) (s : List Int) : Prop where
  len : s.length = 3 * (s.length / 3)
  le : s.length / 3 <= m
  sg : ∀ j, j < s.length / 3 -> s[j * 3 + 2]?.getD 0 = 1 ∨ s[j * 3 + 2]?.getD 0 = -1
theorem CrossI.step {m n i r : Nat} {X O : Nat -> Int} {s : List Int} (h : CrossI m s) : CrossI (m + 1) (crossF n X O i r s) := by
  unfold crossF
  have h1 := h.len
  have h2 := h.le
  have hv := crossV_cases n X O i r
  generalize crossV n X O i r = v at *
  by_cases e : v = 0
  · rw [show (v != 0) = false by simpa using e, c_false]
    exact ⟨h1, by omega, h.sg⟩
  · rw [show (v != 0) = true by simpa using e, c_true]
    have hl : (s ++ [(i : Int), (r : Int), v]).length = s.length + 3 := by simp
    refine ⟨by omega, by omega, fun j hj => ?_⟩
    by_cases e2 : j < s.length / 3
    · rw [List.getElem?_append_left (by omega)]; exact h.sg j e2
    · rw [List.getElem?_append_right (by omega), show j * 3 + 2 - s.length = 2 by omega]
      simp
      omega
theorem CrossI.row {m n i : Nat} {X O : Nat -> Int} {s : List Int} (h : CrossI m s) : ∀ d, CrossI (m + d) (iter (crossF n X O i) d 0 s) := by
  intro d
  induction d with
  | zero => exact h
  | succ d ih => rw [iter_succ]; exact ih.step
theorem CrossI.all {n : Nat} {X O : Nat -> Int} : ∀ d, CrossI (n * d) (iter (crossR n X O) d 0 []) := by
  intro d
  induction d with
  | zero => exact ⟨by simp [iter], by simp [iter], fun j hj => by simp [iter] at hj⟩
  | succ d ih => rw [iter_succ, Nat.mul_succ]; exact ih.row n
theorem rec3 (i r v : Int) : List.map (upd (upd (upd (fun _ => 0) 0 i) 1 r) 2 v) (List.range 3) = [i, r, v] := rfl
theorem s_l03Crossings_l1_val (z : β) {N : Nat} (hN : 8 < N) {n : Nat} {X O : Nat -> Int} (g : GridP n X O) (hX : ∀ j, 0 <= X j) (hO : ∀ j, 0 <= O j) {i m0 : Nat} (hi : i < n) (hm0 : m0 <= 1000) {s0 : List Int} (h0 : CrossI m0 s0) (k : Nat -> Nat -> Nat -> List Int -> β) :
    q011 z N i n X O N s0.length (s0.length / 3) (s0.length / 3) 0 s0 k = k (crossR n X O i s0).length ((crossR n X O i s0).length / 3) ((crossR n X O i s0).length / 3) (crossR n X O i s0) := by
  have h8 := g.hi
  exact up_to (L := fun m r (s : List Int) => q011 z N i n X O m s.length (s.length / 3) (s.length / 3) (r : Int) s k) (n := n) (out := fun s => k s.length (s.length / 3) (s.length / 3) s) (f := crossF n X O i) (I := fun r s => CrossI (m0 + r) s)
    (fun m r s hr hs => ⟨by
      have h1 := hs.len
      have h2 := hs.le
      have hl : ∀ v, (s ++ [(i : Int), (r : Int), v]).length = s.length + 3 := by simp
      simp only [q011, q010]
      rw [c_lt (by omega), s_l03Cross_val z hN g hX hO hi hr]
      unfold crossF
      cases crossV n X O i r != 0 with
      | true =>
        simp only [c_true, c_and, rec3]
        simp (disch := omega) only [c_ble, c_nble, c_beq, c_fits]
        rw [hl, show (s.length + 3) / 3 = s.length / 3 + 1 by omega]
        rfl
      | false =>
        simp only [c_false]
        rw [c_fits (by omega)]
        rfl, hs.step⟩)
    (fun m s _ => by simp (disch := omega) only [q011, q010, c_nlt]) n N 0 s0 (by omega) (by omega) h0
theorem s_l03Crossings_val (z : β) {N : Nat} (hN : 8 < N) {n : Nat} {X O : Nat -> Int} (g : GridP n X O) (hX : ∀ j, 0 <= X j) (hO : ∀ j, 0 <= O j) (k : Nat -> Nat -> Nat -> List Int -> β) :
    q014 z N n X O k = k (crossL n X O).length ((crossL n X O).length / 3) ((crossL n X O).length / 3) (crossL n X O) := by
  have h8 := g.hi
  unfold q014
  exact up_to (L := fun m i (s : List Int) => q013 z N n X O m s.length (s.length / 3) (s.length / 3) (i : Int) s k) (n := n) (out := fun s => k s.length (s.length / 3) (s.length / 3) s) (f := crossR n X O) (I := fun i s => CrossI (n * i) s)
    (fun m i s hi hs => ⟨by
      have : n * i <= 8 * 8 := Nat.mul_le_mul h8 (by omega)
      simp only [q013, q012]
      rw [c_lt (by omega), s_l03Crossings_l1_val z hN g hX hO hi (by omega) hs, c_fits (by omega)]
      rfl, by rw [Nat.mul_succ]; exact hs.row n⟩)
    (fun m s _ => by simp (disch := omega) only [q013, q012, c_nlt]) n N 0 [] (by omega) (by omega) (CrossI.all (X := X) (O := O) 0)
theorem i_Grid_crossings_l1_val (z : β) {N : Nat} (hN : 8 < N) {n : Nat} {X O : Nat -> Int} (g : GridP n X O) (hX : ∀ j, 0 <= X j) (hO : ∀ j, 0 <= O j) {i m0 : Nat} (hi : i < n) (hm0 : m0 <= 1000) {s0 : List Int} (h0 : CrossI m0 s0) (a b : Int) (k : Nat -> Nat -> Nat -> List Int -> β) :
    q01a z N i a b n n X O (plc n X) (plc n O) N s0.length (s0.length / 3) (s0.length / 3) 0 s0 k = k (crossR n X O i s0).length ((crossR n X O i s0).length / 3) ((crossR n X O i s0).length / 3) (crossR n X O i s0) := by
  have h8 := g.hi
  exact up_to (L := fun m r (s : List Int) => q01a z N i a b n n X O (plc n X) (plc n O) m s.length (s.length / 3) (s.length / 3) (r : Int) s k) (n := n) (out := fun s => k s.length (s.length / 3) (s.length / 3) s) (f := crossF n X O i) (I := fun r s => CrossI (m0 + r) s)
    (fun m r s hr hs => ⟨by
      have h1 := hs.len
      have h2 := hs.le
      have hl : ∀ v, (s ++ [(i : Int), (r : Int), v]).length = s.length + 3 := by simp
      have p1 := plc_spec g.px hX hr
      have p2 := plc_spec g.po hO hr
      have hne : (rowOf n X r : Int) ≠ rowOf n O r := fun e => by
        have e1 := rowOf_spec g.px hX hr
        have e2 := rowOf_spec g.po hO hr
        have := g.ne (rowOf n X r) e1.1
        rw [e1.2, show rowOf n X r = rowOf n O r by omega, e2.2] at this
        exact this rfl
      have hd : (decide (X i < O i) != decide ((rowOf n O r : Int) < rowOf n X r)) = (decide (X i < O i) == decide ((rowOf n X r : Int) < rowOf n O r)) := by
        by_cases e : (rowOf n X r : Int) < rowOf n O r
        · rw [decide_eq_true e, decide_eq_false (show ¬ (rowOf n O r : Int) < rowOf n X r by omega)]; cases decide (X i < O i) <;> rfl
        · rw [decide_eq_false e, decide_eq_true (show (rowOf n O r : Int) < rowOf n X r by omega)]; cases decide (X i < O i) <;> rfl
      simp only [q01a, q019, c_and, Int.toNat_natCast, p1, p2, i_isBetween_val, hd]
      simp (disch := omega) only [c_lt, c_le, c_blt]
      unfold crossF crossV
      cases betB r (X i) (O i) with
      | false =>
        simp only [Bool.not_false, c_true, c_false]
        rw [c_fits (by omega)]
        rfl
      | true =>
        cases betB i (rowOf n X r) (rowOf n O r) with
        | false =>
          simp only [Bool.not_false, Bool.not_true, c_true, c_false]
          rw [c_fits (by omega)]
          rfl
        | true =>
          cases (decide (X i < O i) == decide ((rowOf n X r : Int) < rowOf n O r)) with
          | true =>
            simp only [Bool.not_true, c_true, c_false, rec3, show ((1 : Int) != 0) = true from rfl]
            simp (disch := omega) only [c_ble, c_nble, c_beq, c_fits]
            rw [hl, show (s.length + 3) / 3 = s.length / 3 + 1 by omega]
            rfl
          | false =>
            simp only [Bool.not_true, c_true, c_false, rec3, show ((-1 : Int) != 0) = true from rfl]
            simp (disch := omega) only [c_ble, c_nble, c_beq, c_fits]
            rw [hl, show (s.length + 3) / 3 = s.length / 3 + 1 by omega]
            rfl, hs.step⟩)
    (fun m s _ => by simp (disch := omega) only [q01a, q019, c_nlt]) n N 0 s0 (by omega) (by omega) h0
theorem i_Grid_crossings_val (z : β) {N : Nat} (hN : 8 < N) {n : Nat} {X O : Nat -> Int} (g : GridP n X O) (hX : ∀ j, 0 <= X j) (hO : ∀ j, 0 <= O j) (k : Nat -> Nat -> Nat -> List Int -> β) :
    q01d z N n X O k = k (crossL n X O).length ((crossL n X O).length / 3) ((crossL n X O).length / 3) (crossL n X O) := by
  have h8 := g.hi
  unfold q01d q008
  rw [i_Grid_places_val z hN h8 g.px hX, i_Grid_places_val z hN h8 g.po hO]
  exact up_to (L := fun m i (s : List Int) => q01c z N n n X O (plc n X) (plc n O) m s.length (s.length / 3) (s.length / 3) (i : Int) s k) (n := n) (out := fun s => k s.length (s.length / 3) (s.length / 3) s) (f := crossR n X O) (I := fun i s => CrossI (n * i) s)
    (fun m i s hi hs => ⟨by
      have : n * i <= 8 * 8 := Nat.mul_le_mul h8 (by omega)
      simp only [q01c, q01b, q008]
      rw [c_lt (by omega), i_Grid_crossings_l1_val z hN g hX hO hi (by omega) hs, c_fits (by omega)]
      rfl, by rw [Nat.mul_succ]; exact hs.row n⟩)
    (fun m s _ => by simp (disch := omega) only [q01c, q01b, c_nlt]) n N 0 [] (by omega) (by omega) (CrossI.all (X := X) (O := O) 0)
def writheF (xs : List Int) (j : Nat) (s : Int) : Int := s + xs[j * 3 + 2]?.getD 0
def writheS (xs : List Int) : Int := iter (writheF xs) (xs.length / 3) 0 0
theorem writheF_bd {m : Nat} {xs : List Int} (h : CrossI m xs) {j : Nat} (hj : j < xs.length / 3) {s : Int} (hs : -(j : Int) <= s ∧ s <= j) : -((j + 1 : Nat) : Int) <= writheF xs j s ∧ writheF xs j s <= (j + 1 : Nat) := by
  have := h.sg j hj
  unfold writheF
  omega
theorem writheS_bd {m : Nat} {xs : List Int} (h : CrossI m xs) : -(m : Int) <= writheS xs ∧ writheS xs <= m := by
  have := iter_inv (f := writheF xs) (n := xs.length / 3) (I := fun j s => -(j : Int) <= s ∧ s <= j) (fun j s hj hs => writheF_bd h hj hs) (xs.length / 3) 0 0 (by omega) (by simp)
  have h2 := h.le
  rw [Nat.zero_add] at this
  unfold writheS
  omega
theorem crossL_inv {n : Nat} (X O : Nat -> Int) (h8 : n <= 8) : CrossI 64 (crossL n X O) := by
  have h : CrossI (n * n) (crossL n X O) := CrossI.all (n := n) (X := X) (O := O) n
  have : n * n <= 8 * 8 := Nat.mul_le_mul h8 h8
  exact ⟨h.len, by have := h.le; omega, h.sg⟩
theorem s_l03Writhe_val (z : β) {N : Nat} (hN : 100 < N) {n : Nat} {X O : Nat -> Int} (g : GridP n X O) (hX : ∀ j, 0 <= X j) (hO : ∀ j, 0 <= O j) (k : Int -> β) : q017 z N n X O k = k (writheS (crossL n X O)) := by
  unfold q017
  rw [s_l03Crossings_val z (by omega) g hX hO]
  have h := crossL_inv X O g.hi
  generalize crossL n X O = xs at *
  have h1 := h.len
  have h2 := h.le
  exact up_to (L := fun m j s => q016 z xs.length (xs.length / 3) (xs.length / 3) n X O xs m s (j : Int) k) (n := xs.length / 3) (out := k) (f := writheF xs) (I := fun j s => -(j : Int) <= s ∧ s <= j)
    (fun m j s hj hs => ⟨by
      have h3 := h.sg j hj
      have h4 := writheF_bd h hj hs
      unfold writheF at h4 ⊢
      simp only [q016, q015, c_and, Int.toNat_natCast, addO_eq]
      simp (disch := omega) only [c_lt, c_le, c_ble, c_blt, c_beq, c_fits]
      rfl, writheF_bd h hj hs⟩)
    (fun m s _ => by simp (disch := omega) only [q016, q015, c_nlt, c_ble]) (xs.length / 3) N 0 0 (by omega) (by omega) (by simp)
theorem i_Grid_writhe_val (z : β) {N : Nat} (hN : 100 < N) {n : Nat} {X O : Nat -> Int} (g : GridP n X O) (hX : ∀ j, 0 <= X j) (hO : ∀ j, 0 <= O j) (k : Int -> β) : q01g z N n X O k = k (writheS (crossL n X O)) := by
  unfold q01g
  rw [i_Grid_crossings_val z (by omega) g hX hO]
  have h := crossL_inv X O g.hi
  generalize crossL n X O = xs at *
  have h1 := h.len
  have h2 := h.le
  rw [c_ble (by omega)]
  exact up_to (L := fun m j s => q01f z xs.length (xs.length / 3) (xs.length / 3) ((xs.length / 3 : Nat) : Int) n X O xs m s (j : Int) k) (n := xs.length / 3) (out := k) (f := writheF xs) (I := fun j s => -(j : Int) <= s ∧ s <= j)
    (fun m j s hj hs => ⟨by
      have h3 := h.sg j hj
      have h4 := writheF_bd h hj hs
      unfold writheF at h4 ⊢
      simp only [q01f, q01e, c_and, Int.toNat_natCast, addO_eq]
      simp (disch := omega) only [c_lt, c_le, c_ble, c_blt, c_beq, c_fits]
      rfl, writheF_bd h hj hs⟩)
    (fun m s _ => by simp (disch := omega) only [q01f, q01e, c_nlt]) (xs.length / 3) N 0 0 (by omega) (by omega) (by simp)
theorem tdiv2_bd {x m : Int} (h : -m <= x ∧ x <= m) : -m <= x.tdiv 2 ∧ x.tdiv 2 <= m := by
  cases x with
  | ofNat a =>
    have : (Int.ofNat a).tdiv 2 = ((a / 2 : Nat) : Int) := rfl
    have e : Int.ofNat a = (a : Int) := rfl
    rw [this]
    rw [e] at h
    omega
  | negSucc a =>
    have : (Int.negSucc a).tdiv 2 = -(((a + 1) / 2 : Nat) : Int) := rfl
    have e : Int.negSucc a = -((a : Int) + 1) := rfl
    rw [this]
    rw [e] at h
    omega
end
end Go.AM
namespace Go.AM
section
variable {β : Type}
def upH (h : Nat -> Int) : Nat -> Int := fun j => if j < 8 then h j + 1 else 0
theorem upH_upd {h : Nat -> Int} {k : Nat} (hk : k < 8) (c : Int) : upd (upH h) k (c + 1) = upH (upd h k c) := by
  funext j
  unfold upH
  simp only [upd_at]
  by_cases e : j = k
  · subst e; rw [if_pos rfl, if_pos rfl, if_pos hk]
  · rw [if_neg e, if_neg e]
theorem i_Grid_component_val (z : β) {N : Nat} (hN : 8 < N) {n : Nat} {X O : Nat -> Int} (g : GridP n X O) (hX : ∀ j, 0 <= X j) (hO : ∀ j, 0 <= O j) (k : (Nat -> Int) -> Int -> β) :
    q01n z N n X O k = k (fun j => if j < n then (compS (nxtC n X O) n).1 j else 0) (compS (nxtC n X O) n).2 := by
  have h8 := g.hi
  unfold q01n q008
  rw [i_Grid_places_val z hN h8 g.px hX]
  have hlt := nxtC_lt g hX hO
  have inv := compS_inv hlt
  have main : ∀ kk : Int -> (Nat -> Int) -> β, q01k z N n n X O (fun _ => 0) (plc n X) N 0 0 (fun _ => 0) kk = kk (compS (nxtC n X O) n).2 (upH (compS (nxtC n X O) n).1) := by
    intro kk
    have e0 : (fun _ : Nat => (0 : Int)) = upH fun j => if j < 8 then -1 else 0 := by
      funext j
      unfold upH
      by_cases e : j < 8
      · simp only [if_pos e]; rfl
      · simp only [if_neg e]
    have hst := up_to (L := fun m i s => q01k z N n n X O (fun _ => 0) (plc n X) m s.2 (i : Int) (upH s.1) kk) (n := n) (out := fun s => kk s.2 (upH s.1)) (f := compF (nxtC n X O) n) (I := CompI n)
      (fun m i s hi hI => ⟨?_, compF_step hlt hi hI⟩) (fun m s _ => by simp (disch := omega) only [q01k, q01j, c_nlt]) n N 0 ((fun j => if j < 8 then -1 else 0), 0) (by omega) (by omega)
      ⟨Int.le_refl _, Int.le_refl _, fun j hj => by omega, fun j hj => by simp [hj], fun j _ hj => by simp [hj]⟩
    · rw [<- e0] at hst
      exact hst
    have h1 := hI.nn
    have h2 := hI.le
    have walk : ∀ kk : (Nat -> Int) -> β, q01i z (s.2 + 1) n i n X O (fun _ => 0) (plc n X) N (i : Int) (upH s.1) kk = kk (upH (walkH (nxtC n X O) s.2 n i s.1)) := by
      intro kk
      refine walk_loop (L := fun m k h => q01i z (s.2 + 1) n i n X O (fun _ => 0) (plc n X) m (k : Int) (upH h) kk) (out := fun h => kk (upH h)) (n := n) (nxt := nxtC n X O) (c := s.2) h1 hlt (I := fun h => ∀ j, j < 8 -> -1 <= h j) (fun k h hk hI hu j hj => by
          rw [upd_at]; split
          · omega
          · exact hI j hj)
        (fun m k h hk hh hu => ?_) (fun m k h hk hh hu => ?_) n N i s.1 (cntU_le _ _) (by omega) hi (fun j hj => by have := hI.bd j hj; omega)
      · have o1 := g.swap.bdX hO hk
        have e : upH h k = 0 := by unfold upH; rw [if_pos (by omega)]; have := hh k (by omega); omega
        have ep : plc n X (O k).toNat = (nxtC n X O k : Int) := plc_spec g.px hX (by omega)
        simp only [q01i, q01h, c_and, Int.toNat_natCast, e, ep]
        simp (disch := omega) only [c_lt, c_le, c_blt, c_eq]
        rw [upH_upd (by omega)]
      · have e : upH h k ≠ 0 := by unfold upH; rw [if_pos (by omega)]; omega
        simp only [q01i, q01h, c_and, Int.toNat_natCast]
        simp (disch := omega) only [c_lt, c_le, c_blt, c_neq]
    have e : upH s.1 i = s.1 i + 1 := by unfold upH; rw [if_pos (by omega)]
    simp only [q01k, q01j, c_and, Int.toNat_natCast, walk, e]
    simp (disch := omega) only [c_lt, c_le, c_blt, c_fits]
    unfold compF
    by_cases hu : s.1 i < 0
    · rw [c_nlt (by omega), if_pos hu]
      rfl
    · rw [c_lt (by omega), if_neg hu]
      rfl
  rw [main]
  generalize hs : compS (nxtC n X O) n = s at *
  refine (up_to (L := fun m i h => q01m z s.2 n n X O (fun _ => 0) (plc n X) m (i : Int) h fun q9 => k q9 s.2) (n := n) (out := fun h => k h s.2) (f := fun i h => upd h i (h i - 1)) (I := fun i h => ∀ j, h j = if j < i then s.1 j else upH s.1 j)
    (fun m i h hi hh => ⟨by
      have e1 := hh i
      have e2 := inv.bd i (by omega)
      have e3 := inv.le
      rw [if_neg (by omega)] at e1
      unfold upH at e1
      rw [if_pos (by omega)] at e1
      simp only [q01m, q01l, c_and, Int.toNat_natCast]
      simp (disch := omega) only [c_lt, c_le, c_blt, c_fits]
      rfl, fun j => by
      rw [upd_at]
      by_cases e : j = i
      · subst e
        rw [if_pos rfl, if_pos (by omega), hh j, if_neg (by omega)]
        unfold upH
        rw [if_pos (by omega)]
        omega
      · rw [if_neg e, hh j]
        by_cases e2 : j < i
        · rw [if_pos e2, if_pos (by omega)]
        · rw [if_neg e2, if_neg (by omega)]⟩)
    (fun m s _ => by simp (disch := omega) only [q01m, q01l, c_nlt]) n N 0 (upH s.1) (by omega) (by omega) (fun j => by rw [if_neg (by omega)])).trans ?_
  congr 1
  have key := iter_inv (f := fun i (h : Nat -> Int) => upd h i (h i - 1)) (n := n) (I := fun i h => ∀ j, h j = if j < i then s.1 j else upH s.1 j) (fun i h hi hh j => by
      rw [upd_at]
      by_cases e : j = i
      · subst e
        rw [if_pos rfl, if_pos (by omega), hh j, if_neg (by omega)]
        unfold upH
        rw [if_pos (by omega)]
        omega
      · rw [if_neg e, hh j]
        by_cases e2 : j < i
        · rw [if_pos e2, if_pos (by omega)]
        · rw [if_neg e2, if_neg (by omega)]) n 0 (upH s.1) (by omega) (fun j => by rw [if_neg (by omega)])
  funext j
  rw [Nat.zero_add] at key
  rw [key j]
  by_cases e : j < n
  · rw [if_pos e, if_pos e]
  · rw [if_neg e, if_neg e]
    unfold upH
    by_cases e2 : j < 8
    · rw [if_pos e2, inv.rest j (by omega) e2]; rfl
    · rw [if_neg e2]
end
end Go.AM
namespace Go.AM
section
variable {β : Type}
abbrev idAt (ids : List (Nat × Nat)) (i : Nat) : Nat × Nat := ids[i]?.getD (0, 0)
abbrev rowAt (T : List (List Int)) (i : Nat) : List Int := T[i]?.getD []
structure TabP (ids : List (Nat × Nat)) (pool T : List (List Int)) : Prop where
  len : T.length <= ids.length
  lt : ∀ i, i < T.length -> (idAt ids i).1 < pool.length
  sz : ∀ i, i < T.length -> (idAt ids i).2 = (rowAt T i).length
  row : ∀ i, i < T.length -> rowAt pool (idAt ids i).1 = rowAt T i
  inj : ∀ i j, i < T.length -> j < T.length -> (idAt ids i).1 = (idAt ids j).1 -> i = j
def total (T : List (List Int)) : Nat -> Nat
  | 0 => 0
  | i + 1 => total T i + (rowAt T i).length
structure SmallT (N : Nat) (T : List (List Int)) : Prop where
  rows : T.length < N ∧ T.length <= 1000
  cols : ∀ i, i < T.length -> (rowAt T i).length < N ∧ (rowAt T i).length <= 1000
def MarkR (k0 : Int) (L : Nat) (xs : List Int) : Prop := xs.length = L ∧ ∀ j, j < L -> xs[j]?.getD 0 = k0 + j
theorem rowAt_set {P : List (List Int)} {a : Nat} {ys : List Int} (ha : a < P.length) (b : Nat) : rowAt (P.set a ys) b = if b = a then ys else rowAt P b := by
  unfold rowAt
  rw [List.getElem?_set]
  by_cases e : b = a
  · subst e; rw [if_pos rfl, if_pos ha, if_pos rfl]; rfl
  · rw [if_neg (Ne.symm e), if_neg e]
structure TabM (ids : List (Nat × Nat)) (P T : List (List Int)) : Prop where
  len : T.length <= ids.length
  sz : ∀ i, i < T.length -> (idAt ids i).2 = (rowAt T i).length
  row : ∀ i, i < T.length -> MarkR (1 + total T i) (rowAt T i).length (rowAt P (idAt ids i).1)
def idsOf (T : List (List Int)) : List (Nat × Nat) := (List.range T.length).map fun i => (i, (rowAt T i).length)
theorem idsOf_len (T : List (List Int)) : (idsOf T).length = T.length := by simp [idsOf]
theorem idsOf_at (T : List (List Int)) {i : Nat} (hi : i < T.length) : idAt (idsOf T) i = (i, (rowAt T i).length) := by
  simp [idAt, idsOf, hi]
theorem idsOf_app (T : List (List Int)) (x : List Int) : idsOf (T ++ [x]) = idsOf T ++ [(T.length, x.length)] := by
  unfold idsOf
  rw [List.length_append, List.length_singleton, List.range_succ, List.map_append]
  congr 1
  · refine List.map_congr_left fun i hi => ?_
    rw [List.mem_range] at hi
    unfold rowAt
    rw [List.getElem?_append_left hi]
  · simp [rowAt]
theorem TabP.of_app (T : List (List Int)) : TabP (idsOf T) T T where
  len := by rw [idsOf_len]; exact Nat.le_refl _
  lt i hi := by rw [idsOf_at T hi]; exact hi
  sz i hi := by rw [idsOf_at T hi]
  row i hi := by rw [idsOf_at T hi]
  inj i j hi hj e := by rw [idsOf_at T hi, idsOf_at T hj] at e; exact e
end
end Go.AM
namespace Go.AM
abbrev Mat := Nat -> Nat -> Int
structure TabF (ids : List (Nat × Nat)) (pool : List (List Int)) (R W : Nat) (m : Mat) : Prop where
  len : R <= ids.length
  lt : ∀ i, i < R -> (idAt ids i).1 < pool.length
  sz : ∀ i, i < R -> (idAt ids i).2 = W
  wide : ∀ i, i < R -> (rowAt pool (idAt ids i).1).length = W
  cell : ∀ i j, i < R -> j < W -> (rowAt pool (idAt ids i).1)[j]?.getD 0 = m i j
  inj : ∀ i j, i < R -> j < R -> (idAt ids i).1 = (idAt ids j).1 -> i = j
def putM (m : Mat) (i j : Nat) (v : Int) : Mat := fun i' j' => if i' = i ∧ j' = j then v else m i' j'
def putP (ids : List (Nat × Nat)) (pool : List (List Int)) (i j : Nat) (v : Int) : List (List Int) := pool.set (idAt ids i).1 ((rowAt pool (idAt ids i).1).set j v)
theorem TabF.put {ids : List (Nat × Nat)} {pool : List (List Int)} {R W : Nat} {m : Mat} (h : TabF ids pool R W m) {i j : Nat} (hi : i < R) (hj : j < W) (v : Int) : TabF ids (putP ids pool i j v) R W (putM m i j v) := by
  have hlt := h.lt i hi
  have e := fun b => rowAt_set (P := pool) (ys := (rowAt pool (idAt ids i).1).set j v) hlt b
  unfold putP
  refine ⟨h.len, fun i' hi' => by rw [List.length_set]; exact h.lt i' hi', h.sz, fun i' hi' => ?_, fun i' j' hi' hj' => ?_, h.inj⟩
  · rw [e]; split
    · rw [List.length_set]; exact h.wide i hi
    · exact h.wide i' hi'
  · rw [e]
    unfold putM
    by_cases e1 : i' = i
    · subst e1
      rw [if_pos rfl, List.getElem?_set]
      by_cases e2 : j' = j
      · subst e2; rw [if_pos rfl, if_pos (by rw [h.wide i' hi']; exact hj), if_pos ⟨rfl, rfl⟩]; rfl
      · rw [if_neg (Ne.symm e2), if_neg (fun hh => e2 hh.2)]; exact h.cell i' j' hi' hj'
    · rw [if_neg (fun hh => e1 (h.inj _ _ hi' hi hh)), if_neg (fun hh => e1 hh.1)]; exact h.cell i' j' hi' hj'
theorem TabF.of_app {T : List (List Int)} {R W : Nat} {m : Mat} (hl : T.length = R) (hw : ∀ i, i < R -> (rowAt T i).length = W) (hc : ∀ i j, i < R -> j < W -> (rowAt T i)[j]?.getD 0 = m i j) : TabF (idsOf T) T R W m := by
  refine ⟨by rw [idsOf_len]; omega, fun i hi => ?_, fun i hi => ?_, fun i hi => ?_, fun i j hi hj => ?_, fun i j hi hj e => ?_⟩
  · rw [idsOf_at T (by omega)]; show i < T.length; omega
  · rw [idsOf_at T (by omega)]; exact hw i hi
  · rw [idsOf_at T (by omega)]; exact hw i hi
  · rw [idsOf_at T (by omega)]; exact hc i j hi hj
  · rw [idsOf_at T (by omega), idsOf_at T (by omega)] at e; exact e
end Go.AM
namespace Go.AM
section
variable {β : Type}
def CrossB (n : Nat) (s : List Int) : Prop := ∀ j, j < s.length / 3 -> ∃ i r : Nat, i < n ∧ r < n ∧ s[j * 3]?.getD 0 = i ∧ s[j * 3 + 1]?.getD 0 = r
theorem CrossB.step {m n i r : Nat} {X O : Nat -> Int} {s : List Int} (h : CrossI m s) (hb : CrossB n s) (hi : i < n) (hr : r < n) : CrossB n (crossF n X O i r s) := by
  unfold crossF
  have h1 := h.len
  generalize crossV n X O i r = v at *
  by_cases e : v = 0
  · rw [show (v != 0) = false by simpa using e, c_false]; exact hb
  · rw [show (v != 0) = true by simpa using e, c_true]
    have hl : (s ++ [(i : Int), (r : Int), v]).length = s.length + 3 := by simp
    intro j hj
    by_cases e2 : j < s.length / 3
    · rw [List.getElem?_append_left (by omega), List.getElem?_append_left (by omega)]; exact hb j e2
    · rw [List.getElem?_append_right (by omega), List.getElem?_append_right (by omega), show j * 3 - s.length = 0 by omega, show j * 3 + 1 - s.length = 1 by omega]
      exact ⟨i, r, hi, hr, rfl, rfl⟩
theorem CrossB.row {m n i : Nat} {X O : Nat -> Int} {s : List Int} (h : CrossI m s) (hb : CrossB n s) (hi : i < n) : ∀ d, d <= n -> CrossB n (iter (crossF n X O i) d 0 s) := by
  intro d
  induction d with
  | zero => exact fun _ => hb
  | succ d ih => intro hd; rw [iter_succ]; exact CrossB.step (h.row d) (ih (by omega)) hi (by omega)
theorem CrossB.all {n : Nat} {X O : Nat -> Int} : ∀ d, d <= n -> CrossB n (iter (crossR n X O) d 0 []) := by
  intro d
  induction d with
  | zero => exact fun _ j hj => by simp [iter] at hj
  | succ d ih => intro hd; rw [iter_succ]; exact CrossB.row (CrossI.all d) (ih (by omega)) (by omega) n (Nat.le_refl n)
structure LinkP (n cnt : Nat) (X : Nat -> Int) (wh : Nat -> Nat) (xs : List Int) : Prop where
  c : CrossI 64 xs
  b : CrossB n xs
  wh : ∀ i, i < n -> wh i < cnt
  cn : cnt <= n
  h8 : n <= 8
noncomputable def lA (wh : Nat -> Nat) (xs : List Int) (j : Nat) : Nat := wh (xs[j * 3]?.getD 0).toNat
noncomputable def lB (n : Nat) (X : Nat -> Int) (wh : Nat -> Nat) (xs : List Int) (j : Nat) : Nat := wh (rowOf n X (xs[j * 3 + 1]?.getD 0).toNat)
structure DiagP (ids : List (Nat × Nat)) (pool : List (List Int)) (cnt : Nat) (D : Nat -> Int) : Prop where
  len : ids.length = cnt
  sz : ∀ i, i < cnt -> (idAt ids i).2 = cnt
  wide : ∀ i, i < cnt -> (rowAt pool (idAt ids i).1).length = cnt
  cell : ∀ i, i < cnt -> (rowAt pool (idAt ids i).1)[i]?.getD 0 = D i
noncomputable def tabF (n : Nat) (X : Nat -> Int) (wh : Nat -> Nat) (xs : List Int) (j : Nat) (T : Nat -> Int) : Nat -> Int := upd T (lA wh xs j * 8 + lB n X wh xs j) (T (lA wh xs j * 8 + lB n X wh xs j) + xs[j * 3 + 2]?.getD 0)
theorem iter_app (v : Nat -> Int) : ∀ d, iter (fun b (s : List Int) => s ++ [v b]) d 0 [] = (List.range d).map v := by
  intro d
  induction d with
  | zero => rfl
  | succ d ih => rw [iter_succ, ih, Nat.zero_add, List.range_succ, List.map_append]; rfl
def rowL (T : Nat -> Int) (cnt a : Nat) : List Int := (List.range cnt).map fun b => if a = b then T (a * 8 + a) else (T (a * 8 + b) + T (b * 8 + a)).tdiv 2
theorem rowL_len (T : Nat -> Int) (cnt a : Nat) : (rowL T cnt a).length = cnt := by simp [rowL]
theorem link_l2 (z : β) {N cnt : Nat} (hN : 100 < N) (h8 : cnt <= 8) {T : Nat -> Int} (hT : ∀ q, -64 <= T q ∧ T q <= 64) {a : Nat} (ha : a < cnt) (x1 x2 x3 : Nat) (h00 : Int) (h01 h02 h1 : Nat -> Int) (h2 : List Int) (h4 : List (List Int)) (h5 : List (Nat × Nat)) (k : Nat -> Nat -> Nat -> List Int -> β) :
    q01r z cnt x1 x2 x3 a h00 h01 h02 h1 h2 T h4 h5 N 0 0 0 0 (List.replicate 0 0) k = k cnt cnt cnt (rowL T cnt a) := by
  unfold rowL
  rw [<- iter_app]
  refine up_to (L := fun M b (s : List Int) => q01r z cnt x1 x2 x3 a h00 h01 h02 h1 h2 T h4 h5 M b b b (b : Int) s k) (n := cnt) (out := fun s => k cnt cnt cnt s)
    (f := fun b (s : List Int) => s ++ [if a = b then T (a * 8 + a) else (T (a * 8 + b) + T (b * 8 + a)).tdiv 2]) (I := fun b s => s.length = b)
    (fun M b s hb i1 => ⟨?_, by simp [i1]⟩)
    (fun M s i1 => by rw [q01r, q01q, c_nlt (by omega)]) cnt N 0 [] (by omega) (by omega) rfl
  have t1 := hT (a * 8 + a)
  have t2 := hT (a * 8 + b)
  have t3 := hT (b * 8 + a)
  have t4 := tdiv2_bd (x := T (a * 8 + b) + T (b * 8 + a)) (m := 128) (by omega)
  have hf : ∀ v : Int, fromTo ((List.replicate 1 (0 : Int)).set 0 v) 0 1 = [v] := fun v => rfl
  by_cases e : a = b
  · rw [q01r, q01q, if_pos e]
    simp only [c_and, c_true, Int.toNat_natCast, addO_eq, hf]
    simp (disch := omega) only [c_lt, c_le, c_blt, c_ble, c_nble, c_beq, c_fits, c_eq]
    rw [List.length_append, List.length_singleton, i1]
    rfl
  · rw [q01r, q01q, if_neg e]
    simp only [c_and, c_true, Int.toNat_natCast, addO_eq, hf]
    simp (disch := omega) only [c_lt, c_le, c_blt, c_ble, c_nble, c_beq, c_fits, c_neq]
    rw [List.length_append, List.length_singleton, i1]
    rfl
theorem rowAt_app1 {T : List (List Int)} {x : List Int} {a : Nat} (h : a < T.length) : rowAt (T ++ [x]) a = rowAt T a := by
  unfold rowAt; rw [List.getElem?_append_left h]
theorem rowAt_app2 {T : List (List Int)} {x : List Int} : rowAt (T ++ [x]) T.length = x := by
  unfold rowAt; rw [List.getElem?_append_right (Nat.le_refl _)]; simp
end
end Go.AM
namespace Go.AM
section
variable {β : Type}
theorem app1 (x : Int) : fromTo ((List.replicate 1 (0 : Int)).set 0 x) 0 1 = [x] := rfl
theorem len1 {γ : Type} (s : List γ) (x : γ) : (s ++ [x]).length = s.length + 1 := by simp
end
end Go.AM
namespace Go.AM
section
variable {β : Type}
def cycL (nxt : Nat -> Nat) (st : Nat) : Nat -> Nat -> List Nat
  | 0, _ => []
  | d + 1, k => k :: (if nxt k = st then [] else cycL nxt st d (nxt k))
structure WInv (nxt : Nat -> Nat) (n st : Nat) (h : Nat -> Int) (k : Nat) : Prop where
  lt : k < n
  fresh : h k < 0
  back : ∀ x, x < n -> 0 <= h (nxt x) -> nxt x = st ∨ 0 <= h x
  prev : k = st ∨ ∃ p, p < n ∧ 0 <= h p ∧ nxt p = k
  stv : k = st ∨ 0 <= h st
def BackC (nxt : Nat -> Nat) (n : Nat) (h : Nat -> Int) : Prop := ∀ x, x < n -> 0 <= h (nxt x) -> 0 <= h x
theorem WInv.start {nxt : Nat -> Nat} {n k : Nat} {h : Nat -> Int} (hk : k < n) (hf : h k < 0) (hb : BackC nxt n h) : WInv nxt n k h k :=
  ⟨hk, hf, fun x hx hv => .inr (hb x hx hv), .inl rfl, .inl rfl⟩
theorem WInv.step {nxt : Nat -> Nat} {n st k : Nat} {h : Nat -> Int} {c : Int} (hn : ∀ k, k < n -> nxt k < n) (hi : ∀ a b, a < n -> b < n -> nxt a = nxt b -> a = b) (hc : 0 <= c) (w : WInv nxt n st h k) (hne : nxt k ≠ st) :
    WInv nxt n st (upd h k c) (nxt k) := by
  have hk := w.lt
  have hfr := w.fresh
  have hself : nxt k ≠ k := fun e => by
    rcases w.prev with e2 | ⟨p, hp, hv, e2⟩
    · exact hne (e.trans e2)
    · have := hi p k hp hk (e2.trans e.symm)
      subst this
      omega
  refine ⟨hn k hk, ?_, fun x hx hv => ?_, .inr ⟨k, hk, ?_, rfl⟩, .inr ?_⟩
  · rw [upd_at, if_neg hself]
    rcases Int.lt_or_le (h (nxt k)) 0 with h1 | h1
    · exact h1
    · rcases w.back k hk h1 with e | e
      · exact absurd e hne
      · omega
  · rw [upd_at] at hv
    rw [upd_at]
    by_cases ex : x = k
    · right; rw [if_pos ex]; exact hc
    · rw [if_neg ex]
      by_cases e : nxt x = k
      · rcases w.prev with e2 | ⟨p, hp, hpv, e2⟩
        · exact .inl (e.trans e2)
        · have := hi p x hp hx (e2.trans e.symm)
          subst this
          exact .inr hpv
      · rw [if_neg e] at hv
        exact w.back x hx hv
  · rw [upd_at, if_pos rfl]; exact hc
  · rw [upd_at]
    split
    · exact hc
    · rename_i e
      rcases w.stv with e2 | e2
      · exact absurd e2.symm e
      · exact e2
theorem WInv.done {nxt : Nat -> Nat} {n st k : Nat} {h : Nat -> Int} {c : Int} (hi : ∀ a b, a < n -> b < n -> nxt a = nxt b -> a = b) (hc : 0 <= c) (w : WInv nxt n st h k) (he : nxt k = st) : BackC nxt n (upd h k c) := by
  intro x hx hv
  rw [upd_at] at hv ⊢
  by_cases ex : x = k
  · rw [if_pos ex]; exact hc
  · rw [if_neg ex]
    by_cases e : nxt x = k
    · rcases w.prev with e2 | ⟨p, hp, hpv, e2⟩
      · exact absurd (hi x k hx w.lt ((e.trans e2).trans he.symm)) ex
      · have := hi p x hp hx (e2.trans e.symm)
        subst this
        exact hpv
    · rw [if_neg e] at hv
      rcases w.back x hx hv with e3 | e3
      · exact absurd (hi x k hx w.lt (e3.trans he.symm)) ex
      · exact e3
theorem WInv.stSet {nxt : Nat -> Nat} {n st k : Nat} {h : Nat -> Int} {c : Int} (hc : 0 <= c) (w : WInv nxt n st h k) : 0 <= upd h k c st := by
  rw [upd_at]
  split
  · exact hc
  · rename_i e
    rcases w.stv with e2 | e2
    · exact absurd e2.symm e
    · exact e2
theorem walkH_back {nxt : Nat -> Nat} {n st : Nat} {c : Int} (hn : ∀ k, k < n -> nxt k < n) (hi : ∀ a b, a < n -> b < n -> nxt a = nxt b -> a = b) (hc : 0 <= c) :
    ∀ (d k : Nat) (h : Nat -> Int), cntU n h <= d -> WInv nxt n st h k -> BackC nxt n (walkH nxt c d k h) := by
  intro d
  induction d with
  | zero =>
    intro k h hd w
    have := cntU_zero (by omega : cntU n h = 0) w.lt
    have := w.fresh
    omega
  | succ d ih =>
    intro k h hd w
    have hcn := cntU_upd w.lt w.fresh hc
    simp only [walkH]
    rw [if_pos w.fresh]
    by_cases e : nxt k = st
    · have hs : walkH nxt c d (nxt k) (upd h k c) = upd h k c := by
        have := w.stSet hc
        rw [<- e] at this
        cases d with
        | zero => rfl
        | succ d => simp only [walkH]; rw [if_neg (by omega)]
      rw [hs]
      exact w.done hi hc e
    · exact ih _ _ (by omega) (w.step hn hi hc e)
theorem cyc_loop {σ : Type} {L : Nat -> Nat -> σ -> β} {out : σ -> β} {f : σ -> Nat -> σ} {nxt : Nat -> Nat} {n st : Nat} (hn : ∀ k, k < n -> nxt k < n) (hi : ∀ a b, a < n -> b < n -> nxt a = nxt b -> a = b) {I : Nat -> σ -> Prop}
    (hs : ∀ m k s q, k < n -> q < n -> I q s -> L (m + 1) k s = (if nxt k = st then out (f s k) else L m (nxt k) (f s k)) ∧ I (q + 1) (f s k)) :
    ∀ (d m k q : Nat) (s : σ) (h : Nat -> Int), cntU n h <= d -> q + d <= n -> d <= m -> WInv nxt n st h k -> I q s -> L m k s = out ((cycL nxt st d k).foldl f s) := by
  intro d
  induction d with
  | zero =>
    intro m k q s h hd hq hm w hI
    have := cntU_zero (by omega : cntU n h = 0) w.lt
    have := w.fresh
    omega
  | succ d ih =>
    intro m k q s h hd hq hm w hI
    obtain ⟨m, rfl⟩ : ∃ m', m = m' + 1 := ⟨m - 1, by omega⟩
    have hcn := cntU_upd w.lt w.fresh (c := 0) (by omega)
    obtain ⟨h1, h2⟩ := hs m k s q w.lt (by omega) hI
    rw [h1, cycL]
    by_cases e : nxt k = st
    · rw [if_pos e, if_pos e]; rfl
    · rw [if_neg e, if_neg e]
      exact ih m (nxt k) (q + 1) (f s k) (upd h k 0) (by omega) (by omega) (by omega) (w.step hn hi (c := 0) (by omega) e) h2
theorem vis_loop {σ : Type} {L : Nat -> Nat -> (Nat -> Int) -> σ -> β} {out : (Nat -> Int) -> σ -> β} {f : σ -> Nat -> σ} {nxt : Nat -> Nat} {n st : Nat} {c : Int} (hc : 0 <= c) (hn : ∀ k, k < n -> nxt k < n) (hi : ∀ a b, a < n -> b < n -> nxt a = nxt b -> a = b)
    {I : Nat -> σ -> Prop}
    (hs : ∀ m k h s q, k < n -> q < n -> h k < 0 -> I q s -> L (m + 1) k h s = L m (nxt k) (upd h k c) (f s k) ∧ I (q + 1) (f s k)) (he : ∀ m k h s, k < n -> 0 <= h k -> L (m + 1) k h s = out h s) :
    ∀ (d m k q : Nat) (h : Nat -> Int) (s : σ), cntU n h <= d -> q + d <= n -> d < m -> WInv nxt n st h k -> I q s -> L m k h s = out (walkH nxt c d k h) ((cycL nxt st d k).foldl f s) := by
  intro d
  induction d with
  | zero =>
    intro m k q h s hd hq hm w hI
    have := cntU_zero (by omega : cntU n h = 0) w.lt
    have := w.fresh
    omega
  | succ d ih =>
    intro m k q h s hd hq hm w hI
    obtain ⟨m, rfl⟩ : ∃ m', m = m' + 1 := ⟨m - 1, by omega⟩
    have hcn := cntU_upd w.lt w.fresh hc
    obtain ⟨h1, h2⟩ := hs m k h s q w.lt (by omega) w.fresh hI
    rw [h1, cycL]
    simp only [walkH]
    rw [if_pos w.fresh]
    by_cases e : nxt k = st
    · rw [if_pos e]
      have hst := w.stSet hc
      rw [<- e] at hst
      obtain ⟨m, rfl⟩ : ∃ m', m = m' + 1 := ⟨m - 1, by omega⟩
      rw [he m (nxt k) _ _ (hn k w.lt) hst]
      have hw : walkH nxt c d (nxt k) (upd h k c) = upd h k c := by
        cases d with
        | zero => rfl
        | succ d => simp only [walkH]; rw [if_neg (by omega)]
      rw [hw]
      rfl
    · rw [if_neg e]
      exact ih m (nxt k) (q + 1) _ (f s k) (by omega) (by omega) (by omega) (w.step hn hi hc e) h2
def startF (nxt : Nat -> Nat) (n i : Nat) (s : ((Nat -> Int) × Int) × List Nat) : ((Nat -> Int) × Int) × List Nat := (compF nxt n i s.1, if s.1.1 i < 0 then s.2 ++ [i] else s.2)
def startS (nxt : Nat -> Nat) (n : Nat) : ((Nat -> Int) × Int) × List Nat := iter (startF nxt n) n 0 (((fun j => if j < 8 then -1 else 0), 0), [])
theorem startS_comp (nxt : Nat -> Nat) (n : Nat) : (startS nxt n).1 = compS nxt n := by
  have key : ∀ (d i : Nat) (s : ((Nat -> Int) × Int) × List Nat), (iter (startF nxt n) d i s).1 = iter (compF nxt n) d i s.1 := by
    intro d
    induction d with
    | zero => exact fun i s => rfl
    | succ d ih => exact fun i s => ih (i + 1) _
  exact key n 0 _
structure StartI (nxt : Nat -> Nat) (n i : Nat) (s : ((Nat -> Int) × Int) × List Nat) : Prop where
  comp : CompI n i s.1
  back : BackC nxt n s.1.1
  len : (s.2.length : Int) = s.1.2
  lt : ∀ q, q < s.2.length -> s.2[q]?.getD 0 < i
  own : ∀ q, q < s.2.length -> s.1.1 (s.2[q]?.getD 0) = q
  first : ∀ q, q < s.2.length -> ∀ j, j < s.2[q]?.getD 0 -> s.1.1 j ≠ q
theorem StartI.step {nxt : Nat -> Nat} {n i : Nat} (h8 : n <= 8) (hn : ∀ k, k < n -> nxt k < n) (hinj : ∀ a b, a < n -> b < n -> nxt a = nxt b -> a = b) (hi : i < n) {s : ((Nat -> Int) × Int) × List Nat} (h : StartI nxt n i s) : StartI nxt n (i + 1) (startF nxt n i s) := by
  have hcomp := compF_step hn hi h.comp
  obtain ⟨n', rfl⟩ : ∃ n', n = n' + 1 := ⟨n - 1, by omega⟩
  unfold startF
  by_cases hu : s.1.1 i < 0
  · rw [if_pos hu]
    have hcf : compF nxt (n' + 1) i s.1 = (walkH nxt s.1.2 (n' + 1) i s.1.1, s.1.2 + 1) := by unfold compF; rw [if_pos hu]
    have hnn := h.comp.nn
    have hlen := h.len
    have hval := fun j => walkH_val nxt s.1.2 (n' + 1) i s.1.1 j
    have hbk := walkH_back (st := i) (c := s.1.2) hn hinj hnn (n' + 1) i s.1.1 (cntU_le _ _) (WInv.start hi hu h.back)
    have hold : ∀ j, 0 <= s.1.1 j -> walkH nxt s.1.2 (n' + 1) i s.1.1 j = s.1.1 j := fun j hj => by
      rcases hval j with e | ⟨e, _⟩
      · exact e
      · omega
    have hnew : walkH nxt s.1.2 (n' + 1) i s.1.1 i = s.1.2 := by
      have h1 := walkH_start nxt hnn n' i s.1.1
      rcases hval i with e | ⟨_, e⟩
      · omega
      · exact e
    refine ⟨hcomp, ?_, ?_, fun q hq => ?_, fun q hq => ?_, fun q hq j hj => ?_⟩
    · rw [hcf]; exact hbk
    · rw [hcf]; simp only [List.length_append, List.length_singleton]; omega
    · rw [len1] at hq
      by_cases e : q = s.2.length
      · subst e; simp
      · simp only; rw [List.getElem?_append_left (by omega)]; have := h.lt q (by omega); omega
    · rw [len1] at hq
      rw [hcf]
      by_cases e : q = s.2.length
      · subst e; simp only [List.getElem?_append_right (Nat.le_refl _), Nat.sub_self, List.getElem?_cons_zero, Option.getD_some]; rw [hnew]; omega
      · simp only; rw [List.getElem?_append_left (by omega), hold _ (by rw [h.own q (by omega)]; omega)]; exact h.own q (by omega)
    · rw [len1] at hq
      rw [hcf]
      by_cases e : q = s.2.length
      · subst e
        simp only [List.getElem?_append_right (Nat.le_refl _), Nat.sub_self, List.getElem?_cons_zero, Option.getD_some] at hj
        simp only
        have hset := h.comp.set j hj
        rw [hold j hset]
        have := h.comp.bd j (by omega)
        omega
      · simp only at hj ⊢
        rw [List.getElem?_append_left (by omega)] at hj
        have hlt := h.lt q (by omega)
        rw [hold j (h.comp.set j (by omega))]
        exact h.first q (by omega) j hj
  · rw [if_neg hu]
    have hcf : compF nxt (n' + 1) i s.1 = s.1 := by unfold compF; rw [if_neg hu]
    rw [hcf] at hcomp ⊢
    exact ⟨hcomp, h.back, h.len, fun q hq => by have := h.lt q hq; simp only; omega, h.own, h.first⟩
theorem StartI.zero {nxt : Nat -> Nat} {n : Nat} (h8 : n <= 8) (hn : ∀ k, k < n -> nxt k < n) : StartI nxt n 0 (((fun j => if j < 8 then -1 else 0), 0), []) :=
  ⟨⟨Int.le_refl _, Int.le_refl _, fun j hj => by omega, fun j hj => by simp [hj], fun j _ hj => by simp [hj]⟩, fun x hx hv => by
    simp only at hv
    have := hn x hx
    rw [if_pos (by omega)] at hv
    omega, rfl, fun q hq => by simp at hq, fun q hq => by simp at hq, fun q hq => by simp at hq⟩
theorem startS_inv {nxt : Nat -> Nat} {n : Nat} (h8 : n <= 8) (hn : ∀ k, k < n -> nxt k < n) (hinj : ∀ a b, a < n -> b < n -> nxt a = nxt b -> a = b) : StartI nxt n n (startS nxt n) := by
  have := iter_inv (f := startF nxt n) (n := n) (I := fun i s => StartI nxt n i s) (fun i s hi h => h.step h8 hn hinj hi) n 0 _ (by omega) (StartI.zero h8 hn)
  rwa [Nat.zero_add] at this
end
end Go.AM
namespace Go.AM
section
variable {β : Type}
theorem nxtC_inj {n : Nat} {X O : Nat -> Int} (g : GridP n X O) (hX : ∀ j, 0 <= X j) (hO : ∀ j, 0 <= O j) : ∀ a b, a < n -> b < n -> nxtC n X O a = nxtC n X O b -> a = b := by
  intro a b ha hb e
  have o1 := g.swap.bdX hO ha
  have o2 := g.swap.bdX hO hb
  unfold nxtC at e
  have e1 := (rowOf_spec g.px hX (r := (O a).toNat) (by omega)).2
  have e2 := (rowOf_spec g.px hX (r := (O b).toNat) (by omega)).2
  rw [e, e2] at e1
  exact g.po.2.2 a b ha hb (by omega)
theorem freshW {nxt : Nat -> Nat} {n k : Nat} (h8 : n <= 8) (hn : ∀ k, k < n -> nxt k < n) (hk : k < n) : WInv nxt n k (fun j => if j < 8 then -1 else 0) k :=
  .start hk (by rw [if_pos (by omega)]; omega) (StartI.zero h8 hn).back
theorem map_take_succ {γ : Type} (f : Nat -> γ) (xs : List Nat) (q : Nat) (hq : q < xs.length) : (xs.take (q + 1)).map f = (xs.take q).map f ++ [f (xs[q]?.getD 0)] := by
  rw [List.take_add_one, List.getElem?_eq_getElem hq, List.map_append]
  rfl
theorem iter_foldl {γ σ : Type} (f : σ -> γ -> σ) (d0 : γ) (xs : List γ) (acc : σ) : iter (fun j t => f t (xs[j]?.getD d0)) xs.length 0 acc = xs.foldl f acc := by
  have key : ∀ d, d <= xs.length -> iter (fun j t => f t (xs[j]?.getD d0)) d 0 acc = (xs.take d).foldl f acc := by
    intro d
    induction d with
    | zero => intro _; rfl
    | succ d ih =>
      intro hd
      rw [iter_succ, ih (by omega), Nat.zero_add, List.take_add_one, List.foldl_append, List.getElem?_eq_getElem (by omega)]
      rfl
  rw [key _ (Nat.le_refl _), List.take_length]
def vis (h : Nat -> Int) : Nat -> Bool := fun j => decide (j < 8 ∧ 0 <= h j)
theorem vis_upd {h : Nat -> Int} {k : Nat} {c : Int} (hk : k < 8) (hc : 0 <= c) : upd (vis h) k true = vis (upd h k c) := by
  funext j
  unfold vis
  rw [upd_at, upd_at]
  by_cases e : j = k
  · subst e; rw [if_pos rfl, if_pos rfl, decide_eq_true ⟨hk, hc⟩]
  · rw [if_neg e, if_neg e]
theorem vis_init : (fun _ => false) = vis fun j => if j < 8 then -1 else 0 := by
  funext j
  unfold vis
  by_cases h : j < 8
  · simp [h]
  · simp [h]
def rowN (xs : List Nat) : List Int := xs.map fun k : Nat => (k : Int)
theorem foldl_rowN (xs : List Nat) : ∀ acc : List Int, xs.foldl (fun (s : List Int) (k : Nat) => s ++ [(k : Int)]) acc = acc ++ rowN xs := by
  induction xs with
  | nil => intro acc; simp [rowN]
  | cons x xs ih => intro acc; rw [List.foldl_cons, ih]; simp [rowN]
theorem cycL_len (nxt : Nat -> Nat) (st : Nat) : ∀ d k, (cycL nxt st d k).length <= d := by
  intro d
  induction d with
  | zero => intro k; simp [cycL]
  | succ d ih =>
    intro k
    rw [cycL]
    split
    · simp
    · have := ih (nxt k)
      simp only [List.length_cons]
      omega
theorem cycL_lt {nxt : Nat -> Nat} {n : Nat} (hn : ∀ k, k < n -> nxt k < n) (st : Nat) : ∀ d k, k < n -> ∀ x ∈ cycL nxt st d k, x < n := by
  intro d
  induction d with
  | zero => intro k _ x hx; simp [cycL] at hx
  | succ d ih =>
    intro k hk x hx
    rw [cycL] at hx
    rcases List.mem_cons.1 hx with rfl | hx
    · exact hk
    · split at hx
      · simp at hx
      · exact ih _ (hn k hk) x hx
theorem i_walks_l1_val (z : β) {N : Nat} (hN : 100 < N) {n : Nat} {X O : Nat -> Int} (g : GridP n X O) (hX : ∀ j, 0 <= X j) (hO : ∀ j, 0 <= O j) {i : Nat} (hi : i < n) {h : Nat -> Int} {c : Int} (hc : 0 <= c) (hu : h i < 0) (hb : BackC (nxtC n X O) n h)
    (a b d : Nat) (t16 t17 : Int) (h1 : List (List Int)) (h2 : List (Nat × Nat)) (k : Nat -> Nat -> Nat -> (Nat -> Bool) -> List Int -> β) :
    q025 z a b d t16 t17 n X O h1 h2 (plc n X) N 0 0 0 i (vis h) (List.replicate 0 0) k =
      k (rowN (cycL (nxtC n X O) i n i)).length (rowN (cycL (nxtC n X O) i n i)).length (rowN (cycL (nxtC n X O) i n i)).length (vis (walkH (nxtC n X O) c n i h)) (rowN (cycL (nxtC n X O) i n i)) := by
  have h8 := g.hi
  have hn := nxtC_lt g hX hO
  refine (vis_loop (L := fun m (q : Nat) h (s : List Int) => q025 z a b d t16 t17 n X O h1 h2 (plc n X) m s.length s.length s.length (q : Int) (vis h) s k) (out := fun h s => k s.length s.length s.length (vis h) s) (f := fun (s : List Int) (k : Nat) => s ++ [(k : Int)]) (c := c) hc hn (nxtC_inj g hX hO) (I := fun q s => s.length = q)
    (fun m q h s p hq hp hf hs => ⟨?_, by rw [len1, hs]⟩) (fun m q h s hq hf => ?_) n N i 0 h [] (cntU_le _ _) (by omega) (by omega) (.start hi hu hb) rfl).trans ?_
  · have o1 := g.swap.bdX hO hq
    have ev : vis h q = false := by unfold vis; exact decide_eq_false (by omega)
    have ep : plc n X (O q).toNat = (nxtC n X O q : Int) := plc_spec g.px hX (by omega)
    simp only [q025, q024, c_and, Int.toNat_natCast, ev, ep, app1, c_true, Bool.not_false]
    simp (disch := omega) only [c_lt, c_le, c_blt, c_ble, c_nble, c_beq]
    rw [vis_upd (by omega) hc, len1]
  · have ev : vis h q = true := by unfold vis; exact decide_eq_true (by omega)
    simp only [q025, q024, c_and, Int.toNat_natCast, ev, Bool.not_true, c_false]
    simp (disch := omega) only [c_lt, c_le, c_blt]
  · rw [foldl_rowN, List.nil_append]
noncomputable def walksT (n : Nat) (X O : Nat -> Int) : List (List Int) := (startS (nxtC n X O) n).2.map fun st => rowN (cycL (nxtC n X O) st n st)
theorem i_Grid_walks_val (z : β) {N : Nat} (hN : 100 < N) {n : Nat} {X O : Nat -> Int} (g : GridP n X O) (hX : ∀ j, 0 <= X j) (hO : ∀ j, 0 <= O j) (k : Nat -> Nat -> Nat -> List (Nat × Nat) -> List (List Int) -> β) :
    q028 z N n X O k = k (idsOf (walksT n X O)).length (walksT n X O).length (walksT n X O).length (idsOf (walksT n X O)) (walksT n X O) := by
  have h8 := g.hi
  have hn := nxtC_lt g hX hO
  have hinj := nxtC_inj g hX hO
  unfold q028 q008
  rw [i_Grid_places_val z (by omega) h8 g.px hX, vis_init]
  have main := up_to (L := fun m i (s : ((Nat -> Int) × Int) × List Nat) => q027 z N n n X O (plc n X) m (idsOf (s.2.map fun st => rowN (cycL (nxtC n X O) st n st))).length (s.2.map fun st => rowN (cycL (nxtC n X O) st n st)).length (s.2.map fun st => rowN (cycL (nxtC n X O) st n st)).length (i : Int)
      (s.2.map fun st => rowN (cycL (nxtC n X O) st n st)) (idsOf (s.2.map fun st => rowN (cycL (nxtC n X O) st n st))) (vis s.1.1) fun q7 q8 q9 q10 q11 _ => k q7 q8 q9 q11 q10) (n := n)
    (out := fun s => k (idsOf (s.2.map fun st => rowN (cycL (nxtC n X O) st n st))).length (s.2.map fun st => rowN (cycL (nxtC n X O) st n st)).length (s.2.map fun st => rowN (cycL (nxtC n X O) st n st)).length (idsOf (s.2.map fun st => rowN (cycL (nxtC n X O) st n st))) (s.2.map fun st => rowN (cycL (nxtC n X O) st n st)))
    (f := startF (nxtC n X O) n) (I := fun i s => StartI (nxtC n X O) n i s)
    (fun m i s hi h => ⟨?_, h.step h8 hn hinj hi⟩) (fun m s _ => by simp (disch := omega) only [q027, q026, c_nlt]) n N 0 (((fun j => if j < 8 then -1 else 0), 0), []) (by omega) (by omega) (StartI.zero h8 hn)
  · exact main
  have hlen := h.len
  have hle := h.comp.le
  generalize hT : (s.2.map fun st => rowN (cycL (nxtC n X O) st n st)) = T
  have hTl : T.length = s.2.length := by rw [<- hT]; simp
  have hi2 := idsOf_len T
  simp only [q027, q026, c_and, Int.toNat_natCast]
  simp (disch := omega) only [c_lt, c_le, c_blt]
  unfold startF
  by_cases hu : s.1.1 i < 0
  · have ev : vis s.1.1 i = false := by unfold vis; exact decide_eq_false (by omega)
    have hcf : compF (nxtC n X O) n i s.1 = (walkH (nxtC n X O) s.1.2 n i s.1.1, s.1.2 + 1) := by unfold compF; rw [if_pos hu]
    rw [ev, c_false, i_walks_l1_val z hN g hX hO hi h.comp.nn hu h.back, if_pos hu, hcf]
    simp only [c_true, List.map_append, List.map_cons, List.map_nil, hT]
    simp (disch := omega) only [c_lt, c_le, c_blt, c_ble, c_nble, c_beq, c_fits]
    simp only [idsOf_app, len1]
    rfl
  · have ev : vis s.1.1 i = true := by unfold vis; exact decide_eq_true (by omega)
    have hcf : compF (nxtC n X O) n i s.1 = s.1 := by unfold compF; rw [if_neg hu]
    rw [ev, c_true, if_neg hu, hcf, c_fits (by omega), hT]
    rfl
end
end Go.AM
namespace Go.AM
section
def sumF (f : Nat -> Nat) : Nat -> Nat
  | 0 => 0
  | d + 1 => sumF f d + f d
theorem sumF_congr {f g : Nat -> Nat} : ∀ {n : Nat}, (∀ i, i < n -> f i = g i) -> sumF f n = sumF g n := by
  intro n
  induction n with
  | zero => intro _; rfl
  | succ n ih => intro h; rw [sumF, sumF, ih fun i hi => h i (by omega), h n (by omega)]
theorem sumF_bump {f g : Nat -> Nat} {k a : Nat} : ∀ {n : Nat}, k < n -> f k = g k + a -> (∀ i, i < n -> i ≠ k -> f i = g i) -> sumF f n = sumF g n + a := by
  intro n
  induction n with
  | zero => intro h; omega
  | succ n ih =>
    intro hk h1 h2
    rw [sumF, sumF]
    by_cases e : k = n
    · subst e
      rw [sumF_congr fun i hi => h2 i (by omega) (by omega), h1]
      omega
    · rw [ih (by omega) h1 fun i hi => h2 i (by omega), h2 n (by omega) (by omega)]
      omega
theorem sumF_zero : ∀ n, sumF (fun _ => 0) n = 0 := by
  intro n
  induction n with
  | zero => rfl
  | succ n ih => rw [sumF, ih]
def selS (h : Nat -> Int) (c : Int) (f : Nat -> Nat) (n : Nat) : Nat := sumF (fun i => if h i = c then f i else 0) n
theorem selS_upd {h : Nat -> Int} {c : Int} (f : Nat -> Nat) {n k : Nat} (hk : k < n) (hne : h k ≠ c) : selS (upd h k c) c f n = selS h c f n + f k := by
  unfold selS
  refine sumF_bump hk ?_ fun i _ hi => ?_
  · rw [upd_at, if_pos rfl, if_pos rfl, if_neg hne]; omega
  · rw [upd_at, if_neg hi]
theorem walkH_sel {nxt : Nat -> Nat} {n st : Nat} {c : Int} (f : Nat -> Nat) (hn : ∀ k, k < n -> nxt k < n) (hi : ∀ a b, a < n -> b < n -> nxt a = nxt b -> a = b) (hc : 0 <= c) :
    ∀ (d k : Nat) (h : Nat -> Int), cntU n h <= d -> WInv nxt n st h k -> selS (walkH nxt c d k h) c f n = selS h c f n + ((cycL nxt st d k).map f).sum := by
  intro d
  induction d with
  | zero =>
    intro k h hd w
    have := cntU_zero (by omega : cntU n h = 0) w.lt
    have := w.fresh
    omega
  | succ d ih =>
    intro k h hd w
    have hcn := cntU_upd w.lt w.fresh hc
    have hs := selS_upd (h := h) (c := c) f w.lt (by have := w.fresh; omega)
    simp only [walkH, cycL]
    rw [if_pos w.fresh]
    by_cases e : nxt k = st
    · have hs' : walkH nxt c d (nxt k) (upd h k c) = upd h k c := by
        have := w.stSet hc
        rw [<- e] at this
        cases d with
        | zero => rfl
        | succ d => simp only [walkH]; rw [if_neg (by omega)]
      rw [hs', if_pos e, hs]
      simp
    · rw [if_neg e, ih _ _ (by omega) (w.step hn hi hc e), hs, List.map_cons, List.sum_cons]
      omega
theorem start_sel {nxt : Nat -> Nat} {n : Nat} (f : Nat -> Nat) (h8 : n <= 8) (hn : ∀ k, k < n -> nxt k < n) (hinj : ∀ a b, a < n -> b < n -> nxt a = nxt b -> a = b) :
    ∀ q, q < (startS nxt n).2.length -> selS (startS nxt n).1.1 q f n = ((cycL nxt ((startS nxt n).2[q]?.getD 0) n ((startS nxt n).2[q]?.getD 0)).map f).sum := by
  have key := iter_inv (f := startF nxt n) (n := n) (I := fun i s => StartI nxt n i s ∧ ∀ q, q < s.2.length -> selS s.1.1 q f n = ((cycL nxt (s.2[q]?.getD 0) n (s.2[q]?.getD 0)).map f).sum) (fun i s hi ⟨h, h2⟩ => by
    refine ⟨h.step h8 hn hinj hi, ?_⟩
    unfold startF
    by_cases hu : s.1.1 i < 0
    · rw [if_pos hu]
      have hcf : compF nxt n i s.1 = (walkH nxt s.1.2 n i s.1.1, s.1.2 + 1) := by unfold compF; rw [if_pos hu]
      have hnn := h.comp.nn
      have hlen := h.len
      rw [hcf]
      intro q hq
      show selS (walkH nxt s.1.2 n i s.1.1) q f n = _
      rw [List.length_append, List.length_singleton] at hq
      by_cases e : q < s.2.length
      · rw [List.getElem?_append_left e, <- h2 q e]
        unfold selS
        refine sumF_congr fun j _ => ?_
        rcases walkH_val nxt s.1.2 n i s.1.1 j with e1 | ⟨e1, e2⟩
        · rw [e1]
        · rw [e2, if_neg (by omega), if_neg (by omega)]
      · have eq : q = s.2.length := by omega
        subst eq
        rw [List.getElem?_append_right (Nat.le_refl _), hlen, walkH_sel f hn hinj hnn n i s.1.1 (cntU_le _ _) (WInv.start hi hu h.back)]
        have z : selS s.1.1 s.1.2 f n = 0 := by
          unfold selS
          rw [sumF_congr (g := fun _ => 0) fun j hj => ?_, sumF_zero]
          rw [if_neg]
          rcases h.comp.bd j (by omega) with e1 | e1 <;> omega
        rw [z, Nat.zero_add]
        simp
    · rw [if_neg hu]
      have hcf : compF nxt n i s.1 = s.1 := by unfold compF; rw [if_neg hu]
      rw [hcf]
      exact h2) n 0 _ (by omega) ⟨StartI.zero h8 hn, fun q hq => by simp at hq⟩
  rw [Nat.zero_add] at key
  exact key.2
theorem sum_sel {wh : Nat -> Int} {f : Nat -> Nat} {cnt : Nat} : ∀ n, (∀ i, i < n -> 0 <= wh i ∧ wh i < cnt) -> sumF (fun c => selS wh c f n) cnt = sumF f n := by
  intro n
  induction n with
  | zero => intro _; exact sumF_zero cnt
  | succ n ih =>
    intro h
    have hw := h n (by omega)
    rw [sumF, <- ih fun i hi => h i (by omega)]
    refine sumF_bump (k := (wh n).toNat) (by omega) ?_ fun i _ hi => ?_
    · unfold selS
      rw [sumF, if_pos (by omega)]
    · unfold selS
      rw [sumF, if_neg (by omega)]
      omega
end
end Go.AM
namespace Go.AM
section
def sumI (f : Nat -> Int) : Nat -> Int
  | 0 => 0
  | d + 1 => sumI f d + f d
theorem sumI_congr {f g : Nat -> Int} : ∀ {n : Nat}, (∀ i, i < n -> f i = g i) -> sumI f n = sumI g n := by
  intro n
  induction n with
  | zero => intro _; rfl
  | succ n ih => intro h; rw [sumI, sumI, ih fun i hi => h i (by omega), h n (by omega)]
theorem sumI_bump {f g : Nat -> Int} {k : Nat} {a : Int} : ∀ {n : Nat}, k < n -> f k = g k + a -> (∀ i, i < n -> i ≠ k -> f i = g i) -> sumI f n = sumI g n + a := by
  intro n
  induction n with
  | zero => intro h; omega
  | succ n ih =>
    intro hk h1 h2
    rw [sumI, sumI]
    by_cases e : k = n
    · subst e
      rw [sumI_congr fun i hi => h2 i (by omega) (by omega), h1]
      omega
    · rw [ih (by omega) h1 fun i hi => h2 i (by omega), h2 n (by omega) (by omega)]
      omega
theorem sumI_zero : ∀ n, sumI (fun _ => 0) n = 0 := by
  intro n
  induction n with
  | zero => rfl
  | succ n ih => rw [sumI, ih]; rfl
theorem sumI_sub (f g : Nat -> Int) : ∀ n, sumI (fun i => f i - g i) n = sumI f n - sumI g n := by
  intro n
  induction n with
  | zero => rfl
  | succ n ih => rw [sumI, sumI, sumI, ih]; omega
end
end Go.AM
namespace Go.AM
section
theorem sumI_add (f g : Nat -> Int) : ∀ n, sumI (fun i => f i + g i) n = sumI f n + sumI g n := by
  intro n
  induction n with
  | zero => rfl
  | succ n ih => rw [sumI, sumI, sumI, ih]; omega
theorem sumI_neg (f : Nat -> Int) : ∀ n, sumI (fun i => -f i) n = -sumI f n := by
  intro n
  induction n with
  | zero => rfl
  | succ n ih => rw [sumI, sumI, ih]; omega
theorem sumI_swap (f : Nat -> Nat -> Int) (m : Nat) : ∀ n, sumI (fun i => sumI (fun k => f i k) m) n = sumI (fun k => sumI (fun i => f i k) n) m := by
  intro n
  induction n with
  | zero => exact (sumI_zero m).symm
  | succ n ih =>
    rw [sumI, ih, <- sumI_add]
    exact sumI_congr fun k _ => by rw [sumI]
theorem sumI_one {n j : Nat} (hj : j < n) (f : Nat -> Int) : sumI (fun i => if i = j then f i else 0) n = f j := by
  rw [sumI_bump (g := fun _ => 0) (a := f j) hj (by rw [if_pos rfl]; omega) (fun i _ hi => by rw [if_neg hi]), sumI_zero]
  omega
theorem sumI_perm {n : Nat} {σ τ : Nat -> Nat} (f : Nat -> Int) (h1 : ∀ i, i < n -> σ i < n ∧ τ (σ i) = i) (h2 : ∀ j, j < n -> τ j < n ∧ σ (τ j) = j) : sumI (fun i => f (σ i)) n = sumI f n := by
  have a : sumI (fun i => f (σ i)) n = sumI (fun i => sumI (fun j => if j = σ i then f j else 0) n) n := sumI_congr fun i hi => (sumI_one (h1 i hi).1 f).symm
  rw [a, sumI_swap]
  refine sumI_congr fun j hj => ?_
  rw [sumI_congr (g := fun i => if i = τ j then f j else 0) fun i hi => ?_, sumI_one (h2 j hj).1 fun _ => f j]
  by_cases e : i = τ j
  · rw [if_pos e, if_pos (by rw [e, (h2 j hj).2])]
  · rw [if_neg e, if_neg (fun e2 => e (by rw [e2, (h1 i hi).2]))]
theorem sum_rows {n : Nat} {X : Nat -> Int} (h : PermP 8 n X) (hX : ∀ j, 0 <= X j) (f : Nat -> Int) : sumI (fun r => f (rowOf n X r)) n = sumI f n := by
  refine sumI_perm (τ := fun k => (X k).toNat) f (fun r hr => ?_) (fun k hk => ?_)
  · obtain ⟨a, b⟩ := rowOf_spec h hX hr
    exact ⟨a, by rw [b]; omega⟩
  · have a := h.2.1 k hk
    have b := hX k
    exact ⟨by omega, rowOf_eq h hX hk (by omega)⟩
def ind (p : Prop) [Decidable p] : Int := if p then 1 else 0
theorem ind_pos {p : Prop} [Decidable p] (h : p) : ind p = 1 := if_pos h
theorem ind_neg {p : Prop} [Decidable p] (h : ¬ p) : ind p = 0 := if_neg h
theorem writhe_app {s : List Int} (h : s.length = 3 * (s.length / 3)) (a b v : Int) : writheS (s ++ [a, b, v]) = writheS s + v := by
  unfold writheS
  have hl : (s ++ [a, b, v]).length = s.length + 3 := by simp
  have hd : (s ++ [a, b, v]).length / 3 = s.length / 3 + 1 := by omega
  rw [hd, iter_succ, Nat.zero_add]
  have e1 : iter (writheF (s ++ [a, b, v])) (s.length / 3) 0 0 = iter (writheF s) (s.length / 3) 0 0 := by
    have key : ∀ d, d <= s.length / 3 -> iter (writheF (s ++ [a, b, v])) d 0 0 = iter (writheF s) d 0 0 := by
      intro d
      induction d with
      | zero => intro _; rfl
      | succ d ih =>
        intro hd
        rw [iter_succ, iter_succ, ih (by omega), Nat.zero_add]
        unfold writheF
        rw [List.getElem?_append_left (by omega)]
    exact key _ (Nat.le_refl _)
  rw [e1]
  unfold writheF
  rw [List.getElem?_append_right (by omega), show s.length / 3 * 3 + 2 - s.length = 2 by omega]
  rfl
theorem writhe_sum (n : Nat) (X O : Nat -> Int) : writheS (crossL n X O) = sumI (fun i => sumI (fun r => crossV n X O i r) n) n := by
  have row : ∀ (i m : Nat) (s : List Int), CrossI m s -> ∀ d, writheS (iter (crossF n X O i) d 0 s) = writheS s + sumI (fun r => crossV n X O i r) d := by
    intro i m s hs d
    induction d with
    | zero => exact (Int.add_zero _).symm
    | succ d ih =>
      rw [iter_succ, Nat.zero_add, sumI]
      have hl := (hs.row (X := X) (O := O) (n := n) (i := i) d).len
      generalize iter (crossF n X O i) d 0 s = t at *
      unfold crossF
      by_cases e : crossV n X O i d = 0
      · rw [show (crossV n X O i d != 0) = false by simpa using e, c_false, ih, e]; omega
      · rw [show (crossV n X O i d != 0) = true by simpa using e, c_true, writhe_app hl, ih]; omega
  have all : ∀ d, writheS (iter (crossR n X O) d 0 []) = sumI (fun i => sumI (fun r => crossV n X O i r) n) d := by
    intro d
    induction d with
    | zero => show writheS [] = 0; unfold writheS; rfl
    | succ d ih =>
      rw [iter_succ, Nat.zero_add, sumI, <- ih]
      exact row d (n * d) _ (CrossI.all d) n
  exact all n
theorem nxtC_ne {n : Nat} {X O : Nat -> Int} (g : GridP n X O) (hX : ∀ j, 0 <= X j) (hO : ∀ j, 0 <= O j) {i : Nat} (hi : i < n) : nxtC n X O i < n ∧ nxtC n X O i ≠ i ∧ X (nxtC n X O i) = O i := by
  have b := g.swap.bdX hO hi
  obtain ⟨h1, h2⟩ := rowOf_spec g.px hX (r := (O i).toNat) (by omega)
  have h3 : X (nxtC n X O i) = O i := by unfold nxtC; rw [h2]; omega
  refine ⟨h1, fun e => ?_, h3⟩
  rw [e] at h3
  exact g.ne i hi h3
end
end Go.AM
namespace Go.AM
theorem sumI_mod {f g : Nat -> Int} : ∀ {n : Nat}, (∀ i, i < n -> (f i - g i) % 2 = 0) -> (sumI f n - sumI g n) % 2 = 0 := by
  intro n
  induction n with
  | zero => intro _; rfl
  | succ n ih =>
    intro h
    have h1 := ih fun i hi => h i (by omega)
    have h2 := h n (by omega)
    rw [sumI, sumI]
    omega
def Bet (x a b : Int) : Prop := (a < x ∧ x < b) ∨ (b < x ∧ x < a)
instance (x a b : Int) : Decidable (Bet x a b) := by unfold Bet; infer_instance
theorem betB_iff (x a b : Int) : betB x a b = true ↔ Bet x a b := by
  unfold betB Bet
  rw [Bool.and_eq_true, decide_eq_true_iff, decide_eq_true_iff]
  rcases Int.lt_or_le b a with h | h
  · rw [show decide (b < a) = true by simpa using h, show decide (a < b) = false by simp; omega]
    simp only [cond_true, cond_false]
    omega
  · rw [show decide (b < a) = false by simpa using h]
    by_cases e : a < b
    · rw [show decide (a < b) = true by simpa using e]
      simp only [cond_true, cond_false]
      omega
    · rw [show decide (a < b) = false by simpa using e]
      simp only [cond_false]
      omega
theorem bet_lt {x a b : Int} (h1 : x ≠ a) (h2 : x ≠ b) : (ind (Bet x a b) - (ind (a < x) + ind (b < x))) % 2 = 0 := by
  by_cases p : a < x <;> by_cases q : b < x
  · rw [ind_pos p, ind_pos q, ind_neg (by unfold Bet; omega)]; rfl
  · rw [ind_pos p, ind_neg q, ind_pos (by unfold Bet; omega)]; rfl
  · rw [ind_neg p, ind_pos q, ind_pos (by unfold Bet; omega)]; rfl
  · rw [ind_neg p, ind_neg q, ind_neg (by unfold Bet; omega)]; rfl
section
variable {n : Nat} {X O : Nat -> Int} {wh : Nat -> Nat} {a b : Nat}
noncomputable def crI (n : Nat) (X O : Nat -> Int) (i r : Nat) : Int := if Bet r (X i) (O i) then ind (Bet i (rowOf n X r) (rowOf n O r)) else 0
theorem crossV_mod (i r : Nat) : (crossV n X O i r - crI n X O i r) % 2 = 0 := by
  unfold crossV crI
  by_cases h1 : Bet r (X i) (O i)
  · rw [(betB_iff _ _ _).2 h1, if_pos h1, c_true]
    by_cases h2 : Bet i (rowOf n X r) (rowOf n O r)
    · rw [(betB_iff _ _ _).2 h2, ind_pos h2, c_true]
      cases (decide (X i < O i) == decide ((rowOf n X r : Int) < rowOf n O r)) <;> rfl
    · rw [show betB i (rowOf n X r) (rowOf n O r) = false from by rw [<- Bool.not_eq_true, betB_iff]; exact h2, ind_neg h2]; rfl
  · rw [show betB r (X i) (O i) = false from by rw [<- Bool.not_eq_true, betB_iff]; exact h1, if_neg h1]; rfl
noncomputable def leftF (n : Nat) (X O : Nat -> Int) (wh : Nat -> Nat) (a : Nat) (i r : Nat) : Int := sumI (fun j => if wh j = a ∧ j < i then ind (Bet r (X j) (O j)) else 0) n
noncomputable def downF (n : Nat) (X O : Nat -> Int) (wh : Nat -> Nat) (a : Nat) (i r : Nat) : Int := sumI (fun s => if wh (rowOf n X s) = a ∧ s < r then ind (Bet i (rowOf n X s) (rowOf n O s)) else 0) n
theorem row_comp (g : GridP n X O) (hX : ∀ j, 0 <= X j) (hO : ∀ j, 0 <= O j) (hw : ∀ i, i < n -> wh (nxtC n X O i) = wh i) {r : Nat} (hr : r < n) : wh (rowOf n O r) = wh (rowOf n X r) := by
  obtain ⟨h1, h2⟩ := rowOf_spec g.po hO hr
  have := hw _ h1
  rw [<- this, nxtC, h2, Int.toNat_natCast]
theorem left_down (g : GridP n X O) (hX : ∀ j, 0 <= X j) (hO : ∀ j, 0 <= O j) (hw : ∀ i, i < n -> wh (nxtC n X O i) = wh i) {i r : Nat} (hi : i < n) (hr : r < n)
    (h1 : wh i ≠ a) (h2 : wh (rowOf n X r) ≠ a) : (leftF n X O wh a i r - downF n X O wh a i r) % 2 = 0 := by
  have c1 : (leftF n X O wh a i r - sumI (fun j => (if wh j = a ∧ j < i then ind (X j < r) else 0) + (if wh j = a ∧ j < i then ind (O j < r) else 0)) n) % 2 = 0 := by
    refine sumI_mod fun j hj => ?_
    by_cases e : wh j = a ∧ j < i
    · rw [if_pos e, if_pos e, if_pos e]
      refine bet_lt (fun h => h2 ?_) (fun h => h2 ?_)
      · rw [rowOf_eq g.px hX hj h.symm]; exact e.1
      · rw [<- row_comp g hX hO hw hr, rowOf_eq g.po hO hj h.symm]; exact e.1
    · rw [if_neg e, if_neg e, if_neg e]; rfl
  have c2 : (downF n X O wh a i r - sumI (fun s => (if wh (rowOf n X s) = a ∧ s < r then ind ((rowOf n X s : Int) < i) else 0) + (if wh (rowOf n X s) = a ∧ s < r then ind ((rowOf n O s : Int) < i) else 0)) n) % 2 = 0 := by
    refine sumI_mod fun s hs => ?_
    by_cases e : wh (rowOf n X s) = a ∧ s < r
    · rw [if_pos e, if_pos e, if_pos e]
      refine bet_lt (fun h => h1 ?_) (fun h => h1 ?_)
      · rw [Int.ofNat.inj h]; exact e.1
      · rw [Int.ofNat.inj h, row_comp g hX hO hw hs]; exact e.1
    · rw [if_neg e, if_neg e, if_neg e]; rfl
  rw [sumI_add] at c1 c2
  have e1 : sumI (fun s => if wh (rowOf n X s) = a ∧ s < r then ind ((rowOf n X s : Int) < i) else 0) n = sumI (fun j => if wh j = a ∧ j < i then ind (X j < r) else 0) n := by
    rw [<- sum_rows g.px hX fun j => if wh j = a ∧ j < i then ind (X j < r) else 0]
    refine sumI_congr fun s hs => ?_
    have := (rowOf_spec g.px hX hs).2
    by_cases e : wh (rowOf n X s) = a
    · by_cases p : s < r <;> by_cases q : rowOf n X s < i
      · rw [if_pos ⟨e, p⟩, if_pos ⟨e, q⟩, ind_pos (by omega), ind_pos (by omega)]
      · rw [if_pos ⟨e, p⟩, if_neg (fun h => q h.2), ind_neg (by omega)]
      · rw [if_neg (fun h => p h.2), if_pos ⟨e, q⟩, ind_neg (by omega)]
      · rw [if_neg (fun h => p h.2), if_neg (fun h => q h.2)]
    · rw [if_neg (fun h => e h.1), if_neg (fun h => e h.1)]
  have e2 : sumI (fun s => if wh (rowOf n X s) = a ∧ s < r then ind ((rowOf n O s : Int) < i) else 0) n = sumI (fun j => if wh j = a ∧ j < i then ind (O j < r) else 0) n := by
    rw [<- sum_rows g.po hO fun j => if wh j = a ∧ j < i then ind (O j < r) else 0]
    refine sumI_congr fun s hs => ?_
    have := (rowOf_spec g.po hO hs).2
    rw [<- row_comp g hX hO hw hs]
    by_cases e : wh (rowOf n O s) = a
    · by_cases p : s < r <;> by_cases q : rowOf n O s < i
      · rw [if_pos ⟨e, p⟩, if_pos ⟨e, q⟩, ind_pos (by omega), ind_pos (by omega)]
      · rw [if_pos ⟨e, p⟩, if_neg (fun h => q h.2), ind_neg (by omega)]
      · rw [if_neg (fun h => p h.2), if_pos ⟨e, q⟩, ind_neg (by omega)]
      · rw [if_neg (fun h => p h.2), if_neg (fun h => q h.2)]
    · rw [if_neg (fun h => e h.1), if_neg (fun h => e h.1)]
  rw [e1, e2] at c2
  omega
theorem col_par (g : GridP n X O) (hX : ∀ j, 0 <= X j) (hO : ∀ j, 0 <= O j) (hw : ∀ i, i < n -> wh (nxtC n X O i) = wh i) {i : Nat} (hi : i < n) (h1 : wh i ≠ a) :
    (sumI (fun r => if wh (rowOf n X r) = a then crI n X O i r else 0) n - (leftF n X O wh a i (O i).toNat - leftF n X O wh a i (X i).toNat)) % 2 = 0 := by
  have bx := g.bdX hX hi
  have bo := g.swap.bdX hO hi
  have rx : rowOf n X (X i).toNat = i := rowOf_eq g.px hX hi (by omega)
  have ro : rowOf n O (O i).toNat = i := rowOf_eq g.po hO hi (by omega)
  have d1 := left_down (a := a) g hX hO hw hi (r := (X i).toNat) (by omega) h1 (by rw [rx]; exact h1)
  have d2 := left_down (a := a) g hX hO hw hi (r := (O i).toNat) (by omega) h1 (by rw [<- row_comp g hX hO hw (by omega), ro]; exact h1)
  have key : (sumI (fun r => if wh (rowOf n X r) = a then crI n X O i r else 0) n - (downF n X O wh a i (O i).toNat - downF n X O wh a i (X i).toNat)) % 2 = 0 := by
    rw [downF, downF, <- sumI_sub]
    refine sumI_mod fun s hs => ?_
    by_cases e : wh (rowOf n X s) = a
    · rw [if_pos e]
      have n1 : (s : Int) ≠ X i := fun h => h1 (by rw [<- rowOf_eq g.px hX hi h.symm]; exact e)
      have n2 : (s : Int) ≠ O i := fun h => h1 (by rw [<- rowOf_eq g.po hO hi h.symm, row_comp g hX hO hw hs]; exact e)
      unfold crI
      generalize ind (Bet i (rowOf n X s) (rowOf n O s)) = v
      by_cases p : s < (X i).toNat <;> by_cases q : s < (O i).toNat
      · rw [if_neg (by unfold Bet; omega), if_pos ⟨e, q⟩, if_pos ⟨e, p⟩]; omega
      · rw [if_pos (by unfold Bet; omega), if_neg (fun h => q h.2), if_pos ⟨e, p⟩]; omega
      · rw [if_pos (by unfold Bet; omega), if_pos ⟨e, q⟩, if_neg (fun h => p h.2)]; omega
      · rw [if_neg (by unfold Bet; omega), if_neg (fun h => q h.2), if_neg (fun h => p h.2)]; rfl
    · rw [if_neg e, if_neg (fun h => e h.1), if_neg (fun h => e h.1)]; rfl
  omega
theorem row_par (g : GridP n X O) (hX : ∀ j, 0 <= X j) (hO : ∀ j, 0 <= O j) (hw : ∀ i, i < n -> wh (nxtC n X O i) = wh i) {r : Nat} (hr : r < n) (h1 : wh (rowOf n X r) ≠ a) :
    (sumI (fun i => if wh i = a then crI n X O i r else 0) n - (leftF n X O wh a (rowOf n X r) r - leftF n X O wh a (rowOf n O r) r)) % 2 = 0 := by
  rw [leftF, leftF, <- sumI_sub]
  refine sumI_mod fun j hj => ?_
  by_cases e : wh j = a
  · rw [if_pos e]
    have n1 : j ≠ rowOf n X r := fun h => h1 (by rw [<- h]; exact e)
    have n2 : j ≠ rowOf n O r := fun h => h1 (by rw [<- row_comp g hX hO hw hr, <- h]; exact e)
    unfold crI
    by_cases v : Bet r (X j) (O j)
    · rw [if_pos v, ind_pos v]
      by_cases p : j < rowOf n X r <;> by_cases q : j < rowOf n O r
      · rw [ind_neg (by unfold Bet; omega), if_pos ⟨e, p⟩, if_pos ⟨e, q⟩]; rfl
      · rw [ind_pos (by unfold Bet; omega), if_pos ⟨e, p⟩, if_neg (fun h => q h.2)]; rfl
      · rw [ind_pos (by unfold Bet; omega), if_neg (fun h => p h.2), if_pos ⟨e, q⟩]; rfl
      · rw [ind_neg (by unfold Bet; omega), if_neg (fun h => p h.2), if_neg (fun h => q h.2)]; rfl
    · rw [if_neg v, ind_neg v, ite_self, ite_self]; rfl
  · rw [if_neg e, if_neg (fun h => e h.1), if_neg (fun h => e h.1)]; rfl
noncomputable def lnk (n : Nat) (X O : Nat -> Int) (wh : Nat -> Nat) (a b : Nat) : Int := sumI (fun i => sumI (fun r => if wh i = a ∧ wh (rowOf n X r) = b then crossV n X O i r else 0) n) n
theorem lnk_even (g : GridP n X O) (hX : ∀ j, 0 <= X j) (hO : ∀ j, 0 <= O j) (hw : ∀ i, i < n -> wh (nxtC n X O i) = wh i) (hab : a ≠ b) :
    (lnk n X O wh a b + lnk n X O wh b a) % 2 = 0 := by
  have c1 : (lnk n X O wh b a - sumI (fun i => if wh i = b then leftF n X O wh a i (O i).toNat - leftF n X O wh a i (X i).toNat else 0) n) % 2 = 0 := by
    refine sumI_mod fun i hi => ?_
    by_cases e : wh i = b
    · rw [if_pos e]
      have k1 := col_par g hX hO hw hi (a := a) (by rw [e]; exact fun h => hab h.symm)
      have k2 : (sumI (fun r => if wh i = b ∧ wh (rowOf n X r) = a then crossV n X O i r else 0) n - sumI (fun r => if wh (rowOf n X r) = a then crI n X O i r else 0) n) % 2 = 0 := by
        refine sumI_mod fun r hr => ?_
        by_cases p : wh (rowOf n X r) = a
        · rw [if_pos ⟨e, p⟩, if_pos p]; exact crossV_mod i r
        · rw [if_neg (fun h => p h.2), if_neg p]; rfl
      omega
    · rw [if_neg e, sumI_congr (g := fun _ => 0) fun r _ => if_neg (fun h => e h.1), sumI_zero]; rfl
  have c2 : (lnk n X O wh a b - sumI (fun r => if wh (rowOf n X r) = b then leftF n X O wh a (rowOf n X r) r - leftF n X O wh a (rowOf n O r) r else 0) n) % 2 = 0 := by
    unfold lnk
    rw [sumI_swap]
    refine sumI_mod fun r hr => ?_
    by_cases e : wh (rowOf n X r) = b
    · rw [if_pos e]
      have k1 := row_par g hX hO hw hr (a := a) (by rw [e]; exact fun h => hab h.symm)
      have k2 : (sumI (fun i => if wh i = a ∧ wh (rowOf n X r) = b then crossV n X O i r else 0) n - sumI (fun i => if wh i = a then crI n X O i r else 0) n) % 2 = 0 := by
        refine sumI_mod fun i hi => ?_
        by_cases p : wh i = a
        · rw [if_pos ⟨p, e⟩, if_pos p]; exact crossV_mod i r
        · rw [if_neg (fun h => p h.1), if_neg p]; rfl
      omega
    · rw [if_neg e, sumI_congr (g := fun _ => 0) fun r _ => if_neg (fun h => e h.2), sumI_zero]; rfl
  have e1 : sumI (fun r => if wh (rowOf n X r) = b then leftF n X O wh a (rowOf n X r) r - leftF n X O wh a (rowOf n O r) r else 0) n = sumI (fun i => if wh i = b then leftF n X O wh a i (X i).toNat else 0) n - sumI (fun i => if wh i = b then leftF n X O wh a i (O i).toNat else 0) n := by
    rw [<- sum_rows g.px hX fun i => if wh i = b then leftF n X O wh a i (X i).toNat else 0, <- sum_rows g.po hO fun i => if wh i = b then leftF n X O wh a i (O i).toNat else 0, <- sumI_sub]
    refine sumI_congr fun r hr => ?_
    rw [(rowOf_spec g.px hX hr).2, (rowOf_spec g.po hO hr).2, row_comp g hX hO hw hr, Int.toNat_natCast]
    by_cases e : wh (rowOf n X r) = b
    · rw [if_pos e, if_pos e, if_pos e]
    · rw [if_neg e, if_neg e, if_neg e]; rfl
  have e2 : sumI (fun i => if wh i = b then leftF n X O wh a i (O i).toNat - leftF n X O wh a i (X i).toNat else 0) n = sumI (fun i => if wh i = b then leftF n X O wh a i (O i).toNat else 0) n - sumI (fun i => if wh i = b then leftF n X O wh a i (X i).toNat else 0) n := by
    rw [<- sumI_sub]
    refine sumI_congr fun i _ => ?_
    by_cases e : wh i = b
    · rw [if_pos e, if_pos e, if_pos e]
    · rw [if_neg e, if_neg e, if_neg e]; rfl
  rw [e2] at c1
  rw [e1] at c2
  omega
end
end Go.AM
namespace Go.AM
section
variable {n : Nat} {X O : Nat -> Int}
def colAt (s : List Int) (j : Nat) : Int := s[j * 3]?.getD 0
def rowCt (s : List Int) (j : Nat) : Int := s[j * 3 + 1]?.getD 0
def sgnAt (s : List Int) (j : Nat) : Int := s[j * 3 + 2]?.getD 0
structure KeyI (n : Nat) (X O : Nat -> Int) (b : Nat) (s : List Int) : Prop where
  len : s.length = 3 * (s.length / 3)
  lt : ∀ j, j < s.length / 3 -> colAt s j * 8 + rowCt s j < b
  inc : ∀ j k, j < k -> k < s.length / 3 -> colAt s j * 8 + rowCt s j < colAt s k * 8 + rowCt s k
  mem : ∀ j, j < s.length / 3 -> ∃ i r : Nat, i < n ∧ r < n ∧ colAt s j = i ∧ rowCt s j = r ∧ crossV n X O i r ≠ 0 ∧ sgnAt s j = crossV n X O i r
  all : ∀ i r : Nat, i < n -> r < n -> i * 8 + r < b -> crossV n X O i r ≠ 0 -> ∃ j, j < s.length / 3 ∧ colAt s j = i ∧ rowCt s j = r
theorem KeyI.step (h8 : n <= 8) {i r : Nat} (hi : i < n) (hr : r < n) {s : List Int} (h : KeyI n X O (i * 8 + r) s) : KeyI n X O (i * 8 + (r + 1)) (crossF n X O i r s) := by
  have hl := h.len
  by_cases e : crossV n X O i r = 0
  · have e' : crossF n X O i r s = s := by unfold crossF; rw [show (crossV n X O i r != 0) = false by simpa using e, c_false]
    rw [e']
    refine ⟨hl, fun j hj => by have := h.lt j hj; omega, h.inc, h.mem, fun i' r' hi' hr' hb hv => ?_⟩
    refine h.all i' r' hi' hr' ?_ hv
    rcases Nat.lt_or_ge (i' * 8 + r') (i * 8 + r) with q | q
    · exact q
    · have : i' = i ∧ r' = r := by omega
      rw [this.1, this.2] at hv
      exact absurd e hv
  · have e' : crossF n X O i r s = s ++ [(i : Int), (r : Int), crossV n X O i r] := by unfold crossF; rw [show (crossV n X O i r != 0) = true by simpa using e, c_true]
    rw [e']
    have hl2 : (s ++ [(i : Int), (r : Int), crossV n X O i r]).length / 3 = s.length / 3 + 1 := by simp
    have old : ∀ j, j < s.length / 3 -> colAt (s ++ [(i : Int), (r : Int), crossV n X O i r]) j = colAt s j ∧ rowCt (s ++ [(i : Int), (r : Int), crossV n X O i r]) j = rowCt s j ∧ sgnAt (s ++ [(i : Int), (r : Int), crossV n X O i r]) j = sgnAt s j := fun j hj => by
      unfold colAt rowCt sgnAt
      rw [List.getElem?_append_left (by omega), List.getElem?_append_left (by omega), List.getElem?_append_left (by omega)]
      refine ⟨rfl, rfl, rfl⟩
    have new : colAt (s ++ [(i : Int), (r : Int), crossV n X O i r]) (s.length / 3) = i ∧ rowCt (s ++ [(i : Int), (r : Int), crossV n X O i r]) (s.length / 3) = r ∧ sgnAt (s ++ [(i : Int), (r : Int), crossV n X O i r]) (s.length / 3) = crossV n X O i r := by
      unfold colAt rowCt sgnAt
      rw [List.getElem?_append_right (by omega), List.getElem?_append_right (by omega), List.getElem?_append_right (by omega), show s.length / 3 * 3 - s.length = 0 by omega, show s.length / 3 * 3 + 1 - s.length = 1 by omega, show s.length / 3 * 3 + 2 - s.length = 2 by omega]
      exact ⟨rfl, rfl, rfl⟩
    generalize hs' : s ++ [(i : Int), (r : Int), crossV n X O i r] = s' at *
    refine ⟨?_, fun j hj => ?_, fun j k hjk hk => ?_, fun j hj => ?_, fun i' r' hi' hr' hb hv => ?_⟩
    · rw [<- hs']; simp; omega
    · rw [hl2] at hj
      rcases Nat.lt_or_ge j (s.length / 3) with q | q
      · rw [(old j q).1, (old j q).2.1]; have := h.lt j q; omega
      · rw [show j = s.length / 3 by omega, new.1, new.2.1]; omega
    · rw [hl2] at hk
      rcases Nat.lt_or_ge k (s.length / 3) with q | q
      · rw [(old j (by omega)).1, (old j (by omega)).2.1, (old k q).1, (old k q).2.1]; exact h.inc j k hjk q
      · rw [show k = s.length / 3 by omega, new.1, new.2.1, (old j (by omega)).1, (old j (by omega)).2.1]; have := h.lt j (by omega); omega
    · rw [hl2] at hj
      rcases Nat.lt_or_ge j (s.length / 3) with q | q
      · rw [(old j q).1, (old j q).2.1, (old j q).2.2]; exact h.mem j q
      · rw [show j = s.length / 3 by omega, new.1, new.2.1, new.2.2]; exact ⟨i, r, hi, hr, rfl, rfl, e, rfl⟩
    · rw [hl2]
      rcases Nat.lt_or_ge (i' * 8 + r') (i * 8 + r) with q | q
      · obtain ⟨j, j1, j2, j3⟩ := h.all i' r' hi' hr' q hv
        exact ⟨j, by omega, by rw [(old j j1).1]; exact j2, by rw [(old j j1).2.1]; exact j3⟩
      · have : i' = i ∧ r' = r := by omega
        exact ⟨s.length / 3, by omega, by rw [new.1, this.1], by rw [new.2.1, this.2]⟩
theorem crossL_key (X O : Nat -> Int) (h8 : n <= 8) : KeyI n X O (n * 8) (crossL n X O) := by
  have row : ∀ (i : Nat) (s : List Int), i < n -> KeyI n X O (i * 8) s -> KeyI n X O (i * 8 + n) (crossR n X O i s) := by
    intro i s hi hs
    have : ∀ d, d <= n -> KeyI n X O (i * 8 + d) (iter (crossF n X O i) d 0 s) := by
      intro d
      induction d with
      | zero => exact fun _ => hs
      | succ d ih => intro hd; rw [iter_succ, Nat.zero_add]; exact (ih (by omega)).step h8 hi (by omega)
    exact this n (Nat.le_refl n)
  have all : ∀ d, d <= n -> KeyI n X O (d * 8) (iter (crossR n X O) d 0 []) := by
    intro d
    induction d with
    | zero => exact fun _ => ⟨by simp [iter], fun j hj => by simp [iter] at hj, fun j k _ hk => by simp [iter] at hk, fun j hj => by simp [iter] at hj, fun i r _ _ hb => by omega⟩
    | succ d ih =>
      intro hd
      rw [iter_succ, Nat.zero_add]
      have := row d _ (by omega) (ih (by omega))
      refine ⟨this.len, fun j hj => by have := this.lt j hj; omega, this.inc, this.mem, fun i r hi hr hb hv => this.all i r hi hr (by omega) hv⟩
  exact all n (Nat.le_refl n)
theorem sorted_ext : ∀ {l l' : List Int}, l.Pairwise (· < ·) -> l'.Pairwise (· < ·) -> (∀ x, x ∈ l ↔ x ∈ l') -> l = l' := by
  intro l
  induction l with
  | nil =>
    intro l' _ _ h
    cases l' with
    | nil => rfl
    | cons b l' => exact absurd ((h b).2 (List.mem_cons_self ..)) (by simp)
  | cons a l ih =>
    intro l' h1 h2 h
    cases l' with
    | nil => exact absurd ((h a).1 (List.mem_cons_self ..)) (by simp)
    | cons b l' =>
      rw [List.pairwise_cons] at h1 h2
      have hab : a = b := by
        have m1 := (h a).1 (List.mem_cons_self ..)
        have m2 := (h b).2 (List.mem_cons_self ..)
        rw [List.mem_cons] at m1 m2
        rcases m1 with m1 | m1
        · exact m1
        · rcases m2 with m2 | m2
          · exact m2.symm
          · have := h2.1 a m1
            have := h1.1 b m2
            omega
      subst hab
      rw [ih h1.2 h2.2 fun x => ?_]
      have hx := h x
      rw [List.mem_cons, List.mem_cons] at hx
      constructor
      · intro m
        rcases hx.1 (.inr m) with e | e
        · subst e; exact absurd (h1.1 x m) (by omega)
        · exact e
      · intro m
        rcases hx.2 (.inr m) with e | e
        · subst e; exact absurd (h2.1 x m) (by omega)
        · exact e
def pickL (m : Nat) (p : Nat -> Bool) : List Int := ((List.range m).filter p).map fun k : Nat => (k : Int) + 1
theorem pickL_sorted (m : Nat) (p : Nat -> Bool) : (pickL m p).Pairwise (· < ·) := by
  unfold pickL
  rw [List.pairwise_map]
  refine List.Pairwise.filter _ ?_
  refine List.Pairwise.imp (fun {a b} h => ?_) List.pairwise_lt_range
  omega
theorem pickL_mem (m : Nat) (p : Nat -> Bool) (x : Int) : x ∈ pickL m p ↔ ∃ k : Nat, k < m ∧ p k = true ∧ x = k + 1 := by
  unfold pickL
  rw [List.mem_map]
  constructor
  · rintro ⟨k, h1, h2⟩
    rw [List.mem_filter, List.mem_range] at h1
    exact ⟨k, h1.1, h1.2, h2.symm⟩
  · rintro ⟨k, h1, h2, h3⟩
    exact ⟨k, List.mem_filter.2 ⟨List.mem_range.2 h1, h2⟩, h3.symm⟩
def lineL (c : Nat) (f : Nat -> Int) : List Int := ((List.range c).map f).filter (· != 0)
theorem lineL_succ (c : Nat) (f : Nat -> Int) : lineL (c + 1) f = lineL c f ++ (if f c = 0 then [] else [f c]) := by
  unfold lineL
  rw [List.range_succ, List.map_append, List.filter_append]
  by_cases e : f c = 0
  · rw [if_pos e]; simp [e]
  · rw [if_neg e]; simp [e]
theorem lineL_sorted {c : Nat} {f : Nat -> Int} (h : ∀ p q, p < q -> q < c -> f p ≠ 0 -> f q ≠ 0 -> f p < f q) : (lineL c f).Pairwise (· < ·) := by
  unfold lineL
  rw [List.pairwise_filter, List.pairwise_map]
  refine List.Pairwise.imp_of_mem (R := (· < ·)) (fun {a b} _ hb hab h1 h2 => ?_) List.pairwise_lt_range
  rw [List.mem_range] at hb
  exact h a b hab hb (by simpa using h1) (by simpa using h2)
theorem lineL_mem (c : Nat) (f : Nat -> Int) (x : Int) : x ∈ lineL c f ↔ x ≠ 0 ∧ ∃ q, q < c ∧ f q = x := by
  unfold lineL
  rw [List.mem_filter, List.mem_map]
  constructor
  · rintro ⟨⟨q, h1, h2⟩, h3⟩
    exact ⟨by simpa using h3, q, List.mem_range.1 h1, h2⟩
  · rintro ⟨h3, q, h1, h2⟩
    exact ⟨⟨q, List.mem_range.2 h1, h2⟩, by simpa using h3⟩
theorem lineL_rev (c : Nat) (f : Nat -> Int) : lineL c (fun q => f (c - 1 - q)) = (lineL c f).reverse := by
  unfold lineL
  rw [<- List.filter_reverse]
  congr 1
  refine List.ext_getElem (by simp) fun i h1 h2 => ?_
  simp
theorem lineL_neg (c : Nat) (f : Nat -> Int) : lineL c (fun q => -f q) = (lineL c f).map (fun x => -x) := by
  induction c with
  | zero => rfl
  | succ c ih =>
    rw [lineL_succ, lineL_succ, ih, List.map_append]
    by_cases e : f c = 0
    · rw [if_pos e, if_pos (by omega)]; rfl
    · rw [if_neg e, if_neg (by omega)]; rfl
end
end Go.AM
namespace Go.AM
section
variable {n : Nat} {X O : Nat -> Int} {xs : List Int}
def numF (xs : List Int) (i r : Int) : Nat -> Nat -> Int
  | 0, _ => 0
  | d + 1, j => if colAt xs j = i ∧ rowCt xs j = r then (j : Int) + 1 else numF xs i r d (j + 1)
def numC (xs : List Int) (i r : Int) : Int := numF xs i r (xs.length / 3) 0
theorem numF_cases (xs : List Int) (i r : Int) : ∀ d j, (numF xs i r d j = 0 ∧ ∀ k, j <= k -> k < j + d -> ¬ (colAt xs k = i ∧ rowCt xs k = r)) ∨ ∃ k, j <= k ∧ k < j + d ∧ colAt xs k = i ∧ rowCt xs k = r ∧ numF xs i r d j = (k : Int) + 1 := by
  intro d
  induction d with
  | zero => exact fun j => .inl ⟨rfl, fun k h1 h2 => by omega⟩
  | succ d ih =>
    intro j
    by_cases e : colAt xs j = i ∧ rowCt xs j = r
    · exact .inr ⟨j, Nat.le_refl _, by omega, e.1, e.2, by rw [numF, if_pos e]⟩
    · rw [numF, if_neg e]
      rcases ih (j + 1) with ⟨h1, h2⟩ | ⟨k, h1, h2, h3, h4, h5⟩
      · refine .inl ⟨h1, fun k k1 k2 => ?_⟩
        by_cases q : k = j
        · subst q; exact e
        · exact h2 k (by omega) (by omega)
      · exact .inr ⟨k, by omega, by omega, h3, h4, h5⟩
theorem numC_cases (xs : List Int) (i r : Int) : (numC xs i r = 0 ∧ ∀ k, k < xs.length / 3 -> ¬ (colAt xs k = i ∧ rowCt xs k = r)) ∨ ∃ k, k < xs.length / 3 ∧ colAt xs k = i ∧ rowCt xs k = r ∧ numC xs i r = (k : Int) + 1 := by
  rcases numF_cases xs i r (xs.length / 3) 0 with ⟨h1, h2⟩ | ⟨k, _, h2, h3, h4, h5⟩
  · exact .inl ⟨h1, fun k hk => h2 k (by omega) (by omega)⟩
  · exact .inr ⟨k, by omega, h3, h4, h5⟩
theorem numC_lt {b : Nat} (h : KeyI n X O b xs) {i r i' r' : Int} (h1 : numC xs i r ≠ 0) (h2 : numC xs i' r' ≠ 0) (hlt : i * 8 + r < i' * 8 + r') : numC xs i r < numC xs i' r' := by
  rcases numC_cases xs i r with ⟨e, _⟩ | ⟨k, k1, k2, k3, k4⟩
  · exact absurd e h1
  rcases numC_cases xs i' r' with ⟨e, _⟩ | ⟨l, l1, l2, l3, l4⟩
  · exact absurd e h2
  rw [k4, l4]
  rcases Nat.lt_trichotomy k l with q | q | q
  · omega
  · subst q; omega
  · have := h.inc l k q k1; omega
theorem numC_at {b : Nat} (h : KeyI n X O b xs) {k : Nat} (hk : k < xs.length / 3) : numC xs (colAt xs k) (rowCt xs k) = (k : Int) + 1 := by
  rcases numC_cases xs (colAt xs k) (rowCt xs k) with ⟨_, e⟩ | ⟨l, l1, l2, l3, l4⟩
  · exact absurd ⟨rfl, rfl⟩ (e k hk)
  · rw [l4]
    rcases Nat.lt_trichotomy k l with q | q | q
    · have := h.inc k l q l1; omega
    · rw [q]
    · have := h.inc l k q hk; omega
theorem numC_cross {b : Nat} (h : KeyI n X O b xs) {i r : Int} (h1 : numC xs i r ≠ 0) : ∃ i' r' : Nat, i' < n ∧ r' < n ∧ i = i' ∧ r = r' ∧ crossV n X O i' r' ≠ 0 := by
  rcases numC_cases xs i r with ⟨e, _⟩ | ⟨k, k1, k2, k3, k4⟩
  · exact absurd e h1
  obtain ⟨i', r', m1, m2, m3, m4, m5, _⟩ := h.mem k k1
  exact ⟨i', r', m1, m2, by omega, by omega, m5⟩
def downL (n : Nat) (xs : List Int) (i : Nat) : List Int := lineL n fun r => numC xs i r
def acrL (n : Nat) (xs : List Int) (r : Nat) : List Int := lineL n fun i => numC xs i r
theorem pick_down {b : Nat} (h : KeyI n X O b xs) (i : Nat) : pickL (xs.length / 3) (fun k => colAt xs k == (i : Int)) = downL n xs i := by
  refine sorted_ext (pickL_sorted _ _) (lineL_sorted fun p q hpq hq h1 h2 => numC_lt h h1 h2 (by omega)) fun x => ?_
  unfold downL
  rw [pickL_mem, lineL_mem]
  constructor
  · rintro ⟨k, k1, k2, rfl⟩
    have k2 : colAt xs k = i := by simpa using k2
    obtain ⟨i', r', m1, m2, m3, m4, _⟩ := h.mem k k1
    refine ⟨by omega, r', m2, ?_⟩
    rw [<- numC_at h k1, k2, m4]
  · rintro ⟨h0, r, r1, r2⟩
    rcases numC_cases xs i r with ⟨e, _⟩ | ⟨k, k1, k2, k3, k4⟩
    · omega
    · exact ⟨k, k1, by simpa using k2, by omega⟩
theorem pick_acr {b : Nat} (h : KeyI n X O b xs) (r : Nat) : pickL (xs.length / 3) (fun k => rowCt xs k == (r : Int)) = acrL n xs r := by
  refine sorted_ext (pickL_sorted _ _) (lineL_sorted fun p q hpq hq h1 h2 => numC_lt h h1 h2 (by omega)) fun x => ?_
  unfold acrL
  rw [pickL_mem, lineL_mem]
  constructor
  · rintro ⟨k, k1, k2, rfl⟩
    have k2 : rowCt xs k = r := by simpa using k2
    obtain ⟨i', r', m1, m2, m3, m4, _⟩ := h.mem k k1
    refine ⟨by omega, i', m1, ?_⟩
    rw [<- numC_at h k1, k2, m3]
  · rintro ⟨h0, i, i1, i2⟩
    rcases numC_cases xs i r with ⟨e, _⟩ | ⟨k, k1, k2, k3, k4⟩
    · omega
    · exact ⟨k, k1, by simpa using k3, by omega⟩
theorem lineL_part {f : Nat -> Int} {a c m : Nat} (hm : a + c <= m) (h1 : ∀ q, q < a -> f q = 0) (h2 : ∀ q, a + c <= q -> q < m -> f q = 0) : lineL m f = lineL c fun q => f (a + q) := by
  have z : ∀ d, d <= a -> lineL d f = [] := by
    intro d
    induction d with
    | zero => exact fun _ => rfl
    | succ d ih => intro hd; rw [lineL_succ, ih (by omega), h1 d (by omega)]; rfl
  have mid : ∀ d, d <= c -> lineL (a + d) f = lineL d fun q => f (a + q) := by
    intro d
    induction d with
    | zero => exact fun _ => z a (Nat.le_refl _)
    | succ d ih => intro hd; rw [<- Nat.add_assoc, lineL_succ, lineL_succ, ih (by omega)]
  have top : ∀ d, a + c + d <= m -> lineL (a + c + d) f = lineL (a + c) f := by
    intro d
    induction d with
    | zero => exact fun _ => rfl
    | succ d ih => intro hd; rw [<- Nat.add_assoc, lineL_succ, ih (by omega), h2 _ (by omega) (by omega)]; simp
  have := top (m - (a + c)) (by omega)
  rw [show a + c + (m - (a + c)) = m by omega] at this
  rw [this, mid c (Nat.le_refl _)]
theorem cross_bet {i r : Nat} (h : crossV n X O i r ≠ 0) : Bet r (X i) (O i) ∧ Bet i (rowOf n X r) (rowOf n O r) := by
  unfold crossV at h
  cases h1 : betB r (X i) (O i) with
  | false => rw [h1] at h; exact absurd rfl h
  | true =>
    cases h2 : betB i (rowOf n X r) (rowOf n O r) with
    | false => rw [h1, h2] at h; exact absurd rfl h
    | true => exact ⟨(betB_iff _ _ _).1 h1, (betB_iff _ _ _).1 h2⟩
theorem down_up {b : Nat} (h : KeyI n X O b xs) {i lo hi : Nat} (hlt : lo < hi) (hn : hi < n) (e : X i = lo ∧ O i = hi ∨ X i = hi ∧ O i = lo) : downL n xs i = lineL (hi - lo - 1) fun q => numC xs i ((lo + 1 + q : Nat) : Int) := by
  have out : ∀ r : Nat, (r <= lo ∨ hi <= r) -> numC xs i r = 0 := fun r hr => by
    refine Classical.byContradiction fun hne => ?_
    obtain ⟨i', r', _, _, m3, m4, m5⟩ := numC_cross h hne
    have := Int.ofNat.inj m3
    subst this
    have := Int.ofNat.inj m4
    subst this
    have hb := (cross_bet m5).1
    unfold Bet at hb
    omega
  exact lineL_part (by omega) (fun q hq => out q (by omega)) (fun q hq _ => out q (by omega))
theorem acr_up {b : Nat} (h : KeyI n X O b xs) {r lo hi : Nat} (hlt : lo < hi) (hn : hi < n) (e : rowOf n X r = lo ∧ rowOf n O r = hi ∨ rowOf n X r = hi ∧ rowOf n O r = lo) : acrL n xs r = lineL (hi - lo - 1) fun q => numC xs ((lo + 1 + q : Nat) : Int) r := by
  have out : ∀ i : Nat, (i <= lo ∨ hi <= i) -> numC xs i r = 0 := fun i hr => by
    refine Classical.byContradiction fun hne => ?_
    obtain ⟨i', r', _, _, m3, m4, m5⟩ := numC_cross h hne
    have := Int.ofNat.inj m3
    subst this
    have := Int.ofNat.inj m4
    subst this
    have hb := (cross_bet m5).2
    unfold Bet at hb
    omega
  exact lineL_part (by omega) (fun q hq => out q (by omega)) (fun q hq _ => out q (by omega))
noncomputable def gCol (n : Nat) (X O : Nat -> Int) (xs : List Int) (i : Nat) : List Int :=
  (if X i < O i then downL n xs i else (downL n xs i).reverse) ++
  (if i < nxtC n X O i then (acrL n xs (O i).toNat).map (fun x => -x) else ((acrL n xs (O i).toNat).map (fun x => -x)).reverse)
end
end Go.AM
namespace Go.AM
section
variable {β : Type}
theorem rev_loop (z : β) {L : Nat} (hL : L <= 1000) {h0 : List Int} (hh : h0.length = L) (k0 : List Int -> β) : ∀ (m k : Nat) (xs : List Int), L < m + k -> 2 * k <= L + 1 -> xs.length = L ->
    (∀ p, p < L -> xs[p]?.getD 0 = h0[if p < k ∨ L <= p + k then L - 1 - p else p]?.getD 0) -> q03a z L L L m (k : Int) ((L : Int) - 1 - k) xs k0 = k0 h0.reverse := by
  intro m
  induction m with
  | zero => intro k xs h1 h2; omega
  | succ m ih =>
    intro k xs h1 h2 hx hp
    by_cases e : 2 * k + 1 < L
    · have j1 : ((L : Int) - 1 - k).toNat = L - 1 - k := by omega
      have l1 : ∀ (a : Nat) (v : Int), (xs.set a v).length = xs.length := fun a v => List.length_set
      simp only [q03a, q039, c_and, Int.toNat_natCast, j1, l1]
      simp (disch := omega) only [c_lt, c_le, c_blt, c_beq, c_fits]
      have hn := ih (k + 1) ((xs.set k (xs[L - 1 - k]?.getD 0)).set (L - 1 - k) (xs[k]?.getD 0)) (by omega) (by omega) (by rw [List.length_set, List.length_set]; exact hx) fun p hpl => by
        rw [List.getElem?_set, List.getElem?_set, List.length_set]
        by_cases p1 : L - 1 - k = p
        · subst p1
          rw [if_pos rfl, if_pos (by omega), if_pos (by omega)]
          have := hp k (by omega)
          rw [if_neg (by omega)] at this
          rw [Option.getD_some, this]
          congr 2
          omega
        · rw [if_neg p1]
          by_cases p2 : k = p
          · subst p2
            rw [if_pos rfl, if_pos (by omega), if_pos (by omega)]
            have := hp (L - 1 - k) (by omega)
            rw [if_neg (by omega)] at this
            rw [Option.getD_some, this]
          · rw [if_neg p2, hp p hpl]
            by_cases q : p < k ∨ L <= p + k
            · rw [if_pos q, if_pos (by omega)]
            · rw [if_neg q, if_neg (by omega)]
      rw [show ((k + 1 : Nat) : Int) = (k : Int) + 1 by omega, show (L : Int) - 1 - ((k : Int) + 1) = (L : Int) - 1 - k - 1 by omega] at hn
      exact hn
    · rw [q03a, q039, c_nlt (by omega)]
      congr 1
      refine List.ext_getElem (by simp [hx, hh]) fun p p1 p2 => ?_
      have hpl : p < L := by omega
      have := hp p hpl
      rw [List.getElem?_eq_getElem p1, Option.getD_some] at this
      rw [this, List.getElem_reverse]
      rw [show (if p < k ∨ L <= p + k then L - 1 - p else p) = h0.length - 1 - p by split <;> omega, List.getElem?_eq_getElem (by omega), Option.getD_some]
theorem rev_val (z : β) {N : Nat} {h0 : List Int} (hN : h0.length < N) (hL : h0.length <= 1000) (k0 : List Int -> β) : q03b z N h0.length h0.length h0.length h0 k0 = k0 h0.reverse := by
  unfold q03b
  rw [c_ble (by omega), c_fits (by omega)]
  have := rev_loop z hL rfl k0 N 0 h0 (by omega) (by omega) rfl fun p hp => by rw [if_neg (by omega)]
  rw [show ((0 : Nat) : Int) = 0 from rfl, Int.sub_zero] at this
  exact this
end
end Go.AM
namespace Go.AM
section
variable {β : Type}
theorem splice_front (pre ys : List Int) {m : Nat} (h : ys.length <= m) : List.take (0 + pre.length) (pre ++ List.replicate m 0) ++ (ys ++ List.drop (0 + pre.length + ys.length) (pre ++ List.replicate m (0 : Int))) = (pre ++ ys) ++ List.replicate (m - ys.length) 0 := by
  rw [Nat.zero_add, List.take_left, List.drop_append, List.drop_replicate, List.append_assoc, show pre.length + ys.length - pre.length = ys.length by omega, List.drop_of_length_le (by omega), List.nil_append]
theorem fromTo_allL (xs : List Int) : fromTo xs 0 xs.length = xs := by
  show cond (Nat.beq xs.length xs.length) xs _ = xs
  rw [Nat.beq_refl]
  rfl
theorem cat_step (z : β) {n l c m : Nat} {b pre ys : List Int} (h : ys.length <= m) (hs : pre.length + m <= 100000) (hn : n = pre.length + m) (hl : l = pre.length) (hc : c = pre.length + m) (hb : b = pre ++ List.replicate m 0) (kn : Nat -> Nat -> Nat -> List Int -> β) {K : β}
    (hK : kn (pre.length + m) (pre ++ ys).length (pre.length + m) ((pre ++ ys) ++ List.replicate (m - ys.length) 0) = K) :
    cond (n.beq b.length && true) (cond (ys.length.beq 0) (kn n l c b) (cond ((l + ys.length).ble 1099511627776 && ((l + ys.length) * 8).ble 1099511627776) (cond ((l + ys.length).ble c) (cond (n.beq b.length && (0 + l + (fromTo ys 0 ys.length).length).ble b.length) (kn n (l + ys.length) c (List.take (0 + l) b ++ (fromTo ys 0 ys.length ++ List.drop (0 + l + (fromTo ys 0 ys.length).length) b))) z)
      (cond (l.beq b.length) (kn (b ++ fromTo ys 0 ys.length).length (l + ys.length) (l + ys.length) (b ++ fromTo ys 0 ys.length)) z)) z)) z = K := by
  subst hn hl hc hb hK
  have hl : (pre ++ List.replicate m (0 : Int)).length = pre.length + m := by simp
  have hl2 : (pre ++ ys).length = pre.length + ys.length := by simp
  simp only [fromTo_allL, c_and, hl, splice_front pre ys h, hl2]
  rw [c_beq rfl, c_true]
  by_cases e : ys.length = 0
  · obtain rfl := List.eq_nil_of_length_eq_zero e
    rw [c_beq (by simp)]
    simp
  · rw [c_nbeq e, c_ble (by omega), c_ble (by omega), c_ble (by omega), c_ble (by omega), c_beq rfl]
variable {z : β} {N : Nat} {P : List (List Int)} {r : Nat} {acc d a : List Int}
theorem cat_size (k : Int -> β) (hb : acc.length + d.length + a.length <= 5000) (k0 : Int -> Nat -> Nat -> Nat -> Nat -> Nat -> Nat -> Nat -> Nat -> Nat -> Nat -> Nat -> List (List Int) -> List Int -> List Int -> β) :
    q03j z r 0 acc.length acc.length acc.length d.length d.length d.length a.length a.length a.length P d a k0 =
    k0 ((acc.length + d.length + a.length : Nat) : Int) r 0 acc.length acc.length acc.length d.length d.length d.length a.length a.length a.length P d a := by
  have e : (0 : Int) + (acc.length : Int) + (d.length : Int) + (a.length : Int) = ((acc.length + d.length + a.length : Nat) : Int) := by omega
  simp only [q03j, q03i, q03h, q03g, q03f, q03e, q03d, q03c]
  simp (disch := omega) only [c_ble, c_fits, c_nlt]
  rw [e]
theorem grow_pos (T : Nat) (h : 0 < T) (hb : T <= 5000) (k0 : Nat -> Nat -> Nat -> List Int -> β) (k1 : β) : q03k z N T k0 k1 = k0 T 0 T (List.replicate T 0) := by
  have e : (T : Int) - (0 - 0) = T := by omega
  unfold q03k
  simp only [e, Int.toNat_natCast, Nat.mul_one, List.length_replicate, c_and, Nat.sub_zero]
  simp (disch := omega) only [c_nlt, c_fits, c_lt, c_le, c_ble, c_beq, c_true]
theorem grow_zero (k0 : Nat -> Nat -> Nat -> List Int -> β) (k1 : β) : q03k z N (0 : Nat) k0 k1 = k1 := by
  unfold q03k
  simp (disch := omega) only [c_nlt, c_fits]
theorem cat_chain (hr : P[r]?.getD [] = acc) (hb : acc.length + d.length + a.length <= 5000) (kk : Nat -> Nat -> Nat -> Nat -> Nat -> Nat -> Nat -> Nat -> Nat -> Nat -> Nat -> Nat -> Nat -> Nat -> List (List Int) -> List Int -> List Int -> List Int -> β) :
    q03s z (acc.length + d.length + a.length) 0 (acc.length + d.length + a.length) r 0 acc.length acc.length acc.length d.length d.length d.length a.length a.length a.length P d a (List.replicate (acc.length + d.length + a.length) 0) kk =
    kk (acc.length + d.length + a.length) (acc ++ d ++ a).length (acc.length + d.length + a.length) r 0 acc.length acc.length acc.length d.length d.length d.length a.length a.length a.length P d a (acc ++ d ++ a) := by
  rw [q03s, q03r, hr, c_and, c_beq rfl, c_ble (by omega)]
  refine cat_step z (pre := []) (m := acc.length + d.length + a.length) (by omega) (by simp; omega) (by simp) rfl (by simp) (by simp) (fun n l c b => q03q z n l c r 0 acc.length acc.length acc.length d.length d.length d.length a.length a.length a.length P d a b kk) ?_
  show q03q z _ _ _ r 0 acc.length acc.length acc.length d.length d.length d.length a.length a.length a.length P d a _ kk = _
  rw [q03q, q03p, c_and, c_beq rfl, c_ble (by omega)]
  refine cat_step z (pre := acc) (m := d.length + a.length) (by omega) (by omega) (by simp; omega) (by simp) (by simp; omega) (by simp; congr 1; omega) (fun n l c b => q03o z n l c r 0 acc.length acc.length acc.length d.length d.length d.length a.length a.length a.length P d a b kk) ?_
  show q03o z _ _ _ r 0 acc.length acc.length acc.length d.length d.length d.length a.length a.length a.length P d a _ kk = _
  rw [q03o, q03n, c_and, c_beq rfl, c_ble (by omega)]
  refine cat_step z (pre := acc ++ d) (m := a.length) (by omega) (by simp; omega) (by simp; omega) rfl (by simp; omega) (by congr 2; omega) (fun n l c b => q03m z n l c r 0 acc.length acc.length acc.length d.length d.length d.length a.length a.length a.length P d a b kk) ?_
  show q03m z _ _ _ r 0 acc.length acc.length acc.length d.length d.length d.length a.length a.length a.length P d a _ kk = _
  rw [q03m, q03l, Nat.sub_self, show (acc ++ d ++ a) ++ List.replicate 0 (0 : Int) = acc ++ d ++ a by simp, show (acc ++ d).length + a.length = acc.length + d.length + a.length by simp]
theorem concat_val (hr : P[r]?.getD [] = acc) (hb : acc.length + d.length + a.length <= 5000)
    (k0 : Nat -> Nat -> Nat -> Nat -> Nat -> Nat -> Nat -> Nat -> Nat -> Nat -> Nat -> Nat -> Nat -> Nat -> Nat -> Nat -> List (List Int) -> List Int -> List Int -> List Int -> β) (k1 : Nat -> Nat -> Nat -> Nat -> Nat -> Nat -> Nat -> Nat -> Nat -> Nat -> Nat -> Nat -> Nat -> Nat -> Nat -> Nat -> List (List Int) -> List Int -> List Int -> β) (K : Nat -> Nat -> List (List Int) -> β)
    (h0 : ∀ x t P' y1 y2 y3 y4 y5 y6 y7 y8 y9 y10 y11 d' a' j, k0 x 0 t t t y1 y2 y3 y4 y5 y6 y7 y8 y9 y10 y11 P' d' a' j = K x t P') (h1 : ∀ x t P' y1 y2 y3 y4 y5 y6 y7 y8 y9 y10 y11 d' a', k1 x 0 t t t y1 y2 y3 y4 y5 y6 y7 y8 y9 y10 y11 P' d' a' = K x t P') :
    q041 z N r 0 acc.length acc.length acc.length d.length d.length d.length a.length a.length a.length P d a k0 k1 = K P.length (acc ++ d ++ a).length (P ++ [acc ++ d ++ a]) := by
  unfold q041
  rw [cat_size (fun _ => z) hb]
  by_cases hT : acc.length + d.length + a.length = 0
  · obtain rfl := List.eq_nil_of_length_eq_zero (show acc.length = 0 by omega)
    obtain rfl := List.eq_nil_of_length_eq_zero (show d.length = 0 by omega)
    obtain rfl := List.eq_nil_of_length_eq_zero (show a.length = 0 by omega)
    rw [show (([] : List Int).length + ([] : List Int).length + ([] : List Int).length) = 0 from rfl, grow_zero]
    simp only [q040, q03z, q03y, q03x, q03w, q03v, q03u, q03t, hr, c_and, List.length_nil]
    simp (disch := omega) only [c_beq, c_ble, h1]
    rfl
  · rw [grow_pos _ (by omega) hb]
    rw [cat_chain hr hb]
    have hl : (acc ++ d ++ a).length = acc.length + d.length + a.length := by simp; omega
    simp only [c_and, hl, h0]
    rw [c_beq rfl, c_beq rfl, c_beq rfl, c_true]
end
end Go.AM
namespace Go.AM
section
variable {β : Type}
theorem pickL_succ (m : Nat) (p : Nat -> Bool) : pickL (m + 1) p = pickL m p ++ (if p m = true then [(m : Int) + 1] else []) := by
  unfold pickL
  rw [List.range_succ, List.filter_append, List.map_append]
  by_cases e : p m = true
  · rw [if_pos e]; simp [e]
  · rw [if_neg e]; simp [e]
theorem pickL_le (p : Nat -> Bool) : ∀ m, (pickL m p).length <= m := by
  intro m
  induction m with
  | zero => simp [pickL]
  | succ m ih =>
    rw [pickL_succ, List.length_append]
    split <;> simp <;> omega
def negL (l : List Int) : List Int := l.map fun x => -x
theorem one64 (v : Int) : fromTo ((List.replicate 1 (0 : Int)).set 0 v) 0 1 = [v] := rfl
theorem gauss_pick (z : β) {N : Nat} {xs : List Int} {n0 : Nat} (hl : xs.length = 3 * n0) (h64 : n0 <= 64) (hN : 100 < N) (t10 t11 : Int) (t5_n t5_l t5_c t8_r t8_o t8_n t8_l t8_c t24_n t24_l t24_c : Nat) (t25 t26 : Int) (t31_r t31_o t31_n t31_l t31_c : Nat) (t32 t33 : Int) (h0_0 : Int) (h0_1 h0_2 : Nat -> Int) (h2 : List (List Int)) (h3 : List (Nat × Nat)) (h4 : Nat -> Int) (h5 : List (Nat × Nat)) (h6 : List (List Int)) (h7 : List Int)
    (a b c : Nat) (k : Nat -> Nat -> Nat -> Nat -> Nat -> Nat -> List Int -> List Int -> β) :
    q038 z a b c t5_n t5_l t5_c t8_r t8_o t8_n t8_l t8_c t10 t11 t24_n t24_l t24_c t25 t26 t31_r t31_o t31_n t31_l t31_c t32 t33 xs.length n0 n0 (n0 : Int) h0_0 h0_1 h0_2 xs h2 h3 h4 h5 h6 h7 N 0 0 0 0 0 0 0 (List.replicate 0 0) (List.replicate 0 0) k =
    k (pickL n0 fun j => colAt xs j == t10).length (pickL n0 fun j => colAt xs j == t10).length (pickL n0 fun j => colAt xs j == t10).length (negL (pickL n0 fun j => rowCt xs j == t11)).length (negL (pickL n0 fun j => rowCt xs j == t11)).length (negL (pickL n0 fun j => rowCt xs j == t11)).length (pickL n0 fun j => colAt xs j == t10) (negL (pickL n0 fun j => rowCt xs j == t11)) := by
  have key : ∀ d, iter (fun (j : Nat) (s : List Int × List Int) => (if colAt xs j = t10 then s.1 ++ [(j : Int) + 1] else s.1, if rowCt xs j = t11 then s.2 ++ [-((j : Int) + 1)] else s.2)) d 0 ([], []) = (pickL d fun j => colAt xs j == t10, negL (pickL d fun j => rowCt xs j == t11)) := by
    intro d
    induction d with
    | zero => rfl
    | succ d ih =>
      rw [iter_succ, ih, Nat.zero_add, pickL_succ, pickL_succ]
      congr 1
      · by_cases e : colAt xs d = t10
        · rw [if_pos e, if_pos (by simpa using e)]
        · rw [if_neg e, if_neg (by simpa using e)]; simp
      · by_cases e : rowCt xs d = t11
        · rw [if_pos e, if_pos (by simpa using e)]; simp [negL]
        · rw [if_neg e, if_neg (by simpa using e)]; simp
  have main := up_to (L := fun m j (s : List Int × List Int) => q038 z a b c t5_n t5_l t5_c t8_r t8_o t8_n t8_l t8_c t10 t11 t24_n t24_l t24_c t25 t26 t31_r t31_o t31_n t31_l t31_c t32 t33 xs.length n0 n0 (n0 : Int) h0_0 h0_1 h0_2 xs h2 h3 h4 h5 h6 h7 m s.1.length s.1.length s.1.length s.2.length s.2.length s.2.length (j : Int) s.1 s.2 k)
    (n := n0) (out := fun s => k s.1.length s.1.length s.1.length s.2.length s.2.length s.2.length s.1 s.2)
    (f := fun (j : Nat) (s : List Int × List Int) => (if colAt xs j = t10 then s.1 ++ [(j : Int) + 1] else s.1, if rowCt xs j = t11 then s.2 ++ [-((j : Int) + 1)] else s.2)) (I := fun j s => s.1.length <= j ∧ s.2.length <= j)
    (fun m j s hj ⟨i1, i2⟩ => ⟨by
      have e1 : ∀ v : Int, (s.1 ++ [v]).length = s.1.length + 1 := fun v => by simp
      have e2 : ∀ v : Int, (s.2 ++ [v]).length = s.2.length + 1 := fun v => by simp
      have hc : xs[j * 3]?.getD 0 = colAt xs j := rfl
      have hr : xs[j * 3 + 1]?.getD 0 = rowCt xs j := rfl
      simp only [q038, q037, c_and, Int.toNat_natCast, addO_eq, Nat.add_zero, hc, hr, one64, e1, e2]
      by_cases q1 : colAt xs j = t10 <;> by_cases q2 : rowCt xs j = t11
      · simp (disch := omega) only [c_lt, c_le, c_ble, c_nble, c_beq, c_fits, c_eq, c_true, if_pos q1, if_pos q2, e1, e2]
        rfl
      · simp (disch := omega) only [c_lt, c_le, c_ble, c_nble, c_beq, c_fits, c_eq, c_neq, c_true, if_pos q1, if_neg q2, e1, e2]
        rfl
      · simp (disch := omega) only [c_lt, c_le, c_ble, c_nble, c_beq, c_fits, c_eq, c_neq, c_true, if_neg q1, if_pos q2, e1, e2]
        rfl
      · simp (disch := omega) only [c_lt, c_le, c_ble, c_nble, c_beq, c_fits, c_neq, c_true, if_neg q1, if_neg q2, e1, e2]
        rfl, by
      constructor
      · show (if colAt xs j = t10 then s.1 ++ [(j : Int) + 1] else s.1).length <= j + 1
        split
        · rw [List.length_append, List.length_singleton]; omega
        · omega
      · show (if rowCt xs j = t11 then s.2 ++ [-((j : Int) + 1)] else s.2).length <= j + 1
        split
        · rw [List.length_append, List.length_singleton]; omega
        · omega⟩)
    (fun m s _ => by simp (disch := omega) only [q038, q037, c_nlt]) n0 N 0 ([], []) (by omega) (by omega) ⟨Nat.le_refl _, Nat.le_refl _⟩
  rw [key] at main
  exact main
theorem negL_len (l : List Int) : (negL l).length = l.length := by simp [negL]
noncomputable def colI (n : Nat) (X O : Nat -> Int) (xs : List Int) (x : Int) : List Int :=
  (if O x.toNat < X x.toNat then (pickL (xs.length / 3) fun j => colAt xs j == x).reverse else pickL (xs.length / 3) fun j => colAt xs j == x) ++
  (if plc n X (O x.toNat).toNat < x then (negL (pickL (xs.length / 3) fun j => rowCt xs j == O x.toNat)).reverse else negL (pickL (xs.length / 3) fun j => rowCt xs j == O x.toNat))
theorem colI_len (n : Nat) (X O : Nat -> Int) {xs : List Int} (h : xs.length / 3 <= 64) (x : Int) : (colI n X O xs x).length <= 128 := by
  have h1 := pickL_le (fun j => colAt xs j == x) (xs.length / 3)
  have h2 := pickL_le (fun j => rowCt xs j == O x.toNat) (xs.length / 3)
  unfold colI
  rw [List.length_append]
  have a1 : (if O x.toNat < X x.toNat then (pickL (xs.length / 3) fun j => colAt xs j == x).reverse else pickL (xs.length / 3) fun j => colAt xs j == x).length <= 64 := by
    split
    · rw [List.length_reverse]; omega
    · omega
  have a2 : (if plc n X (O x.toNat).toNat < x then (negL (pickL (xs.length / 3) fun j => rowCt xs j == O x.toNat)).reverse else negL (pickL (xs.length / 3) fun j => rowCt xs j == O x.toNat)).length <= 64 := by
    split
    · rw [List.length_reverse, negL_len]; omega
    · rw [negL_len]; omega
  omega
theorem gauss_walk (z : β) {N : Nat} (hN : 200 < N) {n : Nat} {X O : Nat -> Int} (g : GridP n X O) (hX : ∀ j, 0 <= X j) (hO : ∀ j, 0 <= O j) {xs : List Int} (hc : CrossI 64 xs) {w : List Int} {q : Nat} {h6 : List (List Int)} (hq : h6[q]?.getD [] = w) (hw : w.length <= 8) (hx : ∀ j, j < w.length -> 0 <= w[j]?.getD 0 ∧ w[j]?.getD 0 < n)
    (t5_n t5_l t5_c t24_n t24_l t24_c : Nat) (t25 t26 : Int) (h0_0 : Int) (h3 : List (Nat × Nat)) (h5 : List (Nat × Nat)) (h7 : List Int) (P : List (List Int)) :
    ∃ Q, ∀ (k : Nat -> Nat -> Nat -> Nat -> Nat -> List (List Int) -> β), q043 z N xs.length (xs.length / 3) (xs.length / 3) t5_n t5_l t5_c t24_n t24_l t24_c t25 t26 q 0 w.length w.length w.length w.length h0_0 X O xs h3 (plc n X) h5 h6 h7 N P.length 0 0 0 0 0 (P ++ [[]]) k =
      k (P ++ Q).length 0 (w.flatMap (colI n X O xs)).length (w.flatMap (colI n X O xs)).length (w.flatMap (colI n X O xs)).length ((P ++ Q) ++ [w.flatMap (colI n X O xs)]) := by
  have h8 := g.hi
  have hle := hc.le
  have hlen := hc.len
  have main := fun (k : Nat -> Nat -> Nat -> Nat -> Nat -> List (List Int) -> β) => up_to (L := fun m j (s : List (List Int) × List Int) => q043 z N xs.length (xs.length / 3) (xs.length / 3) t5_n t5_l t5_c t24_n t24_l t24_c t25 t26 q 0 w.length w.length w.length w.length h0_0 X O xs h3 (plc n X) h5 h6 h7 m s.1.length 0 s.2.length s.2.length s.2.length (j : Int) (s.1 ++ [s.2]) k)
    (n := w.length) (out := fun s => k s.1.length 0 s.2.length s.2.length s.2.length (s.1 ++ [s.2]))
    (f := fun j (s : List (List Int) × List Int) => (s.1 ++ [s.2], s.2 ++ colI n X O xs (w[j]?.getD 0))) (I := fun j s => s.2.length <= 128 * j ∧ ∃ Q, s.1 = P ++ Q)
    (fun m j s hj ⟨i1, Q, i2⟩ => ⟨by
      obtain ⟨x0, x1⟩ := hx j hj
      obtain ⟨i, hi⟩ : ∃ i : Nat, w[j]?.getD 0 = i := ⟨(w[j]?.getD 0).toNat, by omega⟩
      have hin : i < n := by omega
      have bx := g.bdX hX hin
      have bo := g.swap.bdX hO hin
      have hrow : (s.1 ++ [s.2])[s.1.length]?.getD [] = s.2 := by rw [List.getElem?_append_right (Nat.le_refl _)]; simp
      have hplc := plc_spec g.px hX (r := (O i).toNat) (by omega)
      have l1 := pickL_le (fun j => colAt xs j == (i : Int)) (xs.length / 3)
      have l2 := pickL_le (fun j => rowCt xs j == O i) (xs.length / 3)
      have l3 := negL_len (pickL (xs.length / 3) fun j => rowCt xs j == O i)
      simp only [q043, q042, c_and, Int.toNat_natCast, addO_eq, Nat.zero_add, hq, hi]
      simp (disch := omega) only [c_lt, c_le, c_ble, c_blt, c_beq]
      rw [gauss_pick z hlen hle (by omega)]
      generalize hD : (pickL (xs.length / 3) fun j => colAt xs j == (i : Int)) = D at *
      generalize hA : negL (pickL (xs.length / 3) fun j => rowCt xs j == O i) = A at *
      have eI : colI n X O xs (i : Int) = (if O i < X i then D.reverse else D) ++ (if plc n X (O i).toNat < (i : Int) then A.reverse else A) := by
        unfold colI
        rw [Int.toNat_natCast, hD, hA]
      rw [eI]
      have dl : D.reverse.length = D.length := List.length_reverse
      have al : A.reverse.length = A.length := List.length_reverse
      have fin := fun (d a : List Int) (h1 : D.length = d.length) (h2 : A.length = a.length) k0 k1 h0 h1' => concat_val (z := z) (N := N) (P := s.1 ++ [s.2]) (r := s.1.length) (acc := s.2) (d := d) (a := a) hrow (by omega) k0 k1 (fun x t P' => q043 z N xs.length (xs.length / 3) (xs.length / 3) t5_n t5_l t5_c t24_n t24_l t24_c t25 t26 q 0 w.length w.length w.length w.length h0_0 X O xs h3 (plc n X) h5 h6 h7 m x 0 t t t ((j + 1 : Nat) : Int) P' k) h0 h1'
      by_cases q1 : O i < X i <;> by_cases q2 : plc n X (O i).toNat < (i : Int)
      · rw [c_lt q1, rev_val z (by omega) (by omega), c_lt q2, rev_val z (by omega) (by omega), if_pos q1, if_pos q2, <- List.append_assoc s.2]
        generalize D.reverse = d at dl ⊢
        generalize A.reverse = a at al ⊢
        rw [<- dl, <- al]
        exact fin d a dl.symm al.symm _ _ (by intros; exact c_fits (by omega)) (by intros; exact c_fits (by omega))
      · rw [c_lt q1, rev_val z (by omega) (by omega), c_nlt (by omega), if_pos q1, if_neg q2, <- List.append_assoc s.2]
        generalize D.reverse = d at dl ⊢
        rw [<- dl]
        exact fin d A dl.symm rfl _ _ (by intros; exact c_fits (by omega)) (by intros; exact c_fits (by omega))
      · rw [c_nlt (by omega), c_lt q2, rev_val z (by omega) (by omega), if_neg q1, if_pos q2, <- List.append_assoc s.2]
        generalize A.reverse = a at al ⊢
        rw [<- al]
        exact fin D a rfl al.symm _ _ (by intros; exact c_fits (by omega)) (by intros; exact c_fits (by omega))
      · rw [c_nlt (by omega), c_nlt (by omega), if_neg q1, if_neg q2, <- List.append_assoc s.2]
        exact fin D A rfl rfl _ _ (by intros; exact c_fits (by omega)) (by intros; exact c_fits (by omega)), by
      refine ⟨?_, Q ++ [s.2], by rw [i2, List.append_assoc]⟩
      have := colI_len n X O hle (w[j]?.getD 0)
      show (s.2 ++ colI n X O xs (w[j]?.getD 0)).length <= _
      rw [List.length_append]
      omega⟩)
    (fun m s _ => by simp (disch := omega) only [q043, q042, c_nlt]) w.length N 0 (P, []) (by omega) (by omega) ⟨by simp, [], by simp⟩
  have key : ∀ d, d <= w.length -> (iter (fun j (s : List (List Int) × List Int) => (s.1 ++ [s.2], s.2 ++ colI n X O xs (w[j]?.getD 0))) d 0 (P, [])).2 = (w.take d).flatMap (colI n X O xs) ∧ ∃ Q, (iter (fun j (s : List (List Int) × List Int) => (s.1 ++ [s.2], s.2 ++ colI n X O xs (w[j]?.getD 0))) d 0 (P, [])).1 = P ++ Q := by
    intro d
    induction d with
    | zero => exact fun _ => ⟨rfl, [], (List.append_nil P).symm⟩
    | succ d ih =>
      intro hd
      obtain ⟨h1, Q, h2⟩ := ih (by omega)
      rw [iter_succ, Nat.zero_add]
      refine ⟨?_, Q ++ [_], by rw [h2, List.append_assoc]⟩
      show _ ++ _ = _
      rw [h1, List.take_add_one, List.getElem?_eq_getElem (by omega), List.flatMap_append]
      simp
  obtain ⟨h1, Q, h2⟩ := key w.length (Nat.le_refl _)
  refine ⟨Q, fun k => ?_⟩
  have := main k
  rw [h1, h2, List.take_length] at this
  exact this
end
end Go.AM
namespace Go.AM
section
variable {n : Nat} {X O : Nat -> Int} {xs : List Int}
theorem count_sorted {v : Int} : ∀ {l : List Int}, l.Pairwise (· < ·) -> l.count v = if v ∈ l then 1 else 0 := by
  intro l
  induction l with
  | nil => intro _; rfl
  | cons a l ih =>
    intro h
    rw [List.pairwise_cons] at h
    rw [List.count_cons, ih h.2]
    by_cases e : a = v
    · subst e
      rw [if_neg (fun hm => by have := h.1 a hm; omega), if_pos (List.mem_cons_self ..)]
      simp
    · by_cases m : v ∈ l
      · rw [if_pos m, if_pos (List.mem_cons_of_mem _ m)]; simp [e]
      · rw [if_neg m, if_neg (show ¬ v ∈ a :: l from fun hm => by rcases List.mem_cons.1 hm with q | q; exact e q.symm; exact m q)]; simp [e]
theorem count_neg (v : Int) (l : List Int) : (l.map fun x => -x).count v = l.count (-v) := by
  induction l with
  | nil => rfl
  | cons a l ih =>
    rw [List.map_cons, List.count_cons, List.count_cons, ih]
    by_cases e : a = -v
    · subst e; simp
    · rw [if_neg (by simp; omega), if_neg (by simp; omega)]
theorem downL_sorted {b : Nat} (h : KeyI n X O b xs) (i : Nat) : (downL n xs i).Pairwise (· < ·) := lineL_sorted fun p q hpq hq h1 h2 => numC_lt h h1 h2 (by omega)
theorem acrL_sorted {b : Nat} (h : KeyI n X O b xs) (r : Nat) : (acrL n xs r).Pairwise (· < ·) := lineL_sorted fun p q hpq hq h1 h2 => numC_lt h h1 h2 (by omega)
theorem num_pos {i r : Int} (h : numC xs i r ≠ 0) : 0 < numC xs i r ∧ numC xs i r <= (xs.length / 3 : Nat) := by
  rcases numC_cases xs i r with ⟨e, _⟩ | ⟨k, k1, k2, k3, k4⟩
  · exact absurd e h
  · omega
theorem downL_pos {i : Nat} {v : Int} (h : v ∈ downL n xs i) : 0 < v ∧ v <= (xs.length / 3 : Nat) := by
  unfold downL at h
  rw [lineL_mem] at h
  obtain ⟨h0, q, _, rfl⟩ := h
  exact num_pos h0
theorem acrL_pos {i : Nat} {v : Int} (h : v ∈ acrL n xs i) : 0 < v ∧ v <= (xs.length / 3 : Nat) := by
  unfold acrL at h
  rw [lineL_mem] at h
  obtain ⟨h0, q, _, rfl⟩ := h
  exact num_pos h0
theorem gCol_count (i : Nat) (v : Int) : (gCol n X O xs i).count v = (downL n xs i).count v + (acrL n xs (O i).toNat).count (-v) := by
  unfold gCol
  rw [List.count_append]
  congr 1
  · split
    · rfl
    · rw [List.count_reverse]
  · split
    · exact count_neg v _
    · rw [List.count_reverse]; exact count_neg v _
theorem gCol_mem {i : Nat} {v : Int} (h : v ∈ gCol n X O xs i) : v ≠ 0 ∧ -((xs.length / 3 : Nat) : Int) <= v ∧ v <= (xs.length / 3 : Nat) := by
  have hc : 0 < (gCol n X O xs i).count v := List.count_pos_iff.2 h
  rw [gCol_count] at hc
  by_cases m : v ∈ downL n xs i
  · have := downL_pos m; omega
  · rw [List.count_eq_zero.2 m, Nat.zero_add] at hc
    have := acrL_pos (List.count_pos_iff.1 hc)
    omega
theorem sumF_one {f : Nat -> Nat} {k : Nat} {m : Nat} (hk : k < m) (h1 : f k = 1) (h0 : ∀ i, i < m -> i ≠ k -> f i = 0) : sumF f m = 1 := by
  have := sumF_bump (f := f) (g := fun _ => 0) (k := k) (a := 1) hk (by rw [h1]) fun i hi hne => h0 i hi hne
  rw [this, sumF_zero]
theorem over_one (h : KeyI n X O (n * 8) xs) {k : Nat} (hk : k < xs.length / 3) : sumF (fun i => (gCol n X O xs i).count ((k : Int) + 1)) n = 1 := by
  obtain ⟨i, r, m1, m2, m3, m4, _⟩ := h.mem k hk
  have acr : ∀ j, (acrL n xs (O j).toNat).count (-((k : Int) + 1)) = 0 := fun j => List.count_eq_zero.2 fun hm => by have := acrL_pos hm; omega
  have dn : ∀ j : Nat, ((k : Int) + 1) ∈ downL n xs j ↔ j = i := fun j => by
    rw [<- pick_down h, pickL_mem]
    constructor
    · rintro ⟨l, l1, l2, l3⟩
      have l2 : colAt xs l = j := by simpa using l2
      rw [show l = k by omega] at l2
      omega
    · rintro rfl
      exact ⟨k, hk, by simpa using m3, rfl⟩
  refine sumF_one m1 ?_ fun j _ hne => ?_
  · rw [gCol_count, acr, count_sorted (downL_sorted h i), if_pos ((dn i).2 rfl)]
  · rw [gCol_count, acr, count_sorted (downL_sorted h j), if_neg (fun q => hne ((dn j).1 q))]
theorem under_one (g : GridP n X O) (hO : ∀ j, 0 <= O j) (h : KeyI n X O (n * 8) xs) {k : Nat} (hk : k < xs.length / 3) : sumF (fun i => (gCol n X O xs i).count (-((k : Int) + 1))) n = 1 := by
  obtain ⟨i, r, m1, m2, m3, m4, _⟩ := h.mem k hk
  have dn : ∀ j, (downL n xs j).count (-((k : Int) + 1)) = 0 := fun j => List.count_eq_zero.2 fun hm => by have := downL_pos hm; omega
  have ac : ∀ j : Nat, ((k : Int) + 1) ∈ acrL n xs j ↔ j = r := fun j => by
    rw [<- pick_acr h, pickL_mem]
    constructor
    · rintro ⟨l, l1, l2, l3⟩
      have l2 : rowCt xs l = j := by simpa using l2
      rw [show l = k by omega] at l2
      omega
    · rintro rfl
      exact ⟨k, hk, by simpa using m4, rfl⟩
  obtain ⟨s1, s2⟩ := rowOf_spec g.po hO m2
  refine sumF_one s1 ?_ fun j hj hne => ?_
  · rw [gCol_count, dn, count_sorted (acrL_sorted h _), Int.neg_neg, if_pos ((ac _).2 (by omega))]
  · rw [gCol_count, dn, count_sorted (acrL_sorted h _), Int.neg_neg, if_neg (fun q => hne ?_)]
    have := (ac _).1 q
    have o := hO j
    exact (rowOf_eq g.po hO hj (by omega)).symm
noncomputable def gaussR (n : Nat) (X O : Nat -> Int) (st : Nat) : List Int := (cycL (nxtC n X O) st n st).flatMap (gCol n X O (crossL n X O))
noncomputable def gaussT (n : Nat) (X O : Nat -> Int) : List (List Int) := (startS (nxtC n X O) n).2.map (gaussR n X O)
theorem count_flat (v : Int) (f : Nat -> List Int) (l : List Nat) : (l.flatMap f).count v = (l.map fun i => (f i).count v).sum := by
  induction l with
  | nil => rfl
  | cons a l ih => rw [List.flatMap_cons, List.count_append, ih]; rfl
theorem gaussR_count (v : Int) (st : Nat) : (gaussR n X O st).count v = ((cycL (nxtC n X O) st n st).map fun i => (gCol n X O (crossL n X O) i).count v).sum := count_flat v _ _
theorem gaussT_count (g : GridP n X O) (hX : ∀ j, 0 <= X j) (hO : ∀ j, 0 <= O j) (v : Int) :
    sumF (fun q => ((gaussT n X O)[q]?.getD []).count v) (gaussT n X O).length = sumF (fun i => (gCol n X O (crossL n X O) i).count v) n := by
  have hn := nxtC_lt g hX hO
  have hi := nxtC_inj g hX hO
  have inv := startS_inv g.hi hn hi
  have hlen := inv.len
  have hl : (gaussT n X O).length = (startS (nxtC n X O) n).2.length := by unfold gaussT; rw [List.length_map]
  have hs := start_sel (fun i => (gCol n X O (crossL n X O) i).count v) g.hi hn hi
  rw [hl]
  have hb : ∀ i, i < n -> 0 <= (startS (nxtC n X O) n).1.1 i ∧ (startS (nxtC n X O) n).1.1 i < (startS (nxtC n X O) n).2.length := fun i hin => by
    have h1 := inv.comp.set i hin
    have h2 := inv.comp.bd i (by have := g.hi; omega)
    omega
  rw [<- sum_sel n hb]
  refine sumF_congr fun q hq => ?_
  rw [hs q hq]
  unfold gaussT
  rw [List.getElem?_map, List.getElem?_eq_getElem hq]
  exact gaussR_count v _
end
end Go.AM
namespace Go.AM
section
variable {β : Type} {n : Nat} {X O : Nat -> Int}
theorem colI_gCol (g : GridP n X O) (hX : ∀ j, 0 <= X j) (hO : ∀ j, 0 <= O j) {i : Nat} (hi : i < n) : colI n X O (crossL n X O) (i : Int) = gCol n X O (crossL n X O) i := by
  have K := crossL_key (n := n) X O g.hi
  have bo := g.swap.bdX hO hi
  have ne := g.ne i hi
  obtain ⟨h1, h2, h3⟩ := nxtC_ne g hX hO hi
  have ep : plc n X (O i).toNat = (nxtC n X O i : Int) := plc_spec g.px hX (by omega)
  unfold colI gCol
  rw [Int.toNat_natCast, pick_down K, show O i = ((O i).toNat : Int) by omega, pick_acr K, Int.toNat_natCast, ep, show ((O i).toNat : Int) = O i by omega]
  have a1 : (if O i < X i then (downL n (crossL n X O) i).reverse else downL n (crossL n X O) i) = if X i < O i then downL n (crossL n X O) i else (downL n (crossL n X O) i).reverse := by
    by_cases e : O i < X i
    · rw [if_pos e, if_neg (by omega)]
    · rw [if_neg e, if_pos (by omega)]
  have a2 : (if (nxtC n X O i : Int) < i then (negL (acrL n (crossL n X O) (O i).toNat)).reverse else negL (acrL n (crossL n X O) (O i).toNat)) = if i < nxtC n X O i then (acrL n (crossL n X O) (O i).toNat).map (fun x => -x) else ((acrL n (crossL n X O) (O i).toNat).map (fun x => -x)).reverse := by
    by_cases e : (nxtC n X O i : Int) < i
    · rw [if_pos e, if_neg (by omega)]; rfl
    · rw [if_neg e, if_pos (by omega)]; rfl
  rw [a1, a2]
theorem walk_codes (g : GridP n X O) (hX : ∀ j, 0 <= X j) (hO : ∀ j, 0 <= O j) {st : Nat} (hst : st < n) : (rowN (cycL (nxtC n X O) st n st)).flatMap (colI n X O (crossL n X O)) = gaussR n X O st := by
  unfold gaussR
  have hlt := cycL_lt (nxtC_lt g hX hO) st n st hst
  generalize cycL (nxtC n X O) st n st = l at *
  induction l with
  | nil => rfl
  | cons a l ih =>
    show (colI n X O (crossL n X O) (a : Int)) ++ _ = _
    rw [List.flatMap_cons, colI_gCol g hX hO (hlt a (List.mem_cons_self ..)), <- ih fun x hx => hlt x (List.mem_cons_of_mem _ hx)]
    rfl
theorem TabP.grow {ids : List (Nat × Nat)} {P T : List (List Int)} (h : TabP ids P T) (hl : ids.length = T.length) (Q : List (List Int)) (x : List Int) : TabP (ids ++ [((P ++ Q).length, x.length)]) ((P ++ Q) ++ [x]) (T ++ [x]) := by
  have idl : ∀ i, i < T.length -> idAt (ids ++ [((P ++ Q).length, x.length)]) i = idAt ids i := fun i hi => by unfold idAt; rw [List.getElem?_append_left (by omega)]
  have ide : idAt (ids ++ [((P ++ Q).length, x.length)]) T.length = ((P ++ Q).length, x.length) := by unfold idAt; rw [List.getElem?_append_right (by omega), show T.length - ids.length = 0 by omega]; rfl
  have rol : ∀ i, i < T.length -> rowAt (T ++ [x]) i = rowAt T i := fun i hi => by unfold rowAt; rw [List.getElem?_append_left hi]
  have roe : rowAt (T ++ [x]) T.length = x := by unfold rowAt; rw [List.getElem?_append_right (Nat.le_refl _)]; simp
  have pol : ∀ r, r < P.length -> rowAt ((P ++ Q) ++ [x]) r = rowAt P r := fun r hr => by unfold rowAt; rw [List.getElem?_append_left (by rw [List.length_append]; omega), List.getElem?_append_left hr]
  have poe : rowAt ((P ++ Q) ++ [x]) (P ++ Q).length = x := by unfold rowAt; rw [List.getElem?_append_right (Nat.le_refl _)]; simp
  have cs : ∀ i, i < (T ++ [x]).length -> i < T.length ∨ i = T.length := fun i hi => by rw [List.length_append, List.length_singleton] at hi; omega
  have pl : (P ++ Q).length = P.length + Q.length := List.length_append
  refine ⟨by rw [List.length_append, List.length_append]; simp only [List.length_singleton]; omega, fun i hi => ?_, fun i hi => ?_, fun i hi => ?_, fun i j hi hj e => ?_⟩
  · rw [show ((P ++ Q) ++ [x]).length = (P ++ Q).length + 1 from List.length_append]
    rcases cs i hi with c | rfl
    · rw [idl i c]; have := h.lt i c; omega
    · rw [ide]; exact Nat.lt_succ_self _
  · rcases cs i hi with c | rfl
    · rw [idl i c, rol i c]; exact h.sz i c
    · rw [ide, roe]
  · rcases cs i hi with c | rfl
    · rw [idl i c, rol i c, pol _ (h.lt i c)]; exact h.row i c
    · rw [ide, roe, poe]
  · rcases cs i hi with c | rfl <;> rcases cs j hj with d | rfl
    · rw [idl i c, idl j d] at e; exact h.inj i j c d e
    · rw [idl i c, ide] at e
      have := h.lt i c
      have e : (idAt ids i).1 = (P ++ Q).length := e
      omega
    · rw [idl j d, ide] at e
      have := h.lt j d
      have e : (P ++ Q).length = (idAt ids j).1 := e
      omega
    · rfl
theorem gaussR_len (g : GridP n X O) (hX : ∀ j, 0 <= X j) (hO : ∀ j, 0 <= O j) {st : Nat} (hst : st < n) : (gaussR n X O st).length <= 1000 := by
  have hlt := cycL_lt (nxtC_lt g hX hO) st n st hst
  have h8 := g.hi
  have hle := (crossL_inv X O h8).le
  have key : ∀ l : List Nat, (∀ x ∈ l, x < n) -> (l.flatMap (gCol n X O (crossL n X O))).length <= 125 * l.length := by
    intro l
    induction l with
    | nil => exact fun _ => Nat.le_refl _
    | cons a l ih =>
      intro hl
      rw [List.flatMap_cons, List.length_append, List.length_cons]
      have := ih fun x hx => hl x (List.mem_cons_of_mem _ hx)
      have e : (gCol n X O (crossL n X O) a).length <= 16 := by
        unfold gCol
        rw [List.length_append]
        have a1 : ∀ f : Nat -> Int, (lineL n f).length <= 8 := fun f => by
          unfold lineL
          refine Nat.le_trans (List.length_filter_le ..) ?_
          simp
          omega
        have b1 := a1 fun r => numC (crossL n X O) a r
        have b2 := a1 fun i => numC (crossL n X O) i ((O a).toNat : Nat)
        have c1 : (if X a < O a then downL n (crossL n X O) a else (downL n (crossL n X O) a).reverse).length <= 8 := by
          split
          · exact b1
          · rw [List.length_reverse]; exact b1
        have c2 : (if a < nxtC n X O a then (acrL n (crossL n X O) (O a).toNat).map (fun x => -x) else ((acrL n (crossL n X O) (O a).toNat).map (fun x => -x)).reverse).length <= 8 := by
          split
          · rw [List.length_map]; exact b2
          · rw [List.length_reverse, List.length_map]; exact b2
        omega
      omega
  have := key _ hlt
  have hc := cycL_len (nxtC n X O) st n st
  unfold gaussR
  omega
theorem i_Grid_gauss_val (z : β) {N : Nat} (hN : 200 < N) (g : GridP n X O) (hX : ∀ j, 0 <= X j) (hO : ∀ j, 0 <= O j) (k : Nat -> Nat -> Nat -> List (Nat × Nat) -> List (List Int) -> β) :
    ∃ ids P, (TabP ids P (gaussT n X O) ∧ ids.length = (gaussT n X O).length) ∧ q046 z N n X O k = k (gaussT n X O).length (gaussT n X O).length (gaussT n X O).length ids P := by
  have h8 := g.hi
  have hn := nxtC_lt g hX hO
  have inv := startS_inv h8 hn (nxtC_inj g hX hO)
  have hlen := inv.len
  have hle := inv.comp.le
  have hc := crossL_inv X O h8
  have hcl := hc.le
  unfold q046
  rw [i_Grid_crossings_val z (by omega) g hX hO, i_Grid_places_val z (by omega) h8 g.px hX, i_Grid_walks_val z (by omega) g hX hO]
  have hW := TabP.of_app (walksT n X O)
  have hi2 := idsOf_len (walksT n X O)
  have hTl : (walksT n X O).length = (startS (nxtC n X O) n).2.length := by unfold walksT; simp
  have hgl : (gaussT n X O).length = (startS (nxtC n X O) n).2.length := by unfold gaussT; simp
  have hrow : ∀ i, i < (walksT n X O).length -> rowAt (walksT n X O) i = rowN (cycL (nxtC n X O) ((startS (nxtC n X O) n).2[i]?.getD 0) n ((startS (nxtC n X O) n).2[i]?.getD 0)) := fun i hi => by
    unfold walksT rowAt
    rw [List.getElem?_map, List.getElem?_eq_getElem (by omega)]
    rfl
  rw [c_ble (by omega)]
  obtain ⟨s, e, ⟨i1, i2⟩⟩ := up_to_ex (L := fun m c (s : List (Nat × Nat) × List (List Int)) => q045 z N (crossL n X O).length ((crossL n X O).length / 3) ((crossL n X O).length / 3) (idsOf (walksT n X O)).length (walksT n X O).length (walksT n X O).length ((walksT n X O).length : Int) n X O (crossL n X O) (plc n X) (idsOf (walksT n X O)) (walksT n X O) m c c c (c : Int) s.2 s.1 (fun q16 q17 q18 q19 q20 => k q16 q17 q18 q20 q19))
    (n := (walksT n X O).length) (out := fun s => k (walksT n X O).length (walksT n X O).length (walksT n X O).length s.1 s.2)
    (I := fun c s => TabP s.1 s.2 ((gaussT n X O).take c) ∧ s.1.length = c)
    (fun c s hc' ⟨t, hl⟩ => by
      have hst : (startS (nxtC n X O) n).2[c]?.getD 0 < n := by have := inv.lt c (by omega); omega
      have hr := hrow c hc'
      have h1 : idAt (idsOf (walksT n X O)) c = (c, (rowAt (walksT n X O) c).length) := idsOf_at _ hc'
      unfold idAt at h1
      have hwl : (rowAt (walksT n X O) c).length <= 8 := by
        rw [hr]
        have := cycL_len (nxtC n X O) ((startS (nxtC n X O) n).2[c]?.getD 0) n ((startS (nxtC n X O) n).2[c]?.getD 0)
        unfold rowN
        rw [List.length_map]
        omega
      have hx : ∀ j, j < (rowAt (walksT n X O) c).length -> 0 <= (rowAt (walksT n X O) c)[j]?.getD 0 ∧ (rowAt (walksT n X O) c)[j]?.getD 0 < n := by
        rw [hr]
        intro j hj
        have hlt := cycL_lt hn ((startS (nxtC n X O) n).2[c]?.getD 0) n _ hst
        unfold rowN at hj ⊢
        rw [List.length_map] at hj
        rw [List.getElem?_map, List.getElem?_eq_getElem hj]
        have := hlt _ (List.getElem_mem hj)
        exact ⟨by simp, by simpa using this⟩
      have hcode : (rowAt (walksT n X O) c).flatMap (colI n X O (crossL n X O)) = gaussR n X O ((startS (nxtC n X O) n).2[c]?.getD 0) := by rw [hr]; exact walk_codes g hX hO hst
      have hgt : (gaussT n X O).take (c + 1) = (gaussT n X O).take c ++ [gaussR n X O ((startS (nxtC n X O) n).2[c]?.getD 0)] := by
        unfold gaussT
        rw [<- List.map_take, <- List.map_take]
        exact map_take_succ _ _ _ (by omega)
      obtain ⟨Q, gw⟩ := gauss_walk z hN g hX hO hc (w := rowAt (walksT n X O) c) (q := c) (h6 := walksT n X O) rfl hwl hx c c c (idsOf (walksT n X O)).length (walksT n X O).length (walksT n X O).length ((walksT n X O).length : Int) (c : Int) n s.1 (idsOf (walksT n X O)) (List.replicate 0 0 ++ [0]) s.2
      rw [hcode] at gw
      have htl : ((gaussT n X O).take c).length = c := by rw [List.length_take]; omega
      have t2 := t.grow (by rw [hl, htl]) Q (gaussR n X O ((startS (nxtC n X O) n).2[c]?.getD 0))
      refine ⟨(s.1 ++ [((s.2 ++ Q).length, (gaussR n X O ((startS (nxtC n X O) n).2[c]?.getD 0)).length)], (s.2 ++ Q) ++ [gaussR n X O ((startS (nxtC n X O) n).2[c]?.getD 0)]), fun m => ?_, by rw [hgt]; exact t2, by simp [hl]⟩
      simp only [q045, q044, c_and, Int.toNat_natCast, h1]
      simp (disch := omega) only [c_lt, c_le, c_ble, c_blt, c_beq]
      refine (gw _).trans ?_
      simp (disch := omega) only [c_and, c_true, c_beq, c_ble, c_nble, c_fits]
      rw [show (s.1 ++ [((s.2 ++ Q).length, (gaussR n X O ((startS (nxtC n X O) n).2[c]?.getD 0)).length)]).length = c + 1 by simp [hl]]
      rfl)
    (fun m s _ => by simp (disch := omega) only [q045, q044, c_nlt]) (walksT n X O).length N 0 ([], []) (by omega) (by omega) ⟨⟨by simp, fun i hi => by simp at hi, fun i hi => by simp at hi, fun i hi => by simp at hi, fun i j hi => by simp at hi⟩, rfl⟩
  rw [show (gaussT n X O).take (walksT n X O).length = gaussT n X O by rw [hTl, <- hgl, List.take_length]] at i1
  refine ⟨s.1, s.2, ⟨i1, by rw [i2]; omega⟩, ?_⟩
  rw [show (gaussT n X O).length = (walksT n X O).length by omega]
  exact e
end
end Go.AM
namespace Go.AM
section
variable {β : Type}
theorem number_val (z : β) {N : Nat} (hN : 200 < N) {xs : List Int} (hl : xs.length = 3 * (xs.length / 3)) (h64 : xs.length / 3 <= 64) (i r : Int) (k : Int -> β) : q04b z N xs.length (xs.length / 3) (xs.length / 3) i r xs k = k (numC xs i r) := by
  have key : ∀ (k0 : Int -> β) (k1 : β) (d m j : Nat), j + d = xs.length / 3 -> d < m -> q04a z xs.length (xs.length / 3) (xs.length / 3) i r xs m (j : Int) k0 k1 = if numF xs i r d j = 0 then k1 else k0 (numF xs i r d j) := by
    intro k0 k1 d
    induction d with
    | zero =>
      intro m j hj hm
      obtain ⟨m, rfl⟩ : ∃ m', m = m' + 1 := ⟨m - 1, by omega⟩
      rw [numF, if_pos rfl]
      simp (disch := omega) only [q04a, q049, c_ble, c_nlt]
    | succ d ih =>
      intro m j hj hm
      obtain ⟨m, rfl⟩ : ∃ m', m = m' + 1 := ⟨m - 1, by omega⟩
      have hc : xs[j * 3]?.getD 0 = colAt xs j := rfl
      have hr : xs[j * 3 + 1]?.getD 0 = rowCt xs j := rfl
      have := ih m (j + 1) (by omega) (by omega)
      simp only [q04a, q049, c_and, Int.toNat_natCast, addO_eq, Nat.add_zero, hc, hr]
      by_cases e1 : colAt xs j = i
      · by_cases e2 : rowCt xs j = r
        · have en : numF xs i r (d + 1) j = (j : Int) + 1 := by rw [numF, if_pos ⟨e1, e2⟩]
          rw [en, if_neg (by omega)]
          simp (disch := omega) only [c_ble, c_lt, c_le, c_blt, c_beq, c_eq, c_fits]
        · have en : numF xs i r (d + 1) j = numF xs i r d (j + 1) := by rw [numF, if_neg (fun h => e2 h.2)]
          rw [en, <- this]
          simp (disch := omega) only [c_ble, c_lt, c_le, c_blt, c_beq, c_eq, c_neq, c_fits]
          rfl
      · have en : numF xs i r (d + 1) j = numF xs i r d (j + 1) := by rw [numF, if_neg (fun h => e1 h.1)]
        rw [en, <- this]
        simp (disch := omega) only [c_ble, c_lt, c_le, c_blt, c_beq, c_neq, c_fits]
        rfl
  unfold q04b
  have := key (fun q => k q) (k 0) (xs.length / 3) N 0 (by omega) (by omega)
  rw [show numF xs i r (xs.length / 3) 0 = numC xs i r from rfl] at this
  refine this.trans ?_
  by_cases e : numC xs i r = 0
  · rw [if_pos e, e]
  · rw [if_neg e]
end
end Go.AM
namespace Go.AM
section
variable {β : Type}
def mvC (xs : List Int) (vert : Bool) (line k : Int) : Int := cond vert (numC xs line k) (-(numC xs k line))
theorem numC_bd (xs : List Int) (i r : Int) : 0 <= numC xs i r ∧ numC xs i r <= (xs.length / 3 : Nat) := by
  by_cases e : numC xs i r = 0
  · omega
  · have := num_pos e; omega
theorem lineL_iter (f : Nat -> Int) (out : List Int) : ∀ c, iter (fun q (s : List Int) => if f q = 0 then s else s ++ [f q]) c 0 out = out ++ lineL c f := by
  intro c
  induction c with
  | zero => exact (List.append_nil out).symm
  | succ c ih =>
    rw [iter_succ, ih, Nat.zero_add, lineL_succ]
    by_cases e : f c = 0
    · rw [if_pos e, if_pos e, List.append_nil]
    · rw [if_neg e, if_neg e, List.append_assoc]
theorem lineL_congr {f g : Nat -> Int} : ∀ {c : Nat}, (∀ q, q < c -> f q = g q) -> lineL c f = lineL c g := by
  intro c
  induction c with
  | zero => exact fun _ => rfl
  | succ c ih => intro h; rw [lineL_succ, lineL_succ, ih fun q hq => h q (by omega), h c (by omega)]
theorem met_up (z : β) {N : Nat} (hN : 200 < N) {xs : List Int} (hl : xs.length = 3 * (xs.length / 3)) (h64 : xs.length / 3 <= 64) (line : Int) (vert : Bool) {lo c : Nat} (hc : c <= 8) (hlo : lo <= 8) {out : List Int} (ho : out.length <= 5000) (k : Nat -> Nat -> Nat -> List Int -> β) :
    q04w z N xs.length (xs.length / 3) (xs.length / 3) line ((lo + 1 + c : Nat) : Int) vert xs N out.length out.length out.length ((lo : Int) + 1) out k =
    k (out ++ lineL c fun q => mvC xs vert line ((lo + 1 + q : Nat) : Int)).length (out ++ lineL c fun q => mvC xs vert line ((lo + 1 + q : Nat) : Int)).length (out ++ lineL c fun q => mvC xs vert line ((lo + 1 + q : Nat) : Int)).length (out ++ lineL c fun q => mvC xs vert line ((lo + 1 + q : Nat) : Int)) := by
  have main := up_to (L := fun m q (s : List Int) => q04w z N xs.length (xs.length / 3) (xs.length / 3) line ((lo + 1 + c : Nat) : Int) vert xs m s.length s.length s.length ((lo + 1 + q : Nat) : Int) s k) (n := c) (out := fun s => k s.length s.length s.length s)
    (f := fun q (s : List Int) => if mvC xs vert line ((lo + 1 + q : Nat) : Int) = 0 then s else s ++ [mvC xs vert line ((lo + 1 + q : Nat) : Int)]) (I := fun q s => s.length <= 5000 + q)
    (fun m q s hq i1 => ⟨by
      have e1 : ∀ v : Int, (s ++ [v]).length = s.length + 1 := fun v => by simp
      have b1 := numC_bd xs line ((lo + 1 + q : Nat) : Int)
      have b2 := numC_bd xs ((lo + 1 + q : Nat) : Int) line
      rw [q04w, q04v, c_ne (by omega)]
      cases vert with
      | true =>
        rw [c_true, number_val z hN hl h64]
        show _ = _
        unfold mvC
        simp only [c_true, c_and, one64, e1]
        by_cases e : numC xs line ((lo + 1 + q : Nat) : Int) = 0
        · rw [c_nne e, if_pos e, c_fits (by omega)]; rfl
        · rw [if_neg e]
          simp (disch := omega) only [c_ne, c_beq, c_ble, c_nble, c_fits, e1]
          rfl
      | false =>
        rw [c_false, number_val z hN hl h64]
        show _ = _
        unfold mvC
        simp only [c_false, c_true, c_and, one64, e1]
        by_cases e : numC xs ((lo + 1 + q : Nat) : Int) line = 0
        · rw [if_pos (by omega)]
          simp (disch := omega) only [c_nne, c_fits]
          rfl
        · rw [if_neg (by omega)]
          simp (disch := omega) only [c_ne, c_beq, c_ble, c_nble, c_fits, e1]
          rfl, by
      show (if mvC xs vert line ((lo + 1 + q : Nat) : Int) = 0 then s else s ++ [mvC xs vert line ((lo + 1 + q : Nat) : Int)]).length <= _
      split
      · omega
      · rw [List.length_append, List.length_singleton]; omega⟩)
    (fun m s _ => by rw [q04w, q04v, c_nne rfl]) c N 0 out (by omega) (by omega) (by omega)
  rw [lineL_iter] at main
  exact main
theorem met_down (z : β) {N : Nat} (hN : 200 < N) {xs : List Int} (hl : xs.length = 3 * (xs.length / 3)) (h64 : xs.length / 3 <= 64) (line : Int) (vert : Bool) {hi c : Nat} (hc : c + 1 <= hi) (hh : hi <= 8) {out : List Int} (ho : out.length <= 5000) (k : Nat -> Nat -> Nat -> List Int -> β) :
    q04u z N xs.length (xs.length / 3) (xs.length / 3) line ((hi - 1 - c : Nat) : Int) vert xs N out.length out.length out.length ((hi : Int) + -1) out k =
    k (out ++ lineL c fun q => mvC xs vert line ((hi - 1 - q : Nat) : Int)).length (out ++ lineL c fun q => mvC xs vert line ((hi - 1 - q : Nat) : Int)).length (out ++ lineL c fun q => mvC xs vert line ((hi - 1 - q : Nat) : Int)).length (out ++ lineL c fun q => mvC xs vert line ((hi - 1 - q : Nat) : Int)) := by
  have main := up_to (L := fun m q (s : List Int) => q04u z N xs.length (xs.length / 3) (xs.length / 3) line ((hi - 1 - c : Nat) : Int) vert xs m s.length s.length s.length ((hi - 1 - q : Nat) : Int) s k) (n := c) (out := fun s => k s.length s.length s.length s)
    (f := fun q (s : List Int) => if mvC xs vert line ((hi - 1 - q : Nat) : Int) = 0 then s else s ++ [mvC xs vert line ((hi - 1 - q : Nat) : Int)]) (I := fun q s => s.length <= 5000 + q)
    (fun m q s hq i1 => ⟨by
      have e1 : ∀ v : Int, (s ++ [v]).length = s.length + 1 := fun v => by simp
      have b1 := numC_bd xs line ((hi - 1 - q : Nat) : Int)
      have b2 := numC_bd xs ((hi - 1 - q : Nat) : Int) line
      have en : ((hi - 1 - q : Nat) : Int) + -1 = ((hi - 1 - (q + 1) : Nat) : Int) := by omega
      rw [q04u, q04t, c_ne (by omega)]
      cases vert with
      | true =>
        rw [c_true, number_val z hN hl h64]
        show _ = _
        unfold mvC
        simp only [c_true, c_and, one64, e1, en]
        by_cases e : numC xs line ((hi - 1 - q : Nat) : Int) = 0
        · rw [c_nne e, if_pos e, c_fits (by omega)]
        · rw [if_neg e]
          simp (disch := omega) only [c_ne, c_beq, c_ble, c_nble, c_fits, e1]
      | false =>
        rw [c_false, number_val z hN hl h64]
        show _ = _
        unfold mvC
        simp only [c_false, c_true, c_and, one64, e1, en]
        by_cases e : numC xs ((hi - 1 - q : Nat) : Int) line = 0
        · rw [if_pos (by omega)]
          simp (disch := omega) only [c_nne, c_fits]
        · rw [if_neg (by omega)]
          simp (disch := omega) only [c_ne, c_beq, c_ble, c_nble, c_fits, e1], by
      show (if mvC xs vert line ((hi - 1 - q : Nat) : Int) = 0 then s else s ++ [mvC xs vert line ((hi - 1 - q : Nat) : Int)]).length <= _
      split
      · omega
      · rw [List.length_append, List.length_singleton]; omega⟩)
    (fun m s _ => by rw [q04u, q04t, c_nne rfl]) c N 0 out (by omega) (by omega) (by omega)
  rw [lineL_iter] at main
  rw [show ((hi - 1 - 0 : Nat) : Int) = (hi : Int) + -1 by omega] at main
  exact main
theorem met_val (z : β) {N : Nat} (hN : 200 < N) {xs : List Int} (hl : xs.length = 3 * (xs.length / 3)) (h64 : xs.length / 3 <= 64) (line : Int) (vert : Bool) {lo hi : Nat} (hlt : lo < hi) (h8 : hi <= 8) {out : List Int} (ho : out.length <= 5000) {A B : Int} (up : Bool) (hA : A = if up = true then (lo : Int) else hi) (hB : B = if up = true then (hi : Int) else lo) {R : List Int}
    (hR : R = out ++ if up = true then lineL (hi - lo - 1) (fun q => mvC xs vert line ((lo + 1 + q : Nat) : Int)) else (lineL (hi - lo - 1) (fun q => mvC xs vert line ((lo + 1 + q : Nat) : Int))).reverse) (k : Nat -> Nat -> Nat -> List Int -> β) :
    q04x z N out.length out.length out.length xs.length (xs.length / 3) (xs.length / 3) line A B vert out xs k = k R.length R.length R.length R := by
  unfold q04x
  cases up with
  | true =>
    rw [if_pos rfl] at hA hB hR
    subst hA hB hR
    rw [c_nlt (by omega), c_fits (by omega)]
    have := met_up z hN hl h64 line vert (lo := lo) (c := hi - lo - 1) (by omega) (by omega) ho k
    rw [show ((lo + 1 + (hi - lo - 1) : Nat) : Int) = (hi : Int) by omega] at this
    exact this
  | false =>
    rw [if_neg (by simp)] at hA hB hR
    subst hA hB hR
    rw [c_lt (by omega), c_fits (by omega)]
    have := met_down z hN hl h64 line vert (hi := hi) (c := hi - lo - 1) (by omega) (by omega) ho k
    rw [show ((hi - 1 - (hi - lo - 1) : Nat) : Int) = (lo : Int) by omega, lineL_congr (g := fun q => mvC xs vert line ((lo + 1 + (hi - lo - 1 - 1 - q) : Nat) : Int)) (fun q hq => by congr 1; omega), lineL_rev (hi - lo - 1) fun q => mvC xs vert line ((lo + 1 + q : Nat) : Int)] at this
    exact this
end
end Go.AM
namespace Go.AM
section
variable {β : Type} {n : Nat} {X O : Nat -> Int}
theorem lineL_negC (c : Nat) (f : Nat -> Int) : lineL c (fun q => -f q) = (lineL c f).map fun x => -x := lineL_neg c f
theorem gauss_round (z : β) {N : Nat} (hN : 200 < N) (g : GridP n X O) (hX : ∀ j, 0 <= X j) (hO : ∀ j, 0 <= O j) {st : Nat} (hst : st < n) (t5 : Int) (t7_n t7_l t7_c : Nat) (t8 : Int) (h1 : Nat -> Int) (h3 : List (List Int)) (h4 : List (Nat × Nat)) (k : Nat -> Nat -> Nat -> List Int -> β) :
    q04z z N t5 (crossL n X O).length ((crossL n X O).length / 3) ((crossL n X O).length / 3) t7_n t7_l t7_c t8 (st : Int) n X O h1 (crossL n X O) h3 h4 N 0 0 0 (st : Int) (List.replicate 0 0) k =
    k (gaussR n X O st).length (gaussR n X O st).length (gaussR n X O st).length (gaussR n X O st) := by
  have h8 := g.hi
  have hn := nxtC_lt g hX hO
  have hc := crossL_inv X O h8
  have hle := hc.le
  have K := crossL_key (n := n) X O h8
  have fold : ∀ (l : List Nat) (acc : List Int), l.foldl (fun t i => t ++ gCol n X O (crossL n X O) i) acc = acc ++ l.flatMap (gCol n X O (crossL n X O)) := by
    intro l
    induction l with
    | nil => exact fun acc => (List.append_nil acc).symm
    | cons a l ih => intro acc; rw [List.foldl_cons, ih, List.flatMap_cons, List.append_assoc]
  have gl : ∀ i, (gCol n X O (crossL n X O) i).length <= 16 := fun a => by
    unfold gCol
    rw [List.length_append]
    have a1 : ∀ f : Nat -> Int, (lineL n f).length <= 8 := fun f => by
      unfold lineL
      refine Nat.le_trans (List.length_filter_le ..) ?_
      simp
      omega
    have b1 := a1 fun r => numC (crossL n X O) a r
    have b2 := a1 fun i => numC (crossL n X O) i ((O a).toNat : Nat)
    have c1 : (if X a < O a then downL n (crossL n X O) a else (downL n (crossL n X O) a).reverse).length <= 8 := by
      split
      · exact b1
      · rw [List.length_reverse]; exact b1
    have c2 : (if a < nxtC n X O a then (acrL n (crossL n X O) (O a).toNat).map (fun x => -x) else ((acrL n (crossL n X O) (O a).toNat).map (fun x => -x)).reverse).length <= 8 := by
      split
      · rw [List.length_map]; exact b2
      · rw [List.length_reverse, List.length_map]; exact b2
    omega
  have main := cyc_loop (L := fun m i (t : List Int) => q04z z N t5 (crossL n X O).length ((crossL n X O).length / 3) ((crossL n X O).length / 3) t7_n t7_l t7_c t8 (st : Int) n X O h1 (crossL n X O) h3 h4 m t.length t.length t.length (i : Int) t k) (out := fun t => k t.length t.length t.length t)
    (f := fun t i => t ++ gCol n X O (crossL n X O) i) (nxt := nxtC n X O) (n := n) (st := st) hn (nxtC_inj g hX hO) (I := fun q t => t.length <= 16 * q)
    (fun m i t q hi hq ht => by
      have gi := gl i
      refine ⟨?_, by rw [List.length_append]; omega⟩
      have bx := g.bdX hX hi
      have bo := g.swap.bdX hO hi
      have ne := g.ne i hi
      obtain ⟨x1, x2, x3⟩ := nxtC_ne g hX hO hi
      have ro : rowOf n O (O i).toNat = i := rowOf_eq g.po hO hi (by omega)
      have rx : rowOf n X (O i).toNat = nxtC n X O i := rfl
      have aX : X i = ((X i).toNat : Int) := by omega
      have aO : O i = ((O i).toNat : Int) := by omega
      have col : ∀ k' : Nat -> Nat -> Nat -> List Int -> β, q04x z N t.length t.length t.length (crossL n X O).length ((crossL n X O).length / 3) ((crossL n X O).length / 3) (i : Int) (X i) (O i) true t (crossL n X O) k' =
          k' (t ++ if X i < O i then downL n (crossL n X O) i else (downL n (crossL n X O) i).reverse).length (t ++ if X i < O i then downL n (crossL n X O) i else (downL n (crossL n X O) i).reverse).length (t ++ if X i < O i then downL n (crossL n X O) i else (downL n (crossL n X O) i).reverse).length (t ++ if X i < O i then downL n (crossL n X O) i else (downL n (crossL n X O) i).reverse) := fun k' => by
        by_cases e : X i < O i
        · rw [if_pos e]
          exact met_val z hN hc.len hle (i : Int) true (lo := (X i).toNat) (hi := (O i).toNat) (by omega) (by omega) (by omega) true (by rw [if_pos rfl]; omega) (by rw [if_pos rfl]; omega) (by rw [if_pos rfl, down_up K (lo := (X i).toNat) (hi := (O i).toNat) (by omega) (by omega) (.inl ⟨aX, aO⟩)]; rfl) k'
        · rw [if_neg e]
          exact met_val z hN hc.len hle (i : Int) true (lo := (O i).toNat) (hi := (X i).toNat) (by omega) (by omega) (by omega) false (by rw [if_neg (by simp)]; omega) (by rw [if_neg (by simp)]; omega) (by rw [if_neg (by simp), down_up K (lo := (O i).toNat) (hi := (X i).toNat) (by omega) (by omega) (.inr ⟨aX, aO⟩)]; rfl) k'
      have row : ∀ (t : List Int) (ht : t.length <= 5000) (k' : Nat -> Nat -> Nat -> List Int -> β), q04x z N t.length t.length t.length (crossL n X O).length ((crossL n X O).length / 3) ((crossL n X O).length / 3) (O i) (i : Int) (nxtC n X O i : Int) false t (crossL n X O) k' =
          k' (t ++ if i < nxtC n X O i then (acrL n (crossL n X O) (O i).toNat).map (fun x => -x) else ((acrL n (crossL n X O) (O i).toNat).map (fun x => -x)).reverse).length (t ++ if i < nxtC n X O i then (acrL n (crossL n X O) (O i).toNat).map (fun x => -x) else ((acrL n (crossL n X O) (O i).toNat).map (fun x => -x)).reverse).length (t ++ if i < nxtC n X O i then (acrL n (crossL n X O) (O i).toNat).map (fun x => -x) else ((acrL n (crossL n X O) (O i).toNat).map (fun x => -x)).reverse).length (t ++ if i < nxtC n X O i then (acrL n (crossL n X O) (O i).toNat).map (fun x => -x) else ((acrL n (crossL n X O) (O i).toNat).map (fun x => -x)).reverse) := fun t ht k' => by
        rw [aO, Int.toNat_natCast]
        by_cases e : i < nxtC n X O i
        · rw [if_pos e]
          exact met_val z hN hc.len hle (((O i).toNat : Nat) : Int) false (lo := i) (hi := nxtC n X O i) e (by omega) ht true (by rw [if_pos rfl]) (by rw [if_pos rfl]) (by rw [if_pos rfl, acr_up K (lo := i) (hi := nxtC n X O i) e x1 (.inr ⟨rx, ro⟩), <- lineL_negC]; rfl) k'
        · rw [if_neg e]
          exact met_val z hN hc.len hle (((O i).toNat : Nat) : Int) false (lo := nxtC n X O i) (hi := i) (by omega) (by omega) ht false (by rw [if_neg (by simp)]) (by rw [if_neg (by simp)]) (by rw [if_neg (by simp), acr_up K (lo := nxtC n X O i) (hi := i) (by omega) hi (.inl ⟨rx, ro⟩), <- lineL_negC]; rfl) k'
      have h1' : (t ++ if X i < O i then downL n (crossL n X O) i else (downL n (crossL n X O) i).reverse).length <= 5000 := by
        have : (if X i < O i then downL n (crossL n X O) i else (downL n (crossL n X O) i).reverse).length <= 16 := by
          unfold gCol at gi
          rw [List.length_append] at gi
          omega
        rw [List.length_append]
        omega
      rw [q04z, q04y, s_l01Follow_val z (by omega) g hX hO hi]
      simp only [c_and, Int.toNat_natCast]
      rw [col, row _ h1']
      simp (disch := omega) only [c_le, c_lt, c_blt]
      rw [List.append_assoc]
      by_cases e : nxtC n X O i = st
      · rw [if_pos e, c_eq (by omega)]; rfl
      · rw [if_neg e, c_neq (by omega)]; rfl)
    n N st 0 [] (fun j => if j < 8 then -1 else 0) (cntU_le _ _) (by omega) (by omega) (freshW h8 hn hst) (by simp)
  rw [fold, List.nil_append] at main
  exact main
theorem s_GaussCodes_val (z : β) {N : Nat} (hN : 200 < N) (g : GridP n X O) (hX : ∀ j, 0 <= X j) (hO : ∀ j, 0 <= O j) (k0 : Int -> β) (k1 : Nat -> Nat -> Nat -> Int -> List (Nat × Nat) -> List (List Int) -> β) :
    q052 z N n X O k0 k1 = k1 (gaussT n X O).length (gaussT n X O).length (gaussT n X O).length 0 (idsOf (gaussT n X O)) (gaussT n X O) := by
  have h8 := g.hi
  have hn := nxtC_lt g hX hO
  have inv := startS_inv h8 hn (nxtC_inj g hX hO)
  have hc := crossL_inv X O h8
  have hcl := hc.le
  unfold q052
  rw [s_l01Is_val z (by omega) _ _ _ hX hO, gridB_iff.2 ⟨n, rfl, g⟩]
  simp only [Bool.not_true, c_false]
  rw [s_l01Components_val z (by omega) g hX hO, s_l03Crossings_val z (by omega) g hX hO, <- startS_comp]
  have hgt : gaussT n X O = (startS (nxtC n X O) n).2.map (gaussR n X O) := rfl
  rw [hgt]
  generalize hs : startS (nxtC n X O) n = s at *
  have hlen := inv.len
  have hle := inv.comp.le
  rw [<- hlen]
  obtain ⟨ws, e, hw⟩ := up_to_ex (L := fun m c (ws : List (List Int)) => q051 z N s.2.length (crossL n X O).length ((crossL n X O).length / 3) ((crossL n X O).length / 3) n X O s.1.1 (crossL n X O) m ws.length ws.length ws.length (c : Int) ws (idsOf ws) fun q13 q14 q15 q16 q17 => k1 q13 q14 q15 0 q17 q16) (n := s.2.length)
    (out := fun ws => k1 ws.length ws.length ws.length 0 (idsOf ws) ws) (I := fun c ws => ws = (s.2.take c).map (gaussR n X O))
    (fun c ws hc' hw => by
      have hstn : s.2[c]?.getD 0 < n := by have := inv.lt c hc'; omega
      have hwl : ws.length = c := by rw [hw]; simp; omega
      have hid := idsOf_len ws
      have first : ∀ kk : Int -> β, q04s z s.2.length (crossL n X O).length ((crossL n X O).length / 3) ((crossL n X O).length / 3) ws.length ws.length ws.length c n X O s.1.1 (crossL n X O) ws (idsOf ws) N 0 kk = kk ((s.2[c]?.getD 0 : Nat) : Int) := by
        intro kk
        have key : ∀ (d m i : Nat), i + d = s.2[c]?.getD 0 -> d < m -> q04s z s.2.length (crossL n X O).length ((crossL n X O).length / 3) ((crossL n X O).length / 3) ws.length ws.length ws.length c n X O s.1.1 (crossL n X O) ws (idsOf ws) m i kk = kk ((s.2[c]?.getD 0 : Nat) : Int) := by
          intro d
          induction d with
          | zero =>
            intro m i hi hm
            obtain ⟨m, rfl⟩ : ∃ m', m = m' + 1 := ⟨m - 1, by omega⟩
            have ho := inv.own c hc'
            rw [Nat.add_zero] at hi
            rw [<- hi] at ho hstn ⊢
            simp only [q04s, q04r, c_and, Int.toNat_natCast]
            simp (disch := omega) only [c_lt, c_le, c_blt, c_nne]
          | succ d ih =>
            intro m i hi hm
            obtain ⟨m, rfl⟩ : ∃ m', m = m' + 1 := ⟨m - 1, by omega⟩
            have hf := inv.first c hc' i (by omega)
            have := ih m (i + 1) (by omega) (by omega)
            simp only [q04s, q04r, c_and, Int.toNat_natCast]
            simp (disch := omega) only [c_lt, c_le, c_blt, c_ne, c_fits]
            exact this
        exact key (s.2[c]?.getD 0) N 0 (by omega) (by omega)
      refine ⟨ws ++ [gaussR n X O (s.2[c]?.getD 0)], fun m => ?_, by rw [map_take_succ _ _ _ hc', <- hw]⟩
      rw [q051, q050, c_lt (by omega), first, gauss_round z hN g hX hO hstn]
      simp only [c_and, c_true]
      simp (disch := omega) only [c_ble, c_nble, c_beq, c_fits]
      have e1 : (ws ++ [gaussR n X O (s.2[c]?.getD 0)]).length = c + 1 := by rw [List.length_append, hwl]; rfl
      rw [idsOf_app, e1, List.length_append, List.length_singleton, hid, hwl]
      rfl)
    (fun m ws _ => by simp (disch := omega) only [q051, q050, c_nlt]) s.2.length N 0 [] (by omega) (by omega) rfl
  rw [List.take_length] at hw
  rw [<- hw]
  exact e
end
end Go.AM
namespace Go.AM
section
variable {β : Type}
theorem up_to_exB {σ κ : Type} {L : κ -> Nat -> Nat -> σ -> β} {n : Nat} {out : κ -> σ -> β} {I : Nat -> σ -> Prop}
    (hs : ∀ i s, i < n -> I i s -> ∃ s', (∀ k m, L k (m + 1) i s = L k m (i + 1) s') ∧ I (i + 1) s') (he : ∀ k m s, I n s -> L k (m + 1) n s = out k s) :
    ∀ (d i : Nat) (s : σ), i + d = n -> I i s -> ∃ s', I n s' ∧ ∀ k m, d < m -> L k m i s = out k s' := by
  intro d
  induction d with
  | zero =>
    intro i s hi h0
    have : i = n := by omega
    subst this
    refine ⟨s, h0, fun k m hm => ?_⟩
    obtain ⟨m, rfl⟩ : ∃ m', m = m' + 1 := ⟨m - 1, by omega⟩
    exact he k m s h0
  | succ d ih =>
    intro i s hi h0
    obtain ⟨s', h1, h2⟩ := hs i s (by omega) h0
    obtain ⟨s'', h3, h4⟩ := ih (i + 1) s' (by omega) h2
    refine ⟨s'', h3, fun k m hm => ?_⟩
    obtain ⟨m, rfl⟩ : ∃ m', m = m' + 1 := ⟨m - 1, by omega⟩
    rw [h1]
    exact h4 k m (by omega)
def zRow (n : Nat) : List Int := List.map (fun (_ : Nat) => (0 : Int)) (List.range n)
theorem zRow_len (n : Nat) : (zRow n).length = n := by simp [zRow]
theorem zRow_at (n j : Nat) : (zRow n)[j]?.getD 0 = 0 := by
  unfold zRow
  by_cases h : j < n <;> simp [h]
theorem linkI_l0 (z : β) {N cnt : Nat} (hN : 100 < N) (h8 : cnt <= 8) (h00 : Int) (h01 h02 h1 h2 : Nat -> Int) (k : Nat -> Nat -> Nat -> List (List Int) -> List (Nat × Nat) -> β) :
    ∃ pool, TabF (idsOf pool) pool cnt cnt (fun _ _ => 0) ∧ (idsOf pool).length = cnt ∧ q01w z cnt cnt h00 h01 h02 h1 h2 N 0 0 0 0 (List.replicate 0 []) (List.map (fun (i : Nat) => (i, 0)) (List.range 0)) k = k cnt cnt cnt pool (idsOf pool) := by
  obtain ⟨pool, e, i1, i2⟩ := up_to_ex (L := fun M a (s : List (List Int)) => q01w z cnt cnt h00 h01 h02 h1 h2 M a a a (a : Int) s (idsOf s) k) (n := cnt) (out := fun s => k cnt cnt cnt s (idsOf s))
    (I := fun a s => s.length = a ∧ ∀ b, b < a -> rowAt s b = zRow cnt)
    (fun a s ha ⟨i1, i2⟩ => by
      have hid := idsOf_len s
      refine ⟨s ++ [zRow cnt], fun M => ?_, by simp [i1], fun b hb => ?_⟩
      · have zl : (List.map (fun (_ : Nat) => (0 : Int)) (List.range cnt)).length = cnt := zRow_len cnt
        rw [q01w, q01v]
        simp only [c_and, c_true, Int.toNat_natCast, zl]
        simp (disch := omega) only [c_lt, c_le, c_beq, c_ble, c_nble, c_fits]
        rw [idsOf_app, zRow_len, List.length_append, List.length_singleton, hid, i1]
        rfl
      · rcases Nat.lt_or_ge b a with hba | hba
        · rw [rowAt_app1 (by omega)]; exact i2 b hba
        · have : b = s.length := by omega
          subst this
          rw [rowAt_app2])
    (fun M s ⟨i1, _⟩ => by rw [q01w, q01v, c_nlt (by omega)]) cnt N 0 [] (by omega) (by omega) ⟨rfl, fun b hb => by omega⟩
  exact ⟨pool, TabF.of_app i1 (fun i hi => by rw [i2 i hi, zRow_len]) (fun i j hi hj => by rw [i2 i hi, zRow_at]), by rw [idsOf_len, i1], e⟩
noncomputable def cmpN (n : Nat) (X O : Nat -> Int) (i : Nat) : Nat := ((compS (nxtC n X O) n).1 i).toNat
noncomputable def cmpC (n : Nat) (X O : Nat -> Int) : Nat := (compS (nxtC n X O) n).2.toNat
theorem cmp_links {n : Nat} {X O : Nat -> Int} (g : GridP n X O) (hX : ∀ j, 0 <= X j) (hO : ∀ j, 0 <= O j) :
    LinkP n (cmpC n X O) X (cmpN n X O) (crossL n X O) ∧ (compS (nxtC n X O) n).2 = cmpC n X O ∧ ∀ i, i < n -> (compS (nxtC n X O) n).1 i = cmpN n X O i := by
  have inv := compS_inv (nxtC_lt g hX hO)
  have h8 := g.hi
  unfold cmpN cmpC
  generalize compS (nxtC n X O) n = s at *
  have h1 := inv.nn
  have h2 := inv.le
  refine ⟨⟨crossL_inv X O h8, CrossB.all n (Nat.le_refl n), fun i hi => ?_, by omega, h8⟩, by omega, fun i hi => ?_⟩
  · have := inv.set i hi
    have := inv.bd i (by omega)
    omega
  · have := inv.set i hi
    omega
end
end Go.AM
namespace Go.AM
section
variable {β : Type} {n cnt : Nat} {X O : Nat -> Int} {wh : Nat -> Nat} {xs : List Int}
noncomputable def pF (n : Nat) (X : Nat -> Int) (wh : Nat -> Nat) (xs : List Int) (a b j : Nat) (s : Int) : Int := if lA wh xs j = a ∧ lB n X wh xs j = b then s + xs[j * 3 + 2]?.getD 0 else s
noncomputable def pS (n : Nat) (X : Nat -> Int) (wh : Nat -> Nat) (xs : List Int) (m a b : Nat) : Int := iter (pF n X wh xs a b) m 0 0
theorem pS_succ (m a b : Nat) : pS n X wh xs (m + 1) a b = if lA wh xs m = a ∧ lB n X wh xs m = b then pS n X wh xs m a b + xs[m * 3 + 2]?.getD 0 else pS n X wh xs m a b := by
  unfold pS
  rw [iter_succ, Nat.zero_add]
  rfl
theorem pS_bd {c : Nat} (h : CrossI c xs) (a b : Nat) : ∀ m, m <= xs.length / 3 -> -(m : Int) <= pS n X wh xs m a b ∧ pS n X wh xs m a b <= m := by
  intro m
  induction m with
  | zero => exact fun _ => by simp [pS, iter]
  | succ m ih =>
    intro hm
    have := ih (by omega)
    have sg := h.sg m (by omega)
    rw [pS_succ]
    split <;> omega
noncomputable def linkD (n : Nat) (X : Nat -> Int) (wh : Nat -> Nat) (xs : List Int) (a b : Nat) : Int := if a = b then pS n X wh xs (xs.length / 3) a a else (pS n X wh xs (xs.length / 3) a b + pS n X wh xs (xs.length / 3) b a).tdiv 2
theorem link_l0F (z : β) {N n cnt : Nat} (hN : 100 < N) {X O : Nat -> Int} (g : GridP n X O) (hX : ∀ j, 0 <= X j) {wh : Nat -> Nat} {h1 : Nat -> Int} {xs : List Int} (L : LinkP n cnt X wh xs) (hw : ∀ i, i < n -> h1 i = wh i) (t5 : Int) (k : (Nat -> Int) -> β) :
    ∃ T : Nat -> Int, (∀ q, -64 <= T q ∧ T q <= 64) ∧ (∀ a b, a < cnt -> b < cnt -> T (a * 8 + b) = pS n X wh xs (xs.length / 3) a b) ∧ q01p z N t5 xs.length (xs.length / 3) (xs.length / 3) n X O h1 xs N 0 (fun _ => 0) k = k T := by
  have hc := L.c
  have h8 := L.h8
  have hcn := L.cn
  have hle := hc.le
  have hlen := hc.len
  have step : ∀ (j : Nat) (s : Nat -> Int), j < xs.length / 3 -> ((∀ q, -(j : Int) <= s q ∧ s q <= j) ∧ ∀ a b, a < cnt -> b < cnt -> s (a * 8 + b) = pS n X wh xs j a b) ->
      ((∀ q, -((j + 1 : Nat) : Int) <= tabF n X wh xs j s q ∧ tabF n X wh xs j s q <= (j + 1 : Nat)) ∧ ∀ a b, a < cnt -> b < cnt -> tabF n X wh xs j s (a * 8 + b) = pS n X wh xs (j + 1) a b) := by
    intro j s hj ⟨i1, i2⟩
    obtain ⟨i, r, q1, q2, q3, q4⟩ := L.b j hj
    have sg := hc.sg j hj
    have ha : lA wh xs j < cnt := by unfold lA; rw [q3]; exact L.wh _ q1
    have hb : lB n X wh xs j < cnt := by unfold lB; rw [q4]; exact L.wh _ (rowOf_spec g.px hX q2).1
    refine ⟨fun q => ?_, fun a b hac hbc => ?_⟩
    · have := i1 q
      have := i1 (lA wh xs j * 8 + lB n X wh xs j)
      unfold tabF
      rw [upd_at]
      split <;> omega
    · rw [pS_succ]
      unfold tabF
      rw [upd_at, i2 a b hac hbc]
      by_cases e : lA wh xs j = a ∧ lB n X wh xs j = b
      · rw [if_pos (by omega), if_pos e, e.1, e.2, i2 a b hac hbc]
      · rw [if_neg (by omega), if_neg e]
  have hT := iter_inv (f := tabF n X wh xs) (n := xs.length / 3) (I := fun j s => (∀ q, -(j : Int) <= s q ∧ s q <= j) ∧ ∀ a b, a < cnt -> b < cnt -> s (a * 8 + b) = pS n X wh xs j a b) step (xs.length / 3) 0 (fun _ => 0) (by omega) ⟨fun q => by simp, fun a b _ _ => rfl⟩
  rw [Nat.zero_add] at hT
  refine ⟨_, fun q => by have := hT.1 q; omega, hT.2, ?_⟩
  refine up_to (L := fun m j s => q01p z N t5 xs.length (xs.length / 3) (xs.length / 3) n X O h1 xs m (j : Int) s k) (n := xs.length / 3) (out := k) (f := tabF n X wh xs) (I := fun j s => (∀ q, -(j : Int) <= s q ∧ s q <= j) ∧ ∀ a b, a < cnt -> b < cnt -> s (a * 8 + b) = pS n X wh xs j a b)
    (fun m j s hj hs => ⟨?_, step j s hj hs⟩)
    (fun m s _ => by simp (disch := omega) only [q01p, q01o, c_ble, c_nlt]) (xs.length / 3) N 0 (fun _ => 0) (by omega) (by omega) ⟨fun q => by simp, fun a b _ _ => rfl⟩
  obtain ⟨i, r, q1, q2, q3, q4⟩ := L.b j hj
  have sg := hc.sg j hj
  have hro := (rowOf_spec g.px hX q2).1
  have ha := L.wh _ q1
  have hb := L.wh _ hro
  have w1 := hw _ q1
  have w2 := hw _ hro
  have b1 := hs.1 (wh i * 8 + wh (rowOf n X r))
  have eA : lA wh xs j = wh i := by unfold lA; rw [q3]; rfl
  have eB : lB n X wh xs j = wh (rowOf n X r) := by unfold lB; rw [q4]; rfl
  unfold tabF
  rw [eA, eB]
  simp only [q01p, q01o, c_and, Int.toNat_natCast, addO_eq, Nat.add_zero, q3, q4]
  rw [s_l01Row_val z (by omega) h8 g.px hX q2]
  simp only [Int.toNat_natCast, w1, w2]
  simp (disch := omega) only [c_lt, c_le, c_ble, c_blt, c_beq, c_fits]
  rfl
theorem link_l1F (z : β) {N cnt : Nat} (hN : 100 < N) (h8 : cnt <= 8) {T : Nat -> Int} (hT : ∀ q, -64 <= T q ∧ T q <= 64) (h00 : Int) (h01 h02 h1 : Nat -> Int) (h2 : List Int) (k : Nat -> Nat -> Nat -> List (List Int) -> List (Nat × Nat) -> β) :
    ∃ pool, pool = (List.range cnt).map (rowL T cnt) ∧ q01t z N cnt h00 h01 h02 h1 h2 T N 0 0 0 0 (List.replicate 0 []) (List.map (fun (i : Nat) => (i, 0)) (List.range 0)) k = k cnt cnt cnt pool (idsOf pool) := by
  obtain ⟨pool, e, i1⟩ := up_to_ex (L := fun M a (s : List (List Int)) => q01t z N cnt h00 h01 h02 h1 h2 T M a a a (a : Int) s (idsOf s) k) (n := cnt) (out := fun s => k cnt cnt cnt s (idsOf s))
    (I := fun a s => s = (List.range a).map (rowL T cnt))
    (fun a s ha i1 => by
      have hid := idsOf_len s
      have rl := rowL_len T cnt a
      have i1' : s.length = a := by rw [i1]; simp
      refine ⟨s ++ [rowL T cnt a], fun M => ?_, by rw [List.range_succ, List.map_append, <- i1]; rfl⟩
      rw [q01t, q01s, c_lt (by omega), link_l2 z hN h8 hT ha]
      simp only [c_and, c_true]
      simp (disch := omega) only [c_beq, c_ble, c_nble, c_fits]
      rw [idsOf_app, rl, List.length_append, List.length_singleton, hid, i1']
      rfl)
    (fun M s _ => by rw [q01t, q01s, c_nlt (by omega)]) cnt N 0 [] (by omega) (by omega) rfl
  exact ⟨pool, i1, e⟩
noncomputable def linkS (n : Nat) (X : Nat -> Int) (wh : Nat -> Nat) (xs : List Int) (m a b : Nat) : Int := if a = b then pS n X wh xs m a a else pS n X wh xs m a b + pS n X wh xs m b a
theorem linkI_l1F (z : β) {N n cnt : Nat} (hN : 200 < N) {X O : Nat -> Int} (g : GridP n X O) (hX : ∀ j, 0 <= X j) {wh : Nat -> Nat} {h1 h2 : Nat -> Int} {xs : List Int} (L : LinkP n cnt X wh xs) (hw : ∀ i, i < n -> h1 i = wh i) (hp : ∀ r, r < n -> h2 r = rowOf n X r)
    {ids : List (Nat × Nat)} {pool0 : List (List Int)} (hl : ids.length = cnt) (t0 : TabF ids pool0 cnt cnt (fun _ _ => 0)) (k : List (List Int) -> β) :
    ∃ pool, q01y z cnt cnt cnt xs.length (xs.length / 3) (xs.length / 3) ((xs.length / 3 : Nat) : Int) n X O h1 h2 ids xs N 0 pool0 k = k pool ∧ ∃ M, TabF ids pool cnt cnt M ∧ ∀ a b, a < cnt -> b < cnt -> M a b = linkS n X wh xs (xs.length / 3) a b := by
  have hc := L.c
  have h8 := L.h8
  have hcn := L.cn
  have hle := hc.le
  have hlen := hc.len
  refine up_to_ex (L := fun m j (s : List (List Int)) => q01y z cnt cnt cnt xs.length (xs.length / 3) (xs.length / 3) ((xs.length / 3 : Nat) : Int) n X O h1 h2 ids xs m (j : Int) s k) (n := xs.length / 3) (out := k)
    (I := fun j s => ∃ M, TabF ids s cnt cnt M ∧ ∀ a b, a < cnt -> b < cnt -> M a b = linkS n X wh xs j a b)
    (fun j s hj ⟨M, t, hd⟩ => ?_)
    (fun m s _ => by rw [q01y, q01x, c_nlt (by omega)]) (xs.length / 3) N 0 pool0 (by omega) (by omega) ⟨_, t0, fun a b _ _ => by unfold linkS pS; simp [iter]⟩
  obtain ⟨i, r, q1, q2, q3, q4⟩ := L.b j hj
  have sg := hc.sg j hj
  have hro := (rowOf_spec g.px hX q2).1
  have ha := L.wh _ q1
  have hbb := L.wh _ hro
  have w1 := hw _ q1
  have w2 := hw _ hro
  have wp := hp _ q2
  have eA : lA wh xs j = wh i := by unfold lA; rw [q3]; rfl
  have eB : lB n X wh xs j = wh (rowOf n X r) := by unfold lB; rw [q4]; rfl
  have eo : ∀ c d, pS n X wh xs (j + 1) c d = if wh i = c ∧ wh (rowOf n X r) = d then pS n X wh xs j c d + xs[j * 3 + 2]?.getD 0 else pS n X wh xs j c d := fun c d => by rw [pS_succ, eA, eB]
  have bd : ∀ c d, -(j : Int) <= pS n X wh xs j c d ∧ pS n X wh xs j c d <= j := fun c d => pS_bd hc c d j (by omega)
  generalize hga : wh i = a at *
  generalize hgb : wh (rowOf n X r) = b at *
  generalize hgv : xs[j * 3 + 2]?.getD 0 = v at *
  have b1 : -200 <= M a b ∧ M a b <= 200 := by rw [hd a b ha hbb]; unfold linkS; have := bd a a; have := bd a b; have := bd b a; split <;> omega
  have b2 : -200 <= M b a ∧ M b a <= 200 := by rw [hd b a hbb ha]; unfold linkS; have := bd b b; have := bd a b; have := bd b a; split <;> omega
  have t1 := t.put ha hbb (M a b + v)
  have sa := t.sz a ha
  have sb := t.sz b hbb
  have wa := t.wide a ha
  have ca := t.cell a b ha hbb
  have wb := t1.wide b hbb
  have cb := t1.cell b a hbb ha
  unfold putP at t1 wb cb
  unfold idAt at sa sb t1 wa ca wb cb
  unfold rowAt at wa ca t1 wb cb
  by_cases e : a = b
  · subst e
    refine ⟨_, fun m => ?_, putM M a a (M a a + v), t1, fun c d hcc hdd => ?_⟩
    · rw [q01y, q01x]
      simp only [c_and, Int.toNat_natCast, addO_eq, Nat.add_zero, q3, q4, w1, wp, w2, sa, wa, ca, hl, hgv]
      simp (disch := omega) only [c_lt, c_le, c_ble, c_blt, c_beq, c_fits, c_nne]
      rfl
    · unfold putM
      have h1 := hd c d hcc hdd
      unfold linkS at h1 ⊢
      rw [eo, eo, eo]
      by_cases q : c = a ∧ d = a
      · obtain ⟨rfl, rfl⟩ := q
        rw [if_pos rfl] at h1
        rw [if_pos ⟨rfl, rfl⟩, if_pos rfl, if_pos ⟨rfl, rfl⟩, h1]
      · rw [if_neg q, h1]
        by_cases q2 : c = d
        · rw [if_pos q2, if_pos q2, if_neg (by omega)]
        · rw [if_neg q2, if_neg q2, if_neg (by omega), if_neg (by omega)]
  · have hm : putM M a b (M a b + v) b a = M b a := by unfold putM; rw [if_neg (fun h => e h.1.symm)]
    rw [hm] at cb
    have t2 := t1.put hbb ha (M b a + v)
    unfold putP idAt rowAt at t2
    refine ⟨_, fun m => ?_, putM (putM M a b (M a b + v)) b a (M b a + v), t2, fun c d hcc hdd => ?_⟩
    · rw [q01y, q01x]
      simp only [c_and, Int.toNat_natCast, addO_eq, Nat.add_zero, q3, q4, w1, wp, w2, sa, sb, wa, ca, hl, hgv, wb, cb]
      simp (disch := omega) only [c_lt, c_le, c_ble, c_blt, c_beq, c_fits, c_ne]
      rfl
    · unfold putM
      have h1 := hd c d hcc hdd
      have h2 := hd a b ha hbb
      have h3 := hd b a hbb ha
      unfold linkS at h1 h2 h3 ⊢
      rw [if_neg e] at h2
      rw [if_neg (Ne.symm e)] at h3
      rw [eo, eo, eo]
      by_cases q : c = b ∧ d = a
      · obtain ⟨rfl, rfl⟩ := q
        rw [if_pos ⟨rfl, rfl⟩, if_neg (Ne.symm e), if_neg (by omega), if_pos ⟨rfl, rfl⟩, h3]
        omega
      · rw [if_neg q]
        by_cases p : c = a ∧ d = b
        · obtain ⟨rfl, rfl⟩ := p
          rw [if_pos ⟨rfl, rfl⟩, if_neg e, if_pos ⟨rfl, rfl⟩, if_neg (by omega), h2]
          omega
        · rw [if_neg p, h1]
          by_cases q2 : c = d
          · rw [if_pos q2, if_pos q2, if_neg (by omega)]
          · rw [if_neg q2, if_neg q2, if_neg (by omega), if_neg (by omega)]
theorem linkI_l3F (z : β) {N cnt a : Nat} (hN : 100 < N) (h8 : cnt <= 8) (ha : a < cnt) {ids : List (Nat × Nat)} {pool0 : List (List Int)} (hl : ids.length = cnt) {M0 : Mat} (t0 : TabF ids pool0 cnt cnt M0) (hM : ∀ b, b < cnt -> -200 <= M0 a b ∧ M0 a b <= 200) (t76 : Int) (h00 : Int) (h01 h02 h1 h2 : Nat -> Int) (xs : List Int) :
    ∃ pool, (∃ M, TabF ids pool cnt cnt M ∧ ∀ c d, c < cnt -> d < cnt -> M c d = if c = a ∧ d ≠ a then (M0 c d).tdiv 2 else M0 c d) ∧ ∀ (k : List (List Int) -> β) (m : Nat), cnt < m -> q020 z cnt cnt cnt a t76 a cnt h00 h01 h02 h1 h2 ids xs m 0 pool0 k = k pool := by
  obtain ⟨pool, ⟨M, t, hd⟩, e⟩ := up_to_exB (κ := List (List Int) -> β) (L := fun k m j (s : List (List Int)) => q020 z cnt cnt cnt a t76 a cnt h00 h01 h02 h1 h2 ids xs m (j : Int) s k) (n := cnt) (out := fun k => k)
    (I := fun j s => ∃ M, TabF ids s cnt cnt M ∧ ∀ c d, c < cnt -> d < cnt -> M c d = if c = a ∧ d ≠ a ∧ d < j then (M0 c d).tdiv 2 else M0 c d)
    (fun b s hb ⟨M, t, hd⟩ => by
      have h0 := hd a b ha hb
      rw [if_neg (by omega)] at h0
      by_cases e : a = b
      · refine ⟨s, fun k m => ?_, M, t, fun c d hcc hdd => ?_⟩
        · rw [q020, q01z]
          simp (disch := omega) only [c_lt, c_nne, c_fits]
          rfl
        · rw [hd c d hcc hdd]
          by_cases q : c = a ∧ d ≠ a ∧ d < b
          · rw [if_pos q, if_pos (by omega)]
          · rw [if_neg q, if_neg (by omega)]
      · have sa := t.sz a ha
        have wa := t.wide a ha
        have ca := t.cell a b ha hb
        have b1 := hM b hb
        rw [<- h0] at b1
        have b2 := tdiv2_bd (x := M a b) (m := 200) b1
        have t1 := t.put ha hb ((M a b).tdiv 2)
        unfold putP at t1
        unfold idAt at sa t1 wa ca
        unfold rowAt at wa ca t1
        refine ⟨_, fun k m => ?_, putM M a b ((M a b).tdiv 2), t1, fun c d hcc hdd => ?_⟩
        · rw [q020, q01z]
          simp only [c_and, Int.toNat_natCast, sa, wa, ca, hl]
          simp (disch := omega) only [c_lt, c_le, c_ble, c_blt, c_beq, c_fits, c_ne]
          rfl
        · unfold putM
          by_cases q : c = a ∧ d = b
          · obtain ⟨rfl, rfl⟩ := q
            rw [if_pos ⟨rfl, rfl⟩, if_pos ⟨rfl, Ne.symm e, Nat.lt_succ_self _⟩, h0]
          · rw [if_neg q, hd c d hcc hdd]
            by_cases p : c = a ∧ d ≠ a ∧ d < b
            · rw [if_pos p, if_pos (by omega)]
            · rw [if_neg p, if_neg (by omega)])
    (fun k m s _ => by rw [q020, q01z, c_nlt (by omega)]) cnt 0 pool0 (by omega) ⟨M0, t0, fun c d _ _ => by rw [if_neg (by omega)]⟩
  refine ⟨pool, ⟨M, t, fun c d hcc hdd => ?_⟩, e⟩
  rw [hd c d hcc hdd]
  by_cases q : c = a ∧ d ≠ a
  · rw [if_pos ⟨q.1, q.2, hdd⟩, if_pos q]
  · rw [if_neg (by omega), if_neg q]
theorem linkI_l2F (z : β) {N cnt : Nat} (hN : 100 < N) (h8 : cnt <= 8) {ids : List (Nat × Nat)} {pool0 : List (List Int)} (hl : ids.length = cnt) {M0 : Mat} (t0 : TabF ids pool0 cnt cnt M0) (hM : ∀ a b, a < cnt -> b < cnt -> -200 <= M0 a b ∧ M0 a b <= 200) (h00 : Int) (h01 h02 h1 h2 : Nat -> Int) (xs : List Int) (k : List (List Int) -> β) :
    ∃ pool, q022 z N cnt cnt cnt cnt h00 h01 h02 h1 h2 ids xs N 0 pool0 k = k pool ∧ ∃ M, TabF ids pool cnt cnt M ∧ ∀ c d, c < cnt -> d < cnt -> M c d = if c ≠ d then (M0 c d).tdiv 2 else M0 c d := by
  obtain ⟨pool, e, M, t, hd⟩ := up_to_ex (L := fun m j (s : List (List Int)) => q022 z N cnt cnt cnt cnt h00 h01 h02 h1 h2 ids xs m (j : Int) s k) (n := cnt) (out := k)
    (I := fun j s => ∃ M, TabF ids s cnt cnt M ∧ ∀ c d, c < cnt -> d < cnt -> M c d = if c ≠ d ∧ c < j then (M0 c d).tdiv 2 else M0 c d)
    (fun a s ha ⟨M, t, hd⟩ => by
      have sa : (ids[a]?.getD (0, 0)).2 = cnt := t.sz a ha
      obtain ⟨pool, ⟨M', t2, hd2⟩, e⟩ := linkI_l3F z (N := N) hN h8 ha hl t (fun b hb => by
        have := hM a b ha hb
        rw [hd a b ha hb, if_neg (by omega)]
        exact this) cnt h00 h01 h02 h1 h2 xs
      refine ⟨pool, fun m => ?_, M', t2, fun c d hcc hdd => ?_⟩
      · rw [q022, q021]
        simp only [c_and, Int.toNat_natCast, sa, hl]
        simp (disch := omega) only [c_lt, c_le, c_ble, c_blt, c_beq]
        rw [e _ N (by omega)]
        simp (disch := omega) only [c_fits]
        rfl
      · rw [hd2 c d hcc hdd, hd c d hcc hdd]
        by_cases q : c = a
        · subst q
          rw [if_neg (show ¬ (c ≠ d ∧ c < c) by omega)]
          by_cases p : d = c
          · rw [if_neg (by omega), if_neg (by omega)]
          · rw [if_pos ⟨rfl, p⟩, if_pos (by omega)]
        · rw [if_neg (fun h => q h.1)]
          by_cases p : c ≠ d ∧ c < a
          · rw [if_pos p, if_pos (by omega)]
          · rw [if_neg p, if_neg (by omega)])
    (fun m s _ => by rw [q022, q021, c_nlt (by omega)]) cnt N 0 pool0 (by omega) (by omega) ⟨M0, t0, fun c d _ _ => by rw [if_neg (by omega)]⟩
  refine ⟨pool, e, M, t, fun c d hcc hdd => ?_⟩
  rw [hd c d hcc hdd]
  by_cases q : c ≠ d
  · rw [if_pos ⟨q, hcc⟩, if_pos q]
  · rw [if_neg (fun h => q h.1), if_neg q]
noncomputable def lkT (n : Nat) (X O : Nat -> Int) : List (List Int) := (List.range (cmpC n X O)).map fun a => (List.range (cmpC n X O)).map fun b => linkD n X (cmpN n X O) (crossL n X O) a b
theorem s_LinkingTable_valF (z : β) {N : Nat} (hN : 100 < N) {n : Nat} {X O : Nat -> Int} (g : GridP n X O) (hX : ∀ j, 0 <= X j) (hO : ∀ j, 0 <= O j) (k0 : Int -> β) (k1 : Nat -> Nat -> Nat -> Int -> List (Nat × Nat) -> List (List Int) -> β) :
    q01u z N n X O k0 k1 = k1 (cmpC n X O) (cmpC n X O) (cmpC n X O) 0 (idsOf (lkT n X O)) (lkT n X O) := by
  obtain ⟨L, e1, e2⟩ := cmp_links g hX hO
  have h8 := L.h8
  have hcn := L.cn
  unfold q01u
  rw [s_l01Is_val z (by omega) _ _ _ hX hO, gridB_iff.2 ⟨n, rfl, g⟩, Bool.not_true, c_false, s_l01Components_val z (by omega) g hX hO, s_l03Crossings_val z (by omega) g hX hO, e1]
  obtain ⟨T, t1, t2, t3⟩ := link_l0F z hN g hX L e2 (cmpC n X O) (fun q13 => q01t z N (cmpC n X O) n X O (compS (nxtC n X O) n).1 (crossL n X O) q13 N 0 0 0 0 (List.replicate 0 []) (List.map (fun (i : Nat) => (i, 0)) (List.range 0)) (fun q14 q15 q16 q17 q18 => k1 q14 q15 q16 0 q18 q17))
  rw [t3]
  obtain ⟨pool, p1, p2⟩ := link_l1F z hN (by omega : cmpC n X O <= 8) t1 n X O (compS (nxtC n X O) n).1 (crossL n X O) (fun q14 q15 q16 q17 q18 => k1 q14 q15 q16 0 q18 q17)
  rw [p2]
  have : pool = lkT n X O := by
    rw [p1]
    unfold lkT
    refine List.map_congr_left fun a ha => ?_
    rw [List.mem_range] at ha
    unfold rowL
    refine List.map_congr_left fun b hb => ?_
    rw [List.mem_range] at hb
    unfold linkD
    rw [t2 a a ha ha, t2 a b ha hb, t2 b a hb ha]
  rw [this]
theorem i_Grid_linking_valF (z : β) {N : Nat} (hN : 200 < N) {n : Nat} {X O : Nat -> Int} (g : GridP n X O) (hX : ∀ j, 0 <= X j) (hO : ∀ j, 0 <= O j) (k : Nat -> Nat -> Nat -> List (Nat × Nat) -> List (List Int) -> β) :
    ∃ ids pool, (∃ M, TabF ids pool (cmpC n X O) (cmpC n X O) M ∧ ids.length = cmpC n X O ∧ ∀ a b, a < cmpC n X O -> b < cmpC n X O -> M a b = linkD n X (cmpN n X O) (crossL n X O) a b) ∧ q023 z N n X O k = k (cmpC n X O) (cmpC n X O) (cmpC n X O) ids pool := by
  obtain ⟨L, e1, e2⟩ := cmp_links g hX hO
  have h8 := L.h8
  have hcn := L.cn
  have hc := L.c
  have hle := hc.le
  have hlo := g.lo
  unfold q023
  rw [i_Grid_component_val z (by omega) g hX hO, i_Grid_places_val z (by omega) h8 g.px hX, e1]
  generalize hwf : (fun j => if j < n then (compS (nxtC n X O) n).1 j else 0) = wf
  have hw : ∀ i, i < n -> wf i = cmpN n X O i := fun i hi => by rw [<- hwf]; show (if i < n then _ else _) = _; rw [if_pos hi, e2 i hi]
  obtain ⟨pool0, t0, hl, f0⟩ := linkI_l0 z (N := N) (by omega) (by omega : cmpC n X O <= 8) n X O wf (plc n X) (fun q9 q10 q11 q12 q13 => q01d z N n X O (fun q14 q15 q16 q17 => cond (q15.ble 9223372036854775807) (q01y z q9 q10 q11 q14 q15 q16 (↑q15 : Int) n X O wf (plc n X) q13 q17 N 0 q12 (fun q18 => cond (q10.ble 9223372036854775807) (q022 z N q9 q10 q11 (↑q10 : Int) n X O wf (plc n X) q13 q17 N 0 q18 (fun q19 => k q9 q10 q11 q13 q19)) (z))) (z)))
  rw [f0, i_Grid_crossings_val z (by omega) g hX hO, c_ble (by omega)]
  obtain ⟨pool1, f1, M1, t1, d1⟩ := linkI_l1F z hN g hX L hw (fun r hr => plc_spec g.px hX hr) hl t0 (fun q18 => cond ((cmpC n X O).ble 9223372036854775807) (q022 z N (cmpC n X O) (cmpC n X O) (cmpC n X O) (↑(cmpC n X O) : Int) n X O wf (plc n X) (idsOf pool0) (crossL n X O) N 0 q18 (fun q19 => k (cmpC n X O) (cmpC n X O) (cmpC n X O) (idsOf pool0) q19)) (z))
  rw [f1, c_ble (by omega)]
  have bd := fun a b => pS_bd (n := n) (X := X) (wh := cmpN n X O) hc a b _ (Nat.le_refl _)
  obtain ⟨pool2, f2, M2, t2, d2⟩ := linkI_l2F z (N := N) (by omega) (by omega : cmpC n X O <= 8) hl t1 (fun a b ha hb => by
    rw [d1 a b ha hb]
    unfold linkS
    have := bd a a
    have := bd a b
    have := bd b a
    split <;> omega) n X O wf (plc n X) (crossL n X O) (fun q19 => k (cmpC n X O) (cmpC n X O) (cmpC n X O) (idsOf pool0) q19)
  refine ⟨_, pool2, ⟨M2, t2, hl, fun a b ha hb => ?_⟩, f2⟩
  rw [d2 a b ha hb, d1 a b ha hb]
  unfold linkS linkD
  by_cases e : a = b
  · subst e
    rw [if_neg (by omega), if_pos rfl, if_pos rfl]
  · rw [if_pos e, if_neg e, if_neg e]
end
end Go.AM
namespace Go.AM
section
def itN (f : Nat -> Nat) : Nat -> Nat -> Nat
  | 0, x => x
  | j + 1, x => f (itN f j x)
theorem walkH_closed {nxt : Nat -> Nat} {n st : Nat} {c : Int} (hn : ∀ k, k < n -> nxt k < n) (hi : ∀ a b, a < n -> b < n -> nxt a = nxt b -> a = b) (hc : 0 <= c) :
    ∀ (d k : Nat) (h : Nat -> Int), cntU n h <= d -> WInv nxt n st h k -> (k = st ∨ h st = c) -> (∀ x, x < n -> 0 <= h x -> h (nxt x) = h x ∨ (h x = c ∧ nxt x = k)) -> (∀ x, x < n -> h x = c -> ∃ j, itN nxt j st = x) -> (∃ j, itN nxt j st = k) ->
      (∀ x, x < n -> 0 <= walkH nxt c d k h x -> walkH nxt c d k h (nxt x) = walkH nxt c d k h x) ∧ ∀ x, x < n -> walkH nxt c d k h x = c -> ∃ j, itN nxt j st = x := by
  intro d
  induction d with
  | zero =>
    intro k h hd w
    have := cntU_zero (by omega : cntU n h = 0) w.lt
    have := w.fresh
    omega
  | succ d ih =>
    intro k h hd w hs hcl hrc hk
    have hcn := cntU_upd w.lt w.fresh hc
    have hfr := w.fresh
    have step : ∀ x, x < n -> x ≠ k -> 0 <= h x -> upd h k c (nxt x) = h x := fun x hx hxk hv => by
      rw [upd_at]
      rcases hcl x hx hv with e | ⟨e1, e2⟩
      · have : nxt x ≠ k := fun e2 => by rw [e2] at e; omega
        rw [if_neg this, e]
      · rw [if_pos e2, e1]
    have rc : ∀ x, x < n -> upd h k c x = c -> ∃ j, itN nxt j st = x := fun x hx hv => by
      rw [upd_at] at hv
      by_cases e : x = k
      · rw [e]; exact hk
      · rw [if_neg e] at hv; exact hrc x hx hv
    simp only [walkH]
    rw [if_pos w.fresh]
    by_cases e : nxt k = st
    · have hs' : walkH nxt c d (nxt k) (upd h k c) = upd h k c := by
        have := w.stSet hc
        rw [<- e] at this
        cases d with
        | zero => rfl
        | succ d => simp only [walkH]; rw [if_neg (by omega)]
      rw [hs']
      refine ⟨fun x hx hv => ?_, rc⟩
      by_cases ex : x = k
      · subst ex
        rw [e, upd_at, upd_at, if_pos rfl]
        rcases hs with hs | hs
        · rw [if_pos hs.symm]
        · split
          · rfl
          · exact hs
      · have hv2 : upd h k c x = h x := by rw [upd_at, if_neg ex]
        rw [hv2] at hv ⊢
        exact step x hx ex hv
    · obtain ⟨j, hj⟩ := hk
      refine ih _ _ (by omega) (w.step hn hi hc e) (.inr ?_) (fun x hx hv => ?_) rc ⟨j + 1, by rw [itN, hj]⟩
      · rw [upd_at]
        rcases hs with hs | hs
        · rw [if_pos hs.symm]
        · split
          · rfl
          · exact hs
      · by_cases ex : x = k
        · right; subst ex; rw [upd_at, if_pos rfl]; exact ⟨rfl, rfl⟩
        · left
          have hv2 : upd h k c x = h x := by rw [upd_at, if_neg ex]
          rw [hv2] at hv ⊢
          exact step x hx ex hv
structure StartC (nxt : Nat -> Nat) (n : Nat) (s : ((Nat -> Int) × Int) × List Nat) : Prop where
  cl : ∀ x, x < n -> 0 <= s.1.1 x -> s.1.1 (nxt x) = s.1.1 x
  rc : ∀ q, q < s.2.length -> ∀ x, x < n -> s.1.1 x = q -> ∃ j, itN nxt j (s.2[q]?.getD 0) = x
theorem startS_closed {nxt : Nat -> Nat} {n : Nat} (h8 : n <= 8) (hn : ∀ k, k < n -> nxt k < n) (hinj : ∀ a b, a < n -> b < n -> nxt a = nxt b -> a = b) : StartC nxt n (startS nxt n) := by
  have key := iter_inv (f := startF nxt n) (n := n) (I := fun i s => StartI nxt n i s ∧ StartC nxt n s) (fun i s hi ⟨h, h2⟩ => by
    refine ⟨h.step h8 hn hinj hi, ?_⟩
    unfold startF
    by_cases hu : s.1.1 i < 0
    · rw [if_pos hu]
      have hcf : compF nxt n i s.1 = (walkH nxt s.1.2 n i s.1.1, s.1.2 + 1) := by unfold compF; rw [if_pos hu]
      have hnn := h.comp.nn
      have hlen := h.len
      have noc : ∀ x, x < n -> s.1.1 x ≠ s.1.2 := fun x hx e => by rcases h.comp.bd x (by omega) with e1 | e1 <;> omega
      obtain ⟨w1, w2⟩ := walkH_closed hn hinj hnn n i s.1.1 (cntU_le _ _) (WInv.start hi hu h.back) (.inl rfl) (fun x hx hv => .inl (h2.cl x hx hv)) (fun x hx e => absurd e (noc x hx)) ⟨0, rfl⟩
      rw [hcf]
      refine ⟨w1, fun q hq x hx hv => ?_⟩
      have hv : walkH nxt s.1.2 n i s.1.1 x = q := hv
      rw [List.length_append, List.length_singleton] at hq
      show ∃ j, itN nxt j ((s.2 ++ [i])[q]?.getD 0) = x
      by_cases e : q < s.2.length
      · rw [List.getElem?_append_left e]
        refine h2.rc q e x hx ?_
        rcases walkH_val nxt s.1.2 n i s.1.1 x with e1 | ⟨e1, e2⟩
        · rw [<- e1]; exact hv
        · rw [e2] at hv; omega
      · have eq : q = s.2.length := by omega
        subst eq
        rw [List.getElem?_append_right (Nat.le_refl _)]
        have := w2 x hx (by rw [hv, hlen])
        simpa using this
    · rw [if_neg hu]
      have hcf : compF nxt n i s.1 = s.1 := by unfold compF; rw [if_neg hu]
      rw [hcf]
      exact h2) n 0 _ (by omega) ⟨StartI.zero h8 hn, ⟨fun x hx hv => by have : (if x < 8 then (-1 : Int) else 0) = -1 := if_pos (by omega); have hv : 0 <= (if x < 8 then (-1 : Int) else 0) := hv; omega, fun q hq => by simp at hq⟩⟩
  rw [Nat.zero_add] at key
  exact key.2
structure CompA (nxt : Nat -> Nat) (n : Nat) : Prop where
  cl : ∀ x, x < n -> (compS nxt n).1 (nxt x) = (compS nxt n).1 x
  bd : ∀ x, x < n -> 0 <= (compS nxt n).1 x ∧ (compS nxt n).1 x < (compS nxt n).2
  rt : ∀ x y, x < n -> y < n -> (compS nxt n).1 x = (compS nxt n).1 y -> ∃ s i j, s < n ∧ itN nxt i s = x ∧ itN nxt j s = y
  su : ∀ c : Nat, (c : Int) < (compS nxt n).2 -> ∃ x, x < n ∧ (compS nxt n).1 x = c
theorem comp_all {nxt : Nat -> Nat} {n : Nat} (h8 : n <= 8) (hn : ∀ k, k < n -> nxt k < n) (hinj : ∀ a b, a < n -> b < n -> nxt a = nxt b -> a = b) : CompA nxt n := by
  have C := startS_closed h8 hn hinj
  have I := startS_inv h8 hn hinj
  have hlen := I.len
  have st := I.comp.set
  have bd : ∀ x, x < n -> (startS nxt n).1.1 x < (startS nxt n).1.2 := fun x hx => by rcases I.comp.bd x (by omega) with e1 | e1 <;> have := st x hx <;> omega
  refine ⟨fun x hx => ?_, fun x hx => ?_, fun x y hx hy e => ?_, fun c hc => ?_⟩
  · rw [<- startS_comp]; exact C.cl x hx (st x hx)
  · rw [<- startS_comp]; exact ⟨st x hx, bd x hx⟩
  · rw [<- startS_comp] at e
    have s1 := st x hx
    have s2 := bd x hx
    obtain ⟨i, hi⟩ := C.rc ((startS nxt n).1.1 x).toNat (by omega) x hx (by omega)
    obtain ⟨j, hj⟩ := C.rc ((startS nxt n).1.1 x).toNat (by omega) y hy (by omega)
    exact ⟨_, i, j, I.lt _ (by omega), hi, hj⟩
  · rw [<- startS_comp] at hc
    refine ⟨(startS nxt n).2[c]?.getD 0, I.lt c (by omega), ?_⟩
    rw [<- startS_comp]
    exact I.own c (by omega)
end
end Go.AM
