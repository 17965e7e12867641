/- A part of a proof about the given program: an abstract machine, what the given functions come to, and plain laws. -/
import Derived.Test.YtoginabccpjeoaaMachB
import Derived.Test.YtoginabccpjeoaaDallLawCorners1
set_option linter.unusedVariables false
set_option linter.unusedSimpArgs false
namespace Go.AM
section guards
variable {β : Type} {x y : β}
theorem c_and (a b : Bool) : cond (a && b) x y = cond a (cond b x y) y := by cases a <;> rfl
theorem c_not (a : Bool) : cond (!a) x y = cond a y x := by cases a <;> rfl
theorem c_lt {a b : Int} (h : a < b) : cond (decide (a < b)) x y = x := by rw [decide_eq_true h]; rfl
theorem c_nlt {a b : Int} (h : b <= a) : cond (decide (a < b)) x y = y := by rw [decide_eq_false (by omega)]; rfl
theorem c_le {a b : Int} (h : a <= b) : cond (decide (a <= b)) x y = x := by rw [decide_eq_true h]; rfl
theorem c_nle {a b : Int} (h : b < a) : cond (decide (a <= b)) x y = y := by rw [decide_eq_false (by omega)]; rfl
theorem c_ne {a b : Int} (h : a ≠ b) : cond (a != b) x y = x := by rw [show (a != b) = true by simpa using h]; rfl
theorem c_nne {a b : Int} (h : a = b) : cond (a != b) x y = y := by rw [show (a != b) = false by simpa using h]; rfl
theorem c_eq {a b : Int} (h : a = b) : cond (a == b) x y = x := by rw [show (a == b) = true by simpa using h]; rfl
theorem c_neq {a b : Int} (h : a ≠ b) : cond (a == b) x y = y := by rw [show (a == b) = false by simpa using h]; rfl
theorem c_blt {a b : Nat} (h : a < b) : cond (a.blt b) x y = x := by rw [show a.blt b = true by rwa [Nat.blt_eq]]; rfl
theorem c_ble {a b : Nat} (h : a <= b) : cond (a.ble b) x y = x := by rw [show a.ble b = true by rwa [Nat.ble_eq]]; rfl
theorem c_nble {a b : Nat} (h : b < a) : cond (a.ble b) x y = y := by rw [show a.ble b = false by rw [<- Bool.not_eq_true, Nat.ble_eq]; omega]; rfl
theorem c_beq {a b : Nat} (h : a = b) : cond (a.beq b) x y = x := by rw [show a.beq b = true by subst h; exact Nat.beq_refl a]; rfl
theorem fits64 {x : Int} (h : -9223372036854775808 <= x ∧ x <= 9223372036854775807) : fits .i64 x = true := by rw [fits_iff]; exact h
theorem c_fits {a : Int} (h : -9223372036854775808 <= a ∧ a <= 9223372036854775807) : cond (fits .i64 a) x y = x := by rw [fits64 h]; rfl
theorem c_true : cond true x y = x := rfl
theorem c_false : cond false x y = y := rfl
theorem c_dec (p : Prop) [Decidable p] : cond (decide p) x y = if p then x else y := by by_cases h : p <;> simp [h]
end guards
section upd
variable {β : Type}
theorem upd_at (f : Nat -> β) (i : Nat) (v : β) (j : Nat) : upd f i v j = if j = i then v else f j := by
  unfold upd
  by_cases h : j = i
  · subst h; rw [Nat.beq_refl]; simp
  · rw [show Nat.beq j i = false by rw [<- Bool.not_eq_true]; exact fun e => h (Nat.eq_of_beq_eq_true e), if_neg h]; rfl
end upd
section loops
variable {β σ ρ : Type}
def iter (f : Nat -> σ -> σ) : Nat -> Nat -> σ -> σ
  | 0, _, s => s
  | d + 1, i, s => iter f d (i + 1) (f i s)
theorem iter_succ (f : Nat -> σ -> σ) : ∀ (d i : Nat) (s : σ), iter f (d + 1) i s = f (i + d) (iter f d i s) := by
  intro d
  induction d with
  | zero => intro i s; rfl
  | succ d ih => intro i s; rw [iter, ih, iter]; congr 1; omega
theorem iter_inv {f : Nat -> σ -> σ} {I : Nat -> σ -> Prop} {n : Nat} (h : ∀ i s, i < n -> I i s -> I (i + 1) (f i s)) : ∀ (d i : Nat) (s : σ), i + d <= n -> I i s -> I (i + d) (iter f d i s) := by
  intro d
  induction d with
  | zero => intro i s _ h0; exact h0
  | succ d ih =>
    intro i s hn h0
    have := ih (i + 1) (f i s) (by omega) (h i s (by omega) h0)
    rw [show i + 1 + d = i + (d + 1) by omega] at this
    exact this
theorem up_to {L : Nat -> Nat -> σ -> β} {n : Nat} {out : σ -> β} {f : Nat -> σ -> σ} {I : Nat -> σ -> Prop}
    (hs : ∀ m i s, i < n -> I i s -> L (m + 1) i s = L m (i + 1) (f i s) ∧ I (i + 1) (f i s)) (he : ∀ m s, I n s -> L (m + 1) n s = out s) :
    ∀ (d m i : Nat) (s : σ), i + d = n -> d < m -> I i s -> L m i s = out (iter f d i s) := by
  intro d
  induction d with
  | zero =>
    intro m i s hi hm h0
    obtain ⟨m, rfl⟩ : ∃ m', m = m' + 1 := ⟨m - 1, by omega⟩
    have : i = n := by omega
    subst this
    exact he m s h0
  | succ d ih =>
    intro m i s hi hm h0
    obtain ⟨m, rfl⟩ : ∃ m', m = m' + 1 := ⟨m - 1, by omega⟩
    obtain ⟨h1, h2⟩ := hs m i s (by omega) h0
    rw [h1]
    exact ih m (i + 1) (f i s) (by omega) (by omega) h2
theorem up_to_ex {L : Nat -> Nat -> σ -> β} {n : Nat} {out : σ -> β} {I : Nat -> σ -> Prop}
    (hs : ∀ i s, i < n -> I i s -> ∃ s', (∀ m, L (m + 1) i s = L m (i + 1) s') ∧ I (i + 1) s') (he : ∀ m s, I n s -> L (m + 1) n s = out s) :
    ∀ (d m i : Nat) (s : σ), i + d = n -> d < m -> I i s -> ∃ s', L m i s = out s' ∧ I n s' := by
  intro d
  induction d with
  | zero =>
    intro m i s hi hm h0
    obtain ⟨m, rfl⟩ : ∃ m', m = m' + 1 := ⟨m - 1, by omega⟩
    have : i = n := by omega
    subst this
    exact ⟨s, he m s h0, h0⟩
  | succ d ih =>
    intro m i s hi hm h0
    obtain ⟨m, rfl⟩ : ∃ m', m = m' + 1 := ⟨m - 1, by omega⟩
    obtain ⟨s', h1, h2⟩ := hs i s (by omega) h0
    rw [h1]
    exact ih m (i + 1) s' (by omega) (by omega) h2
def iterE (f : Nat -> σ -> σ ⊕ ρ) : Nat -> Nat -> σ -> σ ⊕ ρ
  | 0, _, s => .inl s
  | d + 1, i, s => match f i s with
    | .inl s' => iterE f d (i + 1) s'
    | .inr r => .inr r
def orOut (out : σ -> β) (ex : ρ -> β) : σ ⊕ ρ -> β
  | .inl s => out s
  | .inr r => ex r
theorem up_to_E {L : Nat -> Nat -> σ -> β} {n : Nat} {out : σ -> β} {ex : ρ -> β} {f : Nat -> σ -> σ ⊕ ρ} {I : Nat -> σ -> Prop}
    (hs : ∀ m i s, i < n -> I i s -> (∃ s', f i s = .inl s' ∧ L (m + 1) i s = L m (i + 1) s' ∧ I (i + 1) s') ∨ ∃ r, f i s = .inr r ∧ L (m + 1) i s = ex r) (he : ∀ m s, I n s -> L (m + 1) n s = out s) :
    ∀ (d m i : Nat) (s : σ), i + d = n -> d < m -> I i s -> L m i s = orOut out ex (iterE f d i s) := by
  intro d
  induction d with
  | zero =>
    intro m i s hi hm h0
    obtain ⟨m, rfl⟩ : ∃ m', m = m' + 1 := ⟨m - 1, by omega⟩
    have : i = n := by omega
    subst this
    exact he m s h0
  | succ d ih =>
    intro m i s hi hm h0
    obtain ⟨m, rfl⟩ : ∃ m', m = m' + 1 := ⟨m - 1, by omega⟩
    rcases hs m i s (by omega) h0 with ⟨s', h1, h2, h3⟩ | ⟨r, h1, h2⟩
    · rw [h2, iterE, h1]
      exact ih m (i + 1) s' (by omega) (by omega) h3
    · rw [h2, iterE, h1]; rfl
def allFrom (p : Nat -> Bool) : Nat -> Nat -> Bool
  | 0, _ => true
  | d + 1, i => p i && allFrom p d (i + 1)
theorem allFrom_iff {p : Nat -> Bool} : ∀ (d i : Nat), allFrom p d i = true ↔ ∀ j, i <= j -> j < i + d -> p j = true := by
  intro d
  induction d with
  | zero => intro i; exact ⟨fun _ j h1 h2 => by omega, fun _ => rfl⟩
  | succ d ih =>
    intro i
    rw [allFrom, Bool.and_eq_true, ih]
    refine ⟨fun ⟨h1, h2⟩ j h3 h4 => ?_, fun h => ⟨h i (by omega) (by omega), fun j h3 h4 => h j (by omega) (by omega)⟩⟩
    by_cases e : j = i
    · subst e; exact h1
    · exact h2 j (by omega) (by omega)
theorem up_to_all {L : Nat -> Nat -> β} {n : Nat} {kt kf : β} {p : Nat -> Bool}
    (hs : ∀ m i, i < n -> L (m + 1) i = cond (p i) (L m (i + 1)) kf) (he : ∀ m, L (m + 1) n = kt) :
    ∀ (d m i : Nat), i + d = n -> d < m -> L m i = cond (allFrom p d i) kt kf := by
  intro d
  induction d with
  | zero =>
    intro m i hi hm
    obtain ⟨m, rfl⟩ : ∃ m', m = m' + 1 := ⟨m - 1, by omega⟩
    have : i = n := by omega
    subst this
    exact he m
  | succ d ih =>
    intro m i hi hm
    obtain ⟨m, rfl⟩ : ∃ m', m = m' + 1 := ⟨m - 1, by omega⟩
    rw [hs m i (by omega), allFrom]
    cases p i with
    | false => rfl
    | true => exact ih m (i + 1) (by omega) (by omega)
theorem iter_set {γ : Type} (g : Nat -> γ) : ∀ (d i : Nat) (h : Nat -> γ), iter (fun i h => upd h i (g i)) d i h = fun j => if i <= j ∧ j < i + d then g j else h j := by
  intro d
  induction d with
  | zero => intro i h; funext j; rw [if_neg (by omega)]; rfl
  | succ d ih =>
    intro i h
    rw [iter, ih]
    funext j
    simp only [upd_at]
    by_cases e : j = i
    · subst e; rw [if_neg (by omega), if_pos (by omega)]; simp
    · by_cases e2 : i + 1 <= j ∧ j < i + 1 + d
      · rw [if_pos e2, if_pos (by omega)]
      · rw [if_neg e2, if_neg e, if_neg (by omega)]
end loops
end Go.AM
namespace Go.AM
theorem surj_of_inj : ∀ (n : Nat) (f : Nat -> Nat), (∀ i, i < n -> f i < n) -> (∀ i j, i < n -> j < n -> f i = f j -> i = j) -> ∀ r, r < n -> ∃ i, i < n ∧ f i = r := by
  intro n
  induction n with
  | zero => intro f _ _ r hr; omega
  | succ n ih =>
    intro f hf hi r hr
    have hg := ih (fun i => if f i = n then f n else f i) (fun i h => by
      try simp only
      split
      · rename_i e
        have h1 := hf n (by omega)
        have h2 : f n ≠ n := fun e2 => by have := hi i n (by omega) (by omega) (by omega); omega
        omega
      · have := hf i (by omega); omega) (fun i j h1 h2 e => by
      try simp only at e
      split at e <;> split at e
      · exact hi i j (by omega) (by omega) (by omega)
      · have := hi n j (by omega) (by omega) e; omega
      · have := hi i n (by omega) (by omega) e; omega
      · exact hi i j (by omega) (by omega) e)
    by_cases e : r = n
    · subst e
      by_cases e2 : f r = r
      · exact ⟨r, by omega, e2⟩
      · obtain ⟨i, h1, h2⟩ := hg (f r) (by have := hf r (by omega); omega)
        try simp only at h2
        split at h2
        · rename_i e3; exact ⟨i, by omega, e3⟩
        · have := hi i r (by omega) (by omega) h2; omega
    · obtain ⟨i, h1, h2⟩ := hg r (by omega)
      try simp only at h2
      split at h2
      · exact ⟨n, by omega, h2⟩
      · exact ⟨i, by omega, h2⟩
theorem inj_of_surj (n : Nat) (f : Nat -> Nat) (hf : ∀ i, i < n -> f i < n) (hs : ∀ r, r < n -> ∃ i, i < n ∧ f i = r) : ∀ i j, i < n -> j < n -> f i = f j -> i = j := by
  have hc : ∀ r, ∃ i, r < n -> i < n ∧ f i = r := fun r => by
    by_cases h : r < n
    · obtain ⟨i, hi⟩ := hs r h; exact ⟨i, fun _ => hi⟩
    · exact ⟨0, fun h' => absurd h' h⟩
  obtain ⟨g, hg⟩ := Classical.axiomOfChoice hc
  have hgs := surj_of_inj n g (fun i h => (hg i h).1) (fun i j h1 h2 e => by have a := (hg i h1).2; have b := (hg j h2).2; rw [e] at a; omega)
  intro i j hi hj e
  obtain ⟨r, h1, h2⟩ := hgs i hi
  obtain ⟨s, h3, h4⟩ := hgs j hj
  have a := (hg r h1).2
  have b := (hg s h3).2
  rw [h2] at a
  rw [h4] at b
  have : r = s := by omega
  rw [<- h2, <- h4, this]
theorem bitI_or_nat {a b : Nat} (ha : a < 2 ^ 63) (hb : b < 2 ^ 63) : bitI .or .i64 (a : Int) (b : Int) = ((a ||| b : Nat) : Int) := by
  have e : bitI .or .i64 (a : Int) (b : Int) = IntKind.wrap .i64 ((BitVec.ofInt 64 a ||| BitVec.ofInt 64 b).toNat : Int) := rfl
  rw [e, BitVec.ofInt_natCast, BitVec.ofInt_natCast, BitVec.toNat_or, BitVec.toNat_ofNat, BitVec.toNat_ofNat, Nat.mod_eq_of_lt (by omega), Nat.mod_eq_of_lt (by omega)]
  apply wrap_fits
  have := Nat.or_lt_two_pow ha hb
  exact fits64 (by omega)
theorem shlI_one (x : Nat) : shlI 1 (x : Int) = ((2 ^ x : Nat) : Int) := by
  unfold shlI
  simp
def PermP (w n : Nat) (p : Nat -> Int) : Prop := (∀ j, n <= j -> j < w -> p j = 0) ∧ (∀ j, j < n -> p j < n) ∧ ∀ i j, i < n -> j < n -> p i = p j -> i = j
noncomputable def permB (w n : Nat) (p : Nat -> Int) : Bool := @decide (PermP w n p) (Classical.propDecidable _)
theorem permB_iff {w n : Nat} {p : Nat -> Int} : permB w n p = true ↔ PermP w n p := by
  unfold permB; exact @decide_eq_true_iff _ (Classical.propDecidable _)
theorem permB_of {w n : Nat} {p : Nat -> Int} {b : Bool} (h : b = true ↔ PermP w n p) : b = permB w n p := by
  cases b <;> cases hq : permB w n p <;> simp_all [permB_iff, <- permB_iff]
section order
variable {β : Type}
def ordS (w : Nat) (z : β) (n : Int) (h0 : Nat -> Int) (seen : Int) (t10 : Int) (kn : Int -> Int -> β) (k0 : β) (k1 : Int -> β) : β :=
  cond (decide (t10 < (w : Int))) (cond (decide (0 <= t10) && decide (t10 < (↑w : Int))) (cond (t10.toNat.blt w) (cond (decide (n <= t10)) (cond (h0 t10.toNat != 0) (k0) (cond (decide (n <= h0 t10.toNat)) (k0) (cond (decide (t10 < n)) (cond (decide (0 <= h0 t10.toNat) && decide (h0 t10.toNat < (↑64 : Int))) (cond (fits .i64 (shlI 1 (h0 t10.toNat))) (cond (fits .i64 (t10 + 1)) (kn (bitI BinOp.or IntKind.i64 seen (shlI 1 (h0 t10.toNat))) (t10 + 1)) (z)) (z)) (z)) (cond (fits .i64 (t10 + 1)) (kn seen (t10 + 1)) (z))))) (cond (decide (n <= h0 t10.toNat)) (k0) (cond (decide (t10 < n)) (cond (decide (0 <= h0 t10.toNat) && decide (h0 t10.toNat < (↑64 : Int))) (cond (fits .i64 (shlI 1 (h0 t10.toNat))) (cond (fits .i64 (t10 + 1)) (kn (bitI BinOp.or IntKind.i64 seen (shlI 1 (h0 t10.toNat))) (t10 + 1)) (z)) (z)) (z)) (cond (fits .i64 (t10 + 1)) (kn seen (t10 + 1)) (z))))) (z)) (z)) (k1 seen)
def ordL (w : Nat) (z : β) (n : Int) (h0 : Nat -> Int) : Nat -> Int -> Int -> β -> (Int -> β) -> β
  | 0, _, _, _, _ => z
  | m + 1, seen, t10, k0, k1 => ordS w z n h0 seen t10 (fun seen t10 => ordL w z n h0 m seen t10 k0 k1) k0 k1
def ordF (n : Nat) (p : Nat -> Int) (i s : Nat) : Nat ⊕ Unit :=
  if n <= i then (if p i = 0 then .inl s else .inr ()) else if p i < n then .inl (s ||| 2 ^ (p i).toNat) else .inr ()
theorem ordL_val (w : Nat) (hw : w <= 64) (z : β) (n : Nat) (hn : 1 <= n) (hn8 : n <= 8) (p : Nat -> Int) (hp : ∀ j, 0 <= p j) (k0 : β) (k1 : Int -> β) {N : Nat} (hN : w < N) :
    ordL w z n p N 0 0 k0 k1 = orOut (fun s : Nat => k1 (s : Int)) (fun _ => k0) (iterE (ordF n p) w 0 0) := by
  refine up_to_E (L := fun m i (s : Nat) => ordL w z n p m (s : Int) (i : Int) k0 k1) (n := w) (out := fun s : Nat => k1 (s : Int)) (ex := fun _ => k0) (f := ordF n p) (I := fun _ s => s < 256) ?_ ?_ w N 0 0 (by omega) hN (by omega)
  · intro m i s hi hs
    have h0 := hp i
    simp only [ordL, ordS, c_and, Int.toNat_natCast]
    by_cases h1 : n <= i
    · by_cases h2 : p i = 0
      · left
        refine ⟨s, by unfold ordF; rw [if_pos h1, if_pos h2], ?_, hs⟩
        simp (disch := omega) only [c_lt, c_nlt, c_le, c_nle, c_blt, c_nne, c_fits]
        rfl
      · right
        refine ⟨(), by unfold ordF; rw [if_pos h1, if_neg h2], ?_⟩
        simp (disch := omega) only [c_lt, c_nlt, c_le, c_nle, c_blt, c_ne, c_fits]
    · by_cases h2 : p i < n
      · left
        have hs2 : s ||| 2 ^ (p i).toNat < 256 := Nat.or_lt_two_pow (n := 8) hs (Nat.pow_lt_pow_right (by omega) (by omega))
        refine ⟨s ||| 2 ^ (p i).toNat, by unfold ordF; rw [if_neg h1, if_pos h2], ?_, hs2⟩
        obtain ⟨v, hv⟩ : ∃ v : Nat, p i = (v : Int) := ⟨(p i).toNat, by omega⟩
        have hv8 : v < 8 := by omega
        have hpow : 2 ^ v < 256 := Nat.pow_lt_pow_right (n := 8) (by omega) hv8
        simp only [hv, Int.toNat_natCast, shlI_one] at *
        generalize 2 ^ v = q at *
        simp (disch := omega) only [c_lt, c_nlt, c_le, c_nle, c_blt, c_ne, c_fits]
        rw [bitI_or_nat (by omega) (by omega)]
        rfl
      · right
        refine ⟨(), by unfold ordF; rw [if_neg h1, if_neg h2], ?_⟩
        simp (disch := omega) only [c_lt, c_nlt, c_le, c_nle, c_blt, c_ne, c_fits]
  · intro m s _
    simp (disch := omega) only [ordL, ordS, c_nlt]
def OkFrom (w n : Nat) (p : Nat -> Int) (i : Nat) : Prop := ∀ j, i <= j -> j < w -> (n <= j -> p j = 0) ∧ (j < n -> p j < n)
theorem OkFrom.step {w n i : Nat} {p : Nat -> Int} (hi : i < w) : OkFrom w n p i ↔ ((n <= i -> p i = 0) ∧ (i < n -> p i < n)) ∧ OkFrom w n p (i + 1) := by
  refine ⟨fun h => ⟨h i (by omega) hi, fun j h1 h2 => h j (by omega) h2⟩, fun ⟨h1, h2⟩ j h3 h4 => ?_⟩
  by_cases e : j = i
  · subst e; exact h1
  · exact h2 j (by omega) h4
theorem ordF_run {w n : Nat} {p : Nat -> Int} : ∀ (d i s : Nat), i + d = w ->
    (∃ s', iterE (ordF n p) d i s = .inl s' ∧ OkFrom w n p i ∧ ∀ r, s'.testBit r = true ↔ s.testBit r = true ∨ ∃ j, i <= j ∧ j < n ∧ j < w ∧ (p j).toNat = r) ∨ (iterE (ordF n p) d i s = .inr () ∧ ¬ OkFrom w n p i) := by
  intro d
  induction d with
  | zero =>
    intro i s hi
    left
    refine ⟨s, rfl, fun j h1 h2 => by omega, fun r => ⟨.inl, fun h => ?_⟩⟩
    rcases h with h | ⟨j, h1, _, h2, _⟩
    · exact h
    · omega
  | succ d ih =>
    intro i s hi
    rw [OkFrom.step (by omega)]
    have key : ∀ s', ordF n p i s = .inl s' -> ((n <= i -> p i = 0) ∧ (i < n -> p i < n)) -> (∀ r, s'.testBit r = true ↔ s.testBit r = true ∨ (i < n ∧ (p i).toNat = r)) ->
        (∃ s', iterE (ordF n p) (d + 1) i s = .inl s' ∧ (((n <= i -> p i = 0) ∧ (i < n -> p i < n)) ∧ OkFrom w n p (i + 1)) ∧ ∀ r, s'.testBit r = true ↔ s.testBit r = true ∨ ∃ j, i <= j ∧ j < n ∧ j < w ∧ (p j).toNat = r) ∨
        (iterE (ordF n p) (d + 1) i s = .inr () ∧ ¬ (((n <= i -> p i = 0) ∧ (i < n -> p i < n)) ∧ OkFrom w n p (i + 1))) := by
      intro s' h1 h2 h3
      rcases ih (i + 1) s' (by omega) with ⟨s2, h4, h5, h6⟩ | ⟨h4, h5⟩
      · left
        refine ⟨s2, by rw [iterE, h1]; exact h4, ⟨h2, h5⟩, fun r => ?_⟩
        rw [h6, h3]
        constructor
        · rintro ((h | ⟨h, h'⟩) | ⟨j, g1, g2, g3, g4⟩)
          · exact .inl h
          · exact .inr ⟨i, by omega, h, by omega, h'⟩
          · exact .inr ⟨j, by omega, g2, g3, g4⟩
        · rintro (h | ⟨j, g1, g2, g3, g4⟩)
          · exact .inl (.inl h)
          · by_cases e : j = i
            · subst e; exact .inl (.inr ⟨g2, g4⟩)
            · exact .inr ⟨j, by omega, g2, g3, g4⟩
      · right
        exact ⟨by rw [iterE, h1]; exact h4, fun h => h5 h.2⟩
    by_cases h1 : n <= i
    · by_cases h2 : p i = 0
      · exact key s (by unfold ordF; rw [if_pos h1, if_pos h2]) ⟨fun _ => h2, fun h => by omega⟩ fun r => ⟨.inl, fun h => h.elim id fun h => by omega⟩
      · right
        refine ⟨?_, fun h => h2 (h.1.1 h1)⟩
        rw [iterE]
        have : ordF n p i s = .inr () := by unfold ordF; rw [if_pos h1, if_neg h2]
        rw [this]
    · by_cases h2 : p i < n
      · refine key (s ||| 2 ^ (p i).toNat) (by unfold ordF; rw [if_neg h1, if_pos h2]) ⟨fun h => by omega, fun _ => h2⟩ fun r => ?_
        rw [Nat.testBit_or, Nat.testBit_two_pow, Bool.or_eq_true, decide_eq_true_eq]
        exact ⟨fun h => h.imp id fun h => ⟨by omega, h⟩, fun h => h.imp id fun h => h.2⟩
      · right
        refine ⟨?_, fun h => h2 (h.1.2 (by omega))⟩
        rw [iterE]
        have : ordF n p i s = .inr () := by unfold ordF; rw [if_neg h1, if_neg h2]
        rw [this]
theorem ord_val (w : Nat) (hw : w <= 64) (z : β) (n : Nat) (hn : 1 <= n) (hn8 : n <= 8) (hnw : n <= w) (p : Nat -> Int) (hp : ∀ j, 0 <= p j) (k : Bool -> β) {N : Nat} (hN : w < N) :
    ordL w z n p N 0 0 (k false) (fun q5 => cond (decide (0 <= (n : Int)) && decide ((n : Int) < (↑64 : Int))) (cond (fits .i64 (shlI 1 n)) (cond (fits .i64 (shlI 1 n - 1)) (k (q5 == shlI 1 n - 1)) (z)) (z)) (z)) = k (permB w n p) := by
  rw [ordL_val w hw z n hn hn8 p hp _ _ hN]
  have hpow : 2 ^ n <= 256 := Nat.pow_le_pow_right (n := 2) (by omega) hn8
  have hpos : 0 < 2 ^ n := Nat.two_pow_pos n
  rcases ordF_run (w := w) (n := n) (p := p) w 0 0 (by omega) with ⟨s, h1, h2, h3⟩ | ⟨h1, h2⟩
  · rw [h1]
    simp only [orOut, shlI_one, c_and]
    simp (disch := omega) only [c_lt, c_le, c_fits]
    refine congrArg k (permB_of ?_)
    have hb : ∀ r, s.testBit r = true ↔ ∃ j, j < n ∧ (p j).toNat = r := fun r => by
      rw [h3]
      simp only [Nat.zero_testBit, Bool.false_eq_true, false_or]
      exact ⟨fun ⟨j, _, a, _, b⟩ => ⟨j, a, b⟩, fun ⟨j, a, b⟩ => ⟨j, by omega, a, by omega, b⟩⟩
    have hf : ∀ i, i < n -> (p i).toNat < n := fun i hi => by have := (h2 i (by omega) (by omega)).2 hi; omega
    have e1 : ((s : Int) == ((2 ^ n : Nat) : Int) - 1) = true ↔ ∀ r, r < n -> ∃ j, j < n ∧ (p j).toNat = r := by
      constructor
      · intro h r hr
        have : s = 2 ^ n - 1 := by simp only [beq_iff_eq] at h; omega
        rw [<- hb, this, Nat.testBit_two_pow_sub_one]
        exact decide_eq_true hr
      · intro h
        have : s = 2 ^ n - 1 := by
          apply Nat.eq_of_testBit_eq
          intro r
          rw [Nat.testBit_two_pow_sub_one]
          by_cases hr : r < n
          · rw [decide_eq_true hr, hb]; exact h r hr
          · rw [decide_eq_false hr, <- Bool.not_eq_true, hb]
            rintro ⟨j, a, b⟩
            have := hf j a
            omega
        simp only [beq_iff_eq]
        omega
    rw [e1]
    constructor
    · intro h
      refine ⟨fun j a b => (h2 j (by omega) b).1 a, fun j a => (h2 j (by omega) (by omega)).2 a, fun i j a b e => inj_of_surj n (fun i => (p i).toNat) hf h i j a b (by rw [e])⟩
    · rintro ⟨_, _, h⟩
      exact surj_of_inj n (fun i => (p i).toNat) hf fun i j a b e => h i j a b (by have := hp i; have := hp j; omega)
  · rw [h1]
    simp only [orOut]
    refine congrArg k (permB_of ⟨fun h => (by cases h), fun h => absurd (fun j _ b => ⟨fun a => h.1 j a b, fun a => h.2.1 j a⟩) h2⟩)
end order
end Go.AM
namespace Go.AM
section perm
variable {β : Type}
def permS (w : Nat) (z : β) (n : Int) (h0 : Nat -> Int) (i : Int) (h1 : Nat -> Bool) (kn : Int -> (Nat -> Bool) -> β) (k0 : (Nat -> Bool) -> β) (k1 : (Nat -> Bool) -> β) : β :=
  cond (decide (i < (w : Int))) (cond (decide (n <= i)) (cond (decide (0 <= i) && decide (i < (↑w : Int))) (cond (i.toNat.blt w) (cond (h0 i.toNat != 0) (k0 h1) (cond (fits .i64 (i + 1)) (kn (i + 1) h1) (z))) (z)) (z)) (cond (decide (0 <= i) && decide (i < (↑w : Int))) (cond (i.toNat.blt w) (cond (decide (n <= h0 i.toNat)) (k0 h1) (cond (decide (0 <= i) && decide (i < (↑w : Int))) (cond (i.toNat.blt w) (cond (decide (0 <= h0 i.toNat) && decide (h0 i.toNat < (↑w : Int))) (cond ((h0 i.toNat).toNat.blt w) (cond (h1 (h0 i.toNat).toNat) (k0 h1) (cond (decide (0 <= i) && decide (i < (↑w : Int))) (cond (i.toNat.blt w) (cond (decide (0 <= h0 i.toNat) && decide (h0 i.toNat < (↑w : Int))) (cond ((h0 i.toNat).toNat.blt w) (cond (fits .i64 (i + 1)) (kn (i + 1) (upd h1 (h0 i.toNat).toNat true)) (z)) (z)) (z)) (z)) (z))) (z)) (z)) (z)) (z))) (z)) (z))) (k1 h1)
def permL (w : Nat) (z : β) (n : Int) (h0 : Nat -> Int) : Nat -> Int -> (Nat -> Bool) -> ((Nat -> Bool) -> β) -> ((Nat -> Bool) -> β) -> β
  | 0, _, _, _, _ => z
  | m + 1, i, h1, k0, k1 => permS w z n h0 i h1 (fun i h1 => permL w z n h0 m i h1 k0 k1) k0 k1
def permF (n : Nat) (p : Nat -> Int) (i : Nat) (met : Nat -> Bool) : (Nat -> Bool) ⊕ Unit :=
  if n <= i then (if p i = 0 then .inl met else .inr ()) else if p i < n then (if met (p i).toNat = true then .inr () else .inl (upd met (p i).toNat true)) else .inr ()
theorem permL_val (w : Nat) (hw : w <= 64) (z : β) (n : Nat) (hnw : n <= w) (p : Nat -> Int) (hp : ∀ j, 0 <= p j) (kf kt : β) {N : Nat} (hN : w < N) (met : Nat -> Bool) :
    permL w z n p N 0 met (fun _ => kf) (fun _ => kt) = orOut (fun _ => kt) (fun _ => kf) (iterE (permF n p) w 0 met) := by
  refine up_to_E (L := fun m i (s : Nat -> Bool) => permL w z n p m (i : Int) s (fun _ => kf) (fun _ => kt)) (n := w) (out := fun _ => kt) (ex := fun _ => kf) (f := permF n p) (I := fun _ _ => True) ?_ ?_ w N 0 met (by omega) hN trivial
  · intro m i s hi _
    have h0 := hp i
    simp only [permL, permS, c_and, Int.toNat_natCast]
    by_cases h1 : n <= i
    · by_cases h2 : p i = 0
      · left
        refine ⟨s, by unfold permF; rw [if_pos h1, if_pos h2], ?_, trivial⟩
        simp (disch := omega) only [c_lt, c_nlt, c_le, c_nle, c_blt, c_nne, c_fits]
        rfl
      · right
        refine ⟨(), by unfold permF; rw [if_pos h1, if_neg h2], ?_⟩
        simp (disch := omega) only [c_lt, c_nlt, c_le, c_nle, c_blt, c_ne, c_fits]
    · by_cases h2 : p i < n
      · cases h3 : s (p i).toNat with
        | true =>
          right
          refine ⟨(), by unfold permF; rw [if_neg h1, if_pos h2, if_pos h3], ?_⟩
          simp (disch := omega) only [c_lt, c_nlt, c_le, c_nle, c_blt, c_ne, c_fits, h3, c_true]
        | false =>
          left
          refine ⟨upd s (p i).toNat true, by unfold permF; rw [if_neg h1, if_pos h2, if_neg (by simp [h3])], ?_, trivial⟩
          simp (disch := omega) only [c_lt, c_nlt, c_le, c_nle, c_blt, c_ne, c_fits, h3, c_false]
          rfl
      · right
        refine ⟨(), by unfold permF; rw [if_neg h1, if_neg h2], ?_⟩
        simp (disch := omega) only [c_lt, c_nlt, c_le, c_nle, c_blt, c_ne, c_fits]
  · intro m s _
    simp (disch := omega) only [permL, permS, c_nlt]
def FreeFrom (w n : Nat) (p : Nat -> Int) (i : Nat) (met : Nat -> Bool) : Prop :=
  OkFrom w n p i ∧ (∀ j, i <= j -> j < n -> j < w -> met (p j).toNat = false) ∧ ∀ a b, i <= a -> a < b -> b < n -> b < w -> (p a).toNat ≠ (p b).toNat
theorem permF_run {w n : Nat} {p : Nat -> Int} : ∀ (d i : Nat) (met : Nat -> Bool), i + d = w ->
    ((∃ m, iterE (permF n p) d i met = .inl m) ∧ FreeFrom w n p i met) ∨ (iterE (permF n p) d i met = .inr () ∧ ¬ FreeFrom w n p i met) := by
  intro d
  induction d with
  | zero =>
    intro i met hi
    left
    exact ⟨⟨met, rfl⟩, fun j h1 h2 => by omega, fun j h1 _ h2 => by omega, fun a b h1 h2 _ h3 => by omega⟩
  | succ d ih =>
    intro i met hi
    have bad : permF n p i met = .inr () -> ¬ FreeFrom w n p i met -> ((∃ m, iterE (permF n p) (d + 1) i met = .inl m) ∧ FreeFrom w n p i met) ∨ (iterE (permF n p) (d + 1) i met = .inr () ∧ ¬ FreeFrom w n p i met) := by
      intro h1 h2
      right
      exact ⟨by rw [iterE, h1], h2⟩
    have good : ∀ met', permF n p i met = .inl met' -> (FreeFrom w n p i met ↔ FreeFrom w n p (i + 1) met') -> ((∃ m, iterE (permF n p) (d + 1) i met = .inl m) ∧ FreeFrom w n p i met) ∨ (iterE (permF n p) (d + 1) i met = .inr () ∧ ¬ FreeFrom w n p i met) := by
      intro met' h1 h2
      rw [h2, iterE, h1]
      exact ih (i + 1) met' (by omega)
    by_cases h1 : n <= i
    · by_cases h2 : p i = 0
      · refine good met (by unfold permF; rw [if_pos h1, if_pos h2]) ?_
        unfold FreeFrom
        rw [OkFrom.step (by omega)]
        exact ⟨fun ⟨⟨_, a⟩, b, c⟩ => ⟨a, fun j g1 g2 g3 => b j (by omega) g2 g3, fun x y g1 g2 g3 g4 => c x y (by omega) g2 g3 g4⟩,
          fun ⟨a, b, c⟩ => ⟨⟨⟨fun _ => h2, fun h => by omega⟩, a⟩, fun j g1 g2 g3 => by omega, fun x y g1 g2 g3 g4 => by omega⟩⟩
      · exact bad (by unfold permF; rw [if_pos h1, if_neg h2]) fun h => h2 ((h.1 i (by omega) (by omega)).1 h1)
    · by_cases h2 : p i < n
      · cases h3 : met (p i).toNat with
        | true => exact bad (by unfold permF; rw [if_neg h1, if_pos h2, if_pos h3]) fun h => by have := h.2.1 i (by omega) (by omega) (by omega); rw [h3] at this; cases this
        | false =>
          refine good (upd met (p i).toNat true) (by unfold permF; rw [if_neg h1, if_pos h2, if_neg (by simp [h3])]) ?_
          unfold FreeFrom
          rw [OkFrom.step (by omega)]
          constructor
          · rintro ⟨⟨_, a⟩, b, c⟩
            refine ⟨a, fun j g1 g2 g3 => ?_, fun x y g1 g2 g3 g4 => c x y (by omega) g2 g3 g4⟩
            rw [upd_at, if_neg (fun e => c i j (by omega) (by omega) g2 g3 e.symm)]
            exact b j (by omega) g2 g3
          · rintro ⟨a, b, c⟩
            have b' : ∀ j, i + 1 <= j -> j < n -> j < w -> (p j).toNat ≠ (p i).toNat ∧ met (p j).toNat = false := by
              intro j g1 g2 g3
              have := b j g1 g2 g3
              rw [upd_at] at this
              split at this
              · cases this
              · rename_i e; exact ⟨e, this⟩
            refine ⟨⟨⟨fun h => by omega, fun _ => h2⟩, a⟩, fun j g1 g2 g3 => ?_, fun x y g1 g2 g3 g4 => ?_⟩
            · by_cases e : j = i
              · subst e; exact h3
              · exact (b' j (by omega) g2 g3).2
            · by_cases e : x = i
              · subst e; exact fun e => (b' y (by omega) g3 g4).1 e.symm
              · exact c x y (by omega) g2 g3 g4
      · exact bad (by unfold permF; rw [if_neg h1, if_neg h2]) fun h => h2 ((h.1 i (by omega) (by omega)).2 (by omega))
theorem perm_val (w : Nat) (hw : w <= 64) (z : β) (n : Nat) (hnw : n <= w) (p : Nat -> Int) (hp : ∀ j, 0 <= p j) (k : Bool -> β) {N : Nat} (hN : w < N) :
    permL w z n p N 0 (fun _ => false) (fun _ => k false) (fun _ => k true) = k (permB w n p) := by
  rw [permL_val w hw z n hnw p hp _ _ hN]
  rcases permF_run (w := w) (n := n) (p := p) w 0 (fun _ => false) (by omega) with ⟨⟨m, h1⟩, h2, _, h3⟩ | ⟨h1, h2⟩
  · rw [h1]
    refine congrArg k (permB_of ⟨fun _ => ⟨fun j a b => (h2 j (by omega) b).1 a, fun j a => (h2 j (by omega) (by omega)).2 a, fun i j a b e => ?_⟩, fun _ => rfl⟩)
    rcases Nat.lt_trichotomy i j with g | g | g
    · exact absurd (by rw [e]) (h3 i j (by omega) g b (by omega))
    · exact g
    · exact absurd (by rw [e]) (h3 j i (by omega) g a (by omega))
  · rw [h1]
    refine congrArg k (permB_of ⟨fun h => (by cases h), fun h => absurd ⟨fun j _ b => ⟨fun a => h.1 j a b, fun a => h.2.1 j a⟩, fun _ _ _ _ => rfl, fun a b _ g1 g2 _ e => ?_⟩ h2⟩)
    have := h.2.2 a b (by omega) g2 (by have := hp a; have := hp b; omega)
    omega
end perm
end Go.AM
namespace Go.AM
section
variable {β : Type}
theorem i_within_val (z : β) (N : Nat) (x lo hi : Int) (k : Bool -> β) : i_within z N x lo hi k = k (decide (lo <= x ∧ x <= hi)) := by
  unfold i_within
  by_cases h : lo <= x
  · rw [c_le h]; congr 1; exact decide_eq_decide.2 ⟨fun h2 => ⟨h, h2⟩, fun h2 => h2.2⟩
  · rw [c_nle (by omega), decide_eq_false (fun h2 => h h2.1)]
theorem s_l01In_val (z : β) (N : Nat) (x lo hi : Int) (k : Bool -> β) : s_l01In z N x lo hi k = k (decide (lo <= x ∧ x <= hi)) := by
  unfold s_l01In
  by_cases h : lo <= x
  · rw [c_le h]; congr 1; exact decide_eq_decide.2 ⟨fun h2 => ⟨h, h2⟩, fun h2 => h2.2⟩
  · rw [c_nle (by omega), decide_eq_false (fun h2 => h h2.1)]
end
end Go.AM
namespace Go.AM
section
variable {β : Type}
theorem isOrder_s2_ordL (z : β) (n a : Int) (h g : Nat -> Int) : ∀ m s t k0 k1, i_isOrder_l0_s2 z n a h g m s t k0 k1 = ordL 8 z n h m s t k0 k1 := by
  intro m
  induction m with
  | zero => intros; rfl
  | succ m ih => intro s t k0 k1; simp only [i_isOrder_l0_s2, ordL, ih]; rfl
theorem isOrder_s3_ordL (z : β) (n a : Int) (h g : Nat -> Int) : ∀ m s t k0 k1, i_isOrder_l0_s3 z n a h g m s t k0 k1 = ordL 8 z n g m s t k0 k1 := by
  intro m
  induction m with
  | zero => intros; rfl
  | succ m ih => intro s t k0 k1; simp only [i_isOrder_l0_s3, ordL, ih]; rfl
theorem l01Perm_permL (z : β) (n : Int) (h : Nat -> Int) : ∀ m i s k0 k1, s_l01Perm_l0 z n h m i s k0 k1 = permL 8 z n h m i s k0 k1 := by
  intro m
  induction m with
  | zero => intros; rfl
  | succ m ih => intro s t k0 k1; simp only [s_l01Perm_l0, permL, ih]; rfl
theorem s_l01Perm_val (z : β) {N : Nat} (hN : 8 < N) {m : Nat} (hm : m <= 8) (X : Nat -> Int) (hX : ∀ j, 0 <= X j) (k : Bool -> β) : s_l01Perm z N X m k = k (permB 8 m X) := by
  unfold s_l01Perm
  rw [l01Perm_permL]
  exact perm_val 8 (by omega) z m hm X hX k hN
theorem i_isOrder_s2_val (z : β) {N : Nat} (hN : 8 < N) {m : Nat} (h1 : 1 <= m) (hm : m <= 8) (a : Int) (X O : Nat -> Int) (hX : ∀ j, 0 <= X j) (k : Bool -> β) : i_isOrder_s2 z N m a X O k = k (permB 8 m X) := by
  unfold i_isOrder_s2
  rw [isOrder_s2_ordL]
  exact ord_val 8 (by omega) z m h1 hm hm X hX k hN
theorem i_isOrder_s3_val (z : β) {N : Nat} (hN : 8 < N) {m : Nat} (h1 : 1 <= m) (hm : m <= 8) (a : Int) (X O : Nat -> Int) (hO : ∀ j, 0 <= O j) (k : Bool -> β) : i_isOrder_s3 z N m a X O k = k (permB 8 m O) := by
  unfold i_isOrder_s3
  rw [isOrder_s3_ordL]
  exact ord_val 8 (by omega) z m h1 hm hm O hO k hN
def apartB (n : Nat) (X O : Nat -> Int) : Bool := allFrom (fun i => !(X i == O i)) n 0
noncomputable def gridB (n : Int) (X O : Nat -> Int) : Bool := decide (2 <= n ∧ n <= 8) && (permB 8 n.toNat X && (permB 8 n.toNat O && apartB n.toNat X O))
structure GridP (n : Nat) (X O : Nat -> Int) : Prop where
  lo : 2 <= n
  hi : n <= 8
  px : PermP 8 n X
  po : PermP 8 n O
  ne : ∀ i, i < n -> X i ≠ O i
theorem gridB_iff {n : Int} {X O : Nat -> Int} : gridB n X O = true ↔ ∃ m : Nat, n = m ∧ GridP m X O := by
  unfold gridB
  simp only [Bool.and_eq_true, decide_eq_true_eq, permB_iff, apartB, allFrom_iff]
  constructor
  · rintro ⟨⟨h1, h2⟩, h3, h4, h5⟩
    refine ⟨n.toNat, by omega, by omega, by omega, h3, h4, fun i hi => ?_⟩
    have := h5 i (by omega) (by omega)
    simpa using this
  · rintro ⟨m, rfl, g⟩
    have := g.lo
    have := g.hi
    refine ⟨by omega, g.px, g.po, fun j _ h => ?_⟩
    have := g.ne j (by simpa using h)
    simpa using this
theorem gridB_false {n : Int} {X O : Nat -> Int} (h : ¬ (2 <= n ∧ n <= 8)) : gridB n X O = false := by unfold gridB; rw [decide_eq_false h]; rfl
theorem s_l01Is_val (z : β) {N : Nat} (hN : 8 < N) (n : Int) (X O : Nat -> Int) (hX : ∀ j, 0 <= X j) (hO : ∀ j, 0 <= O j) (k : Bool -> β) : s_l01Is z N n X O k = k (gridB n X O) := by
  unfold s_l01Is
  rw [s_l01In_val]
  by_cases h : 2 <= n ∧ n <= 8
  · obtain ⟨m, rfl⟩ : ∃ m : Nat, n = (m : Int) := ⟨n.toNat, by omega⟩
    simp only [decide_eq_true h, Bool.not_true, c_false]
    rw [s_l01Perm_val z hN (by omega) X hX]
    unfold gridB
    rw [decide_eq_true h, Int.toNat_natCast]
    cases permB 8 m X with
    | false => rfl
    | true =>
      simp only [Bool.not_true, c_false, Bool.true_and]
      rw [s_l01Perm_val z hN (by omega) O hO]
      cases permB 8 m O with
      | false => rfl
      | true =>
        simp only [Bool.not_true, c_false, Bool.true_and]
        have := up_to_all (L := fun j i => s_l01Is_l0 z m X O j (i : Int) (k false) (k true)) (n := m) (kt := k true) (kf := k false) (p := fun i => !(X i == O i))
          (fun j i hi => by
            simp only [s_l01Is_l0, s_l01Is_l0_s, c_and, Int.toNat_natCast]
            simp (disch := omega) only [c_lt, c_le, c_blt, c_fits, c_not]
            rfl)
          (fun j => by simp (disch := omega) only [s_l01Is_l0, s_l01Is_l0_s, c_nlt]) m N 0 (by omega) (by omega)
        refine this.trans ?_
        unfold apartB
        cases allFrom (fun i => !(X i == O i)) m 0 <;> rfl
  · simp only [decide_eq_false h, Bool.not_false, c_true]
    rw [gridB_false h]
theorem i_IsGrid_val (z : β) {N : Nat} (hN : 8 < N) (n : Int) (X O : Nat -> Int) (hX : ∀ j, 0 <= X j) (hO : ∀ j, 0 <= O j) (k : Bool -> β) : i_IsGrid z N n X O k = k (gridB n X O) := by
  unfold i_IsGrid
  rw [i_within_val]
  by_cases h : 2 <= n ∧ n <= 8
  · obtain ⟨m, rfl⟩ : ∃ m : Nat, n = (m : Int) := ⟨n.toNat, by omega⟩
    simp only [decide_eq_true h, Bool.not_true, c_false, i_Grid_n]
    rw [i_isOrder_s2_val z hN (by omega) (by omega) _ X O hX]
    unfold gridB
    rw [decide_eq_true h, Int.toNat_natCast]
    cases permB 8 m X with
    | false => rfl
    | true =>
      simp only [Bool.not_true, c_false, Bool.true_and]
      rw [i_isOrder_s3_val z hN (by omega) (by omega) _ X O hO]
      cases permB 8 m O with
      | false => rfl
      | true =>
        simp only [Bool.not_true, c_false, Bool.true_and]
        have := up_to_all (L := fun j i => i_IsGrid_l0 z m m X O j (i : Int) (k false) (k true)) (n := m) (kt := k true) (kf := k false) (p := fun i => !(X i == O i))
          (fun j i hi => by
            simp only [i_IsGrid_l0, i_IsGrid_l0_s, c_and, Int.toNat_natCast]
            simp (disch := omega) only [c_lt, c_le, c_blt, c_fits, c_not]
            rfl)
          (fun j => by simp (disch := omega) only [i_IsGrid_l0, i_IsGrid_l0_s, c_nlt]) m N 0 (by omega) (by omega)
        refine this.trans ?_
        unfold apartB
        cases allFrom (fun i => !(X i == O i)) m 0 <;> rfl
  · simp only [decide_eq_false h, Bool.not_false, c_true]
    rw [gridB_false h]
end
end Go.AM
namespace Go.AM
section
variable {β : Type}
end
end Go.AM
namespace Go.AM
section
variable {β : Type}
theorem tmod_pos {a b : Int} (ha : 0 <= a) : a.tmod b = a % b := Int.tmod_eq_emod_of_nonneg ha
theorem tmod_bnd {a b : Int} (hb : 0 < b) : -b < a.tmod b ∧ a.tmod b < b := by
  refine ⟨?_, Int.tmod_lt_of_pos a hb⟩
  have := Int.tmod_lt_of_pos (-a) hb
  rw [Int.neg_tmod] at this
  omega
theorem tmod_twice (a : Int) {n : Int} (hn : 0 < n) : (a.tmod n + n).tmod n = a % n := by
  have h := tmod_bnd (a := a) hn
  rw [tmod_pos (by omega), Int.add_emod_right]
  have h1 : a.tmod n = a - n * a.tdiv n := by have := Int.mul_tdiv_add_tmod a n; omega
  rw [h1]
  have : a - n * a.tdiv n = a + n * (-(a.tdiv n)) := by rw [Int.mul_neg]; omega
  rw [this, Int.add_mul_emod_self_left]
theorem emod_bd (a : Int) {n : Int} (hn : 0 < n) : 0 <= a % n ∧ a % n < n := ⟨Int.emod_nonneg a (by omega), Int.emod_lt_of_pos a hn⟩
def rollF (n : Nat) (X O : Nat -> Int) (v u : Int) (i : Nat) (h : (Nat -> Int) × (Nat -> Int)) : (Nat -> Int) × (Nat -> Int) :=
  (upd h.1 ((i + u) % (n : Int)).toNat (wrapU .u8 ((X i + v) % (n : Int))), upd h.2 ((i + u) % (n : Int)).toNat (wrapU .u8 ((O i + v) % (n : Int))))
def rollP (n : Nat) (X O : Nat -> Int) (v u : Int) : (Nat -> Int) × (Nat -> Int) := iter (rollF n X O v u) n 0 (fun _ => 0, fun _ => 0)
theorem s_l01Rolled_val (z : β) {N : Nat} (hN : 8 < N) {n : Nat} {X O : Nat -> Int} (h2 : 2 <= n) (h8 : n <= 8) (hX : ∀ j, 0 <= X j ∧ X j <= 255) (hO : ∀ j, 0 <= O j ∧ O j <= 255) {v u : Int} (hv : -1000 <= v ∧ v <= 1000) (hu : -1000 <= u ∧ u <= 1000) (k0 : (Nat -> Int) -> (Nat -> Int) -> β) :
    s_l01Rolled z N n X O v u k0 = k0 (rollP n X O v u).1 (rollP n X O v u).2 := by
  unfold s_l01Rolled
  refine up_to (L := fun m i (h : (Nat -> Int) × (Nat -> Int)) => s_l01Rolled_l0 z v u n n X O 0 (fun _ => 0) (fun _ => 0) n m (i : Int) h.1 h.2 k0) (n := n) (out := fun h => k0 h.1 h.2) (f := rollF n X O v u) (I := fun _ _ => True)
    (fun m i s hi _ => ⟨?_, trivial⟩) (fun m s _ => by simp (disch := omega) only [s_l01Rolled_l0, s_l01Rolled_l0_s, c_nlt]) n N 0 (fun _ => 0, fun _ => 0) (by omega) (by omega) trivial
  have h1 := hX i
  have h3 := hO i
  have hn : (0 : Int) < n := by omega
  have b1 := tmod_bnd (a := (i : Int) + u) hn
  have b2 := tmod_bnd (a := X i + v) hn
  have b3 := tmod_bnd (a := O i + v) hn
  have b4 := emod_bd ((i : Int) + u) hn
  simp only [s_l01Rolled_l0, s_l01Rolled_l0_s, c_and, c_not, Int.toNat_natCast, tmod_twice _ hn]
  simp (disch := omega) only [c_lt, c_le, c_blt, c_fits, c_neq]
  rfl
end
end Go.AM
namespace Go.AM
section
variable {β : Type}
theorem wrapD {x : Int} (h : 0 <= x ∧ x <= 255) : wrapU .u8 x = x := by
  show x % 256 = x
  omega
structure Src (hn : Nat) (h : Nat -> Int) (n l : Nat) : Prop where
  eq : n = hn
  le : l <= hn
  sm : l <= 4096
  b : ∀ j, j < hn -> 0 <= h j ∧ h j <= 255
theorem and_bd (x : Int) : 0 <= bitI .and .u64 x 16777215 ∧ bitI .and .u64 x 16777215 <= 16777215 := by
  rw [bitI_eq]
  have e : bitJ .and .u64 x 16777215 = IntKind.wrap .u64 ((BitVec.ofInt 64 x &&& BitVec.ofInt 64 16777215).toNat : Int) := rfl
  have e2 : (BitVec.ofInt 64 16777215).toNat = 16777215 := by decide
  have h : (BitVec.ofInt 64 x &&& BitVec.ofInt 64 16777215).toNat <= 16777215 := by
    rw [BitVec.toNat_and, e2]
    exact Nat.and_le_right
  rw [e, wrap_fits]
  · omega
  · rw [fits_iff]
    show (0 : Int) <= _ ∧ _ <= (18446744073709551615 : Int)
    omega
theorem next_val (z : β) (N : Nat) {hn n l : Nat} {h : Nat -> Int} (S : Src hn h n l) (c : Nat) (m : Int) {a : Int} (ha : 0 <= a) (b : Int) :
    ∃ v a' b' : Int, 0 <= a' ∧ (1 <= m -> 0 <= v ∧ v < m) ∧ (m < 1 -> v = 0) ∧ ∀ k, s_l01Next_s2 z N m hn h n l c a b k = k v a' b' := by
  have hq := S.eq
  have hl := S.le
  have hs := S.sm
  have hb := S.b
  by_cases hm : m < 1
  · exact ⟨0, a, b, ha, fun h => by omega, fun _ => rfl, fun k => by unfold s_l01Next_s2; rw [c_lt hm]⟩
  · obtain ⟨b', hb'⟩ : ∃ b', wrapU .u64 (wrapU .u64 (b * 6364136223846793005) + 1442695040888963407) = b' := ⟨_, rfl⟩
    obtain ⟨x, hxe⟩ : ∃ x, bitI BinOp.and IntKind.u64 (shrI b' 33) 16777215 = x := ⟨_, rfl⟩
    have hx := and_bd (shrI b' 33)
    rw [hxe] at hx
    by_cases e : a < l
    · have hc := hb a.toNat (by omega)
      refine ⟨(x + h a.toNat).tmod m, a + 1, b', by omega, fun _ => ⟨Int.tmod_nonneg _ (by omega), Int.tmod_lt_of_pos _ (by omega)⟩, fun h => absurd h hm, fun k => ?_⟩
      unfold s_l01Next_s2
      simp only [c_and, c_not, hb', hxe]
      simp (disch := omega) only [c_nlt, c_lt, c_le, c_ble, c_blt, c_beq, c_fits, c_neq]
    · refine ⟨x.tmod m, a, b', ha, fun _ => ⟨Int.tmod_nonneg _ (by omega), Int.tmod_lt_of_pos _ (by omega)⟩, fun h => absurd h hm, fun k => ?_⟩
      unfold s_l01Next_s2
      simp only [c_and, c_not, hb', hxe]
      simp (disch := omega) only [c_nlt, c_lt, c_le, c_ble, c_blt, c_beq, c_fits, c_neq]
theorem from_val (z : β) {N : Nat} (hN : 5000 < N) {hn n l : Nat} {h : Nat -> Int} (S : Src hn h n l) (c : Nat) : ∃ b : Int, ∀ k, s_l01From z N n l c hn h k = k 0 b := by
  have hq := S.eq
  have hl := S.le
  have hs := S.sm
  refine ⟨iter (fun i b => wrapU .u64 (wrapU .u64 (wrapU .u64 (b * 1099511628211) + h i) + 43)) l 0 (wrapU .u64 (10711 + wrapU .u64 (↑l : Int))), fun k => ?_⟩
  · unfold s_l01From
    rw [c_ble (by omega)]
    exact up_to (L := fun m i b => s_l01From_l0 z n l c hn h n l c 0 m (i : Int) b fun q8 => k 0 q8) (n := l) (out := fun b => k 0 b) (f := fun i b => wrapU .u64 (wrapU .u64 (wrapU .u64 (b * 1099511628211) + h i) + 43)) (I := fun _ _ => True)
      (fun m i s hi _ => ⟨by
        rw [s_l01From_l0, s_l01From_l0_s]
        simp only [c_and, Int.toNat_natCast]
        simp (disch := omega) only [c_lt, c_le, c_ble, c_blt, c_beq, c_fits]
        rfl, trivial⟩)
      (fun m s _ => by
        rw [s_l01From_l0, s_l01From_l0_s]
        simp (disch := omega) only [c_ble, c_nlt]) l N 0 _ (by omega) (by omega) trivial
structure BndC (n : Nat) (f : Nat -> Int) : Prop where
  b : ∀ j, j < n -> 0 <= f j ∧ f j < n
  z : ∀ j, n <= j -> f j = 0
theorem BndC.upd {n i : Nat} {f : Nat -> Int} {v : Int} (h : BndC n f) (hi : i < n) (hv : 0 <= v ∧ v < n) : BndC n (upd f i v) :=
  ⟨fun j hj => by rw [upd_at]; split; exact hv; exact h.b j hj, fun j hj => by rw [upd_at, if_neg (by omega)]; exact h.z j hj⟩
theorem BndC.nn {n : Nat} {f : Nat -> Int} (h : BndC n f) (j : Nat) : 0 <= f j := by
  rcases Nat.lt_or_ge j n with hj | hj
  · exact (h.b j hj).1
  · rw [h.z j hj]; exact Int.le_refl 0
theorem BndC.le {n : Nat} {f : Nat -> Int} (h : BndC n f) (h8 : n <= 256) (j : Nat) : f j <= 255 := by
  rcases Nat.lt_or_ge j n with hj | hj
  · have := h.b j hj; omega
  · rw [h.z j hj]; omega
theorem BndC.zero (n : Nat) (h : 1 <= n) : BndC n fun _ => 0 := ⟨fun _ _ => by constructor <;> simp <;> omega, fun _ _ => rfl⟩
theorem up_to_exD {σ κ : Type} {L : κ -> Nat -> Nat -> σ -> β} {n : Nat} {out : κ -> σ -> β} {I : Nat -> σ -> Prop}
    (hs : ∀ i s, i < n -> I i s -> ∃ s', (∀ k m, L k (m + 1) i s = L k m (i + 1) s') ∧ I (i + 1) s') (he : ∀ k m s, I n s -> L k (m + 1) n s = out k s) :
    ∀ (d i : Nat) (s : σ), i + d = n -> I i s -> ∃ s', I n s' ∧ ∀ k m, d < m -> L k m i s = out k s' := by
  intro d
  induction d with
  | zero =>
    intro i s hi h0
    have : i = n := by omega
    subst this
    refine ⟨s, h0, fun k m hm => ?_⟩
    obtain ⟨m, rfl⟩ : ∃ m', m = m' + 1 := ⟨m - 1, by omega⟩
    exact he k m s h0
  | succ d ih =>
    intro i s hi h0
    obtain ⟨s', h1, h2⟩ := hs i s (by omega) h0
    obtain ⟨s'', h3, h4⟩ := ih (i + 1) s' (by omega) h2
    refine ⟨s'', h3, fun k m hm => ?_⟩
    obtain ⟨m, rfl⟩ : ∃ m', m = m' + 1 := ⟨m - 1, by omega⟩
    rw [h1]
    exact h4 k m (by omega)
theorem mixed_l0 (z : β) {N n : Nat} (hN : 8 < N) (h1 : 1 <= n) (h8 : n <= 8) (hn : Nat) (h : Nat -> Int) (n' l c : Nat) (a b : Int) (h2 : Nat -> Int) :
    ∃ f, BndC n f ∧ ∀ k, s_l01Mixed_l0_s2 z n hn h n' l c a b h2 N 0 (fun (x : Nat) => 0) k = k f := by
  obtain ⟨f, i1, i2⟩ := up_to_exD (κ := (Nat -> Int) -> β) (L := fun k m i f => s_l01Mixed_l0_s2 z n hn h n' l c a b h2 m (i : Int) f k) (n := n) (out := fun k => k) (I := fun _ f => BndC n f)
    (fun i s hi hs => ⟨upd s i i, fun k m => by
      rw [s_l01Mixed_l0_s2, s_l01Mixed_l0_s2_s]
      simp only [c_and, Int.toNat_natCast]
      simp (disch := omega) only [c_lt, c_le, c_blt, c_fits]
      rw [wrapD (by omega)]
      rfl, hs.upd hi (by omega)⟩)
    (fun k m s _ => by rw [s_l01Mixed_l0_s2, s_l01Mixed_l0_s2_s, c_nlt (by omega)]) n 0 (fun _ => 0) (by omega) (BndC.zero n h1)
  exact ⟨f, i1, fun k => i2 k N (by omega)⟩
theorem mixed_l1 (z : β) {N : Nat} {hn n' l : Nat} {h : Nat -> Int} (S : Src hn h n' l) (c : Nat) {n : Nat} (h8 : n <= 8) (h2 : Nat -> Int) :
    ∀ (i : Nat), i < n -> ∀ (f : Nat -> Int) (a b : Int), BndC n f -> 0 <= a -> ∃ a' b' f', 0 <= a' ∧ BndC n f' ∧ ∀ k m, i < m -> s_l01Mixed_l1_s2 z N hn h n' l c h2 m i a b f k = k a' b' f' := by
  intro i
  induction i with
  | zero =>
    intro hi f a b hf ha
    refine ⟨a, b, f, ha, hf, fun k m hm => ?_⟩
    obtain ⟨m, rfl⟩ : ∃ m', m = m' + 1 := ⟨m - 1, by omega⟩
    rw [s_l01Mixed_l1_s2, s_l01Mixed_l1_s2_s, c_nlt (by omega)]
  | succ i ih =>
    intro hi f a b hf ha
    obtain ⟨v, a1, b1, ha1, hv, _, e⟩ := next_val z N S c (((i + 1 : Nat) : Int) + 1) ha b
    have hv := hv (by omega)
    obtain ⟨q, rfl⟩ : ∃ q : Nat, v = q := ⟨v.toNat, by omega⟩
    obtain ⟨a', b', f', ha', hf', e'⟩ := ih (by omega) (upd (upd f (i + 1) (f q)) q (f (i + 1))) a1 b1 ((hf.upd hi (hf.b q (by omega))).upd (by omega) (hf.b (i + 1) hi)) ha1
    refine ⟨a', b', f', ha', hf', fun k m hm => ?_⟩
    obtain ⟨m, rfl⟩ : ∃ m', m = m' + 1 := ⟨m - 1, by omega⟩
    rw [s_l01Mixed_l1_s2, s_l01Mixed_l1_s2_s, c_lt (by omega), c_fits (by omega), e]
    simp only [c_and, Int.toNat_natCast]
    simp (disch := omega) only [c_lt, c_le, c_blt, c_fits]
    rw [show ((i + 1 : Nat) : Int) - 1 = i by omega]
    exact e' k m (by omega)
theorem mixed_val (z : β) {N : Nat} (hN : 100 < N) {hn n' l : Nat} {h : Nat -> Int} (S : Src hn h n' l) (c : Nat) {n : Nat} (h1 : 1 <= n) (h8 : n <= 8) {a : Int} (ha : 0 <= a) (b : Int) :
    ∃ f a' b', BndC n f ∧ 0 <= a' ∧ ∀ k, s_l01Mixed_s2 z N n hn h n' l c a b k = k f a' b' := by
  obtain ⟨f0, i1, e1⟩ := mixed_l0 z (N := N) (by omega) h1 h8 hn h n' l c a b (fun (x : Nat) => 0)
  obtain ⟨a', b', f', ha', hf', e'⟩ := mixed_l1 z (N := N) S c h8 (fun (x : Nat) => 0) (n - 1) (by omega) f0 a b i1 ha
  refine ⟨f', a', b', hf', ha', fun k => ?_⟩
  unfold s_l01Mixed_s2
  rw [e1, c_fits (by omega), show ((n : Int) - 1) = ((n - 1 : Nat) : Int) by omega, e' _ N (by omega)]
theorem ds_l0 (z : β) {N n : Nat} (hN : 100 < N) (h2 : 2 <= n) (h8 : n <= 8) (hn : Nat) (h : Nat -> Int) (n' l c : Nat) (a b y0 : Int) (y1 y2 x : Nat -> Int) {f : Nat -> Int} (hf : BndC n f) :
    ∃ f', BndC n f' ∧ ∀ k, s_l01DrawSize_l0_s2 z n hn h n' l c a b y0 y1 y2 x N 0 f k = k f' := by
  obtain ⟨f', i1, i2⟩ := up_to_exD (κ := (Nat -> Int) -> β) (L := fun k m i f => s_l01DrawSize_l0_s2 z n hn h n' l c a b y0 y1 y2 x m (i : Int) f k) (n := 3 * n) (out := fun k => k) (I := fun _ f => BndC n f)
    (fun i s hi hs => by
      have t1 : ((i : Int)).tmod n = ((i % n : Nat) : Int) := by rw [Int.tmod_eq_emod_of_nonneg (by omega)]; rfl
      have t2 : (((i % n : Nat) : Int) + 1).tmod n = (((i % n + 1) % n : Nat) : Int) := by rw [Int.tmod_eq_emod_of_nonneg (by omega)]; rfl
      have l1 : i % n < n := Nat.mod_lt _ (by omega)
      have l2 : (i % n + 1) % n < n := Nat.mod_lt _ (by omega)
      generalize i % n = p at *
      generalize hq : (p + 1) % n = q at *
      by_cases e : x p = s p
      · refine ⟨upd (upd s p (s q)) q (s p), fun k m => ?_, (hs.upd l1 (hs.b q l2)).upd l2 (hs.b p l1)⟩
        rw [s_l01DrawSize_l0_s2, s_l01DrawSize_l0_s2_s]
        simp only [c_and, c_not, t1, t2, Int.toNat_natCast]
        simp (disch := omega) only [c_lt, c_le, c_blt, c_fits, c_neq, c_eq]
        rfl
      · refine ⟨s, fun k m => ?_, hs⟩
        rw [s_l01DrawSize_l0_s2, s_l01DrawSize_l0_s2_s]
        simp only [c_and, c_not, t1, t2, Int.toNat_natCast]
        have e2 : cond (x p == s p) = fun (a b : β) => b := by funext a b; exact c_neq e
        simp (disch := omega) only [c_lt, c_le, c_blt, c_fits, e2]
        rw [c_neq (by omega)]
        rfl)
    (fun k m s _ => by rw [s_l01DrawSize_l0_s2, s_l01DrawSize_l0_s2_s, c_fits (by omega), c_nlt (by omega)]) (3 * n) 0 f (by omega) hf
  exact ⟨f', i1, fun k => i2 k N (by omega)⟩
theorem ds_l1 (z : β) {N n : Nat} (hN : 100 < N) (h2 : 2 <= n) (h8 : n <= 8) (hn : Nat) (h : Nat -> Int) (n' l c : Nat) (a b y0 y5 : Int) (y1 y2 y4 y6 : Nat -> Int) {x f : Nat -> Int} (hx : BndC n x) (hf : BndC n f) :
    ∃ f', BndC n f' ∧ ∀ k, s_l01DrawSize_l1_s2 z n hn h n' l c a b y0 y1 y2 x y4 y5 y6 N 0 f k = k f' := by
  obtain ⟨f', i1, i2⟩ := up_to_exD (κ := (Nat -> Int) -> β) (L := fun k m i f => s_l01DrawSize_l1_s2 z n hn h n' l c a b y0 y1 y2 x y4 y5 y6 m (i : Int) f k) (n := n) (out := fun k => k) (I := fun _ f => BndC n f)
    (fun i s hi hs => by
      have hb := hx.b i hi
      have q1 : 0 <= (x i + 1).tmod n ∧ (x i + 1).tmod n < n := ⟨Int.tmod_nonneg _ (by omega), Int.tmod_lt_of_pos _ (by omega)⟩
      refine ⟨upd s i ((x i + 1).tmod n), fun k m => ?_, hs.upd hi q1⟩
      rw [s_l01DrawSize_l1_s2, s_l01DrawSize_l1_s2_s]
      simp only [c_and, c_not, Int.toNat_natCast, wrapD (show 0 <= (x i + 1).tmod n ∧ (x i + 1).tmod n <= 255 by omega)]
      simp (disch := omega) only [c_lt, c_le, c_blt, c_fits, c_neq]
      rfl)
    (fun k m s _ => by rw [s_l01DrawSize_l1_s2, s_l01DrawSize_l1_s2_s, c_nlt (by omega)]) n 0 f (by omega) hf
  exact ⟨f', i1, fun k => i2 k N (by omega)⟩
theorem size_val (z : β) {N : Nat} (hN : 100 < N) {hn n' l : Nat} {h : Nat -> Int} (S : Src hn h n' l) (c : Nat) {n : Nat} (h2 : 2 <= n) (h8 : n <= 8) {a : Int} (ha : 0 <= a) (b : Int) :
    ∃ X O a' b', BndC n X ∧ BndC n O ∧ 0 <= a' ∧ ∀ k, s_l01DrawSize_s2 z N n hn h n' l c a b k = k X O a' b' := by
  obtain ⟨X, a1, b1, hX, ha1, e1⟩ := mixed_val z hN S c (by omega : 1 <= n) h8 ha b
  obtain ⟨O, a2, b2, hO, ha2, e2⟩ := mixed_val z hN S c (by omega : 1 <= n) h8 ha1 b1
  obtain ⟨O2, hO2, e3⟩ := ds_l0 z (N := N) hN h2 h8 hn h n' l c a2 b2 0 (fun (x : Nat) => 0) (fun (x : Nat) => 0) X hO
  cases hg : gridB n X O2 with
  | true =>
    refine ⟨X, O2, a2, b2, hX, hO2, ha2, fun k => ?_⟩
    unfold s_l01DrawSize_s2
    rw [e1, e2, e3, s_l01Is_val z (by omega) _ _ _ hX.nn hO2.nn, hg]
    rfl
  | false =>
    obtain ⟨O3, hO3, e4⟩ := ds_l1 z (N := N) hN h2 h8 hn h n' l c a2 b2 0 n (fun (x : Nat) => 0) (fun (x : Nat) => 0) O2 X hX hO2
    refine ⟨X, O3, a2, b2, hX, hO3, ha2, fun k => ?_⟩
    unfold s_l01DrawSize_s2
    rw [e1, e2, e3, s_l01Is_val z (by omega) _ _ _ hX.nn hO2.nn, hg, Bool.not_false, c_true, e4]
theorem pick3_val (z : β) (N : Nat) {hn n' l : Nat} {h : Nat -> Int} (S : Src hn h n' l) (c : Nat) {a : Int} (ha : 0 <= a) (b : Int) {xs : List Int} (hx : xs.length = 3) :
    ∃ (i : Nat) (a' b' : Int), i < 3 ∧ 0 <= a' ∧ ∀ k, s_l01Pick_s3 z N hn h n' l c a b xs k = k (xs[i]?.getD 0) a' b' := by
  obtain ⟨v, a1, b1, ha1, hv, _, e⟩ := next_val z N S c 3 ha b
  have hv := hv (by omega)
  obtain ⟨q, rfl⟩ : ∃ q : Nat, v = q := ⟨v.toNat, by omega⟩
  refine ⟨q, a1, b1, by omega, ha1, fun k => ?_⟩
  unfold s_l01Pick_s3
  rw [e]
  simp only [c_and, Int.toNat_natCast, hx]
  simp (disch := omega) only [c_lt, c_le, c_blt, c_beq]
theorem pick5_val (z : β) (N : Nat) {hn n' l : Nat} {h : Nat -> Int} (S : Src hn h n' l) (c : Nat) {a : Int} (ha : 0 <= a) (b : Int) {xs : List Int} (hx : xs.length = 5) :
    ∃ (i : Nat) (a' b' : Int), i < 5 ∧ 0 <= a' ∧ ∀ k, s_l01Pick_s4 z N hn h n' l c a b xs k = k (xs[i]?.getD 0) a' b' := by
  obtain ⟨v, a1, b1, ha1, hv, _, e⟩ := next_val z N S c 5 ha b
  have hv := hv (by omega)
  obtain ⟨q, rfl⟩ : ∃ q : Nat, v = q := ⟨v.toNat, by omega⟩
  refine ⟨q, a1, b1, by omega, ha1, fun k => ?_⟩
  unfold s_l01Pick_s4
  rw [e]
  simp only [c_and, Int.toNat_natCast, hx]
  simp (disch := omega) only [c_lt, c_le, c_blt, c_beq]
theorem draw_l0 (z : β) {N n : Nat} (hN : 100 < N) (h1 : 1 <= n) (h8 : n <= 8) {p : Int} (hp : 0 <= p ∧ p <= 8) (hn : Nat) (h : Nat -> Int) (n' l c : Nat) (a b y0 y3 : Int) (y1 y2 : Nat -> Int) :
    ∃ X O, BndC n X ∧ BndC n O ∧ ∀ k, s_l01Draw_l0_s2 z p n hn h n' l c a b y0 y1 y2 y3 N 0 (fun (x : Nat) => 0) (fun (x : Nat) => 0) k = k X O := by
  obtain ⟨s, ⟨i1, i2⟩, e⟩ := up_to_exD (κ := (Nat -> Int) -> (Nat -> Int) -> β) (L := fun k m i (s : (Nat -> Int) × (Nat -> Int)) => s_l01Draw_l0_s2 z p n hn h n' l c a b y0 y1 y2 y3 m (i : Int) s.1 s.2 k) (n := n) (out := fun k s => k s.1 s.2) (I := fun _ s => BndC n s.1 ∧ BndC n s.2)
    (fun i s hi ⟨h1, h2⟩ => by
      have q1 : 0 <= ((i : Int) + p).tmod n ∧ ((i : Int) + p).tmod n < n := ⟨Int.tmod_nonneg _ (by omega), Int.tmod_lt_of_pos _ (by omega)⟩
      refine ⟨(upd s.1 i i, upd s.2 i (((i : Int) + p).tmod n)), fun k m => ?_, h1.upd hi (by omega), h2.upd hi q1⟩
      rw [s_l01Draw_l0_s2, s_l01Draw_l0_s2_s]
      simp only [c_and, c_not, Int.toNat_natCast, wrapD (show 0 <= ((i : Int) + p).tmod n ∧ ((i : Int) + p).tmod n <= 255 by omega), wrapD (show 0 <= (i : Int) ∧ (i : Int) <= 255 by omega)]
      simp (disch := omega) only [c_lt, c_le, c_blt, c_fits, c_neq]
      rfl)
    (fun k m s _ => by rw [s_l01Draw_l0_s2, s_l01Draw_l0_s2_s, c_nlt (by omega)]) n 0 (fun _ => 0, fun _ => 0) (by omega) ⟨BndC.zero n h1, BndC.zero n h1⟩
  exact ⟨s.1, s.2, i1, i2, fun k => e k N (by omega)⟩
theorem roll_bnd {n : Nat} (h1 : 1 <= n) (X O : Nat -> Int) (v u : Int) (h8 : n <= 8) : BndC n (rollP n X O v u).1 ∧ BndC n (rollP n X O v u).2 := by
  have := iter_inv (f := rollF n X O v u) (n := n) (I := fun _ s => BndC n s.1 ∧ BndC n s.2) (fun i s _ ⟨a, b⟩ => by
    have hn : (0 : Int) < n := by omega
    have e1 := emod_bd ((i : Int) + u) hn
    have e2 := emod_bd (X i + v) hn
    have e3 := emod_bd (O i + v) hn
    unfold rollF
    rw [wrapD (by omega), wrapD (by omega)]
    exact ⟨a.upd (by omega) e2, b.upd (by omega) e3⟩) n 0 (fun _ => 0, fun _ => 0) (by omega) ⟨BndC.zero n h1, BndC.zero n h1⟩
  exact this
theorem draw_val (z : β) {N : Nat} (hN : 100 < N) {hn n' l : Nat} {h : Nat -> Int} (S : Src hn h n' l) (c : Nat) {a : Int} (ha : 0 <= a) (b : Int) :
    ∃ (n : Nat) (X O : Nat -> Int) (a' b' : Int), 2 <= n ∧ n <= 8 ∧ BndC n X ∧ BndC n O ∧ 0 <= a' ∧ ∀ k, s_l01Draw_s2 z N hn h n' l c a b k = k n X O a' b' := by
  obtain ⟨v, a1, b1, ha1, hv, _, e⟩ := next_val z N S c 6 ha b
  have hv := hv (by omega)
  by_cases v0 : v = 0
  · obtain ⟨p, a2, b2, ha2, hp, _, e2⟩ := next_val z N S c 3 ha1 b1
    have hp := hp (by omega)
    obtain ⟨u, a3, b3, ha3, hu, _, e3⟩ := next_val z N S c (5 - (1 + p)) ha2 b2
    have hu := hu (by omega)
    obtain ⟨n, hn'⟩ : ∃ n : Nat, 1 + p + 1 + u = n := ⟨(1 + p + 1 + u).toNat, by omega⟩
    obtain ⟨X, O, hX, hO, e4⟩ := draw_l0 z (N := N) hN (by omega : 1 <= n) (by omega) (p := 1 + p) (by omega) hn h n' l c a3 b3 0 n (fun (x : Nat) => 0) (fun (x : Nat) => 0)
    obtain ⟨v1, a4, b4, ha4, hv1, _, e5⟩ := next_val z N S c n ha3 b3
    have hv1 := hv1 (by omega)
    obtain ⟨v2, a5, b5, ha5, hv2, _, e6⟩ := next_val z N S c n ha4 b4
    have hv2 := hv2 (by omega)
    obtain ⟨r1, r2⟩ := roll_bnd (by omega : 1 <= n) X O v1 v2 (by omega)
    refine ⟨n, (rollP n X O v1 v2).1, (rollP n X O v1 v2).2, a5, b5, by omega, by omega, r1, r2, ha5, fun k => ?_⟩
    unfold s_l01Draw_s2
    rw [e, c_eq v0, e2, c_fits (by omega), c_fits (by omega), c_fits (by omega), e3, hn', c_fits (by omega), e4, e5, e6, s_l01Rolled_val z (by omega) (by omega) (by omega) (fun j => ⟨hX.nn j, hX.le (by omega) j⟩) (fun j => ⟨hO.nn j, hO.le (by omega) j⟩) (by omega) (by omega)]
  · have size : ∀ (n : Nat) (a b : Int), 2 <= n -> n <= 8 -> 0 <= a -> ∃ X O a' b', BndC n X ∧ BndC n O ∧ 0 <= a' ∧ ∀ k : Int -> (Nat -> Int) -> (Nat -> Int) -> Int -> Int -> β, s_l01DrawSize_s2 z N n hn h n' l c a b (fun q16 q17 q18 q19 => k n q16 q17 q18 q19) = k n X O a' b' := fun n a b h2 h8 ha => by
      obtain ⟨X, O, a', b', h1, h2, h3, h4⟩ := size_val z hN S c h2 h8 ha b
      exact ⟨X, O, a', b', h1, h2, h3, fun k => h4 _⟩
    by_cases v1 : v = 1
    · obtain ⟨i, a2, b2, hi, ha2, e2⟩ := pick3_val z N S c ha1 b1 (xs := (((List.replicate 3 (0 : Int)).set 0 6).set 1 7).set 2 8) rfl
      obtain ⟨n, hn', h2, h8⟩ : ∃ n : Nat, ((((List.replicate 3 (0 : Int)).set 0 6).set 1 7).set 2 8)[i]?.getD 0 = n ∧ 2 <= n ∧ n <= 8 := by
        have : i = 0 ∨ i = 1 ∨ i = 2 := by omega
        rcases this with rfl | rfl | rfl
        · exact ⟨6, rfl, by omega, by omega⟩
        · exact ⟨7, rfl, by omega, by omega⟩
        · exact ⟨8, rfl, by omega, by omega⟩
      obtain ⟨X, O, a3, b3, hX, hO, ha3, e3⟩ := size n a2 b2 h2 h8 ha2
      refine ⟨n, X, O, a3, b3, h2, h8, hX, hO, ha3, fun k => ?_⟩
      unfold s_l01Draw_s2
      rw [e, c_neq v0, c_eq v1, e2, hn', e3]
    · obtain ⟨i, a2, b2, hi, ha2, e2⟩ := pick5_val z N S c ha1 b1 (xs := (((((List.replicate 5 (0 : Int)).set 0 2).set 1 3).set 2 4).set 3 5).set 4 5) rfl
      obtain ⟨n, hn', h2, h8⟩ : ∃ n : Nat, ((((((List.replicate 5 (0 : Int)).set 0 2).set 1 3).set 2 4).set 3 5).set 4 5)[i]?.getD 0 = n ∧ 2 <= n ∧ n <= 8 := by
        have : i = 0 ∨ i = 1 ∨ i = 2 ∨ i = 3 ∨ i = 4 := by omega
        rcases this with rfl | rfl | rfl | rfl | rfl
        · exact ⟨2, rfl, by omega, by omega⟩
        · exact ⟨3, rfl, by omega, by omega⟩
        · exact ⟨4, rfl, by omega, by omega⟩
        · exact ⟨5, rfl, by omega, by omega⟩
        · exact ⟨5, rfl, by omega, by omega⟩
      obtain ⟨X, O, a3, b3, hX, hO, ha3, e3⟩ := size n a2 b2 h2 h8 ha2
      refine ⟨n, X, O, a3, b3, h2, h8, hX, hO, ha3, fun k => ?_⟩
      unfold s_l01Draw_s2
      rw [e, c_neq v0, c_neq v1, e2, hn', e3]
structure Byt (f : Nat -> Int) : Prop where
  b : ∀ j, 0 <= f j ∧ f j <= 255
  z : ∀ j, 8 <= j -> f j = 0
theorem BndC.byt {n : Nat} {f : Nat -> Int} (h : BndC n f) (h8 : n <= 8) : Byt f := ⟨fun j => ⟨h.nn j, h.le (by omega) j⟩, fun j hj => h.z j (by omega)⟩
theorem broken_val (z : β) (N : Nat) {hn n' l : Nat} {h : Nat -> Int} (S : Src hn h n' l) (c : Nat) {n : Nat} (hn8 : n <= 8) {X O : Nat -> Int} (hX : Byt X) (hO : Byt O) {a : Int} (ha : 0 <= a) (b : Int) :
    ∃ (m : Int) (Y P : Nat -> Int) (a' b' : Int), (-1 <= m ∧ m <= 9) ∧ Byt Y ∧ Byt P ∧ 0 <= a' ∧ ∀ k, s_l01Broken_s2 z N n X O hn h n' l c a b k = k m Y P a' b' := by
  obtain ⟨v, a1, b1, ha1, hv, _, e⟩ := next_val z N S c 40 ha b
  by_cases v0 : v = 0
  · obtain ⟨i, a2, b2, hi, ha2, e2⟩ := pick5_val z N S c ha1 b1 (xs := (((((List.replicate 5 (0 : Int)).set 0 0).set 1 1).set 2 9).set 3 (-1)).set 4 ((n : Int) - 1)) rfl
    refine ⟨((((((List.replicate 5 (0 : Int)).set 0 0).set 1 1).set 2 9).set 3 (-1)).set 4 ((n : Int) - 1))[i]?.getD 0, X, O, a2, b2, ?_, hX, hO, ha2, fun k => ?_⟩
    rotate_left 1
    · unfold s_l01Broken_s2
      rw [e, c_eq v0, c_fits (by omega), e2]
    · have : i = 0 ∨ i = 1 ∨ i = 2 ∨ i = 3 ∨ i = 4 := by omega
      rcases this with rfl | rfl | rfl | rfl | rfl
      · show (-1 : Int) <= 0 ∧ (0 : Int) <= 9; omega
      · show (-1 : Int) <= 1 ∧ (1 : Int) <= 9; omega
      · show (-1 : Int) <= 9 ∧ (9 : Int) <= 9; omega
      · show (-1 : Int) <= -1 ∧ (-1 : Int) <= 9; omega
      · show (-1 : Int) <= (n : Int) - 1 ∧ (n : Int) - 1 <= 9; omega
  · by_cases v1 : v = 1
    · obtain ⟨q, a2, b2, ha2, hq, _, e2⟩ := next_val z N S c 8 ha1 b1
      have hq := hq (by omega)
      obtain ⟨w, a3, b3, ha3, hw, _, e3⟩ := next_val z N S c 9 ha2 b2
      have hw := hw (by omega)
      refine ⟨n, X, upd O q.toNat w, a3, b3, by omega, hX, ⟨fun j => ?_, fun j hj => ?_⟩, ha3, fun k => ?_⟩
      · rw [upd_at]; split
        · omega
        · exact hO.b j
      · rw [upd_at, if_neg (by omega)]; exact hO.z j hj
      · unfold s_l01Broken_s2
        rw [e, c_neq v0, c_eq v1, e2, e3]
        simp only [c_and, wrapD (show 0 <= w ∧ w <= 255 by omega)]
        simp (disch := omega) only [c_lt, c_le, c_blt]
    · by_cases v2 : v = 2
      · exact ⟨n, O, O, a1, b1, by omega, hO, hO, ha1, fun k => by unfold s_l01Broken_s2; rw [e, c_neq v0, c_neq v1, c_eq v2]⟩
      · exact ⟨n, X, O, a1, b1, by omega, hX, hO, ha1, fun k => by unfold s_l01Broken_s2; rw [e, c_neq v0, c_neq v1, c_neq v2]⟩
end
end Go.AM
namespace Go.AM
section
variable {β : Type}
theorem spoil1_val (z : β) {N : Nat} (hN : 100 < N) {hn n' l : Nat} {h : Nat -> Int} (S : Src hn h n' l) (c : Nat) {a : Int} (ha : 0 <= a) (b : Int) :
    ∃ (m : Int) (X O : Nat -> Int) (a' b' : Int), (-1 <= m ∧ m <= 9) ∧ Byt X ∧ Byt O ∧ 0 <= a' ∧ ∀ k, s_l01Spoil z N hn h n' l c a b k = k m X O a' b' := by
  obtain ⟨n, X, O, a1, b1, h2, h8, hX, hO, ha1, e1⟩ := draw_val z hN S c ha b
  obtain ⟨m, Y, P, a', b', g1, g2, g3, g4, g5⟩ := broken_val z N S c h8 (hX.byt h8) (hO.byt h8) ha1 b1
  refine ⟨m, Y, P, a', b', g1, g2, g3, g4, fun k => ?_⟩
  unfold s_l01Spoil
  rw [e1, g5]
theorem drawCorners_val (z : β) {N : Nat} (hN : 5000 < N) {hn n l : Nat} {h : Nat -> Int} (S : Src hn h n l) (c : Nat) :
    ∃ (m : Int) (X O : Nat -> Int), Byt X ∧ Byt O ∧ ∀ k, s_DrawCornersOf z N n l c hn h k = k m X O := by
  obtain ⟨b, e0⟩ := from_val z hN S c
  obtain ⟨m, X, O, a1, b1, hm, hX, hO, ha1, e1⟩ := spoil1_val z (by omega : 100 < N) S c (Int.le_refl 0) b
  refine ⟨m, X, O, hX, hO, fun k => ?_⟩
  unfold s_DrawCornersOf
  rw [e0, e1]
end
end Go.AM
namespace Go.AM
section
variable {β : Type}
abbrev idAt (ids : List (Nat × Nat)) (i : Nat) : Nat × Nat := ids[i]?.getD (0, 0)
abbrev rowAt (T : List (List Int)) (i : Nat) : List Int := T[i]?.getD []
structure TabP (ids : List (Nat × Nat)) (pool T : List (List Int)) : Prop where
  len : T.length <= ids.length
  lt : ∀ i, i < T.length -> (idAt ids i).1 < pool.length
  sz : ∀ i, i < T.length -> (idAt ids i).2 = (rowAt T i).length
  row : ∀ i, i < T.length -> rowAt pool (idAt ids i).1 = rowAt T i
  inj : ∀ i j, i < T.length -> j < T.length -> (idAt ids i).1 = (idAt ids j).1 -> i = j
def total (T : List (List Int)) : Nat -> Nat
  | 0 => 0
  | i + 1 => total T i + (rowAt T i).length
structure SmallT (N : Nat) (T : List (List Int)) : Prop where
  rows : T.length < N ∧ T.length <= 1000
  cols : ∀ i, i < T.length -> (rowAt T i).length < N ∧ (rowAt T i).length <= 1000
def MarkR (k0 : Int) (L : Nat) (xs : List Int) : Prop := xs.length = L ∧ ∀ j, j < L -> xs[j]?.getD 0 = k0 + j
theorem rowAt_set {P : List (List Int)} {a : Nat} {ys : List Int} (ha : a < P.length) (b : Nat) : rowAt (P.set a ys) b = if b = a then ys else rowAt P b := by
  unfold rowAt
  rw [List.getElem?_set]
  by_cases e : b = a
  · subst e; rw [if_pos rfl, if_pos ha, if_pos rfl]; rfl
  · rw [if_neg (Ne.symm e), if_neg e]
structure TabM (ids : List (Nat × Nat)) (P T : List (List Int)) : Prop where
  len : T.length <= ids.length
  sz : ∀ i, i < T.length -> (idAt ids i).2 = (rowAt T i).length
  row : ∀ i, i < T.length -> MarkR (1 + total T i) (rowAt T i).length (rowAt P (idAt ids i).1)
def idsOf (T : List (List Int)) : List (Nat × Nat) := (List.range T.length).map fun i => (i, (rowAt T i).length)
theorem idsOf_len (T : List (List Int)) : (idsOf T).length = T.length := by simp [idsOf]
theorem idsOf_at (T : List (List Int)) {i : Nat} (hi : i < T.length) : idAt (idsOf T) i = (i, (rowAt T i).length) := by
  simp [idAt, idsOf, hi]
theorem idsOf_app (T : List (List Int)) (x : List Int) : idsOf (T ++ [x]) = idsOf T ++ [(T.length, x.length)] := by
  unfold idsOf
  rw [List.length_append, List.length_singleton, List.range_succ, List.map_append]
  congr 1
  · refine List.map_congr_left fun i hi => ?_
    rw [List.mem_range] at hi
    unfold rowAt
    rw [List.getElem?_append_left hi]
  · simp [rowAt]
theorem TabP.of_app (T : List (List Int)) : TabP (idsOf T) T T where
  len := by rw [idsOf_len]; exact Nat.le_refl _
  lt i hi := by rw [idsOf_at T hi]; exact hi
  sz i hi := by rw [idsOf_at T hi]
  row i hi := by rw [idsOf_at T hi]
  inj i j hi hj e := by rw [idsOf_at T hi, idsOf_at T hj] at e; exact e
end
end Go.AM
namespace Go.AM
section
variable {β : Type}
theorem likeRow (z : β) {N a b c d : Nat} {h0 h1 : List (List Int)} {xs : List Int} (hN : xs.length < N) (hl : xs.length <= 1000) (ha : rowAt h0 a = xs) (hb : rowAt h1 b = xs) (k : Bool -> β) :
    w_likeInts_s2 z N a 0 xs.length xs.length c b 0 xs.length xs.length d h0 h1 k = k true := by
  unfold rowAt at ha hb
  unfold w_likeInts_s2
  rw [c_ble (by omega), c_ble (by omega), c_nne rfl]
  exact (up_to_all (L := fun m i => w_likeInts_l0_s2 z a 0 xs.length xs.length c b 0 xs.length xs.length d h0 h1 m (i : Int) (k false) (k true)) (n := xs.length) (kt := k true) (kf := k false) (p := fun _ => true)
    (fun m i hi => by
      rw [w_likeInts_l0_s2, w_likeInts_l0_s2_s]
      simp only [c_and, Int.toNat_natCast, addO_eq, Nat.zero_add, ha, hb]
      simp (disch := omega) only [c_lt, c_le, c_blt, c_ble, c_beq, c_fits, c_nne]
      rfl)
    (fun m => by
      rw [w_likeInts_l0_s2, w_likeInts_l0_s2_s]
      simp (disch := omega) only [c_ble, c_nlt]) xs.length N 0 (by omega) hN).trans (by rw [(allFrom_iff xs.length 0).2 fun _ _ _ => rfl]; rfl)
theorem rows5_val (z : β) {N c c' : Nat} {ids ids' : List (Nat × Nat)} {P P' T : List (List Int)} (h : TabP ids P T) (h' : TabP ids' P' T) (s : SmallT N T) (k : Bool -> β) :
    w_rows5_s2 z N ids.length T.length c ids'.length T.length c' ids ids' P P' k = k true := by
  have := s.rows
  have := h.len
  have := h'.len
  unfold w_rows5_s2
  rw [c_ble (by omega), c_ble (by omega), c_nne rfl]
  exact (up_to_all (L := fun m i => w_rows5_l0_s2 z N ids.length T.length c ids'.length T.length c' ids ids' P P' m (i : Int) (k false) (k true)) (n := T.length) (kt := k true) (kf := k false) (p := fun _ => true)
    (fun m i hi => by
      have e1 := h.sz i hi
      have e2 := h'.sz i hi
      have e3 := s.cols i hi
      have e4 := h.row i hi
      have e5 := h'.row i hi
      unfold idAt at e1 e2 e4 e5
      rw [w_rows5_l0_s2, w_rows5_l0_s2_s]
      simp only [c_and, Int.toNat_natCast]
      simp (disch := omega) only [c_lt, c_le, c_blt, c_ble, c_beq, e1, e2]
      rw [likeRow z e3.1 e3.2 e4 e5]
      simp (disch := omega) only [Bool.not_true, cond_false, c_fits]
      rfl)
    (fun m => by
      rw [w_rows5_l0_s2, w_rows5_l0_s2_s]
      simp (disch := omega) only [c_ble, c_nlt]) T.length N 0 (by omega) (by omega)).trans (by rw [(allFrom_iff T.length 0).2 fun _ _ _ => rfl]; rfl)
theorem likeInts_val (z : β) {N : Nat} {xs : List Int} (hN : xs.length < N) (hl : xs.length <= 1000) (k : Bool -> β) : w_likeInts_s3 z N xs.length xs.length xs.length xs.length xs.length xs.length xs xs k = k true := by
  unfold w_likeInts_s3
  rw [c_ble (by omega), c_ble (by omega), c_nne rfl]
  exact (up_to_all (L := fun m i => w_likeInts_l0_s3 z xs.length xs.length xs.length xs.length xs.length xs.length xs xs m (i : Int) (k false) (k true)) (n := xs.length) (kt := k true) (kf := k false) (p := fun _ => true)
    (fun m i hi => by
      rw [w_likeInts_l0_s3, w_likeInts_l0_s3_s]
      simp only [c_and, Int.toNat_natCast]
      simp (disch := omega) only [c_lt, c_le, c_blt, c_ble, c_beq, c_fits, c_nne]
      rfl)
    (fun m => by
      rw [w_likeInts_l0_s3, w_likeInts_l0_s3_s]
      simp (disch := omega) only [c_ble, c_nlt]) xs.length N 0 (by omega) hN).trans (by rw [(allFrom_iff xs.length 0).2 fun _ _ _ => rfl]; rfl)
theorem rows5_nil (z : β) {N : Nat} (hN : 0 < N) (k : Bool -> β) : w_rows5 z N k = k true := by
  obtain ⟨N, rfl⟩ : ∃ M, N = M + 1 := ⟨N - 1, by omega⟩
  rfl
theorem likeInts_nil (z : β) {N : Nat} (hN : 0 < N) (k : Bool -> β) : w_likeInts z N k = k true := by
  obtain ⟨N, rfl⟩ : ∃ M, N = M + 1 := ⟨N - 1, by omega⟩
  rfl
end
end Go.AM
namespace Go.AM
section
variable {β : Type}
theorem perm_surj {n : Nat} {X : Nat -> Int} (h : PermP 8 n X) (hX : ∀ j, 0 <= X j) {r : Nat} (hr : r < n) : ∃ i, i < n ∧ X i = r := by
  obtain ⟨i, h1, h2⟩ := surj_of_inj n (fun i => (X i).toNat) (fun i hi => by have := h.2.1 i hi; have := hX i; omega) (fun i j hi hj e => h.2.2 i j hi hj (by have := hX i; have := hX j; omega)) r hr
  exact ⟨i, h1, by have := hX i; omega⟩
noncomputable def rowOf (n : Nat) (X : Nat -> Int) (r : Nat) : Nat := @dite _ (∃ i, i < n ∧ X i = r) (Classical.propDecidable _) (fun h => Classical.choose h) (fun _ => 0)
theorem rowOf_spec {n : Nat} {X : Nat -> Int} (h : PermP 8 n X) (hX : ∀ j, 0 <= X j) {r : Nat} (hr : r < n) : rowOf n X r < n ∧ X (rowOf n X r) = r := by
  have hx := perm_surj h hX hr
  unfold rowOf
  rw [dif_pos hx]
  exact Classical.choose_spec hx
theorem rowOf_eq {n : Nat} {X : Nat -> Int} (h : PermP 8 n X) (hX : ∀ j, 0 <= X j) {r i : Nat} (hi : i < n) (hr : X i = r) : rowOf n X r = i := by
  have := h.2.1 i hi
  have h2 := rowOf_spec h hX (r := r) (by omega)
  exact h.2.2 _ _ h2.1 hi (by omega)
theorem s_l01Row_val (z : β) {N : Nat} (hN : 8 < N) {n : Nat} (h8 : n <= 8) {X : Nat -> Int} (h : PermP 8 n X) (hX : ∀ j, 0 <= X j) {r : Nat} (hr : r < n) (k : Int -> β) : s_l01Row z N X n r k = k (rowOf n X r) := by
  unfold s_l01Row
  obtain ⟨h1, h2⟩ := rowOf_spec h hX hr
  have key : ∀ (d i m : Nat), i + d = rowOf n X r -> d < m -> s_l01Row_l0 z n r X m (i : Int) k (k 0) = k (rowOf n X r) := by
    intro d
    induction d with
    | zero =>
      intro i m hi hm
      obtain ⟨m, rfl⟩ : ∃ m', m = m' + 1 := ⟨m - 1, by omega⟩
      have e : i = rowOf n X r := by omega
      subst e
      simp only [s_l01Row_l0, s_l01Row_l0_s, c_and, Int.toNat_natCast]
      simp (disch := omega) only [c_lt, c_le, c_blt, c_eq]
    | succ d ih =>
      intro i m hi hm
      obtain ⟨m, rfl⟩ : ∃ m', m = m' + 1 := ⟨m - 1, by omega⟩
      have hne : X i ≠ (r : Int) := fun e => by have := rowOf_eq h hX (by omega) e; omega
      simp only [s_l01Row_l0, s_l01Row_l0_s, c_and, Int.toNat_natCast]
      simp (disch := omega) only [c_lt, c_le, c_blt, c_neq, c_fits]
      exact ih (i + 1) m (by omega) (by omega)
  exact key (rowOf n X r) 0 N (by omega) (by omega)
def plc (n : Nat) (X : Nat -> Int) : Nat -> Int := iter (fun i h => upd h (X i).toNat (i : Int)) n 0 (fun _ => 0)
theorem plc_spec {n : Nat} {X : Nat -> Int} (h : PermP 8 n X) (hX : ∀ j, 0 <= X j) {r : Nat} (hr : r < n) : plc n X r = rowOf n X r := by
  have := iter_inv (f := fun i (h : Nat -> Int) => upd h (X i).toNat (i : Int)) (I := fun i h => ∀ j, j < i -> h (X j).toNat = j) (n := n)
    (fun i s hi hs j hj => by
      simp only [upd_at]
      by_cases e : (X j).toNat = (X i).toNat
      · rw [if_pos e]
        have := h.2.2 j i (by omega) hi (by have := hX i; have := hX j; omega)
        omega
      · rw [if_neg e]
        exact hs j (by by_cases e2 : j = i; (· subst e2; exact absurd rfl e); omega)) n 0 (fun _ => 0) (by omega) (fun j hj => by omega)
  rw [Nat.zero_add] at this
  obtain ⟨h1, h2⟩ := rowOf_spec h hX hr
  have h3 := this _ h1
  rw [h2, Int.toNat_natCast] at h3
  exact h3
theorem i_Grid_places_val (z : β) {N : Nat} (hN : 8 < N) {n : Nat} (h8 : n <= 8) {Y : Nat -> Int} (h : PermP 8 n Y) (hY : ∀ j, 0 <= Y j) (X O : Nat -> Int) (k : (Nat -> Int) -> β) : i_Grid_places z N n X O Y k = k (plc n Y) := by
  unfold i_Grid_places i_Grid_n
  refine up_to (L := fun m i h => i_Grid_places_l0 z n n X O Y (fun _ => 0) m (i : Int) h k) (n := n) (out := k) (f := fun i h => upd h (Y i).toNat (i : Int)) (I := fun _ _ => True)
    (fun m i s hi _ => ⟨?_, trivial⟩) (fun m s _ => by simp (disch := omega) only [i_Grid_places_l0, i_Grid_places_l0_s, c_nlt]) n N 0 (fun _ => 0) (by omega) (by omega) trivial
  have h1 := hY i
  have h3 := h.2.1 i hi
  simp only [i_Grid_places_l0, i_Grid_places_l0_s, c_and, Int.toNat_natCast]
  simp (disch := omega) only [c_lt, c_le, c_blt, c_fits]
  rfl
end
end Go.AM
namespace Go.AM
section
variable {β : Type}
end
end Go.AM
namespace Go.AM
section
variable {β : Type}
def upm (n : Nat) (p : Nat -> Int) (left : Nat) (b : Int) (k : Nat) : Int := (p (((left : Int) + k) % n).toNat - b + n) % n
def cntF (n : Nat) (p : Nat -> Int) (left : Nat) (b h : Int) (k : Nat) (c : Int) : Int := if upm n p left b k < h then c + 1 else c
def cntM (n : Nat) (p : Nat -> Int) (left : Nat) (b h : Int) (w : Nat) : Int := iter (cntF n p left b h) w 0 0
def rectL (n : Nat) (X O x : Nat -> Int) (left w : Nat) : List Int :=
  [(left : Int), x left, (w : Int), upm n x left (x left) w, cntM n X left (x left) (upm n x left (x left) w) w, cntM n O left (x left) (upm n x left (x left) w) w]
end
end Go.AM
namespace Go.AM
section
variable {β : Type}
def recs (n : Nat) (X O x : Nat -> Int) (ps : List (Nat × Nat)) : List Int := ps.flatMap fun p => rectL n X O x p.1 p.2
end
end Go.AM
namespace Go.AM
section
variable {β : Type}
theorem s_l01Row_int (z : β) {N : Nat} (hN : 8 < N) {n : Nat} (h8 : n <= 8) {X : Nat -> Int} (h : PermP 8 n X) (hX : ∀ j, 0 <= X j) {r : Int} (h0 : 0 <= r) (hr : r < n) (k : Int -> β) : s_l01Row z N X n r k = k (rowOf n X r.toNat) := by
  have := s_l01Row_val z hN h8 h hX (r := r.toNat) (by omega) k
  rwa [Int.toNat_of_nonneg h0] at this
def kindI (i r o c : Int) : Int := if o < r then (if c < i then 3 else 2) else if c < i then 1 else 0
theorem i_kind_val (z : β) (N : Nat) (i r o c : Int) (k : Int -> β) : i_kind z N i r o c k = k (kindI i r o c) := by
  unfold i_kind kindI
  by_cases h1 : o < r <;> by_cases h2 : c < i <;> simp [h1, h2]
theorem kindI_bd (i r o c : Int) : 0 <= kindI i r o c ∧ kindI i r o c <= 3 := by unfold kindI; split <;> split <;> omega
theorem grid_other {n : Nat} {X O : Nat -> Int} (g : GridP n X O) (hO : ∀ j, 0 <= O j) (hX : ∀ j, 0 <= X j) {i : Nat} (hi : i < n) : rowOf n O (X i).toNat ≠ i := by
  intro e
  have h1 := g.px.2.1 i hi
  have h2 := hX i
  have := (rowOf_spec g.po hO (r := (X i).toNat) (by omega)).2
  rw [e] at this
  exact g.ne i hi (by omega)
theorem GridP.swap {n : Nat} {X O : Nat -> Int} (g : GridP n X O) : GridP n O X := ⟨g.lo, g.hi, g.po, g.px, fun i hi => (g.ne i hi).symm⟩
theorem s_l07Kind_val (z : β) {N : Nat} (hN : 8 < N) {n : Nat} {X O : Nat -> Int} (g : GridP n X O) (hX : ∀ j, 0 <= X j) (hO : ∀ j, 0 <= O j) {i : Nat} (hi : i < n) (k : Int -> β) :
    s_l07Kind z N n X O i (X i) true k = k (kindI i (X i) (O i) (rowOf n O (X i).toNat)) ∧ s_l07Kind z N n X O i (O i) false k = k (kindI i (O i) (X i) (rowOf n X (O i).toNat)) := by
  have h8 := g.hi
  have x1 := g.px.2.1 i hi
  have x2 := hX i
  have o1 := g.po.2.1 i hi
  have o2 := hO i
  have ne := g.ne i hi
  have r1 := grid_other g hO hX hi
  have r2 := grid_other g.swap hX hO hi
  have s1 := (rowOf_spec g.px hX (r := (X i).toNat) (by omega)).2
  constructor
  · unfold s_l07Kind
    simp only [c_and, Int.toNat_natCast, Bool.not_true, c_false, s_l01Row_int z hN h8 g.po hO x2 x1]
    simp (disch := omega) only [c_lt, c_le, c_blt]
    unfold kindI
    simp only [c_dec]
    have q1 : X i < O i ↔ ¬ O i < X i := by omega
    have q2 : (i : Int) < rowOf n O (X i).toNat ↔ ¬ ((rowOf n O (X i).toNat : Nat) : Int) < i := by omega
    simp only [q1, q2]
    by_cases h1 : O i < X i <;> by_cases h2 : ((rowOf n O (X i).toNat : Nat) : Int) < i <;> simp [h1, h2]
  · unfold s_l07Kind
    simp only [c_and, Int.toNat_natCast, Bool.not_false, c_true, s_l01Row_int z hN h8 g.po hO o2 o1, s_l01Row_int z hN h8 g.px hX o2 o1]
    simp (disch := omega) only [c_lt, c_le, c_blt]
    unfold kindI
    simp only [c_dec]
    have q1 : O i < X i ↔ ¬ X i < O i := by omega
    have q2 : (i : Int) < rowOf n X (O i).toNat ↔ ¬ ((rowOf n X (O i).toNat : Nat) : Int) < i := by omega
    simp only [q1, q2]
    by_cases h1 : X i < O i <;> by_cases h2 : ((rowOf n X (O i).toNat : Nat) : Int) < i <;> simp [h1, h2]
noncomputable def cornerL (n : Nat) (X O : Nat -> Int) (i : Nat) : List Int :=
  [(i : Int), X i, kindI i (X i) (O i) (rowOf n O (X i).toNat), 1, (i : Int), O i, kindI i (O i) (X i) (rowOf n X (O i).toNat), 0]
theorem cornerL_len (n : Nat) (X O : Nat -> Int) (i : Nat) : (cornerL n X O i).length = 8 := rfl
noncomputable def cornersL (n : Nat) (X O : Nat -> Int) : List Int := iter (fun i l => l ++ cornerL n X O i) n 0 []
theorem cornersL_len (n : Nat) (X O : Nat -> Int) : (cornersL n X O).length = 8 * n := by
  have := iter_inv (f := fun i l => l ++ cornerL n X O i) (I := fun i (l : List Int) => l.length = 8 * i) (n := n) (fun i s _ h => by rw [List.length_append, cornerL_len]; omega) n 0 [] (by omega) rfl
  rwa [Nat.zero_add] at this
theorem s_l07Corners_val (z : β) {N : Nat} (hN : 8 < N) {n : Nat} {X O : Nat -> Int} (g : GridP n X O) (hX : ∀ j, 0 <= X j) (hO : ∀ j, 0 <= O j) (k : Nat -> Nat -> Nat -> List Int -> β) :
    s_l07Corners z N n X O k = k (8 * n) (2 * n) (2 * n) (cornersL n X O) := by
  unfold s_l07Corners
  have h8 := g.hi
  refine (up_to (L := fun m i (l : List Int) => s_l07Corners_l0 z N n X O m (8 * i) (2 * i) (2 * i) (i : Int) l k) (n := n) (out := fun l => k (8 * n) (2 * n) (2 * n) l)
    (f := fun i l => l ++ cornerL n X O i) (I := fun i l => l.length = 8 * i)
    (fun m i l hi hl => ⟨?_, by rw [List.length_append, cornerL_len]; omega⟩) (fun m s _ => by simp (disch := omega) only [s_l07Corners_l0, s_l07Corners_l0_s, c_nlt]) n N 0 [] (by omega) (by omega) rfl)
  obtain ⟨k1, k2⟩ : (∀ k, s_l07Kind z N n X O i (X i) true k = k (kindI i (X i) (O i) (rowOf n O (X i).toNat))) ∧ ∀ k, s_l07Kind z N n X O i (O i) false k = k (kindI i (O i) (X i) (rowOf n X (O i).toNat)) := ⟨fun k => (s_l07Kind_val z hN g hX hO hi k).1, fun k => (s_l07Kind_val z hN g hX hO hi k).2⟩
  simp only [s_l07Corners_l0, s_l07Corners_l0_s, c_and, c_true, Int.toNat_natCast, k1, k2]
  simp (disch := omega) only [c_lt, c_le, c_blt, c_fits, c_beq, c_ble, c_nble]
  refine (show _ = s_l07Corners_l0 z N n X O m (l ++ cornerL n X O i).length (2 * i + 2) (2 * i + 2) ((i : Int) + 1) (l ++ cornerL n X O i) k from rfl).trans ?_
  rw [List.length_append, cornerL_len, hl]
  rfl
theorem i_Grid_corners_val (z : β) {N : Nat} (hN : 8 < N) {n : Nat} {X O : Nat -> Int} (g : GridP n X O) (hX : ∀ j, 0 <= X j) (hO : ∀ j, 0 <= O j) (k : Nat -> Nat -> Nat -> List Int -> β) :
    i_Grid_corners z N n X O k = k (8 * n) (2 * n) (2 * n) (cornersL n X O) := by
  unfold i_Grid_corners i_Grid_n
  have h8 := g.hi
  rw [i_Grid_places_val z hN h8 g.px hX, i_Grid_places_val z hN h8 g.po hO]
  refine (up_to (L := fun m i (l : List Int) => i_Grid_corners_l0 z N n n X O (plc n X) (plc n O) m (8 * i) (2 * i) (2 * i) (i : Int) l k) (n := n) (out := fun l => k (8 * n) (2 * n) (2 * n) l)
    (f := fun i l => l ++ cornerL n X O i) (I := fun i l => l.length = 8 * i)
    (fun m i l hi hl => ⟨?_, by rw [List.length_append, cornerL_len]; omega⟩) (fun m s _ => by simp (disch := omega) only [i_Grid_corners_l0, i_Grid_corners_l0_s, c_nlt]) n N 0 [] (by omega) (by omega) rfl)
  have x1 := g.px.2.1 i hi
  have x2 := hX i
  have o1 := g.po.2.1 i hi
  have o2 := hO i
  have p1 := plc_spec g.po hO (r := (X i).toNat) (by omega)
  have p2 := plc_spec g.px hX (r := (O i).toNat) (by omega)
  simp only [i_Grid_corners_l0, i_Grid_corners_l0_s, c_and, c_true, Int.toNat_natCast, i_kind_val, p1, p2]
  simp (disch := omega) only [c_lt, c_le, c_blt, c_fits, c_beq, c_ble, c_nble]
  have e : ∀ a b c d : Int, fromTo [a, b, c, d] 0 4 = [a, b, c, d] := fun _ _ _ _ => rfl
  have e2 : ∀ a b c d : Int, (l ++ [a, b, c, d]).length = 8 * i + 4 := fun _ _ _ _ => by rw [List.length_append, hl]; rfl
  simp only [e, c_false, e2]
  rw [c_beq (by omega), c_beq (by omega), List.append_assoc, List.length_append, hl]
  rfl
end
end Go.AM
namespace Go.AM
section
variable {β : Type}
def walkH (nxt : Nat -> Nat) (c : Int) : Nat -> Nat -> (Nat -> Int) -> Nat -> Int
  | 0, _, h => h
  | d + 1, k, h => if h k < 0 then walkH nxt c d (nxt k) (upd h k c) else h
def cntU (n : Nat) (h : Nat -> Int) : Nat := (List.range n).countP fun j => decide (h j < 0)
theorem cntU_le (n : Nat) (h : Nat -> Int) : cntU n h <= n := by
  have := List.countP_le_length (p := fun j => decide (h j < 0)) (l := List.range n)
  simpa [cntU] using this
theorem cntU_zero {n : Nat} {h : Nat -> Int} (e : cntU n h = 0) {k : Nat} (hk : k < n) : 0 <= h k := by
  unfold cntU at e
  rw [List.countP_eq_zero] at e
  have := e k (by simpa using hk)
  simpa using this
theorem cntU_upd {n : Nat} {h : Nat -> Int} {k : Nat} (hk : k < n) (hu : h k < 0) {c : Int} (hc : 0 <= c) : cntU n (upd h k c) + 1 <= cntU n h := by
  unfold cntU
  have key : ∀ (l : List Nat), k ∈ l -> (l.countP fun j => decide (upd h k c j < 0)) + 1 <= l.countP fun j => decide (h j < 0) := by
    intro l
    have hle : ∀ l : List Nat, (l.countP fun j => decide (upd h k c j < 0)) <= l.countP fun j => decide (h j < 0) := fun l =>
      List.countP_mono_left fun j _ hj => by
        rw [decide_eq_true_eq, upd_at] at hj
        split at hj
        · omega
        · simpa using hj
    induction l with
    | nil => intro h; simp at h
    | cons x xs ih =>
      intro hm
      rw [List.countP_cons, List.countP_cons]
      by_cases e : x = k
      · subst e
        have := hle xs
        rw [decide_eq_false (show ¬ upd h x c x < 0 by rw [upd_at, if_pos rfl]; omega), decide_eq_true hu]
        simp
        exact this
      · have := ih (by simpa [Ne.symm e] using hm)
        rw [show upd h k c x = h x by rw [upd_at, if_neg e]]
        omega
  exact key _ (by simpa using hk)
theorem walk_loop {L : Nat -> Nat -> (Nat -> Int) -> β} {out : (Nat -> Int) -> β} {n : Nat} {nxt : Nat -> Nat} {c : Int} (hc : 0 <= c) (hn : ∀ k, k < n -> nxt k < n) {I : (Nat -> Int) -> Prop}
    (hI : ∀ k h, k < n -> I h -> h k < 0 -> I (upd h k c))
    (h1 : ∀ m k h, k < n -> I h -> h k < 0 -> L (m + 1) k h = L m (nxt k) (upd h k c)) (h2 : ∀ m k h, k < n -> I h -> 0 <= h k -> L (m + 1) k h = out h) :
    ∀ (d m k : Nat) (h : Nat -> Int), cntU n h <= d -> d < m -> k < n -> I h -> L m k h = out (walkH nxt c d k h) := by
  intro d
  induction d with
  | zero =>
    intro m k h hd hm hk hi
    obtain ⟨m, rfl⟩ : ∃ m', m = m' + 1 := ⟨m - 1, by omega⟩
    exact h2 m k h hk hi (cntU_zero (by omega) hk)
  | succ d ih =>
    intro m k h hd hm hk hi
    obtain ⟨m, rfl⟩ : ∃ m', m = m' + 1 := ⟨m - 1, by omega⟩
    simp only [walkH]
    by_cases hu : h k < 0
    · rw [if_pos hu, h1 m k h hk hi hu]
      have := cntU_upd hk hu hc
      exact ih m (nxt k) _ (by omega) (by omega) (hn k hk) (hI k h hk hi hu)
    · rw [if_neg hu]
      exact h2 m k h hk hi (by omega)
theorem walkH_val (nxt : Nat -> Nat) (c : Int) : ∀ (d k : Nat) (h : Nat -> Int) (j : Nat), walkH nxt c d k h j = h j ∨ (h j < 0 ∧ walkH nxt c d k h j = c) := by
  intro d
  induction d with
  | zero => exact fun k h j => .inl rfl
  | succ d ih =>
    intro k h j
    simp only [walkH]
    split
    · rename_i hu
      rcases ih (nxt k) (upd h k c) j with e | ⟨e1, e2⟩
      · rw [e, upd_at]
        split
        · rename_i hj; subst hj; exact .inr ⟨hu, rfl⟩
        · exact .inl rfl
      · rw [upd_at] at e1
        split at e1
        · rename_i hj; subst hj; exact .inr ⟨hu, e2⟩
        · exact .inr ⟨e1, e2⟩
    · exact .inl rfl
theorem walkH_start (nxt : Nat -> Nat) {c : Int} (hc : 0 <= c) (d k : Nat) (h : Nat -> Int) : 0 <= walkH nxt c (d + 1) k h k := by
  simp only [walkH]
  split
  · rcases walkH_val nxt c d (nxt k) (upd h k c) k with e | ⟨_, e⟩
    · rw [e, upd_at, if_pos rfl]; exact hc
    · rw [e]; exact hc
  · omega
theorem walkH_lt {nxt : Nat -> Nat} {c : Int} {n : Nat} (hn : ∀ k, k < n -> nxt k < n) : ∀ (d k : Nat) (h : Nat -> Int), k < n -> ∀ j, n <= j -> walkH nxt c d k h j = h j := by
  intro d
  induction d with
  | zero => exact fun k h _ j _ => rfl
  | succ d ih =>
    intro k h hk j hj
    simp only [walkH]
    split
    · rw [ih _ _ (hn k hk) j hj, upd_at, if_neg (by omega)]
    · rfl
def compF (nxt : Nat -> Nat) (n i : Nat) (s : (Nat -> Int) × Int) : (Nat -> Int) × Int := if s.1 i < 0 then (walkH nxt s.2 n i s.1, s.2 + 1) else s
def compS (nxt : Nat -> Nat) (n : Nat) : (Nat -> Int) × Int := iter (compF nxt n) n 0 ((fun j => if j < 8 then -1 else 0), 0)
structure CompI (n i : Nat) (s : (Nat -> Int) × Int) : Prop where
  nn : 0 <= s.2
  le : s.2 <= i
  set : ∀ j, j < i -> 0 <= s.1 j
  bd : ∀ j, j < 8 -> -1 <= s.1 j ∧ s.1 j < s.2 ∨ s.1 j = -1
  rest : ∀ j, n <= j -> j < 8 -> s.1 j = -1
theorem compF_step {nxt : Nat -> Nat} {n i : Nat} (hn : ∀ k, k < n -> nxt k < n) (hi : i < n) {s : (Nat -> Int) × Int} (h : CompI n i s) : CompI n (i + 1) (compF nxt n i s) := by
  unfold compF
  obtain ⟨n', rfl⟩ : ∃ n', n = n' + 1 := ⟨n - 1, by omega⟩
  split
  · rename_i hu
    refine ⟨by have := h.nn; simp only; omega, by have := h.le; simp only; omega, fun j hj => ?_, fun j hj => ?_, fun j h1 h2 => ?_⟩
    · simp only
      by_cases e : j = i
      · subst e; exact walkH_start nxt h.nn n' j s.1
      · rcases walkH_val nxt s.2 (n' + 1) i s.1 j with e2 | ⟨_, e2⟩
        · rw [e2]; exact h.set j (by omega)
        · rw [e2]; exact h.nn
    · simp only
      have h1 := h.bd j hj
      have h2 := h.nn
      rcases walkH_val nxt s.2 (n' + 1) i s.1 j with e2 | ⟨_, e2⟩
      · rw [e2]; omega
      · rw [e2]; omega
    · simp only
      rw [walkH_lt hn _ _ _ hi j h1]
      exact h.rest j h1 h2
  · rename_i hu
    refine ⟨h.nn, by have := h.le; omega, fun j hj => ?_, h.bd, h.rest⟩
    by_cases e : j = i
    · subst e; omega
    · exact h.set j (by omega)
theorem compS_inv {nxt : Nat -> Nat} {n : Nat} (hn : ∀ k, k < n -> nxt k < n) : CompI n n (compS nxt n) := by
  have := iter_inv (f := compF nxt n) (I := fun i s => CompI n i s) (n := n) (fun i s hi h => compF_step hn hi h) n 0 ((fun j => if j < 8 then -1 else 0), 0) (by omega)
    ⟨Int.le_refl _, Int.le_refl _, fun j hj => by omega, fun j hj => by simp [hj], fun j _ hj => by simp [hj]⟩
  rwa [Nat.zero_add] at this
noncomputable def nxtC (n : Nat) (X O : Nat -> Int) (i : Nat) : Nat := rowOf n X (O i).toNat
theorem nxtC_lt {n : Nat} {X O : Nat -> Int} (g : GridP n X O) (hX : ∀ j, 0 <= X j) (hO : ∀ j, 0 <= O j) : ∀ k, k < n -> nxtC n X O k < n := fun k hk => by
  have o1 := g.po.2.1 k hk
  have o2 := hO k
  exact (rowOf_spec g.px hX (by omega)).1
theorem s_l01Follow_val (z : β) {N : Nat} (hN : 8 < N) {n : Nat} {X O : Nat -> Int} (g : GridP n X O) (hX : ∀ j, 0 <= X j) (hO : ∀ j, 0 <= O j) {i : Nat} (hi : i < n) (k : Int -> β) : s_l01Follow z N n X O i k = k (nxtC n X O i) := by
  have h8 := g.hi
  have o1 := g.po.2.1 i hi
  have o2 := hO i
  unfold s_l01Follow
  simp only [c_and, Int.toNat_natCast, s_l01Row_int z hN h8 g.px hX o2 o1]
  simp (disch := omega) only [c_lt, c_le, c_blt]
  rfl
theorem s_l01Components_val (z : β) {N : Nat} (hN : 8 < N) {n : Nat} {X O : Nat -> Int} (g : GridP n X O) (hX : ∀ j, 0 <= X j) (hO : ∀ j, 0 <= O j) (k : (Nat -> Int) -> Int -> β) :
    s_l01Components z N n X O k = k (compS (nxtC n X O) n).1 (compS (nxtC n X O) n).2 := by
  have h8 := g.hi
  unfold s_l01Components
  have first : ∀ kk : (Nat -> Int) -> β, s_l01Components_l0 z n X O (fun _ => 0) N 0 (fun _ => 0) kk = kk (fun j => if j < 8 then -1 else 0) := by
    intro kk
    refine (up_to (L := fun m i h => s_l01Components_l0 z n X O (fun _ => 0) m (i : Int) h kk) (n := 8) (out := kk) (f := fun i h => upd h i (-1)) (I := fun _ _ => True)
      (fun m i s hi _ => ⟨by
        simp only [s_l01Components_l0, s_l01Components_l0_s, c_and, Int.toNat_natCast]
        simp (disch := omega) only [c_lt, c_le, c_blt, c_fits]
        rfl, trivial⟩)
      (fun m s _ => by simp (disch := omega) only [s_l01Components_l0, s_l01Components_l0_s, c_nlt]) 8 N 0 (fun _ => 0) rfl hN trivial).trans ?_
    rw [iter_set (fun _ => (-1 : Int))]
    congr 1
    funext j
    simp
  rw [first]
  refine up_to (L := fun m i s => s_l01Components_l1 z N n X O (fun _ => 0) m s.2 (i : Int) s.1 fun q7 q8 => k q8 q7) (n := n) (out := fun s => k s.1 s.2) (f := compF (nxtC n X O) n) (I := CompI n)
    (fun m i s hi hI => ⟨?_, compF_step (nxtC_lt g hX hO) hi hI⟩) (fun m s _ => by simp (disch := omega) only [s_l01Components_l1, s_l01Components_l1_s, c_nlt]) n N 0 ((fun j => if j < 8 then -1 else 0), 0) (by omega) (by omega)
    ⟨Int.le_refl _, Int.le_refl _, fun j hj => by omega, fun j hj => by simp [hj], fun j _ hj => by simp [hj]⟩
  have h1 := hI.nn
  have h2 := hI.le
  have walk : ∀ kk : (Nat -> Int) -> β, s_l01Components_l2 z N s.2 i n X O (fun _ => 0) N (i : Int) s.1 kk = kk (walkH (nxtC n X O) s.2 n i s.1) := by
    intro kk
    refine walk_loop (L := fun m k h => s_l01Components_l2 z N s.2 i n X O (fun _ => 0) m (k : Int) h kk) (out := kk) (n := n) (nxt := nxtC n X O) (c := s.2) h1 (nxtC_lt g hX hO) (I := fun _ => True) (fun _ _ _ _ _ => trivial)
      (fun m k h hk _ hu => ?_) (fun m k h hk _ hu => ?_) n N i s.1 (cntU_le _ _) (by omega) hi trivial
    · simp only [s_l01Components_l2, s_l01Components_l2_s, c_and, Int.toNat_natCast, s_l01Follow_val z hN g hX hO hk]
      simp (disch := omega) only [c_lt, c_le, c_blt]
    · simp only [s_l01Components_l2, s_l01Components_l2_s, c_and, Int.toNat_natCast]
      simp (disch := omega) only [c_lt, c_nlt, c_le, c_blt]
  simp only [s_l01Components_l1, s_l01Components_l1_s, c_and, Int.toNat_natCast, walk]
  simp (disch := omega) only [c_lt, c_le, c_blt, c_fits]
  unfold compF
  by_cases hu : s.1 i < 0
  · rw [c_nle hu, if_pos hu]
    rfl
  · rw [c_le (by omega), if_neg hu]
    rfl
end
end Go.AM
namespace Go.AM
section
variable {β : Type}
def recAt (xs : List Int) (j q : Nat) : Int := xs[j * 4 + q]?.getD 0
def cuspF (xs : List Int) (skip : Int -> Bool) (j : Nat) (s : Int × Int) : Int × Int :=
  if skip (recAt xs j 0) = true ∨ recAt xs j 2 = 1 ∨ recAt xs j 2 = 2 then s else if ((recAt xs j 3 != 0) == (recAt xs j 2 == 3)) = true then (s.1 + 1, s.2) else (s.1, s.2 + 1)
def cuspS (xs : List Int) (skip : Int -> Bool) (L : Nat) : Int × Int := iter (cuspF xs skip) L 0 (0, 0)
theorem cuspF_bd {xs : List Int} {skip : Int -> Bool} {j : Nat} {s : Int × Int} (h : 0 <= s.1 ∧ 0 <= s.2 ∧ s.1 + s.2 <= j) : 0 <= (cuspF xs skip j s).1 ∧ 0 <= (cuspF xs skip j s).2 ∧ (cuspF xs skip j s).1 + (cuspF xs skip j s).2 <= (j + 1 : Nat) := by
  unfold cuspF
  split
  · omega
  · split <;> simp only <;> omega
theorem cuspS_bd (xs : List Int) (skip : Int -> Bool) (L : Nat) : 0 <= (cuspS xs skip L).1 ∧ 0 <= (cuspS xs skip L).2 ∧ (cuspS xs skip L).1 + (cuspS xs skip L).2 <= L := by
  have := iter_inv (f := cuspF xs skip) (n := L) (I := fun i s => 0 <= s.1 ∧ 0 <= s.2 ∧ s.1 + s.2 <= i) (fun i s _ h => cuspF_bd h) L 0 (0, 0) (by omega) (by simp)
  rwa [Nat.zero_add] at this
theorem cornerL_get (n : Nat) (X O : Nat -> Int) {i q : Nat} (hi : i < n) (hq : q < 8) : (cornersL n X O)[8 * i + q]?.getD 0 = (cornerL n X O i)[q]?.getD 0 := by
  have := iter_inv (f := fun i l => l ++ cornerL n X O i) (I := fun i (l : List Int) => l.length = 8 * i ∧ ∀ j q, j < i -> q < 8 -> l[8 * j + q]?.getD 0 = (cornerL n X O j)[q]?.getD 0) (n := n) (fun i s _ h => by
    refine ⟨by rw [List.length_append, cornerL_len]; omega, fun j q hj hq => ?_⟩
    by_cases e : j = i
    · subst e
      rw [List.getElem?_append_right (by omega), h.1, show 8 * j + q - 8 * j = q by omega]
    · rw [List.getElem?_append_left (by omega)]
      exact h.2 j q (by omega) hq) n 0 [] (by omega) ⟨rfl, fun j q hj => by omega⟩
  rw [Nat.zero_add] at this
  exact this.2 i q hi hq
theorem corner_recs {n : Nat} {X O : Nat -> Int} (j : Nat) (hj : j < 2 * n) : recAt (cornersL n X O) j 0 = (j / 2 : Nat) ∧ 0 <= recAt (cornersL n X O) j 2 ∧ recAt (cornersL n X O) j 2 <= 3 := by
  unfold recAt
  have hi : j / 2 < n := by omega
  rcases Nat.mod_two_eq_zero_or_one j with e | e
  · have h0 := cornerL_get n X O hi (q := 0) (by omega)
    have h2 := cornerL_get n X O hi (q := 2) (by omega)
    rw [show j * 4 + 0 = 8 * (j / 2) + 0 by omega, show j * 4 + 2 = 8 * (j / 2) + 2 by omega, h0, h2]
    have := kindI_bd (j / 2 : Nat) (X (j / 2)) (O (j / 2)) (rowOf n O (X (j / 2)).toNat)
    exact ⟨rfl, this.1, this.2⟩
  · have h0 := cornerL_get n X O hi (q := 4) (by omega)
    have h2 := cornerL_get n X O hi (q := 6) (by omega)
    rw [show j * 4 + 0 = 8 * (j / 2) + 4 by omega, show j * 4 + 2 = 8 * (j / 2) + 6 by omega, h0, h2]
    have := kindI_bd (j / 2 : Nat) (O (j / 2)) (X (j / 2)) (rowOf n X (O (j / 2)).toNat)
    exact ⟨rfl, this.1, this.2⟩
def skipC (which : Nat -> Int) (c : Int) (col : Int) : Bool := decide (0 <= c) && (which col.toNat != c)
theorem s_l07Cusps_val (z : β) {N : Nat} (hN : 16 < N) {n : Nat} {X O : Nat -> Int} (g : GridP n X O) (hX : ∀ j, 0 <= X j) (hO : ∀ j, 0 <= O j) (c : Int) (k : Int -> Int -> β) :
    s_l07Cusps z N n X O c k = k (cuspS (cornersL n X O) (skipC (compS (nxtC n X O) n).1 c) (2 * n)).1 (cuspS (cornersL n X O) (skipC (compS (nxtC n X O) n).1 c) (2 * n)).2 := by
  have h8 := g.hi
  unfold s_l07Cusps
  rw [s_l01Components_val z (by omega) g hX hO, s_l07Corners_val z (by omega) g hX hO]
  have hr := corner_recs (n := n) (X := X) (O := O)
  have hl := cornersL_len n X O
  generalize cornersL n X O = xs at *
  generalize (compS (nxtC n X O) n).1 = wh
  refine up_to (L := fun m j s => s_l07Cusps_l0 z c (8 * n) (2 * n) (2 * n) n X O wh xs m s.1 s.2 (j : Int) fun q13 q14 => k q13 q14) (n := 2 * n) (out := fun s => k s.1 s.2) (f := cuspF xs (skipC wh c)) (I := fun i s => 0 <= s.1 ∧ 0 <= s.2 ∧ s.1 + s.2 <= i)
    (fun m j s hj hs => ⟨?_, cuspF_bd hs⟩) (fun m s _ => by simp (disch := omega) only [s_l07Cusps_l0, s_l07Cusps_l0_s, c_ble, c_nlt]) (2 * n) N 0 (0, 0) (by omega) (by omega) (by simp)
  obtain ⟨r0, r1, r2⟩ := hr j hj
  have r0' := r0
  unfold recAt at r0'
  rw [Nat.add_zero] at r0'
  have e2 : xs[j * 4 + 2]?.getD 0 = recAt xs j 2 := rfl
  have e3 : xs[j * 4 + 3]?.getD 0 = recAt xs j 3 := rfl
  simp only [s_l07Cusps_l0, s_l07Cusps_l0_s, c_and, Int.toNat_natCast, addO_eq, Nat.add_zero, r0', e2, e3]
  simp (disch := omega) only [c_lt, c_le, c_ble, c_blt, c_beq, c_fits]
  unfold cuspF skipC
  rw [r0, Int.toNat_natCast]
  by_cases hc : 0 <= c
  · rw [c_le hc, decide_eq_true hc, Bool.true_and]
    by_cases hw : wh (j / 2) = c
    · rw [c_nne hw, show (wh (j / 2) != c) = false by simpa using hw]
      by_cases h1 : recAt xs j 2 = 1
      · rw [c_eq h1, if_pos (.inr (.inl h1))]; rfl
      · rw [c_neq h1]
        by_cases h2 : recAt xs j 2 = 2
        · rw [c_eq h2, if_pos (.inr (.inr h2))]; rfl
        · rw [c_neq h2, if_neg (by simp [h1, h2])]
          cases hb : ((recAt xs j 3 != 0) == (recAt xs j 2 == 3)) <;> rfl
    · rw [c_ne hw, show (wh (j / 2) != c) = true by simpa using hw, if_pos (.inl rfl)]; rfl
  · rw [c_nle (by omega), decide_eq_false hc, Bool.false_and]
    by_cases h1 : recAt xs j 2 = 1
    · rw [c_eq h1, if_pos (.inr (.inl h1))]; rfl
    · rw [c_neq h1]
      by_cases h2 : recAt xs j 2 = 2
      · rw [c_eq h2, if_pos (.inr (.inr h2))]; rfl
      · rw [c_neq h2, if_neg (by simp [h1, h2])]
        cases hb : ((recAt xs j 3 != 0) == (recAt xs j 2 == 3)) <;> rfl
def frontF (xs : List Int) (j : Nat) (h : Nat -> Int) : Nat -> Int :=
  if recAt xs j 2 = 1 ∨ recAt xs j 2 = 2 then h else if ((recAt xs j 3 != 0) == (recAt xs j 2 == 3)) = true then upd (upd h 0 (h 0 + 1)) 2 (h 2 + 1) else upd (upd h 0 (h 0 + 1)) 1 (h 1 + 1)
theorem frontF_get {xs : List Int} {j : Nat} {h : Nat -> Int} {s : Int × Int} (hh : h 0 = s.1 + s.2 ∧ h 1 = s.2 ∧ h 2 = s.1) :
    frontF xs j h 0 = (cuspF xs (fun _ => false) j s).1 + (cuspF xs (fun _ => false) j s).2 ∧ frontF xs j h 1 = (cuspF xs (fun _ => false) j s).2 ∧ frontF xs j h 2 = (cuspF xs (fun _ => false) j s).1 := by
  unfold frontF cuspF
  obtain ⟨h0, h1, h2⟩ := hh
  by_cases e : recAt xs j 2 = 1 ∨ recAt xs j 2 = 2
  · rw [if_pos e, if_pos (.inr e)]; exact ⟨h0, h1, h2⟩
  · have e' : ¬ ((fun _ => false) (recAt xs j 0) = true ∨ recAt xs j 2 = 1 ∨ recAt xs j 2 = 2) := fun h => h.elim (fun h => by cases h) e
    rw [if_neg e, if_neg e']
    cases hb : ((recAt xs j 3 != 0) == (recAt xs j 2 == 3))
    · simp [upd_at, h0, h1, h2]; omega
    · simp [upd_at, h0, h1, h2]; omega
theorem i_front_add_val (z : β) (N : Nat) (a b : Int) {xs : List Int} {j : Nat} {h : Nat -> Int} (hk : 0 <= recAt xs j 2 ∧ recAt xs j 2 <= 3) (hb : ∀ q, q < 3 -> 0 <= h q ∧ h q <= 1000) (k : (Nat -> Int) -> β) :
    i_front_add z N a b (recAt xs j 2) (recAt xs j 3 != 0) h k = k (frontF xs j h) := by
  have b0 := hb 0 (by omega)
  have b1 := hb 1 (by omega)
  have b2 := hb 2 (by omega)
  have u1 : upd h 0 (h 0 + 1) 1 = h 1 := by simp [upd_at]
  have u2 : upd h 0 (h 0 + 1) 2 = h 2 := by simp [upd_at]
  have f1 : (([] : List UInt8) == [117]) = false := by decide
  have f2 : (([] : List UInt8) == [100]) = false := by decide
  have f3 : (([117] : List UInt8) == [117]) = true := by decide
  have f4 : (([100] : List UInt8) == [117]) = false := by decide
  have f5 : (([100] : List UInt8) == [100]) = true := by decide
  unfold i_front_add i_Corner_letter i_Corner_isCusp frontF
  have hcase : recAt xs j 2 = 0 ∨ recAt xs j 2 = 1 ∨ recAt xs j 2 = 2 ∨ recAt xs j 2 = 3 := by omega
  rcases hcase with e | e | e | e
  · simp only [e, u1, u2]
    cases hx : (recAt xs j 3 != 0) <;> simp [f1, f2, f3, f4, f5, c_fits, b0, b1, b2, fits64]
    all_goals (rw [fits64 (by omega), fits64 (by omega)]; rfl)
  · simp only [e]
    simp [f1, f2]
  · simp only [e]
    simp [f1, f2]
  · simp only [e, u1, u2]
    cases hx : (recAt xs j 3 != 0) <;> simp [f1, f2, f3, f4, f5, c_fits, b0, b1, b2, fits64]
    all_goals (rw [fits64 (by omega), fits64 (by omega)]; rfl)
theorem i_Grid_front_val (z : β) {N : Nat} (hN : 16 < N) {n : Nat} {X O : Nat -> Int} (g : GridP n X O) (hX : ∀ j, 0 <= X j) (hO : ∀ j, 0 <= O j) (k : (Nat -> Int) -> β) :
    i_Grid_front z N n X O k = k (iter (frontF (cornersL n X O)) (2 * n) 0 fun _ => 0) := by
  have h8 := g.hi
  unfold i_Grid_front
  rw [i_Grid_corners_val z (by omega) g hX hO]
  have hr := corner_recs (n := n) (X := X) (O := O)
  have hl := cornersL_len n X O
  generalize cornersL n X O = xs at *
  rw [c_ble (by omega)]
  refine up_to (L := fun m j h => i_Grid_front_l0 z N (8 * n) (2 * n) (2 * n) ((2 * n : Nat) : Int) n X O (fun _ => 0) xs m (j : Int) h fun q10 => k q10) (n := 2 * n) (out := k) (f := frontF xs)
    (I := fun i h => ∃ s : Int × Int, (0 <= s.1 ∧ 0 <= s.2 ∧ s.1 + s.2 <= i) ∧ h 0 = s.1 + s.2 ∧ h 1 = s.2 ∧ h 2 = s.1)
    (fun m j h hj ⟨s, hs, hh⟩ => ⟨?_, ⟨cuspF xs (fun _ => false) j s, cuspF_bd hs, frontF_get hh⟩⟩) (fun m s _ => by simp (disch := omega) only [i_Grid_front_l0, i_Grid_front_l0_s, c_nlt]) (2 * n) N 0 (fun _ => 0) (by omega) (by omega) ⟨(0, 0), by simp, by simp⟩
  obtain ⟨r0, r1, r2⟩ := hr j hj
  have e2 : xs[j * 4 + 2]?.getD 0 = recAt xs j 2 := rfl
  have e3 : xs[j * 4 + 3]?.getD 0 = recAt xs j 3 := rfl
  have hb : ∀ q, q < 3 -> 0 <= h q ∧ h q <= 1000 := fun q hq => by
    obtain ⟨h0, h1, h2⟩ := hh
    have : q = 0 ∨ q = 1 ∨ q = 2 := by omega
    rcases this with rfl | rfl | rfl <;> omega
  simp only [i_Grid_front_l0, i_Grid_front_l0_s, c_and, Int.toNat_natCast, addO_eq, Nat.add_zero, e2, e3, i_front_add_val z N _ _ ⟨r1, r2⟩ hb]
  simp (disch := omega) only [c_lt, c_le, c_ble, c_blt, c_beq, c_fits]
  rfl
theorem front_cusps (xs : List Int) (L : Nat) : (iter (frontF xs) L 0 fun _ => 0) 0 = (cuspS xs (fun _ => false) L).1 + (cuspS xs (fun _ => false) L).2 ∧ (iter (frontF xs) L 0 fun _ => 0) 1 = (cuspS xs (fun _ => false) L).2 ∧ (iter (frontF xs) L 0 fun _ => 0) 2 = (cuspS xs (fun _ => false) L).1 := by
  have key : ∀ (d i : Nat) (h : Nat -> Int) (s : Int × Int), h 0 = s.1 + s.2 ∧ h 1 = s.2 ∧ h 2 = s.1 -> iter (frontF xs) d i h 0 = (iter (cuspF xs fun _ => false) d i s).1 + (iter (cuspF xs fun _ => false) d i s).2 ∧ iter (frontF xs) d i h 1 = (iter (cuspF xs fun _ => false) d i s).2 ∧ iter (frontF xs) d i h 2 = (iter (cuspF xs fun _ => false) d i s).1 := by
    intro d
    induction d with
    | zero => exact fun i h s hh => hh
    | succ d ih => exact fun i h s hh => ih (i + 1) _ _ (frontF_get hh)
  exact key L 0 _ (0, 0) (by simp)
theorem skip_neg (wh : Nat -> Int) : skipC wh (-1) = fun _ => false := by funext c; simp [skipC]
end
end Go.AM
namespace Go.AM
section
variable {β : Type}
def betB (x a b : Int) : Bool := decide ((bif decide (b < a) then b else a) < x) && decide (x < bif decide (a < b) then b else a)
theorem i_isBetween_val (z : β) (N : Nat) (x a b : Int) (k : Bool -> β) : i_isBetween z N x a b k = k (betB x a b) := by
  unfold i_isBetween betB
  cases decide ((bif decide (b < a) then b else a) < x) <;> rfl
theorem l01In_between (z : β) (N : Nat) (x a b : Int) (k : Bool -> β) : s_l01In z N x ((bif decide (b < a) then b else a) + 1) ((bif decide (a < b) then b else a) - 1) k = k (betB x a b) := by
  rw [s_l01In_val]
  unfold betB
  congr 1
  rw [Bool.eq_iff_iff, decide_eq_true_iff, Bool.and_eq_true, decide_eq_true_iff, decide_eq_true_iff]
  omega
noncomputable def crossV (n : Nat) (X O : Nat -> Int) (i r : Nat) : Int :=
  cond (betB r (X i) (O i)) (cond (betB i (rowOf n X r) (rowOf n O r)) (cond (decide (X i < O i) == decide ((rowOf n X r : Int) < rowOf n O r)) 1 (-1)) 0) 0
theorem crossV_cases (n : Nat) (X O : Nat -> Int) (i r : Nat) : crossV n X O i r = 0 ∨ crossV n X O i r = 1 ∨ crossV n X O i r = -1 := by
  unfold crossV
  cases betB r (X i) (O i) <;> cases betB i (rowOf n X r) (rowOf n O r) <;> cases (decide (X i < O i) == decide ((rowOf n X r : Int) < rowOf n O r)) <;> simp
theorem min_bd {a b n : Int} (ha : 0 <= a ∧ a < n) (hb : 0 <= b ∧ b < n) : 0 <= (bif decide (b < a) then b else a) ∧ (bif decide (b < a) then b else a) < n := by cases decide (b < a) <;> simp <;> omega
theorem max_bd {a b n : Int} (ha : 0 <= a ∧ a < n) (hb : 0 <= b ∧ b < n) : 0 <= (bif decide (a < b) then b else a) ∧ (bif decide (a < b) then b else a) < n := by cases decide (a < b) <;> simp <;> omega
theorem GridP.bdX {n : Nat} {X O : Nat -> Int} (g : GridP n X O) (hX : ∀ j, 0 <= X j) {i : Nat} (hi : i < n) : 0 <= X i ∧ X i < n := by
  have := g.px.2.1 i hi
  have := hX i
  omega
theorem s_l03Cross_val (z : β) {N : Nat} (hN : 8 < N) {n : Nat} {X O : Nat -> Int} (g : GridP n X O) (hX : ∀ j, 0 <= X j) (hO : ∀ j, 0 <= O j) {i r : Nat} (hi : i < n) (hr : r < n) (k : Int -> β) :
    s_l03Cross z N n X O i r k = k (crossV n X O i r) := by
  have h8 := g.hi
  have b1 := g.bdX hX hi
  have b2 := g.swap.bdX hO hi
  have r1 := (rowOf_spec g.px hX hr).1
  have r2 := (rowOf_spec g.po hO hr).1
  have m1 := min_bd (n := n) b1 b2
  have m2 := max_bd (n := n) b1 b2
  have m3 := min_bd (a := (rowOf n X r : Int)) (b := (rowOf n O r : Int)) (n := n) (by omega) (by omega)
  have m4 := max_bd (a := (rowOf n X r : Int)) (b := (rowOf n O r : Int)) (n := n) (by omega) (by omega)
  unfold s_l03Cross crossV
  simp only [c_and, Int.toNat_natCast]
  simp (disch := omega) only [c_lt, c_le, c_blt]
  rw [s_l01Row_val z hN h8 g.px hX hr, s_l01Row_val z hN h8 g.po hO hr]
  rw [c_fits (by omega), c_fits (by omega), l01In_between]
  cases betB r (X i) (O i) with
  | false => rfl
  | true =>
    simp only [Bool.not_true, c_false, c_true]
    rw [c_fits (by omega), c_fits (by omega), l01In_between]
    cases betB i (rowOf n X r) (rowOf n O r) with
    | false => rfl
    | true =>
      simp only [Bool.not_true, c_false, c_true]
      cases (decide (X i < O i) == decide ((rowOf n X r : Int) < rowOf n O r)) <;> rfl
noncomputable def crossF (n : Nat) (X O : Nat -> Int) (i r : Nat) (s : List Int) : List Int := cond (crossV n X O i r != 0) (s ++ [(i : Int), (r : Int), crossV n X O i r]) s
noncomputable def crossR (n : Nat) (X O : Nat -> Int) (i : Nat) (s : List Int) : List Int := iter (crossF n X O i) n 0 s
noncomputable def crossL (n : Nat) (X O : Nat -> Int) : List Int := iter (crossR n X O) n 0 []
structure CrossI (m : Nat) (s : List Int) : Prop where
  len : s.length = 3 * (s.length / 3)
  le : s.length / 3 <= m
  sg : ∀ j, j < s.length / 3 -> s[j * 3 + 2]?.getD 0 = 1 ∨ s[j * 3 + 2]?.getD 0 = -1
theorem CrossI.step {m n i r : Nat} {X O : Nat -> Int} {s : List Int} (h : CrossI m s) : CrossI (m + 1) (crossF n X O i r s) := by
  unfold crossF
  have h1 := h.len
  have h2 := h.le
  have hv := crossV_cases n X O i r
  generalize crossV n X O i r = v at *
  by_cases e : v = 0
  · rw [show (v != 0) = false by simpa using e, c_false]
    exact ⟨h1, by omega, h.sg⟩
  · rw [show (v != 0) = true by simpa using e, c_true]
    have hl : (s ++ [(i : Int), (r : Int), v]).length = s.length + 3 := by simp
    refine ⟨by omega, by omega, fun j hj => ?_⟩
    by_cases e2 : j < s.length / 3
    · rw [List.getElem?_append_left (by omega)]; exact h.sg j e2
    · rw [List.getElem?_append_right (by omega), show j * 3 + 2 - s.length = 2 by omega]
      simp
      omega
theorem CrossI.row {m n i : Nat} {X O : Nat -> Int} {s : List Int} (h : CrossI m s) : ∀ d, CrossI (m + d) (iter (crossF n X O i) d 0 s) := by
  intro d
  induction d with
  | zero => exact h
  | succ d ih => rw [iter_succ]; exact ih.step
theorem CrossI.all {n : Nat} {X O : Nat -> Int} : ∀ d, CrossI (n * d) (iter (crossR n X O) d 0 []) := by
  intro d
  induction d with
  | zero => exact ⟨by simp [iter], by simp [iter], fun j hj => by simp [iter] at hj⟩
  | succ d ih => rw [iter_succ, Nat.mul_succ]; exact ih.row n
theorem rec3 (i r v : Int) : List.map (upd (upd (upd (fun _ => 0) 0 i) 1 r) 2 v) (List.range 3) = [i, r, v] := rfl
theorem s_l03Crossings_l1_val (z : β) {N : Nat} (hN : 8 < N) {n : Nat} {X O : Nat -> Int} (g : GridP n X O) (hX : ∀ j, 0 <= X j) (hO : ∀ j, 0 <= O j) {i m0 : Nat} (hi : i < n) (hm0 : m0 <= 1000) {s0 : List Int} (h0 : CrossI m0 s0) (k : Nat -> Nat -> Nat -> List Int -> β) :
    s_l03Crossings_l1 z N i n X O N s0.length (s0.length / 3) (s0.length / 3) 0 s0 k = k (crossR n X O i s0).length ((crossR n X O i s0).length / 3) ((crossR n X O i s0).length / 3) (crossR n X O i s0) := by
  have h8 := g.hi
  exact up_to (L := fun m r (s : List Int) => s_l03Crossings_l1 z N i n X O m s.length (s.length / 3) (s.length / 3) (r : Int) s k) (n := n) (out := fun s => k s.length (s.length / 3) (s.length / 3) s) (f := crossF n X O i) (I := fun r s => CrossI (m0 + r) s)
    (fun m r s hr hs => ⟨by
      have h1 := hs.len
      have h2 := hs.le
      have hl : ∀ v, (s ++ [(i : Int), (r : Int), v]).length = s.length + 3 := by simp
      simp only [s_l03Crossings_l1, s_l03Crossings_l1_s]
      rw [c_lt (by omega), s_l03Cross_val z hN g hX hO hi hr]
      unfold crossF
      cases crossV n X O i r != 0 with
      | true =>
        simp only [c_true, c_and, rec3]
        simp (disch := omega) only [c_ble, c_nble, c_beq, c_fits]
        rw [hl, show (s.length + 3) / 3 = s.length / 3 + 1 by omega]
        rfl
      | false =>
        simp only [c_false]
        rw [c_fits (by omega)]
        rfl, hs.step⟩)
    (fun m s _ => by simp (disch := omega) only [s_l03Crossings_l1, s_l03Crossings_l1_s, c_nlt]) n N 0 s0 (by omega) (by omega) h0
theorem s_l03Crossings_val (z : β) {N : Nat} (hN : 8 < N) {n : Nat} {X O : Nat -> Int} (g : GridP n X O) (hX : ∀ j, 0 <= X j) (hO : ∀ j, 0 <= O j) (k : Nat -> Nat -> Nat -> List Int -> β) :
    s_l03Crossings z N n X O k = k (crossL n X O).length ((crossL n X O).length / 3) ((crossL n X O).length / 3) (crossL n X O) := by
  have h8 := g.hi
  unfold s_l03Crossings
  exact up_to (L := fun m i (s : List Int) => s_l03Crossings_l0 z N n X O m s.length (s.length / 3) (s.length / 3) (i : Int) s k) (n := n) (out := fun s => k s.length (s.length / 3) (s.length / 3) s) (f := crossR n X O) (I := fun i s => CrossI (n * i) s)
    (fun m i s hi hs => ⟨by
      have : n * i <= 8 * 8 := Nat.mul_le_mul h8 (by omega)
      simp only [s_l03Crossings_l0, s_l03Crossings_l0_s]
      rw [c_lt (by omega), s_l03Crossings_l1_val z hN g hX hO hi (by omega) hs, c_fits (by omega)]
      rfl, by rw [Nat.mul_succ]; exact hs.row n⟩)
    (fun m s _ => by simp (disch := omega) only [s_l03Crossings_l0, s_l03Crossings_l0_s, c_nlt]) n N 0 [] (by omega) (by omega) (CrossI.all (X := X) (O := O) 0)
theorem i_Grid_crossings_l1_val (z : β) {N : Nat} (hN : 8 < N) {n : Nat} {X O : Nat -> Int} (g : GridP n X O) (hX : ∀ j, 0 <= X j) (hO : ∀ j, 0 <= O j) {i m0 : Nat} (hi : i < n) (hm0 : m0 <= 1000) {s0 : List Int} (h0 : CrossI m0 s0) (a b : Int) (k : Nat -> Nat -> Nat -> List Int -> β) :
    i_Grid_crossings_l1 z N i a b n n X O (plc n X) (plc n O) N s0.length (s0.length / 3) (s0.length / 3) 0 s0 k = k (crossR n X O i s0).length ((crossR n X O i s0).length / 3) ((crossR n X O i s0).length / 3) (crossR n X O i s0) := by
  have h8 := g.hi
  exact up_to (L := fun m r (s : List Int) => i_Grid_crossings_l1 z N i a b n n X O (plc n X) (plc n O) m s.length (s.length / 3) (s.length / 3) (r : Int) s k) (n := n) (out := fun s => k s.length (s.length / 3) (s.length / 3) s) (f := crossF n X O i) (I := fun r s => CrossI (m0 + r) s)
    (fun m r s hr hs => ⟨by
      have h1 := hs.len
      have h2 := hs.le
      have hl : ∀ v, (s ++ [(i : Int), (r : Int), v]).length = s.length + 3 := by simp
      have p1 := plc_spec g.px hX hr
      have p2 := plc_spec g.po hO hr
      have hne : (rowOf n X r : Int) ≠ rowOf n O r := fun e => by
        have e1 := rowOf_spec g.px hX hr
        have e2 := rowOf_spec g.po hO hr
        have := g.ne (rowOf n X r) e1.1
        rw [e1.2, show rowOf n X r = rowOf n O r by omega, e2.2] at this
        exact this rfl
      have hd : (decide (X i < O i) != decide ((rowOf n O r : Int) < rowOf n X r)) = (decide (X i < O i) == decide ((rowOf n X r : Int) < rowOf n O r)) := by
        by_cases e : (rowOf n X r : Int) < rowOf n O r
        · rw [decide_eq_true e, decide_eq_false (show ¬ (rowOf n O r : Int) < rowOf n X r by omega)]; cases decide (X i < O i) <;> rfl
        · rw [decide_eq_false e, decide_eq_true (show (rowOf n O r : Int) < rowOf n X r by omega)]; cases decide (X i < O i) <;> rfl
      simp only [i_Grid_crossings_l1, i_Grid_crossings_l1_s, c_and, Int.toNat_natCast, p1, p2, i_isBetween_val, hd]
      simp (disch := omega) only [c_lt, c_le, c_blt]
      unfold crossF crossV
      cases betB r (X i) (O i) with
      | false =>
        simp only [Bool.not_false, c_true, c_false]
        rw [c_fits (by omega)]
        rfl
      | true =>
        cases betB i (rowOf n X r) (rowOf n O r) with
        | false =>
          simp only [Bool.not_false, Bool.not_true, c_true, c_false]
          rw [c_fits (by omega)]
          rfl
        | true =>
          cases (decide (X i < O i) == decide ((rowOf n X r : Int) < rowOf n O r)) with
          | true =>
            simp only [Bool.not_true, c_true, c_false, rec3, show ((1 : Int) != 0) = true from rfl]
            simp (disch := omega) only [c_ble, c_nble, c_beq, c_fits]
            rw [hl, show (s.length + 3) / 3 = s.length / 3 + 1 by omega]
            rfl
          | false =>
            simp only [Bool.not_true, c_true, c_false, rec3, show ((-1 : Int) != 0) = true from rfl]
            simp (disch := omega) only [c_ble, c_nble, c_beq, c_fits]
            rw [hl, show (s.length + 3) / 3 = s.length / 3 + 1 by omega]
            rfl, hs.step⟩)
    (fun m s _ => by simp (disch := omega) only [i_Grid_crossings_l1, i_Grid_crossings_l1_s, c_nlt]) n N 0 s0 (by omega) (by omega) h0
theorem i_Grid_crossings_val (z : β) {N : Nat} (hN : 8 < N) {n : Nat} {X O : Nat -> Int} (g : GridP n X O) (hX : ∀ j, 0 <= X j) (hO : ∀ j, 0 <= O j) (k : Nat -> Nat -> Nat -> List Int -> β) :
    i_Grid_crossings z N n X O k = k (crossL n X O).length ((crossL n X O).length / 3) ((crossL n X O).length / 3) (crossL n X O) := by
  have h8 := g.hi
  unfold i_Grid_crossings i_Grid_n
  rw [i_Grid_places_val z hN h8 g.px hX, i_Grid_places_val z hN h8 g.po hO]
  exact up_to (L := fun m i (s : List Int) => i_Grid_crossings_l0 z N n n X O (plc n X) (plc n O) m s.length (s.length / 3) (s.length / 3) (i : Int) s k) (n := n) (out := fun s => k s.length (s.length / 3) (s.length / 3) s) (f := crossR n X O) (I := fun i s => CrossI (n * i) s)
    (fun m i s hi hs => ⟨by
      have : n * i <= 8 * 8 := Nat.mul_le_mul h8 (by omega)
      simp only [i_Grid_crossings_l0, i_Grid_crossings_l0_s, i_Grid_n]
      rw [c_lt (by omega), i_Grid_crossings_l1_val z hN g hX hO hi (by omega) hs, c_fits (by omega)]
      rfl, by rw [Nat.mul_succ]; exact hs.row n⟩)
    (fun m s _ => by simp (disch := omega) only [i_Grid_crossings_l0, i_Grid_crossings_l0_s, c_nlt]) n N 0 [] (by omega) (by omega) (CrossI.all (X := X) (O := O) 0)
def writheF (xs : List Int) (j : Nat) (s : Int) : Int := s + xs[j * 3 + 2]?.getD 0
def writheS (xs : List Int) : Int := iter (writheF xs) (xs.length / 3) 0 0
theorem writheF_bd {m : Nat} {xs : List Int} (h : CrossI m xs) {j : Nat} (hj : j < xs.length / 3) {s : Int} (hs : -(j : Int) <= s ∧ s <= j) : -((j + 1 : Nat) : Int) <= writheF xs j s ∧ writheF xs j s <= (j + 1 : Nat) := by
  have := h.sg j hj
  unfold writheF
  omega
theorem writheS_bd {m : Nat} {xs : List Int} (h : CrossI m xs) : -(m : Int) <= writheS xs ∧ writheS xs <= m := by
  have := iter_inv (f := writheF xs) (n := xs.length / 3) (I := fun j s => -(j : Int) <= s ∧ s <= j) (fun j s hj hs => writheF_bd h hj hs) (xs.length / 3) 0 0 (by omega) (by simp)
  have h2 := h.le
  rw [Nat.zero_add] at this
  unfold writheS
  omega
theorem crossL_inv {n : Nat} (X O : Nat -> Int) (h8 : n <= 8) : CrossI 64 (crossL n X O) := by
  have h : CrossI (n * n) (crossL n X O) := CrossI.all (n := n) (X := X) (O := O) n
  have : n * n <= 8 * 8 := Nat.mul_le_mul h8 h8
  exact ⟨h.len, by have := h.le; omega, h.sg⟩
theorem s_l03Writhe_val (z : β) {N : Nat} (hN : 100 < N) {n : Nat} {X O : Nat -> Int} (g : GridP n X O) (hX : ∀ j, 0 <= X j) (hO : ∀ j, 0 <= O j) (k : Int -> β) : s_l03Writhe z N n X O k = k (writheS (crossL n X O)) := by
  unfold s_l03Writhe
  rw [s_l03Crossings_val z (by omega) g hX hO]
  have h := crossL_inv X O g.hi
  generalize crossL n X O = xs at *
  have h1 := h.len
  have h2 := h.le
  exact up_to (L := fun m j s => s_l03Writhe_l0 z xs.length (xs.length / 3) (xs.length / 3) n X O xs m s (j : Int) k) (n := xs.length / 3) (out := k) (f := writheF xs) (I := fun j s => -(j : Int) <= s ∧ s <= j)
    (fun m j s hj hs => ⟨by
      have h3 := h.sg j hj
      have h4 := writheF_bd h hj hs
      unfold writheF at h4 ⊢
      simp only [s_l03Writhe_l0, s_l03Writhe_l0_s, c_and, Int.toNat_natCast, addO_eq]
      simp (disch := omega) only [c_lt, c_le, c_ble, c_blt, c_beq, c_fits]
      rfl, writheF_bd h hj hs⟩)
    (fun m s _ => by simp (disch := omega) only [s_l03Writhe_l0, s_l03Writhe_l0_s, c_nlt, c_ble]) (xs.length / 3) N 0 0 (by omega) (by omega) (by simp)
theorem i_Grid_writhe_val (z : β) {N : Nat} (hN : 100 < N) {n : Nat} {X O : Nat -> Int} (g : GridP n X O) (hX : ∀ j, 0 <= X j) (hO : ∀ j, 0 <= O j) (k : Int -> β) : i_Grid_writhe z N n X O k = k (writheS (crossL n X O)) := by
  unfold i_Grid_writhe
  rw [i_Grid_crossings_val z (by omega) g hX hO]
  have h := crossL_inv X O g.hi
  generalize crossL n X O = xs at *
  have h1 := h.len
  have h2 := h.le
  rw [c_ble (by omega)]
  exact up_to (L := fun m j s => i_Grid_writhe_l0 z xs.length (xs.length / 3) (xs.length / 3) ((xs.length / 3 : Nat) : Int) n X O xs m s (j : Int) k) (n := xs.length / 3) (out := k) (f := writheF xs) (I := fun j s => -(j : Int) <= s ∧ s <= j)
    (fun m j s hj hs => ⟨by
      have h3 := h.sg j hj
      have h4 := writheF_bd h hj hs
      unfold writheF at h4 ⊢
      simp only [i_Grid_writhe_l0, i_Grid_writhe_l0_s, c_and, Int.toNat_natCast, addO_eq]
      simp (disch := omega) only [c_lt, c_le, c_ble, c_blt, c_beq, c_fits]
      rfl, writheF_bd h hj hs⟩)
    (fun m s _ => by simp (disch := omega) only [i_Grid_writhe_l0, i_Grid_writhe_l0_s, c_nlt]) (xs.length / 3) N 0 0 (by omega) (by omega) (by simp)
noncomputable def tbS (n : Nat) (X O : Nat -> Int) : Int := -writheS (crossL n X O) - ((cuspS (cornersL n X O) (fun _ => false) (2 * n)).1 + (cuspS (cornersL n X O) (fun _ => false) (2 * n)).2).tdiv 2
noncomputable def rotS (n : Nat) (X O : Nat -> Int) : Int := ((cuspS (cornersL n X O) (fun _ => false) (2 * n)).1 - (cuspS (cornersL n X O) (fun _ => false) (2 * n)).2).tdiv 2
theorem tdiv2_bd {x m : Int} (h : -m <= x ∧ x <= m) : -m <= x.tdiv 2 ∧ x.tdiv 2 <= m := by
  cases x with
  | ofNat a =>
    have : (Int.ofNat a).tdiv 2 = ((a / 2 : Nat) : Int) := rfl
    have e : Int.ofNat a = (a : Int) := rfl
    rw [this]
    rw [e] at h
    omega
  | negSucc a =>
    have : (Int.negSucc a).tdiv 2 = -(((a + 1) / 2 : Nat) : Int) := rfl
    have e : Int.negSucc a = -((a : Int) + 1) := rfl
    rw [this]
    rw [e] at h
    omega
theorem nums_bd {n : Nat} {X O : Nat -> Int} (h8 : n <= 8) : -100 <= tbS n X O ∧ tbS n X O <= 100 ∧ -100 <= rotS n X O ∧ rotS n X O <= 100 := by
  have h1 := cuspS_bd (cornersL n X O) (fun _ => false) (2 * n)
  have h2 := writheS_bd (crossL_inv X O h8)
  have h3 := tdiv2_bd (x := (cuspS (cornersL n X O) (fun _ => false) (2 * n)).1 + (cuspS (cornersL n X O) (fun _ => false) (2 * n)).2) (m := 16) (by omega)
  have h4 := tdiv2_bd (x := (cuspS (cornersL n X O) (fun _ => false) (2 * n)).1 - (cuspS (cornersL n X O) (fun _ => false) (2 * n)).2) (m := 16) (by omega)
  unfold tbS rotS
  omega
theorem s_l07Numbers_val (z : β) {N : Nat} (hN : 100 < N) {n : Nat} {X O : Nat -> Int} (g : GridP n X O) (hX : ∀ j, 0 <= X j) (hO : ∀ j, 0 <= O j) (k : Int -> Int -> β) : s_l07Numbers z N n X O k = k (tbS n X O) (rotS n X O) := by
  unfold s_l07Numbers
  rw [s_l07Cusps_val z (by omega) g hX hO, s_l03Writhe_val z hN g hX hO, skip_neg]
  have h0 := nums_bd (X := X) (O := O) g.hi
  have h8 := g.hi
  have h1 := cuspS_bd (cornersL n X O) (fun _ => false) (2 * n)
  have h2 := writheS_bd (crossL_inv X O g.hi)
  unfold tbS rotS at *
  generalize cuspS (cornersL n X O) (fun _ => false) (2 * n) = s at *
  generalize writheS (crossL n X O) = w at *
  have h3 := tdiv2_bd (x := s.1 + s.2) (m := 16) (by omega)
  have h4 := tdiv2_bd (x := s.1 - s.2) (m := 16) (by omega)
  simp (disch := omega) only [c_fits]
theorem i_Grid_numbers_val (z : β) {N : Nat} (hN : 100 < N) {n : Nat} {X O : Nat -> Int} (g : GridP n X O) (hX : ∀ j, 0 <= X j) (hO : ∀ j, 0 <= O j) (k : List Int -> β) : i_Grid_numbers z N n X O k = k [tbS n X O, rotS n X O] := by
  unfold i_Grid_numbers i_front_numbers
  rw [i_Grid_front_val z (by omega) g hX hO, i_Grid_writhe_val z hN g hX hO]
  obtain ⟨f0, f1, f2⟩ := front_cusps (cornersL n X O) (2 * n)
  simp only [f0, f1, f2]
  have h0 := nums_bd (X := X) (O := O) g.hi
  have h8 := g.hi
  have h1 := cuspS_bd (cornersL n X O) (fun _ => false) (2 * n)
  have h2 := writheS_bd (crossL_inv X O g.hi)
  unfold tbS rotS at *
  generalize cuspS (cornersL n X O) (fun _ => false) (2 * n) = s at *
  generalize writheS (crossL n X O) = w at *
  have h3 := tdiv2_bd (x := s.1 + s.2) (m := 16) (by omega)
  have h4 := tdiv2_bd (x := s.1 - s.2) (m := 16) (by omega)
  simp (disch := omega) only [c_fits]
  rfl
end
end Go.AM
namespace Go.AM
section
variable {β : Type}
def upH (h : Nat -> Int) : Nat -> Int := fun j => if j < 8 then h j + 1 else 0
theorem upH_upd {h : Nat -> Int} {k : Nat} (hk : k < 8) (c : Int) : upd (upH h) k (c + 1) = upH (upd h k c) := by
  funext j
  unfold upH
  simp only [upd_at]
  by_cases e : j = k
  · subst e; rw [if_pos rfl, if_pos rfl, if_pos hk]
  · rw [if_neg e, if_neg e]
theorem i_Grid_component_val (z : β) {N : Nat} (hN : 8 < N) {n : Nat} {X O : Nat -> Int} (g : GridP n X O) (hX : ∀ j, 0 <= X j) (hO : ∀ j, 0 <= O j) (k : (Nat -> Int) -> Int -> β) :
    i_Grid_component z N n X O k = k (fun j => if j < n then (compS (nxtC n X O) n).1 j else 0) (compS (nxtC n X O) n).2 := by
  have h8 := g.hi
  unfold i_Grid_component i_Grid_n
  rw [i_Grid_places_val z hN h8 g.px hX]
  have hlt := nxtC_lt g hX hO
  have inv := compS_inv hlt
  have main : ∀ kk : Int -> (Nat -> Int) -> β, i_Grid_component_l0 z N n n X O (fun _ => 0) (plc n X) N 0 0 (fun _ => 0) kk = kk (compS (nxtC n X O) n).2 (upH (compS (nxtC n X O) n).1) := by
    intro kk
    have e0 : (fun _ : Nat => (0 : Int)) = upH fun j => if j < 8 then -1 else 0 := by
      funext j
      unfold upH
      by_cases e : j < 8
      · simp only [if_pos e]; rfl
      · simp only [if_neg e]
    have hst := up_to (L := fun m i s => i_Grid_component_l0 z N n n X O (fun _ => 0) (plc n X) m s.2 (i : Int) (upH s.1) kk) (n := n) (out := fun s => kk s.2 (upH s.1)) (f := compF (nxtC n X O) n) (I := CompI n)
      (fun m i s hi hI => ⟨?_, compF_step hlt hi hI⟩) (fun m s _ => by simp (disch := omega) only [i_Grid_component_l0, i_Grid_component_l0_s, c_nlt]) n N 0 ((fun j => if j < 8 then -1 else 0), 0) (by omega) (by omega)
      ⟨Int.le_refl _, Int.le_refl _, fun j hj => by omega, fun j hj => by simp [hj], fun j _ hj => by simp [hj]⟩
    · rw [<- e0] at hst
      exact hst
    have h1 := hI.nn
    have h2 := hI.le
    have walk : ∀ kk : (Nat -> Int) -> β, i_Grid_component_l1 z (s.2 + 1) n i n X O (fun _ => 0) (plc n X) N (i : Int) (upH s.1) kk = kk (upH (walkH (nxtC n X O) s.2 n i s.1)) := by
      intro kk
      refine walk_loop (L := fun m k h => i_Grid_component_l1 z (s.2 + 1) n i n X O (fun _ => 0) (plc n X) m (k : Int) (upH h) kk) (out := fun h => kk (upH h)) (n := n) (nxt := nxtC n X O) (c := s.2) h1 hlt (I := fun h => ∀ j, j < 8 -> -1 <= h j) (fun k h hk hI hu j hj => by
          rw [upd_at]; split
          · omega
          · exact hI j hj)
        (fun m k h hk hh hu => ?_) (fun m k h hk hh hu => ?_) n N i s.1 (cntU_le _ _) (by omega) hi (fun j hj => by have := hI.bd j hj; omega)
      · have o1 := g.swap.bdX hO hk
        have e : upH h k = 0 := by unfold upH; rw [if_pos (by omega)]; have := hh k (by omega); omega
        have ep : plc n X (O k).toNat = (nxtC n X O k : Int) := plc_spec g.px hX (by omega)
        simp only [i_Grid_component_l1, i_Grid_component_l1_s, c_and, Int.toNat_natCast, e, ep]
        simp (disch := omega) only [c_lt, c_le, c_blt, c_eq]
        rw [upH_upd (by omega)]
      · have e : upH h k ≠ 0 := by unfold upH; rw [if_pos (by omega)]; omega
        simp only [i_Grid_component_l1, i_Grid_component_l1_s, c_and, Int.toNat_natCast]
        simp (disch := omega) only [c_lt, c_le, c_blt, c_neq]
    have e : upH s.1 i = s.1 i + 1 := by unfold upH; rw [if_pos (by omega)]
    simp only [i_Grid_component_l0, i_Grid_component_l0_s, c_and, Int.toNat_natCast, walk, e]
    simp (disch := omega) only [c_lt, c_le, c_blt, c_fits]
    unfold compF
    by_cases hu : s.1 i < 0
    · rw [c_nlt (by omega), if_pos hu]
      rfl
    · rw [c_lt (by omega), if_neg hu]
      rfl
  rw [main]
  generalize hs : compS (nxtC n X O) n = s at *
  refine (up_to (L := fun m i h => i_Grid_component_l2 z s.2 n n X O (fun _ => 0) (plc n X) m (i : Int) h fun q9 => k q9 s.2) (n := n) (out := fun h => k h s.2) (f := fun i h => upd h i (h i - 1)) (I := fun i h => ∀ j, h j = if j < i then s.1 j else upH s.1 j)
    (fun m i h hi hh => ⟨by
      have e1 := hh i
      have e2 := inv.bd i (by omega)
      have e3 := inv.le
      rw [if_neg (by omega)] at e1
      unfold upH at e1
      rw [if_pos (by omega)] at e1
      simp only [i_Grid_component_l2, i_Grid_component_l2_s, c_and, Int.toNat_natCast]
      simp (disch := omega) only [c_lt, c_le, c_blt, c_fits]
      rfl, fun j => by
      rw [upd_at]
      by_cases e : j = i
      · subst e
        rw [if_pos rfl, if_pos (by omega), hh j, if_neg (by omega)]
        unfold upH
        rw [if_pos (by omega)]
        omega
      · rw [if_neg e, hh j]
        by_cases e2 : j < i
        · rw [if_pos e2, if_pos (by omega)]
        · rw [if_neg e2, if_neg (by omega)]⟩)
    (fun m s _ => by simp (disch := omega) only [i_Grid_component_l2, i_Grid_component_l2_s, c_nlt]) n N 0 (upH s.1) (by omega) (by omega) (fun j => by rw [if_neg (by omega)])).trans ?_
  congr 1
  have key := iter_inv (f := fun i (h : Nat -> Int) => upd h i (h i - 1)) (n := n) (I := fun i h => ∀ j, h j = if j < i then s.1 j else upH s.1 j) (fun i h hi hh j => by
      rw [upd_at]
      by_cases e : j = i
      · subst e
        rw [if_pos rfl, if_pos (by omega), hh j, if_neg (by omega)]
        unfold upH
        rw [if_pos (by omega)]
        omega
      · rw [if_neg e, hh j]
        by_cases e2 : j < i
        · rw [if_pos e2, if_pos (by omega)]
        · rw [if_neg e2, if_neg (by omega)]) n 0 (upH s.1) (by omega) (fun j => by rw [if_neg (by omega)])
  funext j
  rw [Nat.zero_add] at key
  rw [key j]
  by_cases e : j < n
  · rw [if_pos e, if_pos e]
  · rw [if_neg e, if_neg e]
    unfold upH
    by_cases e2 : j < 8
    · rw [if_pos e2, inv.rest j (by omega) e2]; rfl
    · rw [if_neg e2]
end
end Go.AM
namespace Go.AM
section
variable {β : Type}
theorem app1 (x : Int) : fromTo ((List.replicate 1 (0 : Int)).set 0 x) 0 1 = [x] := rfl
theorem len1 {γ : Type} (s : List γ) (x : γ) : (s ++ [x]).length = s.length + 1 := by simp
end
end Go.AM
namespace Go.AM
section
variable {β : Type}
def cycL (nxt : Nat -> Nat) (st : Nat) : Nat -> Nat -> List Nat
  | 0, _ => []
  | d + 1, k => k :: (if nxt k = st then [] else cycL nxt st d (nxt k))
structure WInv (nxt : Nat -> Nat) (n st : Nat) (h : Nat -> Int) (k : Nat) : Prop where
  lt : k < n
  fresh : h k < 0
  back : ∀ x, x < n -> 0 <= h (nxt x) -> nxt x = st ∨ 0 <= h x
  prev : k = st ∨ ∃ p, p < n ∧ 0 <= h p ∧ nxt p = k
  stv : k = st ∨ 0 <= h st
def BackC (nxt : Nat -> Nat) (n : Nat) (h : Nat -> Int) : Prop := ∀ x, x < n -> 0 <= h (nxt x) -> 0 <= h x
theorem WInv.start {nxt : Nat -> Nat} {n k : Nat} {h : Nat -> Int} (hk : k < n) (hf : h k < 0) (hb : BackC nxt n h) : WInv nxt n k h k :=
  ⟨hk, hf, fun x hx hv => .inr (hb x hx hv), .inl rfl, .inl rfl⟩
theorem WInv.step {nxt : Nat -> Nat} {n st k : Nat} {h : Nat -> Int} {c : Int} (hn : ∀ k, k < n -> nxt k < n) (hi : ∀ a b, a < n -> b < n -> nxt a = nxt b -> a = b) (hc : 0 <= c) (w : WInv nxt n st h k) (hne : nxt k ≠ st) :
    WInv nxt n st (upd h k c) (nxt k) := by
  have hk := w.lt
  have hfr := w.fresh
  have hself : nxt k ≠ k := fun e => by
    rcases w.prev with e2 | ⟨p, hp, hv, e2⟩
    · exact hne (e.trans e2)
    · have := hi p k hp hk (e2.trans e.symm)
      subst this
      omega
  refine ⟨hn k hk, ?_, fun x hx hv => ?_, .inr ⟨k, hk, ?_, rfl⟩, .inr ?_⟩
  · rw [upd_at, if_neg hself]
    rcases Int.lt_or_le (h (nxt k)) 0 with h1 | h1
    · exact h1
    · rcases w.back k hk h1 with e | e
      · exact absurd e hne
      · omega
  · rw [upd_at] at hv
    rw [upd_at]
    by_cases ex : x = k
    · right; rw [if_pos ex]; exact hc
    · rw [if_neg ex]
      by_cases e : nxt x = k
      · rcases w.prev with e2 | ⟨p, hp, hpv, e2⟩
        · exact .inl (e.trans e2)
        · have := hi p x hp hx (e2.trans e.symm)
          subst this
          exact .inr hpv
      · rw [if_neg e] at hv
        exact w.back x hx hv
  · rw [upd_at, if_pos rfl]; exact hc
  · rw [upd_at]
    split
    · exact hc
    · rename_i e
      rcases w.stv with e2 | e2
      · exact absurd e2.symm e
      · exact e2
theorem WInv.done {nxt : Nat -> Nat} {n st k : Nat} {h : Nat -> Int} {c : Int} (hi : ∀ a b, a < n -> b < n -> nxt a = nxt b -> a = b) (hc : 0 <= c) (w : WInv nxt n st h k) (he : nxt k = st) : BackC nxt n (upd h k c) := by
  intro x hx hv
  rw [upd_at] at hv ⊢
  by_cases ex : x = k
  · rw [if_pos ex]; exact hc
  · rw [if_neg ex]
    by_cases e : nxt x = k
    · rcases w.prev with e2 | ⟨p, hp, hpv, e2⟩
      · exact absurd (hi x k hx w.lt ((e.trans e2).trans he.symm)) ex
      · have := hi p x hp hx (e2.trans e.symm)
        subst this
        exact hpv
    · rw [if_neg e] at hv
      rcases w.back x hx hv with e3 | e3
      · exact absurd (hi x k hx w.lt (e3.trans he.symm)) ex
      · exact e3
theorem WInv.stSet {nxt : Nat -> Nat} {n st k : Nat} {h : Nat -> Int} {c : Int} (hc : 0 <= c) (w : WInv nxt n st h k) : 0 <= upd h k c st := by
  rw [upd_at]
  split
  · exact hc
  · rename_i e
    rcases w.stv with e2 | e2
    · exact absurd e2.symm e
    · exact e2
theorem walkH_back {nxt : Nat -> Nat} {n st : Nat} {c : Int} (hn : ∀ k, k < n -> nxt k < n) (hi : ∀ a b, a < n -> b < n -> nxt a = nxt b -> a = b) (hc : 0 <= c) :
    ∀ (d k : Nat) (h : Nat -> Int), cntU n h <= d -> WInv nxt n st h k -> BackC nxt n (walkH nxt c d k h) := by
  intro d
  induction d with
  | zero =>
    intro k h hd w
    have := cntU_zero (by omega : cntU n h = 0) w.lt
    have := w.fresh
    omega
  | succ d ih =>
    intro k h hd w
    have hcn := cntU_upd w.lt w.fresh hc
    simp only [walkH]
    rw [if_pos w.fresh]
    by_cases e : nxt k = st
    · have hs : walkH nxt c d (nxt k) (upd h k c) = upd h k c := by
        have := w.stSet hc
        rw [<- e] at this
        cases d with
        | zero => rfl
        | succ d => simp only [walkH]; rw [if_neg (by omega)]
      rw [hs]
      exact w.done hi hc e
    · exact ih _ _ (by omega) (w.step hn hi hc e)
theorem cyc_loop {σ : Type} {L : Nat -> Nat -> σ -> β} {out : σ -> β} {f : σ -> Nat -> σ} {nxt : Nat -> Nat} {n st : Nat} (hn : ∀ k, k < n -> nxt k < n) (hi : ∀ a b, a < n -> b < n -> nxt a = nxt b -> a = b) {I : Nat -> σ -> Prop}
    (hs : ∀ m k s q, k < n -> q < n -> I q s -> L (m + 1) k s = (if nxt k = st then out (f s k) else L m (nxt k) (f s k)) ∧ I (q + 1) (f s k)) :
    ∀ (d m k q : Nat) (s : σ) (h : Nat -> Int), cntU n h <= d -> q + d <= n -> d <= m -> WInv nxt n st h k -> I q s -> L m k s = out ((cycL nxt st d k).foldl f s) := by
  intro d
  induction d with
  | zero =>
    intro m k q s h hd hq hm w hI
    have := cntU_zero (by omega : cntU n h = 0) w.lt
    have := w.fresh
    omega
  | succ d ih =>
    intro m k q s h hd hq hm w hI
    obtain ⟨m, rfl⟩ : ∃ m', m = m' + 1 := ⟨m - 1, by omega⟩
    have hcn := cntU_upd w.lt w.fresh (c := 0) (by omega)
    obtain ⟨h1, h2⟩ := hs m k s q w.lt (by omega) hI
    rw [h1, cycL]
    by_cases e : nxt k = st
    · rw [if_pos e, if_pos e]; rfl
    · rw [if_neg e, if_neg e]
      exact ih m (nxt k) (q + 1) (f s k) (upd h k 0) (by omega) (by omega) (by omega) (w.step hn hi (c := 0) (by omega) e) h2
theorem vis_loop {σ : Type} {L : Nat -> Nat -> (Nat -> Int) -> σ -> β} {out : (Nat -> Int) -> σ -> β} {f : σ -> Nat -> σ} {nxt : Nat -> Nat} {n st : Nat} {c : Int} (hc : 0 <= c) (hn : ∀ k, k < n -> nxt k < n) (hi : ∀ a b, a < n -> b < n -> nxt a = nxt b -> a = b)
    {I : Nat -> σ -> Prop}
    (hs : ∀ m k h s q, k < n -> q < n -> h k < 0 -> I q s -> L (m + 1) k h s = L m (nxt k) (upd h k c) (f s k) ∧ I (q + 1) (f s k)) (he : ∀ m k h s, k < n -> 0 <= h k -> L (m + 1) k h s = out h s) :
    ∀ (d m k q : Nat) (h : Nat -> Int) (s : σ), cntU n h <= d -> q + d <= n -> d < m -> WInv nxt n st h k -> I q s -> L m k h s = out (walkH nxt c d k h) ((cycL nxt st d k).foldl f s) := by
  intro d
  induction d with
  | zero =>
    intro m k q h s hd hq hm w hI
    have := cntU_zero (by omega : cntU n h = 0) w.lt
    have := w.fresh
    omega
  | succ d ih =>
    intro m k q h s hd hq hm w hI
    obtain ⟨m, rfl⟩ : ∃ m', m = m' + 1 := ⟨m - 1, by omega⟩
    have hcn := cntU_upd w.lt w.fresh hc
    obtain ⟨h1, h2⟩ := hs m k h s q w.lt (by omega) w.fresh hI
    rw [h1, cycL]
    simp only [walkH]
    rw [if_pos w.fresh]
    by_cases e : nxt k = st
    · rw [if_pos e]
      have hst := w.stSet hc
      rw [<- e] at hst
      obtain ⟨m, rfl⟩ : ∃ m', m = m' + 1 := ⟨m - 1, by omega⟩
      rw [he m (nxt k) _ _ (hn k w.lt) hst]
      have hw : walkH nxt c d (nxt k) (upd h k c) = upd h k c := by
        cases d with
        | zero => rfl
        | succ d => simp only [walkH]; rw [if_neg (by omega)]
      rw [hw]
      rfl
    · rw [if_neg e]
      exact ih m (nxt k) (q + 1) _ (f s k) (by omega) (by omega) (by omega) (w.step hn hi hc e) h2
def startF (nxt : Nat -> Nat) (n i : Nat) (s : ((Nat -> Int) × Int) × List Nat) : ((Nat -> Int) × Int) × List Nat := (compF nxt n i s.1, if s.1.1 i < 0 then s.2 ++ [i] else s.2)
def startS (nxt : Nat -> Nat) (n : Nat) : ((Nat -> Int) × Int) × List Nat := iter (startF nxt n) n 0 (((fun j => if j < 8 then -1 else 0), 0), [])
theorem startS_comp (nxt : Nat -> Nat) (n : Nat) : (startS nxt n).1 = compS nxt n := by
  have key : ∀ (d i : Nat) (s : ((Nat -> Int) × Int) × List Nat), (iter (startF nxt n) d i s).1 = iter (compF nxt n) d i s.1 := by
    intro d
    induction d with
    | zero => exact fun i s => rfl
    | succ d ih => exact fun i s => ih (i + 1) _
  exact key n 0 _
structure StartI (nxt : Nat -> Nat) (n i : Nat) (s : ((Nat -> Int) × Int) × List Nat) : Prop where
  comp : CompI n i s.1
  back : BackC nxt n s.1.1
  len : (s.2.length : Int) = s.1.2
  lt : ∀ q, q < s.2.length -> s.2[q]?.getD 0 < i
  own : ∀ q, q < s.2.length -> s.1.1 (s.2[q]?.getD 0) = q
  first : ∀ q, q < s.2.length -> ∀ j, j < s.2[q]?.getD 0 -> s.1.1 j ≠ q
theorem StartI.step {nxt : Nat -> Nat} {n i : Nat} (h8 : n <= 8) (hn : ∀ k, k < n -> nxt k < n) (hinj : ∀ a b, a < n -> b < n -> nxt a = nxt b -> a = b) (hi : i < n) {s : ((Nat -> Int) × Int) × List Nat} (h : StartI nxt n i s) : StartI nxt n (i + 1) (startF nxt n i s) := by
  have hcomp := compF_step hn hi h.comp
  obtain ⟨n', rfl⟩ : ∃ n', n = n' + 1 := ⟨n - 1, by omega⟩
  unfold startF
  by_cases hu : s.1.1 i < 0
  · rw [if_pos hu]
    have hcf : compF nxt (n' + 1) i s.1 = (walkH nxt s.1.2 (n' + 1) i s.1.1, s.1.2 + 1) := by unfold compF; rw [if_pos hu]
    have hnn := h.comp.nn
    have hlen := h.len
    have hval := fun j => walkH_val nxt s.1.2 (n' + 1) i s.1.1 j
    have hbk := walkH_back (st := i) (c := s.1.2) hn hinj hnn (n' + 1) i s.1.1 (cntU_le _ _) (WInv.start hi hu h.back)
    have hold : ∀ j, 0 <= s.1.1 j -> walkH nxt s.1.2 (n' + 1) i s.1.1 j = s.1.1 j := fun j hj => by
      rcases hval j with e | ⟨e, _⟩
      · exact e
      · omega
    have hnew : walkH nxt s.1.2 (n' + 1) i s.1.1 i = s.1.2 := by
      have h1 := walkH_start nxt hnn n' i s.1.1
      rcases hval i with e | ⟨_, e⟩
      · omega
      · exact e
    refine ⟨hcomp, ?_, ?_, fun q hq => ?_, fun q hq => ?_, fun q hq j hj => ?_⟩
    · rw [hcf]; exact hbk
    · rw [hcf]; simp only [List.length_append, List.length_singleton]; omega
    · rw [len1] at hq
      by_cases e : q = s.2.length
      · subst e; simp
      · simp only; rw [List.getElem?_append_left (by omega)]; have := h.lt q (by omega); omega
    · rw [len1] at hq
      rw [hcf]
      by_cases e : q = s.2.length
      · subst e; simp only [List.getElem?_append_right (Nat.le_refl _), Nat.sub_self, List.getElem?_cons_zero, Option.getD_some]; rw [hnew]; omega
      · simp only; rw [List.getElem?_append_left (by omega), hold _ (by rw [h.own q (by omega)]; omega)]; exact h.own q (by omega)
    · rw [len1] at hq
      rw [hcf]
      by_cases e : q = s.2.length
      · subst e
        simp only [List.getElem?_append_right (Nat.le_refl _), Nat.sub_self, List.getElem?_cons_zero, Option.getD_some] at hj
        simp only
        have hset := h.comp.set j hj
        rw [hold j hset]
        have := h.comp.bd j (by omega)
        omega
      · simp only at hj ⊢
        rw [List.getElem?_append_left (by omega)] at hj
        have hlt := h.lt q (by omega)
        rw [hold j (h.comp.set j (by omega))]
        exact h.first q (by omega) j hj
  · rw [if_neg hu]
    have hcf : compF nxt (n' + 1) i s.1 = s.1 := by unfold compF; rw [if_neg hu]
    rw [hcf] at hcomp ⊢
    exact ⟨hcomp, h.back, h.len, fun q hq => by have := h.lt q hq; simp only; omega, h.own, h.first⟩
theorem StartI.zero {nxt : Nat -> Nat} {n : Nat} (h8 : n <= 8) (hn : ∀ k, k < n -> nxt k < n) : StartI nxt n 0 (((fun j => if j < 8 then -1 else 0), 0), []) :=
  ⟨⟨Int.le_refl _, Int.le_refl _, fun j hj => by omega, fun j hj => by simp [hj], fun j _ hj => by simp [hj]⟩, fun x hx hv => by
    simp only at hv
    have := hn x hx
    rw [if_pos (by omega)] at hv
    omega, rfl, fun q hq => by simp at hq, fun q hq => by simp at hq, fun q hq => by simp at hq⟩
theorem startS_inv {nxt : Nat -> Nat} {n : Nat} (h8 : n <= 8) (hn : ∀ k, k < n -> nxt k < n) (hinj : ∀ a b, a < n -> b < n -> nxt a = nxt b -> a = b) : StartI nxt n n (startS nxt n) := by
  have := iter_inv (f := startF nxt n) (n := n) (I := fun i s => StartI nxt n i s) (fun i s hi h => h.step h8 hn hinj hi) n 0 _ (by omega) (StartI.zero h8 hn)
  rwa [Nat.zero_add] at this
end
end Go.AM
namespace Go.AM
section
variable {β : Type}
def letC (kind : Int) (isX : Bool) : List UInt8 := cond (kind == 1) [] (cond (kind == 2) [] (cond (isX == (kind == 0)) [117] [100]))
theorem letC_len (kind : Int) (isX : Bool) : (letC kind isX).length <= 1 := by
  unfold letC
  cases kind == 1 <;> cases kind == 2 <;> cases (isX == (kind == 0)) <;> simp
theorem i_Corner_letter_val (z : β) (N : Nat) (a b c : Int) (isX : Bool) (hc : 0 <= c ∧ c <= 3) (k : List UInt8 -> β) : i_Corner_letter z N a b c isX k = k (letC c isX) := by
  unfold i_Corner_letter i_Corner_isCusp letC
  have : c = 0 ∨ c = 1 ∨ c = 2 ∨ c = 3 := by omega
  rcases this with rfl | rfl | rfl | rfl <;> cases isX <;> rfl
noncomputable def letX (n : Nat) (X O : Nat -> Int) (i : Nat) : List UInt8 := letC (kindI i (X i) (O i) (rowOf n O (X i).toNat)) true
noncomputable def letO (n : Nat) (X O : Nat -> Int) (i : Nat) : List UInt8 := letC (kindI i (O i) (X i) (rowOf n X (O i).toNat)) false
theorem s_l07Letter_val (z : β) {N : Nat} (hN : 8 < N) {n : Nat} {X O : Nat -> Int} (g : GridP n X O) (hX : ∀ j, 0 <= X j) (hO : ∀ j, 0 <= O j) {i : Nat} (hi : i < n) (k : List UInt8 -> β) :
    s_l07Letter z N n X O i true k = k (letX n X O i) ∧ s_l07Letter z N n X O i false k = k (letO n X O i) := by
  have h8 := g.hi
  constructor
  · unfold s_l07Letter letX letC
    simp only [c_and, Int.toNat_natCast, c_true]
    simp (disch := omega) only [c_lt, c_le, c_blt]
    rw [(s_l07Kind_val z hN g hX hO hi _).1]
    cases kindI i (X i) (O i) (rowOf n O (X i).toNat) == 1 <;> cases kindI i (X i) (O i) (rowOf n O (X i).toNat) == 2 <;> cases (true == (kindI i (X i) (O i) (rowOf n O (X i).toNat) == 0)) <;> rfl
  · unfold s_l07Letter letO letC
    simp only [c_and, Int.toNat_natCast, c_false]
    simp (disch := omega) only [c_lt, c_le, c_blt]
    rw [(s_l07Kind_val z hN g hX hO hi _).2]
    cases kindI i (O i) (X i) (rowOf n X (O i).toNat) == 1 <;> cases kindI i (O i) (X i) (rowOf n X (O i).toNat) == 2 <;> cases (false == (kindI i (O i) (X i) (rowOf n X (O i).toNat) == 0)) <;> rfl
noncomputable def wordF (n : Nat) (X O : Nat -> Int) (t : List UInt8) (i : Nat) : List UInt8 := t ++ letX n X O i ++ letO n X O i
noncomputable def wordS (n : Nat) (X O : Nat -> Int) (st : Nat) : List UInt8 := (cycL (nxtC n X O) st n st).foldl (wordF n X O) []
theorem wordF_len (n : Nat) (X O : Nat -> Int) (t : List UInt8) (i : Nat) : (wordF n X O t i).length <= t.length + 2 := by
  have := letC_len (kindI i (X i) (O i) (rowOf n O (X i).toNat)) true
  have := letC_len (kindI i (O i) (X i) (rowOf n X (O i).toNat)) false
  unfold wordF letX letO
  simp only [List.length_append]
  omega
theorem nxtC_inj {n : Nat} {X O : Nat -> Int} (g : GridP n X O) (hX : ∀ j, 0 <= X j) (hO : ∀ j, 0 <= O j) : ∀ a b, a < n -> b < n -> nxtC n X O a = nxtC n X O b -> a = b := by
  intro a b ha hb e
  have o1 := g.swap.bdX hO ha
  have o2 := g.swap.bdX hO hb
  unfold nxtC at e
  have e1 := (rowOf_spec g.px hX (r := (O a).toNat) (by omega)).2
  have e2 := (rowOf_spec g.px hX (r := (O b).toNat) (by omega)).2
  rw [e, e2] at e1
  exact g.po.2.2 a b ha hb (by omega)
theorem freshW {nxt : Nat -> Nat} {n k : Nat} (h8 : n <= 8) (hn : ∀ k, k < n -> nxt k < n) (hk : k < n) : WInv nxt n k (fun j => if j < 8 then -1 else 0) k :=
  .start hk (by rw [if_pos (by omega)]; omega) (StartI.zero h8 hn).back
theorem s_Cusp_l2_val (z : β) {N : Nat} (hN : 8 < N) {n : Nat} {X O : Nat -> Int} (g : GridP n X O) (hX : ∀ j, 0 <= X j) (hO : ∀ j, 0 <= O j) {st : Nat} (hst : st < n) (co c : Int) (a b d : Nat) (h1 : Nat -> Int) (h2 : List (List UInt8)) (k : List UInt8 -> β) :
    s_CuspWords_l2 z N co a b d c st n X O h1 h2 N [] st k = k (wordS n X O st) := by
  have h8 := g.hi
  have hn := nxtC_lt g hX hO
  exact cyc_loop (L := fun m i (t : List UInt8) => s_CuspWords_l2 z N co a b d c st n X O h1 h2 m t (i : Int) k) (out := k) (f := wordF n X O) (nxt := nxtC n X O) (n := n) (st := st) hn (nxtC_inj g hX hO) (I := fun q t => t.length <= 2 * q)
    (fun m i t q hi hq ht => by
      have h3 := wordF_len n X O t i
      refine ⟨?_, by omega⟩
      have l1 := letC_len (kindI i (X i) (O i) (rowOf n O (X i).toNat)) true
      have l2 := letC_len (kindI i (O i) (X i) (rowOf n X (O i).toNat)) false
      simp only [s_CuspWords_l2, s_CuspWords_l2_s]
      rw [(s_l07Letter_val z hN g hX hO hi _).1, c_ble (by unfold letX; omega), (s_l07Letter_val z hN g hX hO hi _).2, c_ble (by unfold letX letO; rw [List.length_append]; omega), s_l01Follow_val z hN g hX hO hi]
      by_cases e : nxtC n X O i = st
      · rw [if_pos e, c_eq (by omega)]; rfl
      · rw [if_neg e, c_neq (by omega)]; rfl)
    n N st 0 [] (fun j => if j < 8 then -1 else 0) (cntU_le _ _) (by omega) (by omega) (freshW h8 hn hst) (by simp)
noncomputable def wordsS (n : Nat) (X O : Nat -> Int) : List (List UInt8) := (startS (nxtC n X O) n).2.map (wordS n X O)
theorem appS (x : List UInt8) : fromTo ((List.replicate 1 ([] : List UInt8)).set 0 x) 0 1 = [x] := rfl
theorem map_take_succ {γ : Type} (f : Nat -> γ) (xs : List Nat) (q : Nat) (hq : q < xs.length) : (xs.take (q + 1)).map f = (xs.take q).map f ++ [f (xs[q]?.getD 0)] := by
  rw [List.take_add_one, List.getElem?_eq_getElem hq, List.map_append]
  rfl
theorem s_CuspWords_val (z : β) {N : Nat} (hN : 100 < N) {n : Nat} {X O : Nat -> Int} (g : GridP n X O) (hX : ∀ j, 0 <= X j) (hO : ∀ j, 0 <= O j) (k0 : Int -> β) (k1 : Nat -> Nat -> Nat -> Int -> List (List UInt8) -> β) :
    s_CuspWords z N n X O k0 k1 = k1 (wordsS n X O).length (wordsS n X O).length (wordsS n X O).length 0 (wordsS n X O) := by
  have h8 := g.hi
  have hn := nxtC_lt g hX hO
  have inv := startS_inv h8 hn (nxtC_inj g hX hO)
  unfold s_CuspWords
  rw [s_l01Is_val z (by omega) _ _ _ hX hO, gridB_iff.2 ⟨n, rfl, g⟩]
  simp only [Bool.not_true, c_false]
  rw [s_l01Components_val z (by omega) g hX hO, <- startS_comp]
  unfold wordsS
  generalize hs : startS (nxtC n X O) n = s at *
  have hlen := inv.len
  have hle := inv.comp.le
  rw [<- hlen]
  have main := up_to (L := fun m c (ws : List (List UInt8)) => s_CuspWords_l0 z N s.2.length n X O s.1.1 m ws.length ws.length ws.length (c : Int) ws fun q9 q10 q11 q12 => k1 q9 q10 q11 0 q12) (n := s.2.length)
    (out := fun ws => k1 ws.length ws.length ws.length 0 ws) (f := fun c ws => ws ++ [wordS n X O (s.2[c]?.getD 0)]) (I := fun c ws => ws.length = c)
    (fun m c ws hc hw => ⟨?_, by rw [len1, hw]⟩) (fun m ws _ => by simp (disch := omega) only [s_CuspWords_l0, s_CuspWords_l0_s, c_nlt]) s.2.length N 0 [] (by omega) (by omega) rfl
  · refine Eq.trans main ?_
    have key : ∀ d, d <= s.2.length -> iter (fun c (ws : List (List UInt8)) => ws ++ [wordS n X O (s.2[c]?.getD 0)]) d 0 [] = (s.2.take d).map (wordS n X O) := by
      intro d
      induction d with
      | zero => intro _; rfl
      | succ d ih =>
        intro hd
        rw [iter_succ, ih (by omega), Nat.zero_add, map_take_succ _ _ _ (by omega)]
    rw [key s.2.length (Nat.le_refl _), List.take_length]
  have hstn : s.2[c]?.getD 0 < n := by have := inv.lt c hc; omega
  have first : ∀ kk : Int -> β, s_CuspWords_l1 z s.2.length ws.length ws.length ws.length c n X O s.1.1 ws N 0 kk = kk ((s.2[c]?.getD 0 : Nat) : Int) := by
    intro kk
    have key : ∀ (d m i : Nat), i + d = s.2[c]?.getD 0 -> d < m -> s_CuspWords_l1 z s.2.length ws.length ws.length ws.length c n X O s.1.1 ws m i kk = kk ((s.2[c]?.getD 0 : Nat) : Int) := by
      intro d
      induction d with
      | zero =>
        intro m i hi hm
        obtain ⟨m, rfl⟩ : ∃ m', m = m' + 1 := ⟨m - 1, by omega⟩
        have ho := inv.own c hc
        rw [Nat.add_zero] at hi
        rw [<- hi] at ho hstn ⊢
        simp only [s_CuspWords_l1, s_CuspWords_l1_s, c_and, Int.toNat_natCast]
        simp (disch := omega) only [c_lt, c_le, c_blt, c_nne]
      | succ d ih =>
        intro m i hi hm
        obtain ⟨m, rfl⟩ : ∃ m', m = m' + 1 := ⟨m - 1, by omega⟩
        have hf := inv.first c hc i (by omega)
        have := ih m (i + 1) (by omega) (by omega)
        simp only [s_CuspWords_l1, s_CuspWords_l1_s, c_and, Int.toNat_natCast]
        simp (disch := omega) only [c_lt, c_le, c_blt, c_ne, c_fits]
        exact this
    exact key (s.2[c]?.getD 0) N 0 (by omega) (by omega)
  simp only [s_CuspWords_l0, s_CuspWords_l0_s]
  rw [c_lt (by omega), first, s_Cusp_l2_val z (by omega) g hX hO hstn]
  simp only [c_and, c_true, appS, len1]
  simp (disch := omega) only [c_ble, c_nble, c_beq, c_fits]
  rfl
theorem iter_foldl {γ σ : Type} (f : σ -> γ -> σ) (d0 : γ) (xs : List γ) (acc : σ) : iter (fun j t => f t (xs[j]?.getD d0)) xs.length 0 acc = xs.foldl f acc := by
  have key : ∀ d, d <= xs.length -> iter (fun j t => f t (xs[j]?.getD d0)) d 0 acc = (xs.take d).foldl f acc := by
    intro d
    induction d with
    | zero => intro _; rfl
    | succ d ih =>
      intro hd
      rw [iter_succ, ih (by omega), Nat.zero_add, List.take_add_one, List.foldl_append, List.getElem?_eq_getElem (by omega)]
      rfl
  rw [key _ (Nat.le_refl _), List.take_length]
def vis (h : Nat -> Int) : Nat -> Bool := fun j => decide (j < 8 ∧ 0 <= h j)
theorem vis_upd {h : Nat -> Int} {k : Nat} {c : Int} (hk : k < 8) (hc : 0 <= c) : upd (vis h) k true = vis (upd h k c) := by
  funext j
  unfold vis
  rw [upd_at, upd_at]
  by_cases e : j = k
  · subst e; rw [if_pos rfl, if_pos rfl, decide_eq_true ⟨hk, hc⟩]
  · rw [if_neg e, if_neg e]
theorem vis_init : (fun _ => false) = vis fun j => if j < 8 then -1 else 0 := by
  funext j
  unfold vis
  by_cases h : j < 8
  · simp [h]
  · simp [h]
def rowN (xs : List Nat) : List Int := xs.map fun k : Nat => (k : Int)
theorem foldl_rowN (xs : List Nat) : ∀ acc : List Int, xs.foldl (fun (s : List Int) (k : Nat) => s ++ [(k : Int)]) acc = acc ++ rowN xs := by
  induction xs with
  | nil => intro acc; simp [rowN]
  | cons x xs ih => intro acc; rw [List.foldl_cons, ih]; simp [rowN]
theorem cycL_len (nxt : Nat -> Nat) (st : Nat) : ∀ d k, (cycL nxt st d k).length <= d := by
  intro d
  induction d with
  | zero => intro k; simp [cycL]
  | succ d ih =>
    intro k
    rw [cycL]
    split
    · simp
    · have := ih (nxt k)
      simp only [List.length_cons]
      omega
theorem cycL_lt {nxt : Nat -> Nat} {n : Nat} (hn : ∀ k, k < n -> nxt k < n) (st : Nat) : ∀ d k, k < n -> ∀ x ∈ cycL nxt st d k, x < n := by
  intro d
  induction d with
  | zero => intro k _ x hx; simp [cycL] at hx
  | succ d ih =>
    intro k hk x hx
    rw [cycL] at hx
    rcases List.mem_cons.1 hx with rfl | hx
    · exact hk
    · split at hx
      · simp at hx
      · exact ih _ (hn k hk) x hx
theorem i_walks_l1_val (z : β) {N : Nat} (hN : 100 < N) {n : Nat} {X O : Nat -> Int} (g : GridP n X O) (hX : ∀ j, 0 <= X j) (hO : ∀ j, 0 <= O j) {i : Nat} (hi : i < n) {h : Nat -> Int} {c : Int} (hc : 0 <= c) (hu : h i < 0) (hb : BackC (nxtC n X O) n h)
    (a b d : Nat) (t16 t17 : Int) (h1 : List (List Int)) (h2 : List (Nat × Nat)) (k : Nat -> Nat -> Nat -> (Nat -> Bool) -> List Int -> β) :
    i_Grid_walks_l1 z a b d t16 t17 n X O h1 h2 (plc n X) N 0 0 0 i (vis h) (List.replicate 0 0) k =
      k (rowN (cycL (nxtC n X O) i n i)).length (rowN (cycL (nxtC n X O) i n i)).length (rowN (cycL (nxtC n X O) i n i)).length (vis (walkH (nxtC n X O) c n i h)) (rowN (cycL (nxtC n X O) i n i)) := by
  have h8 := g.hi
  have hn := nxtC_lt g hX hO
  refine (vis_loop (L := fun m (q : Nat) h (s : List Int) => i_Grid_walks_l1 z a b d t16 t17 n X O h1 h2 (plc n X) m s.length s.length s.length (q : Int) (vis h) s k) (out := fun h s => k s.length s.length s.length (vis h) s) (f := fun (s : List Int) (k : Nat) => s ++ [(k : Int)]) (c := c) hc hn (nxtC_inj g hX hO) (I := fun q s => s.length = q)
    (fun m q h s p hq hp hf hs => ⟨?_, by rw [len1, hs]⟩) (fun m q h s hq hf => ?_) n N i 0 h [] (cntU_le _ _) (by omega) (by omega) (.start hi hu hb) rfl).trans ?_
  · have o1 := g.swap.bdX hO hq
    have ev : vis h q = false := by unfold vis; exact decide_eq_false (by omega)
    have ep : plc n X (O q).toNat = (nxtC n X O q : Int) := plc_spec g.px hX (by omega)
    simp only [i_Grid_walks_l1, i_Grid_walks_l1_s, c_and, Int.toNat_natCast, ev, ep, app1, c_true, Bool.not_false]
    simp (disch := omega) only [c_lt, c_le, c_blt, c_ble, c_nble, c_beq]
    rw [vis_upd (by omega) hc, len1]
  · have ev : vis h q = true := by unfold vis; exact decide_eq_true (by omega)
    simp only [i_Grid_walks_l1, i_Grid_walks_l1_s, c_and, Int.toNat_natCast, ev, Bool.not_true, c_false]
    simp (disch := omega) only [c_lt, c_le, c_blt]
  · rw [foldl_rowN, List.nil_append]
noncomputable def walksT (n : Nat) (X O : Nat -> Int) : List (List Int) := (startS (nxtC n X O) n).2.map fun st => rowN (cycL (nxtC n X O) st n st)
theorem i_Grid_walks_val (z : β) {N : Nat} (hN : 100 < N) {n : Nat} {X O : Nat -> Int} (g : GridP n X O) (hX : ∀ j, 0 <= X j) (hO : ∀ j, 0 <= O j) (k : Nat -> Nat -> Nat -> List (Nat × Nat) -> List (List Int) -> β) :
    i_Grid_walks z N n X O k = k (idsOf (walksT n X O)).length (walksT n X O).length (walksT n X O).length (idsOf (walksT n X O)) (walksT n X O) := by
  have h8 := g.hi
  have hn := nxtC_lt g hX hO
  have hinj := nxtC_inj g hX hO
  unfold i_Grid_walks i_Grid_n
  rw [i_Grid_places_val z (by omega) h8 g.px hX, vis_init]
  have main := up_to (L := fun m i (s : ((Nat -> Int) × Int) × List Nat) => i_Grid_walks_l0 z N n n X O (plc n X) m (idsOf (s.2.map fun st => rowN (cycL (nxtC n X O) st n st))).length (s.2.map fun st => rowN (cycL (nxtC n X O) st n st)).length (s.2.map fun st => rowN (cycL (nxtC n X O) st n st)).length (i : Int)
      (s.2.map fun st => rowN (cycL (nxtC n X O) st n st)) (idsOf (s.2.map fun st => rowN (cycL (nxtC n X O) st n st))) (vis s.1.1) fun q7 q8 q9 q10 q11 _ => k q7 q8 q9 q11 q10) (n := n)
    (out := fun s => k (idsOf (s.2.map fun st => rowN (cycL (nxtC n X O) st n st))).length (s.2.map fun st => rowN (cycL (nxtC n X O) st n st)).length (s.2.map fun st => rowN (cycL (nxtC n X O) st n st)).length (idsOf (s.2.map fun st => rowN (cycL (nxtC n X O) st n st))) (s.2.map fun st => rowN (cycL (nxtC n X O) st n st)))
    (f := startF (nxtC n X O) n) (I := fun i s => StartI (nxtC n X O) n i s)
    (fun m i s hi h => ⟨?_, h.step h8 hn hinj hi⟩) (fun m s _ => by simp (disch := omega) only [i_Grid_walks_l0, i_Grid_walks_l0_s, c_nlt]) n N 0 (((fun j => if j < 8 then -1 else 0), 0), []) (by omega) (by omega) (StartI.zero h8 hn)
  · exact main
  have hlen := h.len
  have hle := h.comp.le
  generalize hT : (s.2.map fun st => rowN (cycL (nxtC n X O) st n st)) = T
  have hTl : T.length = s.2.length := by rw [<- hT]; simp
  have hi2 := idsOf_len T
  simp only [i_Grid_walks_l0, i_Grid_walks_l0_s, c_and, Int.toNat_natCast]
  simp (disch := omega) only [c_lt, c_le, c_blt]
  unfold startF
  by_cases hu : s.1.1 i < 0
  · have ev : vis s.1.1 i = false := by unfold vis; exact decide_eq_false (by omega)
    have hcf : compF (nxtC n X O) n i s.1 = (walkH (nxtC n X O) s.1.2 n i s.1.1, s.1.2 + 1) := by unfold compF; rw [if_pos hu]
    rw [ev, c_false, i_walks_l1_val z hN g hX hO hi h.comp.nn hu h.back, if_pos hu, hcf]
    simp only [c_true, List.map_append, List.map_cons, List.map_nil, hT]
    simp (disch := omega) only [c_lt, c_le, c_blt, c_ble, c_nble, c_beq, c_fits]
    simp only [idsOf_app, len1]
    rfl
  · have ev : vis s.1.1 i = true := by unfold vis; exact decide_eq_true (by omega)
    have hcf : compF (nxtC n X O) n i s.1 = s.1 := by unfold compF; rw [if_neg hu]
    rw [ev, c_true, if_neg hu, hcf, c_fits (by omega), hT]
    rfl
noncomputable def wordFI (n : Nat) (X O : Nat -> Int) (t : List UInt8) (x : Int) : List UInt8 := t ++ (letX n X O x.toNat ++ letO n X O x.toNat)
theorem wordFI_row (n : Nat) (X O : Nat -> Int) (xs : List Nat) : ∀ acc, (rowN xs).foldl (wordFI n X O) acc = xs.foldl (wordF n X O) acc := by
  induction xs with
  | nil => intro acc; rfl
  | cons x xs ih =>
    intro acc
    show (rowN xs).foldl (wordFI n X O) (wordFI n X O acc (x : Int)) = _
    rw [ih, List.foldl_cons]
    unfold wordFI wordF
    rw [Int.toNat_natCast, List.append_assoc]
theorem i_Cusp_l1_val (z : β) {N : Nat} (hN : 100 < N) {n : Nat} {X O : Nat -> Int} (h8 : n <= 8) {xs : List Int} {P : List (List Int)} {q : Nat} (hq : rowAt P q = xs) (hl : xs.length <= 8) (hx : ∀ j, j < xs.length -> 0 <= xs[j]?.getD 0 ∧ xs[j]?.getD 0 < n)
    (a b c d e f : Nat) (t15 t16 : Int) (n0 : Int) (h2 : List (List UInt8)) (h3 : List (Nat × Nat)) (k : List UInt8 -> β) :
    i_CuspWords_1_l1 z N (8 * n) (2 * n) (2 * n) a b c d e f t15 t16 q 0 xs.length xs.length xs.length xs.length n0 X O (cornersL n X O) h2 h3 P N [] 0 k = k (xs.foldl (wordFI n X O) []) := by
  unfold rowAt at hq
  have hcl := cornersL_len n X O
  have := up_to (L := fun m j (t : List UInt8) => i_CuspWords_1_l1 z N (8 * n) (2 * n) (2 * n) a b c d e f t15 t16 q 0 xs.length xs.length xs.length xs.length n0 X O (cornersL n X O) h2 h3 P m t (j : Int) k) (n := xs.length) (out := k) (f := fun j t => wordFI n X O t (xs[j]?.getD 0)) (I := fun j t => t.length <= 2 * j)
    (fun m j t hj ht => by
      obtain ⟨x0, x1⟩ := hx j hj
      obtain ⟨x, hxx⟩ : ∃ x : Nat, xs[j]?.getD 0 = x := ⟨(xs[j]?.getD 0).toNat, by omega⟩
      have hxn : x < n := by omega
      have g2 := cornerL_get n X O hxn (q := 2) (by omega)
      have g3 := cornerL_get n X O hxn (q := 3) (by omega)
      have g6 := cornerL_get n X O hxn (q := 6) (by omega)
      have g7 := cornerL_get n X O hxn (q := 7) (by omega)
      have b1 := kindI_bd x (X x) (O x) (rowOf n O (X x).toNat)
      have b2 := kindI_bd x (O x) (X x) (rowOf n X (O x).toNat)
      have e2 : (cornerL n X O x)[2]?.getD 0 = kindI x (X x) (O x) (rowOf n O (X x).toNat) := rfl
      have e3 : (cornerL n X O x)[3]?.getD 0 = 1 := rfl
      have e6 : (cornerL n X O x)[6]?.getD 0 = kindI x (O x) (X x) (rowOf n X (O x).toNat) := rfl
      have e7 : (cornerL n X O x)[7]?.getD 0 = 0 := rfl
      rw [e2] at g2
      rw [e3] at g3
      rw [e6] at g6
      rw [e7] at g7
      have l1 := letC_len (kindI x (X x) (O x) (rowOf n O (X x).toNat)) true
      have l2 := letC_len (kindI x (O x) (X x) (rowOf n X (O x).toNat)) false
      have n1 : (2 * (x : Int)).toNat = 2 * x := by omega
      have n2 : (2 * (x : Int) + 1).toNat = 2 * x + 1 := by omega
      refine ⟨?_, by unfold wordFI letX letO; rw [hxx, Int.toNat_natCast]; simp only [List.length_append]; omega⟩
      simp only [i_CuspWords_1_l1, i_CuspWords_1_l1_s, c_and, Int.toNat_natCast, addO_eq, Nat.zero_add, hq, hxx, n1, n2]
      rw [show 2 * x * 4 + 2 = 8 * x + 2 by omega, show 2 * x * 4 + 3 = 8 * x + 3 by omega, show (2 * x + 1) * 4 + 2 = 8 * x + 6 by omega, show (2 * x + 1) * 4 + 3 = 8 * x + 7 by omega, g2, g3, g6, g7]
      simp (disch := omega) only [c_lt, c_le, c_blt, c_ble, c_beq, c_fits]
      rw [show ((1 : Int) != 0) = true from rfl, show ((0 : Int) != 0) = false from rfl, i_Corner_letter_val z N _ _ _ _ b1, i_Corner_letter_val z N _ _ _ _ b2]
      rw [c_ble (by omega), c_ble (by rw [List.length_append]; omega)]
      unfold wordFI letX letO
      rw [Int.toNat_natCast]
      rfl)
    (fun m t _ => by simp (disch := omega) only [i_CuspWords_1_l1, i_CuspWords_1_l1_s, c_nlt]) xs.length N 0 [] (by omega) (by omega) (by simp)
  refine this.trans ?_
  rw [iter_foldl]
theorem i_CuspWords_1_val (z : β) {N : Nat} (hN : 100 < N) {n : Nat} {X O : Nat -> Int} (g : GridP n X O) (hX : ∀ j, 0 <= X j) (hO : ∀ j, 0 <= O j) (k : Nat -> Nat -> Nat -> List (List UInt8) -> β) :
    i_CuspWords_1 z N n X O k = k (wordsS n X O).length (wordsS n X O).length (wordsS n X O).length (wordsS n X O) := by
  have h8 := g.hi
  have hn := nxtC_lt g hX hO
  have inv := startS_inv h8 hn (nxtC_inj g hX hO)
  unfold i_CuspWords_1
  rw [i_Grid_corners_val z (by omega) g hX hO, i_Grid_walks_val z hN g hX hO]
  have hlen := inv.len
  have hle := inv.comp.le
  have hP := TabP.of_app (walksT n X O)
  have hi2 := idsOf_len (walksT n X O)
  have hTl : (walksT n X O).length = (startS (nxtC n X O) n).2.length := by unfold walksT; simp
  have hrow : ∀ i, i < (walksT n X O).length -> rowAt (walksT n X O) i = rowN (cycL (nxtC n X O) ((startS (nxtC n X O) n).2[i]?.getD 0) n ((startS (nxtC n X O) n).2[i]?.getD 0)) := fun i hi => by
    unfold walksT rowAt
    rw [List.getElem?_map, List.getElem?_eq_getElem (by omega)]
    rfl
  rw [c_ble (by omega)]
  have key : ∀ d, d <= (startS (nxtC n X O) n).2.length -> iter (fun c (ws : List (List UInt8)) => ws ++ [wordS n X O ((startS (nxtC n X O) n).2[c]?.getD 0)]) d 0 [] = ((startS (nxtC n X O) n).2.take d).map (wordS n X O) := by
    intro d
    induction d with
    | zero => intro _; rfl
    | succ d ih =>
      intro hd
      rw [iter_succ, ih (by omega), Nat.zero_add, map_take_succ _ _ _ (by omega)]
  have hk := key _ (Nat.le_refl _)
  rw [List.take_length] at hk
  have hw : wordsS n X O = iter (fun c (ws : List (List UInt8)) => ws ++ [wordS n X O ((startS (nxtC n X O) n).2[c]?.getD 0)]) (walksT n X O).length 0 [] := by rw [hTl, hk]; rfl
  rw [hw]
  generalize walksT n X O = T at *
  refine up_to (L := fun m c (ws : List (List UInt8)) => i_CuspWords_1_l0 z N (8 * n) (2 * n) (2 * n) (idsOf T).length T.length T.length (T.length : Int) n X O (cornersL n X O) (idsOf T) T m ws.length ws.length ws.length (c : Int) ws fun q15 q16 q17 q18 => k q15 q16 q17 q18) (n := T.length)
    (out := fun ws => k ws.length ws.length ws.length ws) (f := fun c ws => ws ++ [wordS n X O ((startS (nxtC n X O) n).2[c]?.getD 0)]) (I := fun c ws => ws.length = c)
    (fun m c ws hc hws => ⟨?_, by rw [len1, hws]⟩) (fun m ws _ => by simp (disch := omega) only [i_CuspWords_1_l0, i_CuspWords_1_l0_s, c_nlt]) T.length N 0 [] (by omega) (by omega) rfl
  have e1 := hP.sz c hc
  have e2 := hP.row c hc
  have hr := hrow c hc
  have hst := inv.lt c (by omega)
  generalize hst' : (startS (nxtC n X O) n).2[c]?.getD 0 = st at *
  have hcy := cycL_len (nxtC n X O) st n st
  have hmem := cycL_lt hn st n st hst
  have hrl : (rowAt T c).length <= 8 := by rw [hr]; unfold rowN; rw [List.length_map]; omega
  have hx : ∀ j, j < (rowAt T c).length -> 0 <= (rowAt T c)[j]?.getD 0 ∧ (rowAt T c)[j]?.getD 0 < n := fun j hj => by
    rw [hr] at hj ⊢
    unfold rowN at hj ⊢
    rw [List.length_map] at hj
    rw [List.getElem?_map, List.getElem?_eq_getElem hj]
    have := hmem _ (List.getElem_mem hj)
    simp only [Option.map_some, Option.getD_some]
    omega
  unfold idAt at e1 e2
  simp only [i_CuspWords_1_l0, i_CuspWords_1_l0_s, c_and, Int.toNat_natCast]
  simp (disch := omega) only [c_lt, c_le, c_blt, c_ble, c_beq, e1]
  rw [i_Cusp_l1_val z hN h8 e2 hrl hx, hr, wordFI_row]
  simp only [c_true, appS, len1]
  simp (disch := omega) only [c_ble, c_nble, c_beq, c_fits]
  rfl
end
end Go.AM
namespace Go.AM
section
def sumF (f : Nat -> Nat) : Nat -> Nat
  | 0 => 0
  | d + 1 => sumF f d + f d
theorem sumF_congr {f g : Nat -> Nat} : ∀ {n : Nat}, (∀ i, i < n -> f i = g i) -> sumF f n = sumF g n := by
  intro n
  induction n with
  | zero => intro _; rfl
  | succ n ih => intro h; rw [sumF, sumF, ih fun i hi => h i (by omega), h n (by omega)]
theorem sumF_bump {f g : Nat -> Nat} {k a : Nat} : ∀ {n : Nat}, k < n -> f k = g k + a -> (∀ i, i < n -> i ≠ k -> f i = g i) -> sumF f n = sumF g n + a := by
  intro n
  induction n with
  | zero => intro h; omega
  | succ n ih =>
    intro hk h1 h2
    rw [sumF, sumF]
    by_cases e : k = n
    · subst e
      rw [sumF_congr fun i hi => h2 i (by omega) (by omega), h1]
      omega
    · rw [ih (by omega) h1 fun i hi => h2 i (by omega), h2 n (by omega) (by omega)]
      omega
theorem sumF_zero : ∀ n, sumF (fun _ => 0) n = 0 := by
  intro n
  induction n with
  | zero => rfl
  | succ n ih => rw [sumF, ih]
def selS (h : Nat -> Int) (c : Int) (f : Nat -> Nat) (n : Nat) : Nat := sumF (fun i => if h i = c then f i else 0) n
theorem selS_upd {h : Nat -> Int} {c : Int} (f : Nat -> Nat) {n k : Nat} (hk : k < n) (hne : h k ≠ c) : selS (upd h k c) c f n = selS h c f n + f k := by
  unfold selS
  refine sumF_bump hk ?_ fun i _ hi => ?_
  · rw [upd_at, if_pos rfl, if_pos rfl, if_neg hne]; omega
  · rw [upd_at, if_neg hi]
theorem walkH_sel {nxt : Nat -> Nat} {n st : Nat} {c : Int} (f : Nat -> Nat) (hn : ∀ k, k < n -> nxt k < n) (hi : ∀ a b, a < n -> b < n -> nxt a = nxt b -> a = b) (hc : 0 <= c) :
    ∀ (d k : Nat) (h : Nat -> Int), cntU n h <= d -> WInv nxt n st h k -> selS (walkH nxt c d k h) c f n = selS h c f n + ((cycL nxt st d k).map f).sum := by
  intro d
  induction d with
  | zero =>
    intro k h hd w
    have := cntU_zero (by omega : cntU n h = 0) w.lt
    have := w.fresh
    omega
  | succ d ih =>
    intro k h hd w
    have hcn := cntU_upd w.lt w.fresh hc
    have hs := selS_upd (h := h) (c := c) f w.lt (by have := w.fresh; omega)
    simp only [walkH, cycL]
    rw [if_pos w.fresh]
    by_cases e : nxt k = st
    · have hs' : walkH nxt c d (nxt k) (upd h k c) = upd h k c := by
        have := w.stSet hc
        rw [<- e] at this
        cases d with
        | zero => rfl
        | succ d => simp only [walkH]; rw [if_neg (by omega)]
      rw [hs', if_pos e, hs]
      simp
    · rw [if_neg e, ih _ _ (by omega) (w.step hn hi hc e), hs, List.map_cons, List.sum_cons]
      omega
theorem start_sel {nxt : Nat -> Nat} {n : Nat} (f : Nat -> Nat) (h8 : n <= 8) (hn : ∀ k, k < n -> nxt k < n) (hinj : ∀ a b, a < n -> b < n -> nxt a = nxt b -> a = b) :
    ∀ q, q < (startS nxt n).2.length -> selS (startS nxt n).1.1 q f n = ((cycL nxt ((startS nxt n).2[q]?.getD 0) n ((startS nxt n).2[q]?.getD 0)).map f).sum := by
  have key := iter_inv (f := startF nxt n) (n := n) (I := fun i s => StartI nxt n i s ∧ ∀ q, q < s.2.length -> selS s.1.1 q f n = ((cycL nxt (s.2[q]?.getD 0) n (s.2[q]?.getD 0)).map f).sum) (fun i s hi ⟨h, h2⟩ => by
    refine ⟨h.step h8 hn hinj hi, ?_⟩
    unfold startF
    by_cases hu : s.1.1 i < 0
    · rw [if_pos hu]
      have hcf : compF nxt n i s.1 = (walkH nxt s.1.2 n i s.1.1, s.1.2 + 1) := by unfold compF; rw [if_pos hu]
      have hnn := h.comp.nn
      have hlen := h.len
      rw [hcf]
      intro q hq
      show selS (walkH nxt s.1.2 n i s.1.1) q f n = _
      rw [List.length_append, List.length_singleton] at hq
      by_cases e : q < s.2.length
      · rw [List.getElem?_append_left e, <- h2 q e]
        unfold selS
        refine sumF_congr fun j _ => ?_
        rcases walkH_val nxt s.1.2 n i s.1.1 j with e1 | ⟨e1, e2⟩
        · rw [e1]
        · rw [e2, if_neg (by omega), if_neg (by omega)]
      · have eq : q = s.2.length := by omega
        subst eq
        rw [List.getElem?_append_right (Nat.le_refl _), hlen, walkH_sel f hn hinj hnn n i s.1.1 (cntU_le _ _) (WInv.start hi hu h.back)]
        have z : selS s.1.1 s.1.2 f n = 0 := by
          unfold selS
          rw [sumF_congr (g := fun _ => 0) fun j hj => ?_, sumF_zero]
          rw [if_neg]
          rcases h.comp.bd j (by omega) with e1 | e1 <;> omega
        rw [z, Nat.zero_add]
        simp
    · rw [if_neg hu]
      have hcf : compF nxt n i s.1 = s.1 := by unfold compF; rw [if_neg hu]
      rw [hcf]
      exact h2) n 0 _ (by omega) ⟨StartI.zero h8 hn, fun q hq => by simp at hq⟩
  rw [Nat.zero_add] at key
  exact key.2
noncomputable def prevC (n : Nat) (X O : Nat -> Int) (i : Nat) : Nat := rowOf n O (X i).toNat
theorem prevC_spec {n : Nat} {X O : Nat -> Int} (g : GridP n X O) (hX : ∀ j, 0 <= X j) (hO : ∀ j, 0 <= O j) {i : Nat} (hi : i < n) : prevC n X O i < n ∧ nxtC n X O (prevC n X O i) = i ∧ prevC n X O i ≠ i ∧ O (prevC n X O i) = X i := by
  have b := g.bdX hX hi
  obtain ⟨h1, h2⟩ := rowOf_spec g.po hO (r := (X i).toNat) (by omega)
  have h3 : O (prevC n X O i) = X i := by unfold prevC; rw [h2]; omega
  refine ⟨h1, ?_, fun e => ?_, h3⟩
  · unfold nxtC
    rw [h3]
    exact rowOf_eq g.px hX hi (by omega)
  · rw [e] at h3
    exact g.ne i hi h3.symm
theorem prevC_nxt {n : Nat} {X O : Nat -> Int} (g : GridP n X O) (hX : ∀ j, 0 <= X j) (hO : ∀ j, 0 <= O j) {i : Nat} (hi : i < n) : prevC n X O (nxtC n X O i) = i := by
  have h1 := nxtC_lt g hX hO i hi
  obtain ⟨p1, p2, _, _⟩ := prevC_spec g hX hO h1
  exact nxtC_inj g hX hO _ _ p1 hi p2
noncomputable def hzC (n : Nat) (X O : Nat -> Int) (i : Nat) : Nat := if nxtC n X O i < i then 1 else 0
noncomputable def cuspN (n : Nat) (X O : Nat -> Int) (i : Nat) : Nat := (letX n X O i).length + (letO n X O i).length
theorem letC_len2 {k : Int} (b : Bool) : (letC k b).length = if k = 1 ∨ k = 2 then 0 else 1 := by
  unfold letC
  by_cases h1 : k = 1
  · subst h1; rfl
  · by_cases h2 : k = 2
    · subst h2; rfl
    · rw [if_neg (by omega), show (k == 1) = false by simpa using h1, show (k == 2) = false by simpa using h2]
      cases (b == (k == 0)) <;> rfl
theorem kind_cusp (i r o c : Int) : (kindI i r o c = 1 ∨ kindI i r o c = 2) ↔ ¬ (o < r ↔ c < i) := by
  unfold kindI
  by_cases h1 : o < r <;> by_cases h2 : c < i <;> simp [h1, h2]
theorem cuspN_par {n : Nat} {X O : Nat -> Int} (g : GridP n X O) (hX : ∀ j, 0 <= X j) (hO : ∀ j, 0 <= O j) {i : Nat} (hi : i < n) : (cuspN n X O i + hzC n X O (prevC n X O i) + hzC n X O i) % 2 = 0 := by
  obtain ⟨p1, p2, p3, p4⟩ := prevC_spec g hX hO hi
  have hne := g.ne i hi
  unfold cuspN letX letO hzC
  rw [letC_len2, letC_len2, p2]
  simp only [kind_cusp]
  rw [show rowOf n O (X i).toNat = prevC n X O i from rfl, show rowOf n X (O i).toNat = nxtC n X O i from rfl]
  generalize prevC n X O i = p at *
  generalize nxtC n X O i = q at *
  by_cases h1 : O i < X i
  · by_cases h2 : p < i <;> by_cases h3 : q < i
    · rw [if_neg (by omega), if_pos (by omega), if_neg (by omega), if_pos (by omega)]
    · rw [if_neg (by omega), if_neg (by omega), if_neg (by omega), if_neg (by omega)]
    · rw [if_pos (by omega), if_pos (by omega), if_pos (by omega), if_pos (by omega)]
    · rw [if_pos (by omega), if_neg (by omega), if_pos (by omega), if_neg (by omega)]
  · by_cases h2 : p < i <;> by_cases h3 : q < i
    · rw [if_pos (by omega), if_neg (by omega), if_neg (by omega), if_pos (by omega)]
    · rw [if_pos (by omega), if_pos (by omega), if_neg (by omega), if_neg (by omega)]
    · rw [if_neg (by omega), if_neg (by omega), if_pos (by omega), if_pos (by omega)]
    · rw [if_neg (by omega), if_pos (by omega), if_pos (by omega), if_neg (by omega)]
theorem cyc_par {n st : Nat} {X O : Nat -> Int} (g : GridP n X O) (hX : ∀ j, 0 <= X j) (hO : ∀ j, 0 <= O j) (hst : st < n) :
    ∀ (d k : Nat) (h : Nat -> Int), cntU n h <= d -> WInv (nxtC n X O) n st h k -> (((cycL (nxtC n X O) st d k).map (cuspN n X O)).sum + hzC n X O (prevC n X O k) + hzC n X O (prevC n X O st)) % 2 = 0 := by
  intro d
  induction d with
  | zero =>
    intro k h hd w
    have := cntU_zero (by omega : cntU n h = 0) w.lt
    have := w.fresh
    omega
  | succ d ih =>
    intro k h hd w
    have hcn := cntU_upd w.lt w.fresh (c := 0) (by omega)
    have hp := cuspN_par g hX hO w.lt
    have hq := prevC_nxt g hX hO w.lt
    simp only [cycL]
    by_cases e : nxtC n X O k = st
    · rw [if_pos e, <- e, hq]
      simp
      omega
    · rw [if_neg e, List.map_cons, List.sum_cons]
      have := ih _ _ (by omega) (w.step (nxtC_lt g hX hO) (nxtC_inj g hX hO) (c := 0) (by omega) e)
      rw [hq] at this
      omega
theorem cyc_even {n st : Nat} {X O : Nat -> Int} (g : GridP n X O) (hX : ∀ j, 0 <= X j) (hO : ∀ j, 0 <= O j) (hst : st < n) : ((cycL (nxtC n X O) st n st).map (cuspN n X O)).sum % 2 = 0 := by
  have := cyc_par g hX hO hst n st (fun j => if j < 8 then -1 else 0) (cntU_le _ _) (freshW g.hi (nxtC_lt g hX hO) hst)
  omega
theorem wordS_len (n : Nat) (X O : Nat -> Int) (st : Nat) : (wordS n X O st).length = ((cycL (nxtC n X O) st n st).map (cuspN n X O)).sum := by
  unfold wordS
  have key : ∀ (l : List Nat) (t : List UInt8), (l.foldl (wordF n X O) t).length = t.length + (l.map (cuspN n X O)).sum := by
    intro l
    induction l with
    | nil => intro t; simp
    | cons x l ih =>
      intro t
      rw [List.foldl_cons, ih, List.map_cons, List.sum_cons]
      unfold wordF cuspN
      rw [List.length_append, List.length_append]
      omega
  rw [key]
  simp
theorem cuspF_sum (xs : List Int) (skip : Int -> Bool) (j : Nat) (s : Int × Int) : (cuspF xs skip j s).1 + (cuspF xs skip j s).2 = s.1 + s.2 + (if skip (recAt xs j 0) = true ∨ recAt xs j 2 = 1 ∨ recAt xs j 2 = 2 then 0 else 1) := by
  unfold cuspF
  split
  · omega
  · split <;> simp only <;> omega
theorem corner_kinds {n : Nat} {X O : Nat -> Int} {i : Nat} (hi : i < n) : recAt (cornersL n X O) (2 * i) 0 = i ∧ recAt (cornersL n X O) (2 * i + 1) 0 = i ∧
    recAt (cornersL n X O) (2 * i) 2 = kindI i (X i) (O i) (rowOf n O (X i).toNat) ∧ recAt (cornersL n X O) (2 * i + 1) 2 = kindI i (O i) (X i) (rowOf n X (O i).toNat) := by
  have c0 := (corner_recs (n := n) (X := X) (O := O) (2 * i) (by omega)).1
  have c1 := (corner_recs (n := n) (X := X) (O := O) (2 * i + 1) (by omega)).1
  rw [show 2 * i / 2 = i by omega] at c0
  rw [show (2 * i + 1) / 2 = i by omega] at c1
  refine ⟨c0, c1, ?_, ?_⟩
  · unfold recAt
    rw [show 2 * i * 4 + 2 = 8 * i + 2 by omega, cornerL_get n X O hi (q := 2) (by omega)]
    rfl
  · unfold recAt
    rw [show (2 * i + 1) * 4 + 2 = 8 * i + 6 by omega, cornerL_get n X O hi (q := 6) (by omega)]
    rfl
theorem cusps_sum {n : Nat} {X O : Nat -> Int} (skip : Int -> Bool) : ∀ d, d <= n ->
    (cuspS (cornersL n X O) skip (2 * d)).1 + (cuspS (cornersL n X O) skip (2 * d)).2 = (sumF (fun i => if skip (i : Int) = true then 0 else cuspN n X O i) d : Nat) := by
  intro d
  induction d with
  | zero => intro _; rfl
  | succ d ih =>
    intro hd
    have hi := ih (by omega)
    obtain ⟨c0, c1, k0, k1⟩ := corner_kinds (n := n) (X := X) (O := O) (i := d) (by omega)
    have e : cuspS (cornersL n X O) skip (2 * (d + 1)) = cuspF (cornersL n X O) skip (2 * d + 1) (cuspF (cornersL n X O) skip (2 * d) (cuspS (cornersL n X O) skip (2 * d))) := by
      unfold cuspS
      rw [show 2 * (d + 1) = 2 * d + 1 + 1 by omega, iter_succ, iter_succ, Nat.zero_add, Nat.zero_add]
    rw [e, cuspF_sum, cuspF_sum, hi, sumF, c0, c1, k0, k1]
    unfold cuspN letX letO
    rw [letC_len2, letC_len2]
    cases skip (d : Int)
    · simp only [Bool.false_eq_true, false_or, if_false]
      split <;> split <;> omega
    · simp
theorem cusps_comp {n : Nat} {X O : Nat -> Int} (wh : Nat -> Int) {c : Int} (hc : 0 <= c) : (cuspS (cornersL n X O) (skipC wh c) (2 * n)).1 + (cuspS (cornersL n X O) (skipC wh c) (2 * n)).2 = (selS wh c (cuspN n X O) n : Nat) := by
  rw [cusps_sum _ n (Nat.le_refl n)]
  unfold selS
  congr 1
  refine sumF_congr fun i _ => ?_
  unfold skipC
  rw [Int.toNat_natCast, decide_eq_true hc, Bool.true_and]
  by_cases e : wh i = c
  · rw [if_pos e, if_neg (by simp [e])]
  · rw [if_neg e, if_pos (by simp [e])]
theorem comp_cusps {n : Nat} {X O : Nat -> Int} (g : GridP n X O) (hX : ∀ j, 0 <= X j) (hO : ∀ j, 0 <= O j) {c : Nat} (hc : (c : Int) < (compS (nxtC n X O) n).2) :
    (cuspS (cornersL n X O) (skipC (compS (nxtC n X O) n).1 c) (2 * n)).1 + (cuspS (cornersL n X O) (skipC (compS (nxtC n X O) n).1 c) (2 * n)).2 = ((wordsS n X O)[c]?.getD []).length ∧
    ((wordsS n X O)[c]?.getD []).length % 2 = 0 ∧ c < (wordsS n X O).length := by
  have hn := nxtC_lt g hX hO
  have hi := nxtC_inj g hX hO
  have inv := startS_inv g.hi hn hi
  have hlen := inv.len
  rw [startS_comp] at hlen
  have hq : c < (startS (nxtC n X O) n).2.length := by omega
  have hs := start_sel (cuspN n X O) g.hi hn hi c hq
  rw [startS_comp] at hs
  have hst := inv.lt c hq
  have ew : (wordsS n X O)[c]?.getD [] = wordS n X O ((startS (nxtC n X O) n).2[c]?.getD 0) := by
    unfold wordsS
    rw [List.getElem?_map, List.getElem?_eq_getElem hq]
    rfl
  rw [ew, wordS_len, cusps_comp _ (by omega : (0 : Int) <= c), hs]
  exact ⟨rfl, cyc_even g hX hO hst, by unfold wordsS; rw [List.length_map]; exact hq⟩
theorem wordsS_num {n : Nat} {X O : Nat -> Int} (g : GridP n X O) (hX : ∀ j, 0 <= X j) (hO : ∀ j, 0 <= O j) : ((wordsS n X O).length : Int) = (compS (nxtC n X O) n).2 := by
  have inv := startS_inv g.hi (nxtC_lt g hX hO) (nxtC_inj g hX hO)
  have := inv.len
  rw [startS_comp] at this
  unfold wordsS
  rw [List.length_map]
  exact this
end
end Go.AM
namespace Go.AM
section
def sumI (f : Nat -> Int) : Nat -> Int
  | 0 => 0
  | d + 1 => sumI f d + f d
theorem sumI_congr {f g : Nat -> Int} : ∀ {n : Nat}, (∀ i, i < n -> f i = g i) -> sumI f n = sumI g n := by
  intro n
  induction n with
  | zero => intro _; rfl
  | succ n ih => intro h; rw [sumI, sumI, ih fun i hi => h i (by omega), h n (by omega)]
theorem sumI_bump {f g : Nat -> Int} {k : Nat} {a : Int} : ∀ {n : Nat}, k < n -> f k = g k + a -> (∀ i, i < n -> i ≠ k -> f i = g i) -> sumI f n = sumI g n + a := by
  intro n
  induction n with
  | zero => intro h; omega
  | succ n ih =>
    intro hk h1 h2
    rw [sumI, sumI]
    by_cases e : k = n
    · subst e
      rw [sumI_congr fun i hi => h2 i (by omega) (by omega), h1]
      omega
    · rw [ih (by omega) h1 fun i hi => h2 i (by omega), h2 n (by omega) (by omega)]
      omega
theorem sumI_zero : ∀ n, sumI (fun _ => 0) n = 0 := by
  intro n
  induction n with
  | zero => rfl
  | succ n ih => rw [sumI, ih]; rfl
theorem cuspF_diff (xs : List Int) (skip : Int -> Bool) (j : Nat) (s : Int × Int) : ∃ p m : Int, (∀ skip s, cuspF xs skip j s = if skip (recAt xs j 0) = true then s else (s.1 + p, s.2 + m)) := by
  by_cases h1 : recAt xs j 2 = 1 ∨ recAt xs j 2 = 2
  · refine ⟨0, 0, fun skip s => ?_⟩
    unfold cuspF
    rw [if_pos (.inr h1)]
    split <;> simp
  · by_cases h2 : ((recAt xs j 3 != 0) == (recAt xs j 2 == 3)) = true
    · refine ⟨1, 0, fun skip s => ?_⟩
      unfold cuspF
      by_cases e : skip (recAt xs j 0) = true
      · rw [if_pos (.inl e), if_pos e]
      · rw [if_neg (fun h => h.elim e h1), if_neg e, if_pos h2]; simp
    · refine ⟨0, 1, fun skip s => ?_⟩
      unfold cuspF
      by_cases e : skip (recAt xs j 0) = true
      · rw [if_pos (.inl e), if_pos e]
      · rw [if_neg (fun h => h.elim e h1), if_neg e, if_neg h2]; simp
theorem cusps_add {n cnt : Nat} {X O : Nat -> Int} {wh : Nat -> Int} (hw : ∀ i, i < n -> 0 <= wh i ∧ wh i < cnt) : ∀ d, d <= 2 * n ->
    sumI (fun c => (cuspS (cornersL n X O) (skipC wh c) d).1) cnt = (cuspS (cornersL n X O) (fun _ => false) d).1 ∧ sumI (fun c => (cuspS (cornersL n X O) (skipC wh c) d).2) cnt = (cuspS (cornersL n X O) (fun _ => false) d).2 := by
  intro d
  induction d with
  | zero => intro _; exact ⟨sumI_zero cnt, sumI_zero cnt⟩
  | succ d ih =>
    intro hd
    obtain ⟨i1, i2⟩ := ih (by omega)
    obtain ⟨p, m, hpm⟩ := cuspF_diff (cornersL n X O) (fun _ => false) d (0, 0)
    have c0 := (corner_recs (n := n) (X := X) (O := O) d (by omega)).1
    have hh := hw (d / 2) (by omega)
    have es : ∀ sk, cuspS (cornersL n X O) sk (d + 1) = cuspF (cornersL n X O) sk d (cuspS (cornersL n X O) sk d) := fun sk => by unfold cuspS; rw [iter_succ, Nat.zero_add]
    have sk : ∀ c : Nat, skipC wh c (recAt (cornersL n X O) d 0) = true ↔ (c : Int) ≠ wh (d / 2) := fun c => by
      unfold skipC
      rw [c0, Int.toNat_natCast]
      simp
      omega
    simp only [es, hpm]
    simp only [Bool.false_eq_true, if_false, sk]
    rw [<- i1, <- i2]
    refine ⟨sumI_bump (k := (wh (d / 2)).toNat) (by omega) ?_ fun i _ hi => ?_, sumI_bump (k := (wh (d / 2)).toNat) (by omega) ?_ fun i _ hi => ?_⟩
    · rw [if_neg (by omega)]
    · rw [if_pos (by omega)]
    · rw [if_neg (by omega)]
    · rw [if_pos (by omega)]
theorem half_sum {a : Nat -> Int} : ∀ n, (∀ i, i < n -> a i % 2 = 0) -> sumI (fun i => (a i).tdiv 2) n = (sumI a n).tdiv 2 ∧ sumI a n % 2 = 0 := by
  intro n
  induction n with
  | zero => intro _; exact ⟨rfl, rfl⟩
  | succ n ih =>
    intro h
    obtain ⟨h1, h2⟩ := ih fun i hi => h i (by omega)
    have h3 := h n (by omega)
    rw [sumI, sumI, h1]
    refine ⟨?_, by omega⟩
    obtain ⟨x, hx⟩ : ∃ x, sumI a n = 2 * x := ⟨sumI a n / 2, by omega⟩
    obtain ⟨y, hy⟩ : ∃ y, a n = 2 * y := ⟨a n / 2, by omega⟩
    rw [hx, hy, <- Int.mul_add, Int.mul_tdiv_cancel_left _ (by omega), Int.mul_tdiv_cancel_left _ (by omega), Int.mul_tdiv_cancel_left _ (by omega)]
theorem sumI_sub (f g : Nat -> Int) : ∀ n, sumI (fun i => f i - g i) n = sumI f n - sumI g n := by
  intro n
  induction n with
  | zero => rfl
  | succ n ih => rw [sumI, sumI, sumI, ih]; omega
theorem rot_sum {n : Nat} {X O : Nat -> Int} (g : GridP n X O) (hX : ∀ j, 0 <= X j) (hO : ∀ j, 0 <= O j) :
    sumI (fun c => ((cuspS (cornersL n X O) (skipC (compS (nxtC n X O) n).1 c) (2 * n)).1 - (cuspS (cornersL n X O) (skipC (compS (nxtC n X O) n).1 c) (2 * n)).2).tdiv 2) (wordsS n X O).length = rotS n X O := by
  have hnum := wordsS_num g hX hO
  have inv := compS_inv (nxtC_lt g hX hO)
  have h8 := g.hi
  obtain ⟨a1, a2⟩ := cusps_add (n := n) (cnt := (wordsS n X O).length) (X := X) (O := O) (wh := (compS (nxtC n X O) n).1) (fun i hi => by
    have := inv.set i hi
    have := inv.bd i (by omega)
    omega) (2 * n) (Nat.le_refl _)
  rw [(half_sum _ fun c hc => ?_).1, sumI_sub, a1, a2]
  · rfl
  · obtain ⟨c1, c2, _⟩ := comp_cusps g hX hO (c := c) (by omega)
    omega
theorem letters_sum {n : Nat} {X O : Nat -> Int} (g : GridP n X O) (hX : ∀ j, 0 <= X j) (hO : ∀ j, 0 <= O j) :
    sumI (fun c => (((wordsS n X O)[c]?.getD []).length : Int)) (wordsS n X O).length = (cuspS (cornersL n X O) (fun _ => false) (2 * n)).1 + (cuspS (cornersL n X O) (fun _ => false) (2 * n)).2 := by
  have hnum := wordsS_num g hX hO
  have inv := compS_inv (nxtC_lt g hX hO)
  have h8 := g.hi
  obtain ⟨a1, a2⟩ := cusps_add (n := n) (cnt := (wordsS n X O).length) (X := X) (O := O) (wh := (compS (nxtC n X O) n).1) (fun i hi => by
    have := inv.set i hi
    have := inv.bd i (by omega)
    omega) (2 * n) (Nat.le_refl _)
  rw [<- a1, <- a2, sumI_congr (g := fun c => (cuspS (cornersL n X O) (skipC (compS (nxtC n X O) n).1 c) (2 * n)).1 - -(cuspS (cornersL n X O) (skipC (compS (nxtC n X O) n).1 c) (2 * n)).2) fun c hc => ?_, sumI_sub]
  · have neg : ∀ (f : Nat -> Int) n, sumI (fun i => -f i) n = -sumI f n := fun f n => by
      induction n with
      | zero => rfl
      | succ n ih => rw [sumI, sumI, ih]; omega
    rw [neg]
    omega
  · have := (comp_cusps g hX hO (c := c) (by omega)).1
    omega
end
end Go.AM
namespace Go.AM
section
end
end Go.AM
namespace Go.AM
section
structure FrontG (n : Nat) (X O : Nat -> Int) : Prop where
  g : GridP n X O
  x : ∀ j, 0 <= X j
  o : ∀ j, 0 <= O j
end
end Go.AM
namespace Go.AM
section
variable {β : Type}
end
end Go.AM
namespace Go.AM
section
end
end Go.AM
namespace Go.AM
section
end
end Go.AM
namespace Go.AM
section
end
end Go.AM
namespace Go.AM
section
variable {β : Type}
end
end Go.AM
namespace Go.AM
section
variable {β : Type}
end
end Go.AM
namespace Go.AM
section
variable {β : Type}
end
end Go.AM
namespace Go.AM
section
variable {β : Type}
end
end Go.AM
namespace Go.AM
section
variable {β : Type}
end
end Go.AM
namespace Go.AM
section
variable {β : Type}
end
end Go.AM
namespace Go.AM
section
variable {β : Type}
noncomputable def bP (p : Prop) : Bool := @decide p (Classical.propDecidable p)
theorem bP_true {p : Prop} (h : p) : bP p = true := @decide_eq_true p (Classical.propDecidable p) h
theorem cond_some {α : Type} {p : Prop} {x : Option α} {r : α} (h : cond (bP p) x none = some r) : p ∧ x = some r := by
  cases hb : bP p with
  | false => rw [hb] at h; cases h
  | true => rw [hb] at h; exact ⟨@of_decide_eq_true p (Classical.propDecidable p) hb, h⟩
theorem c_bP {p : Prop} (h : p) {x y : β} : cond (bP p) x y = x := by rw [bP_true h]; rfl
structure FrP (N : Nat) (m : Int) (X O : Nat -> Int) (n : Nat) : Prop where
  N : 100 < N
  m : m = n
  g : GridP n X O
  x : Byt X
  o : Byt O
theorem FrP.F {N : Nat} {m : Int} {X O : Nat -> Int} {n : Nat} (h : FrP N m X O n) : FrontG n X O := ⟨h.g, fun j => (h.x.b j).1, fun j => (h.o.b j).1⟩
structure FrA (N : Nat) (m : Int) (X O : Nat -> Int) : Prop where
  N : 100 < N
  x : Byt X
  o : Byt O
  g : gridB m X O = false
section grids
variable {z : β} {N n : Nat} {X O : Nat -> Int}
theorem fr_is (h : FrP N n X O n) : (∀ k : Bool -> β, s_l01Is z N n X O k = k true) ∧ ∀ k : Bool -> β, i_IsGrid z N n X O k = k true := by
  have hg : gridB n X O = true := gridB_iff.2 ⟨n, rfl, h.g⟩
  have hN := h.N
  exact ⟨fun k => by rw [s_l01Is_val z (by omega) _ _ _ h.F.x h.F.o, hg], fun k => by rw [i_IsGrid_val z (by omega) _ _ _ h.F.x h.F.o, hg]⟩
theorem fr_rot_i (h : FrP N n X O n) (k : Int -> Int -> β) : i_RotationOf z N n X O k = k (rotS n X O) 0 := by
  unfold i_RotationOf i_whole_int64_v1_s2 i_RotationOf_1
  rw [(fr_is h).2, i_Grid_numbers_val z h.N h.g h.F.x h.F.o]
  rfl
noncomputable def cuspT (n : Nat) (X O : Nat -> Int) : Int := (cuspS (cornersL n X O) (fun _ => false) (2 * n)).1 + (cuspS (cornersL n X O) (fun _ => false) (2 * n)).2
theorem fr_cusp_i (h : FrP N n X O n) (k : Int -> Int -> β) : i_CountCusps z N n X O k = k (cuspT n X O) 0 := by
  have hN := h.N
  unfold i_CountCusps i_whole_int64_v1 i_CountCusps_1
  rw [(fr_is h).2, i_Grid_front_val z (N := N) (by omega) h.g h.F.x h.F.o]
  simp only [Bool.not_true, c_false, (front_cusps _ _).1]
  rfl
end grids
section bad
variable {z : β} {N : Nat} {m : Int} {X O : Nat -> Int}
theorem fa_is (h : FrA N m X O) : (∀ k : Bool -> β, s_l01Is z N m X O k = k false) ∧ ∀ k : Bool -> β, i_IsGrid z N m X O k = k false := by
  have hN := h.N
  exact ⟨fun k => by rw [s_l01Is_val z (by omega) _ _ _ (fun j => (h.x.b j).1) (fun j => (h.o.b j).1), h.g], fun k => by rw [i_IsGrid_val z (by omega) _ _ _ (fun j => (h.x.b j).1) (fun j => (h.o.b j).1), h.g]⟩
end bad
end
end Go.AM
namespace Go.AM
section
variable {β : Type}
def kindF (xs : List Int) (j : Nat) (h : Nat -> Int) : Nat -> Int := upd h (recAt xs j 2).toNat (h (recAt xs j 2).toNat + 1)
structure KindI (xs : List Int) (j : Nat) (h : Nat -> Int) : Prop where
  nn : ∀ q, q < 4 -> 0 <= h q
  cu : h 0 + h 3 = (cuspS xs (fun _ => false) j).1 + (cuspS xs (fun _ => false) j).2
  all : h 0 + h 1 + h 2 + h 3 = j
theorem KindI.step {xs : List Int} {j : Nat} {h : Nat -> Int} (I : KindI xs j h) (hk : 0 <= recAt xs j 2 ∧ recAt xs j 2 <= 3) : KindI xs (j + 1) (kindF xs j h) := by
  have es : cuspS xs (fun _ => false) (j + 1) = cuspF xs (fun _ => false) j (cuspS xs (fun _ => false) j) := by unfold cuspS; rw [iter_succ, Nat.zero_add]
  have e1 := cuspF_sum xs (fun _ => false) j (cuspS xs (fun _ => false) j)
  have h0 := I.nn 0 (by omega)
  have h1 := I.nn 1 (by omega)
  have h2 := I.nn 2 (by omega)
  have h3 := I.nn 3 (by omega)
  have hc := I.cu
  have ha := I.all
  simp only [Bool.false_eq_true, false_or] at e1
  rw [<- es] at e1
  generalize cuspS xs (fun _ => false) j = s at *
  have : recAt xs j 2 = 0 ∨ recAt xs j 2 = 1 ∨ recAt xs j 2 = 2 ∨ recAt xs j 2 = 3 := by omega
  have nn : ∀ q, q < 4 -> 0 <= kindF xs j h q := fun q hq => by
    unfold kindF
    rw [upd_at]
    split
    · rename_i e; rw [<- e]; have := I.nn q hq; omega
    · exact I.nn q hq
  refine ⟨nn, ?_, ?_⟩
  · unfold kindF
    rcases this with e | e | e | e <;> rw [e] at e1 ⊢ <;> simp [upd_at] at e1 ⊢ <;> omega
  · unfold kindF
    rcases this with e | e | e | e <;> rw [e] <;> simp [upd_at] <;> omega
theorem kinds_val (z : β) {N n : Nat} (hN : 100 < N) {X O : Nat -> Int} (h8 : n <= 8) (h0_n : Nat) (h0 : Nat -> Int) (h1_0 : Int) (h1_1 : Nat -> Int) (h1_2 : Nat -> Int) {xs : List Int} (hxs : xs = cornersL n X O) (k0 k1 : (Nat -> Int) -> β) :
    ∃ K, KindI xs (2 * n) K ∧ w_FnCorners_l0_s3 z (8 * n) (2 * n) (2 * n) (8 * n) (2 * n) (2 * n) h0_n h0 h1_0 h1_1 h1_2 xs xs N 0 (fun (x : Nat) => 0) k0 k1 = k1 K := by
  have hl : xs.length = 8 * n := by rw [hxs]; exact cornersL_len n X O
  have hr := corner_recs (n := n) (X := X) (O := O)
  rw [<- hxs] at hr
  clear hxs
  obtain ⟨K, e, I⟩ := up_to_ex (L := fun m j h => w_FnCorners_l0_s3 z (8 * n) (2 * n) (2 * n) (8 * n) (2 * n) (2 * n) h0_n h0 h1_0 h1_1 h1_2 xs xs m (j : Int) h k0 k1) (n := 2 * n) (out := k1) (I := KindI xs)
    (fun j h hj I => by
      obtain ⟨_, r1, r2⟩ := hr j hj
      refine ⟨kindF xs j h, fun m => ?_, I.step ⟨r1, r2⟩⟩
      have e2 : xs[j * 4 + 2]?.getD 0 = recAt xs j 2 := rfl
      have h0 := I.nn 0 (by omega)
      have h1 := I.nn 1 (by omega)
      have h2 := I.nn 2 (by omega)
      have h3 := I.nn 3 (by omega)
      have ha := I.all
      have hb : 0 <= h (recAt xs j 2).toNat ∧ h (recAt xs j 2).toNat <= 16 := by
        have : (recAt xs j 2).toNat = 0 ∨ (recAt xs j 2).toNat = 1 ∨ (recAt xs j 2).toNat = 2 ∨ (recAt xs j 2).toNat = 3 := by omega
        rcases this with e | e | e | e <;> rw [e] <;> omega
      rw [w_FnCorners_l0_s3, w_FnCorners_l0_s3_s]
      simp only [c_and, Int.toNat_natCast, addO_eq, Nat.add_zero, e2, beq_self_eq_true, Bool.and_true, Bool.not_true, c_false]
      simp (disch := omega) only [c_lt, c_le, c_ble, c_blt, c_beq, c_fits]
      rfl)
    (fun m h I => by
      rw [w_FnCorners_l0_s3, w_FnCorners_l0_s3_s]
      simp (disch := omega) only [c_ble, c_nlt]) (2 * n) N 0 (fun _ => 0) (by omega) (by omega) ⟨fun q _ => by simp, by simp [cuspS, iter], by simp⟩
  exact ⟨K, I, e⟩
theorem letters_s4 (z : β) {N : Nat} (hN : 100 < N) (t4_n : Nat) (t4_l : Nat) (t4_c : Nat) (t10_n : Nat) (t10_l : Nat) (t10_c : Nat) (t14_c : Nat) (t16_c : Nat) (h0_n : Nat) (h0 : Nat -> Int) (h1_0 : Int) (h1_1 : Nat -> Int) (h1_2 : Nat -> Int) (h2 : List Int) (h3 : List Int) (h4 : Nat -> Int) (h5 : List (Nat × Nat)) (h6 : List (List Int)) (h7 : List (Nat × Nat)) (h8 : List (List Int)) (h11 : List (Nat × Nat)) (h12 : List (List Int)) (h13 : List (Nat × Nat)) (h14 : List (List Int)) (h15 : List Int) (h16 : List Int) {T : List (List UInt8)} (hT : T.length <= 8) (hw : ∀ j, j < T.length -> (T[j]?.getD []).length <= 100 ∧ (T[j]?.getD []).length % 2 = 0) (k0 : β) (k1 : Int -> β) :
    w_FnCorners_l1_s4 z t4_n t4_l t4_c t10_n t10_l t10_c T.length T.length t14_c T.length T.length t16_c h0_n h0 h1_0 h1_1 h1_2 h2 h3 h4 h5 h6 h7 h8 T T h11 h12 h13 h14 h15 h16 N 0 0 k0 k1 = k1 (sumI (fun j => ((T[j]?.getD []).length : Int)) T.length) := by
  have e : ∀ d, iter (fun j (s : Int) => s + ((T[j]?.getD []).length : Int)) d 0 0 = sumI (fun j => ((T[j]?.getD []).length : Int)) d := by
    intro d
    induction d with
    | zero => rfl
    | succ d ih => rw [iter_succ, ih, Nat.zero_add, sumI]
  rw [<- e]
  refine up_to (L := fun m j s => w_FnCorners_l1_s4 z t4_n t4_l t4_c t10_n t10_l t10_c T.length T.length t14_c T.length T.length t16_c h0_n h0 h1_0 h1_1 h1_2 h2 h3 h4 h5 h6 h7 h8 T T h11 h12 h13 h14 h15 h16 m s (j : Int) k0 k1) (n := T.length) (out := k1) (f := fun j (s : Int) => s + ((T[j]?.getD []).length : Int)) (I := fun j s => 0 <= s ∧ s <= 100 * (j : Int))
    (fun m j s hj hs => ⟨?_, by have := hw j hj; omega⟩)
    (fun m s _ => by
      rw [w_FnCorners_l1_s4, w_FnCorners_l1_s4_s]
      simp (disch := omega) only [c_ble, c_nlt]) T.length N 0 0 (by omega) (by omega) (by omega)
  obtain ⟨h1, h2⟩ := hw j hj
  have h3 : ((T[j]?.getD []).length : Int).tmod 2 = 0 := by rw [Int.tmod_eq_emod_of_nonneg (by omega)]; omega
  rw [w_FnCorners_l1_s4, w_FnCorners_l1_s4_s]
  simp only [c_and, Int.toNat_natCast, h3, bne_self_eq_false, c_false]
  simp (disch := omega) only [c_lt, c_le, c_ble, c_blt, c_beq, c_fits]
  rfl
theorem letters_s5 (z : β) {N : Nat} (hN : 100 < N) (t4_n : Nat) (t4_l : Nat) (t4_c : Nat) (t10_n : Nat) (t10_l : Nat) (t10_c : Nat) (t14_c : Nat) (t16_c : Nat) (h0_n : Nat) (h0 : Nat -> Int) (h1_0 : Int) (h1_1 : Nat -> Int) (h1_2 : Nat -> Int) (h2 : List Int) (h3 : List Int) (h4 : Nat -> Int) (h5 : List (Nat × Nat)) (h6 : List (List Int)) (h7 : List (Nat × Nat)) (h8 : List (List Int)) (h11 : List (Nat × Nat)) (h12 : List (List Int)) (h13 : List (Nat × Nat)) (h14 : List (List Int)) {T : List (List UInt8)} (hT : T.length <= 8) (hw : ∀ j, j < T.length -> (T[j]?.getD []).length <= 100 ∧ (T[j]?.getD []).length % 2 = 0) (k0 : β) (k1 : Int -> β) :
    w_FnCorners_l1_s5 z t4_n t4_l t4_c t10_n t10_l t10_c T.length T.length t14_c T.length T.length t16_c h0_n h0 h1_0 h1_1 h1_2 h2 h3 h4 h5 h6 h7 h8 T T h11 h12 h13 h14 N 0 0 k0 k1 = k1 (sumI (fun j => ((T[j]?.getD []).length : Int)) T.length) := by
  have e : ∀ d, iter (fun j (s : Int) => s + ((T[j]?.getD []).length : Int)) d 0 0 = sumI (fun j => ((T[j]?.getD []).length : Int)) d := by
    intro d
    induction d with
    | zero => rfl
    | succ d ih => rw [iter_succ, ih, Nat.zero_add, sumI]
  rw [<- e]
  refine up_to (L := fun m j s => w_FnCorners_l1_s5 z t4_n t4_l t4_c t10_n t10_l t10_c T.length T.length t14_c T.length T.length t16_c h0_n h0 h1_0 h1_1 h1_2 h2 h3 h4 h5 h6 h7 h8 T T h11 h12 h13 h14 m s (j : Int) k0 k1) (n := T.length) (out := k1) (f := fun j (s : Int) => s + ((T[j]?.getD []).length : Int)) (I := fun j s => 0 <= s ∧ s <= 100 * (j : Int))
    (fun m j s hj hs => ⟨?_, by have := hw j hj; omega⟩)
    (fun m s _ => by
      rw [w_FnCorners_l1_s5, w_FnCorners_l1_s5_s]
      simp (disch := omega) only [c_ble, c_nlt]) T.length N 0 0 (by omega) (by omega) (by omega)
  obtain ⟨h1, h2⟩ := hw j hj
  have h3 : ((T[j]?.getD []).length : Int).tmod 2 = 0 := by rw [Int.tmod_eq_emod_of_nonneg (by omega)]; omega
  rw [w_FnCorners_l1_s5, w_FnCorners_l1_s5_s]
  simp only [c_and, Int.toNat_natCast, h3, bne_self_eq_false, c_false]
  simp (disch := omega) only [c_lt, c_le, c_ble, c_blt, c_beq, c_fits]
  rfl
theorem total_s3 (z : β) {N : Nat} (hN : 100 < N) (t4_n : Nat) (t4_l : Nat) (t4_c : Nat) (t10_c : Nat) (t26 : Int) (t28 : Int) (t30 : Int) (h0_n : Nat) (h0 : Nat -> Int) (h1_0 : Int) (h1_1 : Nat -> Int) (h1_2 : Nat -> Int) (h2 : List Int) (h3 : List Int) (h4 : Nat -> Int) (h7 : List (Nat × Nat)) (h8 : List (List Int)) (h9 : List (List UInt8)) (h10 : List (List UInt8)) (h11 : List (Nat × Nat)) (h12 : List (List Int)) (h13 : List (Nat × Nat)) (h14 : List (List Int)) (h15 : List Int) (h16 : List Int) {T : List (List Int)} (hT : T.length <= 8) (hw : ∀ j, j < T.length -> (rowAt T j).length = 2 ∧ -100 <= (rowAt T j)[1]?.getD 0 ∧ (rowAt T j)[1]?.getD 0 <= 100) (k0 : Int -> β) :
    w_FnCorners_l2_s3 z t4_n t4_l t4_c (idsOf T).length T.length t10_c t26 t28 t30 h0_n h0 h1_0 h1_1 h1_2 h2 h3 h4 (idsOf T) T h7 h8 h9 h10 h11 h12 h13 h14 h15 h16 N 0 0 k0 = k0 (sumI (fun j => (rowAt T j)[1]?.getD 0) T.length) := by
  have hI := idsOf_len T
  have e : ∀ d, iter (fun j (s : Int) => s + (rowAt T j)[1]?.getD 0) d 0 0 = sumI (fun j => (rowAt T j)[1]?.getD 0) d := by
    intro d
    induction d with
    | zero => rfl
    | succ d ih => rw [iter_succ, ih, Nat.zero_add, sumI]
  rw [<- e]
  refine up_to (L := fun m j s => w_FnCorners_l2_s3 z t4_n t4_l t4_c (idsOf T).length T.length t10_c t26 t28 t30 h0_n h0 h1_0 h1_1 h1_2 h2 h3 h4 (idsOf T) T h7 h8 h9 h10 h11 h12 h13 h14 h15 h16 m s (j : Int) k0) (n := T.length) (out := k0) (f := fun j (s : Int) => s + (rowAt T j)[1]?.getD 0) (I := fun j s => -100 * (j : Int) <= s ∧ s <= 100 * (j : Int))
    (fun m j s hj hs => ⟨?_, by have := hw j hj; omega⟩)
    (fun m s _ => by
      rw [w_FnCorners_l2_s3, w_FnCorners_l2_s3_s]
      simp (disch := omega) only [c_ble, c_nlt]) T.length N 0 0 (by omega) (by omega) (by omega)
  obtain ⟨h1, h2, h3⟩ := hw j hj
  have hid := idsOf_at T hj
  unfold idAt rowAt at hid
  unfold rowAt at h1 h2 h3
  rw [w_FnCorners_l2_s3, w_FnCorners_l2_s3_s]
  simp only [c_and, Int.toNat_natCast, hid, h1]
  simp (disch := omega) only [c_lt, c_le, c_ble, c_blt, c_beq, c_fits]
  rfl
theorem total_s4 (z : β) {N : Nat} (hN : 100 < N) (t4_n : Nat) (t4_l : Nat) (t4_c : Nat) (t10_c : Nat) (t26 : Int) (t28 : Int) (t30 : Int) (h0_n : Nat) (h0 : Nat -> Int) (h1_0 : Int) (h1_1 : Nat -> Int) (h1_2 : Nat -> Int) (h2 : List Int) (h3 : List Int) (h4 : Nat -> Int) (h7 : List (Nat × Nat)) (h8 : List (List Int)) (h9 : List (List UInt8)) (h10 : List (List UInt8)) (h11 : List (Nat × Nat)) (h12 : List (List Int)) (h13 : List (Nat × Nat)) (h14 : List (List Int)) {T : List (List Int)} (hT : T.length <= 8) (hw : ∀ j, j < T.length -> (rowAt T j).length = 2 ∧ -100 <= (rowAt T j)[1]?.getD 0 ∧ (rowAt T j)[1]?.getD 0 <= 100) (k0 : Int -> β) :
    w_FnCorners_l2_s4 z t4_n t4_l t4_c (idsOf T).length T.length t10_c t26 t28 t30 h0_n h0 h1_0 h1_1 h1_2 h2 h3 h4 (idsOf T) T h7 h8 h9 h10 h11 h12 h13 h14 N 0 0 k0 = k0 (sumI (fun j => (rowAt T j)[1]?.getD 0) T.length) := by
  have hI := idsOf_len T
  have e : ∀ d, iter (fun j (s : Int) => s + (rowAt T j)[1]?.getD 0) d 0 0 = sumI (fun j => (rowAt T j)[1]?.getD 0) d := by
    intro d
    induction d with
    | zero => rfl
    | succ d ih => rw [iter_succ, ih, Nat.zero_add, sumI]
  rw [<- e]
  refine up_to (L := fun m j s => w_FnCorners_l2_s4 z t4_n t4_l t4_c (idsOf T).length T.length t10_c t26 t28 t30 h0_n h0 h1_0 h1_1 h1_2 h2 h3 h4 (idsOf T) T h7 h8 h9 h10 h11 h12 h13 h14 m s (j : Int) k0) (n := T.length) (out := k0) (f := fun j (s : Int) => s + (rowAt T j)[1]?.getD 0) (I := fun j s => -100 * (j : Int) <= s ∧ s <= 100 * (j : Int))
    (fun m j s hj hs => ⟨?_, by have := hw j hj; omega⟩)
    (fun m s _ => by
      rw [w_FnCorners_l2_s4, w_FnCorners_l2_s4_s]
      simp (disch := omega) only [c_ble, c_nlt]) T.length N 0 0 (by omega) (by omega) (by omega)
  obtain ⟨h1, h2, h3⟩ := hw j hj
  have hid := idsOf_at T hj
  unfold idAt rowAt at hid
  unfold rowAt at h1 h2 h3
  rw [w_FnCorners_l2_s4, w_FnCorners_l2_s4_s]
  simp only [c_and, Int.toNat_natCast, hid, h1]
  simp (disch := omega) only [c_lt, c_le, c_ble, c_blt, c_beq, c_fits]
  rfl
end
end Go.AM
namespace Go.AM
abbrev Mat := Nat -> Nat -> Int
structure TabF (ids : List (Nat × Nat)) (pool : List (List Int)) (R W : Nat) (m : Mat) : Prop where
  len : R <= ids.length
  lt : ∀ i, i < R -> (idAt ids i).1 < pool.length
  sz : ∀ i, i < R -> (idAt ids i).2 = W
  wide : ∀ i, i < R -> (rowAt pool (idAt ids i).1).length = W
  cell : ∀ i j, i < R -> j < W -> (rowAt pool (idAt ids i).1)[j]?.getD 0 = m i j
  inj : ∀ i j, i < R -> j < R -> (idAt ids i).1 = (idAt ids j).1 -> i = j
def putM (m : Mat) (i j : Nat) (v : Int) : Mat := fun i' j' => if i' = i ∧ j' = j then v else m i' j'
def putP (ids : List (Nat × Nat)) (pool : List (List Int)) (i j : Nat) (v : Int) : List (List Int) := pool.set (idAt ids i).1 ((rowAt pool (idAt ids i).1).set j v)
theorem TabF.put {ids : List (Nat × Nat)} {pool : List (List Int)} {R W : Nat} {m : Mat} (h : TabF ids pool R W m) {i j : Nat} (hi : i < R) (hj : j < W) (v : Int) : TabF ids (putP ids pool i j v) R W (putM m i j v) := by
  have hlt := h.lt i hi
  have e := fun b => rowAt_set (P := pool) (ys := (rowAt pool (idAt ids i).1).set j v) hlt b
  unfold putP
  refine ⟨h.len, fun i' hi' => by rw [List.length_set]; exact h.lt i' hi', h.sz, fun i' hi' => ?_, fun i' j' hi' hj' => ?_, h.inj⟩
  · rw [e]; split
    · rw [List.length_set]; exact h.wide i hi
    · exact h.wide i' hi'
  · rw [e]
    unfold putM
    by_cases e1 : i' = i
    · subst e1
      rw [if_pos rfl, List.getElem?_set]
      by_cases e2 : j' = j
      · subst e2; rw [if_pos rfl, if_pos (by rw [h.wide i' hi']; exact hj), if_pos ⟨rfl, rfl⟩]; rfl
      · rw [if_neg (Ne.symm e2), if_neg (fun hh => e2 hh.2)]; exact h.cell i' j' hi' hj'
    · rw [if_neg (fun hh => e1 (h.inj _ _ hi' hi hh)), if_neg (fun hh => e1 hh.1)]; exact h.cell i' j' hi' hj'
theorem TabF.of_app {T : List (List Int)} {R W : Nat} {m : Mat} (hl : T.length = R) (hw : ∀ i, i < R -> (rowAt T i).length = W) (hc : ∀ i j, i < R -> j < W -> (rowAt T i)[j]?.getD 0 = m i j) : TabF (idsOf T) T R W m := by
  refine ⟨by rw [idsOf_len]; omega, fun i hi => ?_, fun i hi => ?_, fun i hi => ?_, fun i j hi hj => ?_, fun i j hi hj e => ?_⟩
  · rw [idsOf_at T (by omega)]; show i < T.length; omega
  · rw [idsOf_at T (by omega)]; exact hw i hi
  · rw [idsOf_at T (by omega)]; exact hw i hi
  · rw [idsOf_at T (by omega)]; exact hc i j hi hj
  · rw [idsOf_at T (by omega), idsOf_at T (by omega)] at e; exact e
end Go.AM
namespace Go.AM
section
variable {β : Type}
def CrossB (n : Nat) (s : List Int) : Prop := ∀ j, j < s.length / 3 -> ∃ i r : Nat, i < n ∧ r < n ∧ s[j * 3]?.getD 0 = i ∧ s[j * 3 + 1]?.getD 0 = r
theorem CrossB.step {m n i r : Nat} {X O : Nat -> Int} {s : List Int} (h : CrossI m s) (hb : CrossB n s) (hi : i < n) (hr : r < n) : CrossB n (crossF n X O i r s) := by
  unfold crossF
  have h1 := h.len
  generalize crossV n X O i r = v at *
  by_cases e : v = 0
  · rw [show (v != 0) = false by simpa using e, c_false]; exact hb
  · rw [show (v != 0) = true by simpa using e, c_true]
    have hl : (s ++ [(i : Int), (r : Int), v]).length = s.length + 3 := by simp
    intro j hj
    by_cases e2 : j < s.length / 3
    · rw [List.getElem?_append_left (by omega), List.getElem?_append_left (by omega)]; exact hb j e2
    · rw [List.getElem?_append_right (by omega), List.getElem?_append_right (by omega), show j * 3 - s.length = 0 by omega, show j * 3 + 1 - s.length = 1 by omega]
      exact ⟨i, r, hi, hr, rfl, rfl⟩
theorem CrossB.row {m n i : Nat} {X O : Nat -> Int} {s : List Int} (h : CrossI m s) (hb : CrossB n s) (hi : i < n) : ∀ d, d <= n -> CrossB n (iter (crossF n X O i) d 0 s) := by
  intro d
  induction d with
  | zero => exact fun _ => hb
  | succ d ih => intro hd; rw [iter_succ]; exact CrossB.step (h.row d) (ih (by omega)) hi (by omega)
theorem CrossB.all {n : Nat} {X O : Nat -> Int} : ∀ d, d <= n -> CrossB n (iter (crossR n X O) d 0 []) := by
  intro d
  induction d with
  | zero => exact fun _ j hj => by simp [iter] at hj
  | succ d ih => intro hd; rw [iter_succ]; exact CrossB.row (CrossI.all d) (ih (by omega)) (by omega) n (Nat.le_refl n)
structure LinkP (n cnt : Nat) (X : Nat -> Int) (wh : Nat -> Nat) (xs : List Int) : Prop where
  c : CrossI 64 xs
  b : CrossB n xs
  wh : ∀ i, i < n -> wh i < cnt
  cn : cnt <= n
  h8 : n <= 8
noncomputable def lA (wh : Nat -> Nat) (xs : List Int) (j : Nat) : Nat := wh (xs[j * 3]?.getD 0).toNat
noncomputable def lB (n : Nat) (X : Nat -> Int) (wh : Nat -> Nat) (xs : List Int) (j : Nat) : Nat := wh (rowOf n X (xs[j * 3 + 1]?.getD 0).toNat)
noncomputable def ownF (n : Nat) (X : Nat -> Int) (wh : Nat -> Nat) (xs : List Int) (c : Nat) (j : Nat) (s : Int) : Int := if lA wh xs j = c ∧ lB n X wh xs j = c then s + xs[j * 3 + 2]?.getD 0 else s
noncomputable def ownS (n : Nat) (X : Nat -> Int) (wh : Nat -> Nat) (xs : List Int) (c : Nat) : Int := iter (ownF n X wh xs c) (xs.length / 3) 0 0
theorem ownS_bd {m n : Nat} {X : Nat -> Int} {wh : Nat -> Nat} {xs : List Int} (h : CrossI m xs) (c : Nat) : -(m : Int) <= ownS n X wh xs c ∧ ownS n X wh xs c <= m := by
  have := iter_inv (f := ownF n X wh xs c) (n := xs.length / 3) (I := fun j s => -(j : Int) <= s ∧ s <= j) (fun j s hj hs => by
    have := h.sg j hj
    unfold ownF
    split <;> omega) (xs.length / 3) 0 0 (by omega) (by simp)
  have h2 := h.le
  rw [Nat.zero_add] at this
  unfold ownS
  omega
structure DiagP (ids : List (Nat × Nat)) (pool : List (List Int)) (cnt : Nat) (D : Nat -> Int) : Prop where
  len : ids.length = cnt
  sz : ∀ i, i < cnt -> (idAt ids i).2 = cnt
  wide : ∀ i, i < cnt -> (rowAt pool (idAt ids i).1).length = cnt
  cell : ∀ i, i < cnt -> (rowAt pool (idAt ids i).1)[i]?.getD 0 = D i
noncomputable def tabF (n : Nat) (X : Nat -> Int) (wh : Nat -> Nat) (xs : List Int) (j : Nat) (T : Nat -> Int) : Nat -> Int := upd T (lA wh xs j * 8 + lB n X wh xs j) (T (lA wh xs j * 8 + lB n X wh xs j) + xs[j * 3 + 2]?.getD 0)
theorem link_l0 (z : β) {N n cnt : Nat} (hN : 100 < N) {X O : Nat -> Int} (g : GridP n X O) (hX : ∀ j, 0 <= X j) {wh : Nat -> Nat} {h1 : Nat -> Int} {xs : List Int} (L : LinkP n cnt X wh xs) (hw : ∀ i, i < n -> h1 i = wh i) (t5 : Int) (k : (Nat -> Int) -> β) :
    ∃ T : Nat -> Int, (∀ q, -64 <= T q ∧ T q <= 64) ∧ (∀ c, c < cnt -> T (c * 8 + c) = ownS n X wh xs c) ∧ s_LinkingTable_l0 z N t5 xs.length (xs.length / 3) (xs.length / 3) n X O h1 xs N 0 (fun _ => 0) k = k T := by
  have hc := L.c
  have h8 := L.h8
  have hcn := L.cn
  have hle := hc.le
  have hlen := hc.len
  have step : ∀ (j : Nat) (s : Nat -> Int), j < xs.length / 3 -> ((∀ q, -(j : Int) <= s q ∧ s q <= j) ∧ ∀ c, c < cnt -> s (c * 8 + c) = iter (ownF n X wh xs c) j 0 0) ->
      ((∀ q, -((j + 1 : Nat) : Int) <= tabF n X wh xs j s q ∧ tabF n X wh xs j s q <= (j + 1 : Nat)) ∧ ∀ c, c < cnt -> tabF n X wh xs j s (c * 8 + c) = iter (ownF n X wh xs c) (j + 1) 0 0) := by
    intro j s hj ⟨i1, i2⟩
    obtain ⟨i, r, q1, q2, q3, q4⟩ := L.b j hj
    have sg := hc.sg j hj
    have ha : lA wh xs j < cnt := by unfold lA; rw [q3]; exact L.wh _ q1
    have hb : lB n X wh xs j < cnt := by unfold lB; rw [q4]; exact L.wh _ (rowOf_spec g.px hX q2).1
    refine ⟨fun q => ?_, fun c hcc => ?_⟩
    · have := i1 q
      have := i1 (lA wh xs j * 8 + lB n X wh xs j)
      unfold tabF
      rw [upd_at]
      split <;> omega
    · rw [iter_succ, Nat.zero_add]
      have eo : ∀ v, ownF n X wh xs c j v = if lA wh xs j = c ∧ lB n X wh xs j = c then v + xs[j * 3 + 2]?.getD 0 else v := fun v => rfl
      rw [eo]
      unfold tabF
      rw [upd_at, i2 c hcc]
      by_cases e : lA wh xs j = c ∧ lB n X wh xs j = c
      · rw [if_pos (by omega), if_pos e, e.1, e.2, i2 c hcc]
      · rw [if_neg (by omega), if_neg e]
  have hT := iter_inv (f := tabF n X wh xs) (n := xs.length / 3) (I := fun j s => (∀ q, -(j : Int) <= s q ∧ s q <= j) ∧ ∀ c, c < cnt -> s (c * 8 + c) = iter (ownF n X wh xs c) j 0 0) step (xs.length / 3) 0 (fun _ => 0) (by omega) ⟨fun q => by simp, fun c _ => rfl⟩
  rw [Nat.zero_add] at hT
  refine ⟨_, fun q => by have := hT.1 q; omega, hT.2, ?_⟩
  refine up_to (L := fun m j s => s_LinkingTable_l0 z N t5 xs.length (xs.length / 3) (xs.length / 3) n X O h1 xs m (j : Int) s k) (n := xs.length / 3) (out := k) (f := tabF n X wh xs) (I := fun j s => (∀ q, -(j : Int) <= s q ∧ s q <= j) ∧ ∀ c, c < cnt -> s (c * 8 + c) = iter (ownF n X wh xs c) j 0 0)
    (fun m j s hj hs => ⟨?_, step j s hj hs⟩)
    (fun m s _ => by simp (disch := omega) only [s_LinkingTable_l0, s_LinkingTable_l0_s, c_ble, c_nlt]) (xs.length / 3) N 0 (fun _ => 0) (by omega) (by omega) ⟨fun q => by simp, fun c _ => rfl⟩
  obtain ⟨i, r, q1, q2, q3, q4⟩ := L.b j hj
  have sg := hc.sg j hj
  have hro := (rowOf_spec g.px hX q2).1
  have ha := L.wh _ q1
  have hb := L.wh _ hro
  have w1 := hw _ q1
  have w2 := hw _ hro
  have b1 := hs.1 (wh i * 8 + wh (rowOf n X r))
  have eA : lA wh xs j = wh i := by unfold lA; rw [q3]; rfl
  have eB : lB n X wh xs j = wh (rowOf n X r) := by unfold lB; rw [q4]; rfl
  unfold tabF
  rw [eA, eB]
  simp only [s_LinkingTable_l0, s_LinkingTable_l0_s, c_and, Int.toNat_natCast, addO_eq, Nat.add_zero, q3, q4]
  rw [s_l01Row_val z (by omega) h8 g.px hX q2]
  simp only [Int.toNat_natCast, w1, w2]
  simp (disch := omega) only [c_lt, c_le, c_ble, c_blt, c_beq, c_fits]
  rfl
theorem iter_app (v : Nat -> Int) : ∀ d, iter (fun b (s : List Int) => s ++ [v b]) d 0 [] = (List.range d).map v := by
  intro d
  induction d with
  | zero => rfl
  | succ d ih => rw [iter_succ, ih, Nat.zero_add, List.range_succ, List.map_append]; rfl
def rowL (T : Nat -> Int) (cnt a : Nat) : List Int := (List.range cnt).map fun b => if a = b then T (a * 8 + a) else (T (a * 8 + b) + T (b * 8 + a)).tdiv 2
theorem rowL_len (T : Nat -> Int) (cnt a : Nat) : (rowL T cnt a).length = cnt := by simp [rowL]
theorem rowL_at (T : Nat -> Int) {cnt a : Nat} (h : a < cnt) : (rowL T cnt a)[a]?.getD 0 = T (a * 8 + a) := by simp [rowL, h]
theorem link_l2 (z : β) {N cnt : Nat} (hN : 100 < N) (h8 : cnt <= 8) {T : Nat -> Int} (hT : ∀ q, -64 <= T q ∧ T q <= 64) {a : Nat} (ha : a < cnt) (x1 x2 x3 : Nat) (h00 : Int) (h01 h02 h1 : Nat -> Int) (h2 : List Int) (h4 : List (List Int)) (h5 : List (Nat × Nat)) (k : Nat -> Nat -> Nat -> List Int -> β) :
    s_LinkingTable_l2 z cnt x1 x2 x3 a h00 h01 h02 h1 h2 T h4 h5 N 0 0 0 0 (List.replicate 0 0) k = k cnt cnt cnt (rowL T cnt a) := by
  unfold rowL
  rw [<- iter_app]
  refine up_to (L := fun M b (s : List Int) => s_LinkingTable_l2 z cnt x1 x2 x3 a h00 h01 h02 h1 h2 T h4 h5 M b b b (b : Int) s k) (n := cnt) (out := fun s => k cnt cnt cnt s)
    (f := fun b (s : List Int) => s ++ [if a = b then T (a * 8 + a) else (T (a * 8 + b) + T (b * 8 + a)).tdiv 2]) (I := fun b s => s.length = b)
    (fun M b s hb i1 => ⟨?_, by simp [i1]⟩)
    (fun M s i1 => by rw [s_LinkingTable_l2, s_LinkingTable_l2_s, c_nlt (by omega)]) cnt N 0 [] (by omega) (by omega) rfl
  have t1 := hT (a * 8 + a)
  have t2 := hT (a * 8 + b)
  have t3 := hT (b * 8 + a)
  have t4 := tdiv2_bd (x := T (a * 8 + b) + T (b * 8 + a)) (m := 128) (by omega)
  have hf : ∀ v : Int, fromTo ((List.replicate 1 (0 : Int)).set 0 v) 0 1 = [v] := fun v => rfl
  by_cases e : a = b
  · rw [s_LinkingTable_l2, s_LinkingTable_l2_s, if_pos e]
    simp only [c_and, c_true, Int.toNat_natCast, addO_eq, hf]
    simp (disch := omega) only [c_lt, c_le, c_blt, c_ble, c_nble, c_beq, c_fits, c_eq]
    rw [List.length_append, List.length_singleton, i1]
    rfl
  · rw [s_LinkingTable_l2, s_LinkingTable_l2_s, if_neg e]
    simp only [c_and, c_true, Int.toNat_natCast, addO_eq, hf]
    simp (disch := omega) only [c_lt, c_le, c_blt, c_ble, c_nble, c_beq, c_fits, c_neq]
    rw [List.length_append, List.length_singleton, i1]
    rfl
theorem rowAt_app1 {T : List (List Int)} {x : List Int} {a : Nat} (h : a < T.length) : rowAt (T ++ [x]) a = rowAt T a := by
  unfold rowAt; rw [List.getElem?_append_left h]
theorem rowAt_app2 {T : List (List Int)} {x : List Int} : rowAt (T ++ [x]) T.length = x := by
  unfold rowAt; rw [List.getElem?_append_right (Nat.le_refl _)]; simp
theorem link_l1 (z : β) {N cnt : Nat} (hN : 100 < N) (h8 : cnt <= 8) {T : Nat -> Int} (hT : ∀ q, -64 <= T q ∧ T q <= 64) (h00 : Int) (h01 h02 h1 : Nat -> Int) (h2 : List Int) (k : Nat -> Nat -> Nat -> List (List Int) -> List (Nat × Nat) -> β) :
    ∃ pool, DiagP (idsOf pool) pool cnt (fun c => T (c * 8 + c)) ∧ s_LinkingTable_l1 z N cnt h00 h01 h02 h1 h2 T N 0 0 0 0 (List.replicate 0 []) (List.map (fun (i : Nat) => (i, 0)) (List.range 0)) k = k cnt cnt cnt pool (idsOf pool) := by
  obtain ⟨pool, e, i1, i2⟩ := up_to_ex (L := fun M a (s : List (List Int)) => s_LinkingTable_l1 z N cnt h00 h01 h02 h1 h2 T M a a a (a : Int) s (idsOf s) k) (n := cnt) (out := fun s => k cnt cnt cnt s (idsOf s))
    (I := fun a s => s.length = a ∧ ∀ b, b < a -> (rowAt s b).length = cnt ∧ (rowAt s b)[b]?.getD 0 = T (b * 8 + b))
    (fun a s ha ⟨i1, i2⟩ => by
      have hid := idsOf_len s
      have rl := rowL_len T cnt a
      refine ⟨s ++ [rowL T cnt a], fun M => ?_, by simp [i1], fun b hb => ?_⟩
      · rw [s_LinkingTable_l1, s_LinkingTable_l1_s, c_lt (by omega), link_l2 z hN h8 hT ha]
        simp only [c_and, c_true]
        simp (disch := omega) only [c_beq, c_ble, c_nble, c_fits]
        rw [idsOf_app, rl, List.length_append, List.length_singleton, hid, i1]
        rfl
      · rcases Nat.lt_or_ge b a with hba | hba
        · rw [rowAt_app1 (by omega)]; exact i2 b hba
        · have : b = s.length := by omega
          subst this
          rw [rowAt_app2]
          exact ⟨rl, by rw [i1]; exact rowL_at T ha⟩)
    (fun M s ⟨i1, _⟩ => by rw [s_LinkingTable_l1, s_LinkingTable_l1_s, c_nlt (by omega)]) cnt N 0 [] (by omega) (by omega) ⟨rfl, fun b hb => by omega⟩
  have hid := idsOf_len pool
  refine ⟨pool, ⟨by rw [hid, i1], fun i hi => ?_, fun i hi => ?_, fun i hi => ?_⟩, e⟩
  · rw [idsOf_at pool (by omega)]; exact (i2 i hi).1
  · rw [idsOf_at pool (by omega)]; exact (i2 i hi).1
  · rw [idsOf_at pool (by omega)]; exact (i2 i hi).2
end
end Go.AM
namespace Go.AM
section
variable {β : Type}
theorem up_to_exB {σ κ : Type} {L : κ -> Nat -> Nat -> σ -> β} {n : Nat} {out : κ -> σ -> β} {I : Nat -> σ -> Prop}
    (hs : ∀ i s, i < n -> I i s -> ∃ s', (∀ k m, L k (m + 1) i s = L k m (i + 1) s') ∧ I (i + 1) s') (he : ∀ k m s, I n s -> L k (m + 1) n s = out k s) :
    ∀ (d i : Nat) (s : σ), i + d = n -> I i s -> ∃ s', I n s' ∧ ∀ k m, d < m -> L k m i s = out k s' := by
  intro d
  induction d with
  | zero =>
    intro i s hi h0
    have : i = n := by omega
    subst this
    refine ⟨s, h0, fun k m hm => ?_⟩
    obtain ⟨m, rfl⟩ : ∃ m', m = m' + 1 := ⟨m - 1, by omega⟩
    exact he k m s h0
  | succ d ih =>
    intro i s hi h0
    obtain ⟨s', h1, h2⟩ := hs i s (by omega) h0
    obtain ⟨s'', h3, h4⟩ := ih (i + 1) s' (by omega) h2
    refine ⟨s'', h3, fun k m hm => ?_⟩
    obtain ⟨m, rfl⟩ : ∃ m', m = m' + 1 := ⟨m - 1, by omega⟩
    rw [h1]
    exact h4 k m (by omega)
def zRow (n : Nat) : List Int := List.map (fun (_ : Nat) => (0 : Int)) (List.range n)
theorem zRow_len (n : Nat) : (zRow n).length = n := by simp [zRow]
theorem zRow_at (n j : Nat) : (zRow n)[j]?.getD 0 = 0 := by
  unfold zRow
  by_cases h : j < n <;> simp [h]
theorem linkI_l0 (z : β) {N cnt : Nat} (hN : 100 < N) (h8 : cnt <= 8) (h00 : Int) (h01 h02 h1 h2 : Nat -> Int) (k : Nat -> Nat -> Nat -> List (List Int) -> List (Nat × Nat) -> β) :
    ∃ pool, TabF (idsOf pool) pool cnt cnt (fun _ _ => 0) ∧ (idsOf pool).length = cnt ∧ i_Grid_linking_l0 z cnt cnt h00 h01 h02 h1 h2 N 0 0 0 0 (List.replicate 0 []) (List.map (fun (i : Nat) => (i, 0)) (List.range 0)) k = k cnt cnt cnt pool (idsOf pool) := by
  obtain ⟨pool, e, i1, i2⟩ := up_to_ex (L := fun M a (s : List (List Int)) => i_Grid_linking_l0 z cnt cnt h00 h01 h02 h1 h2 M a a a (a : Int) s (idsOf s) k) (n := cnt) (out := fun s => k cnt cnt cnt s (idsOf s))
    (I := fun a s => s.length = a ∧ ∀ b, b < a -> rowAt s b = zRow cnt)
    (fun a s ha ⟨i1, i2⟩ => by
      have hid := idsOf_len s
      refine ⟨s ++ [zRow cnt], fun M => ?_, by simp [i1], fun b hb => ?_⟩
      · have zl : (List.map (fun (_ : Nat) => (0 : Int)) (List.range cnt)).length = cnt := zRow_len cnt
        rw [i_Grid_linking_l0, i_Grid_linking_l0_s]
        simp only [c_and, c_true, Int.toNat_natCast, zl]
        simp (disch := omega) only [c_lt, c_le, c_beq, c_ble, c_nble, c_fits]
        rw [idsOf_app, zRow_len, List.length_append, List.length_singleton, hid, i1]
        rfl
      · rcases Nat.lt_or_ge b a with hba | hba
        · rw [rowAt_app1 (by omega)]; exact i2 b hba
        · have : b = s.length := by omega
          subst this
          rw [rowAt_app2])
    (fun M s ⟨i1, _⟩ => by rw [i_Grid_linking_l0, i_Grid_linking_l0_s, c_nlt (by omega)]) cnt N 0 [] (by omega) (by omega) ⟨rfl, fun b hb => by omega⟩
  exact ⟨pool, TabF.of_app i1 (fun i hi => by rw [i2 i hi, zRow_len]) (fun i j hi hj => by rw [i2 i hi, zRow_at]), by rw [idsOf_len, i1], e⟩
def LinkM (ids : List (Nat × Nat)) (pool : List (List Int)) (cnt b : Nat) (D : Nat -> Int) : Prop :=
  ∃ M, TabF ids pool cnt cnt M ∧ (∀ i j, i < cnt -> j < cnt -> -(b : Int) <= M i j ∧ M i j <= b) ∧ ∀ c, c < cnt -> M c c = D c
theorem linkI_l1 (z : β) {N n cnt : Nat} (hN : 100 < N) {X O : Nat -> Int} (g : GridP n X O) (hX : ∀ j, 0 <= X j) {wh : Nat -> Nat} {h1 h2 : Nat -> Int} {xs : List Int} (L : LinkP n cnt X wh xs) (hw : ∀ i, i < n -> h1 i = wh i) (hp : ∀ r, r < n -> h2 r = rowOf n X r)
    {ids : List (Nat × Nat)} {pool0 : List (List Int)} (hl : ids.length = cnt) (t0 : TabF ids pool0 cnt cnt (fun _ _ => 0)) (k : List (List Int) -> β) :
    ∃ pool, i_Grid_linking_l1 z cnt cnt cnt xs.length (xs.length / 3) (xs.length / 3) ((xs.length / 3 : Nat) : Int) n X O h1 h2 ids xs N 0 pool0 k = k pool ∧ LinkM ids pool cnt (xs.length / 3) (ownS n X wh xs) := by
  have hc := L.c
  have h8 := L.h8
  have hcn := L.cn
  have hle := hc.le
  have hlen := hc.len
  refine up_to_ex (L := fun m j (s : List (List Int)) => i_Grid_linking_l1 z cnt cnt cnt xs.length (xs.length / 3) (xs.length / 3) ((xs.length / 3 : Nat) : Int) n X O h1 h2 ids xs m (j : Int) s k) (n := xs.length / 3) (out := k)
    (I := fun j s => LinkM ids s cnt j fun c => iter (ownF n X wh xs c) j 0 0)
    (fun j s hj ⟨M, t, hb, hd⟩ => ?_)
    (fun m s _ => by rw [i_Grid_linking_l1, i_Grid_linking_l1_s, c_nlt (by omega)]) (xs.length / 3) N 0 pool0 (by omega) (by omega) ⟨_, t0, fun i j _ _ => by simp, fun c _ => rfl⟩
  obtain ⟨i, r, q1, q2, q3, q4⟩ := L.b j hj
  have sg := hc.sg j hj
  have hro := (rowOf_spec g.px hX q2).1
  have ha := L.wh _ q1
  have hbb := L.wh _ hro
  have w1 := hw _ q1
  have w2 := hw _ hro
  have wp := hp _ q2
  have eA : lA wh xs j = wh i := by unfold lA; rw [q3]; rfl
  have eB : lB n X wh xs j = wh (rowOf n X r) := by unfold lB; rw [q4]; rfl
  generalize hga : wh i = a at *
  generalize hgb : wh (rowOf n X r) = b at *
  generalize hgv : xs[j * 3 + 2]?.getD 0 = v at *
  have b1 := hb a b ha hbb
  have b2 := hb b a hbb ha
  have t1 := t.put ha hbb (M a b + v)
  have sa := t.sz a ha
  have sb := t.sz b hbb
  have wa := t.wide a ha
  have ca := t.cell a b ha hbb
  have wb := t1.wide b hbb
  have cb := t1.cell b a hbb ha
  have eo : ∀ c u, ownF n X wh xs c j u = if a = c ∧ b = c then u + v else u := fun c u => by unfold ownF; rw [eA, eB, hgv]
  unfold putP at t1 wb cb
  unfold idAt at sa sb t1 wa ca wb cb
  unfold rowAt at wa ca t1 wb cb
  by_cases e : a = b
  · subst e
    refine ⟨_, fun m => ?_, putM M a a (M a a + v), t1, fun i' j' hi' hj' => ?_, fun c hcc => ?_⟩
    · rw [i_Grid_linking_l1, i_Grid_linking_l1_s]
      simp only [c_and, Int.toNat_natCast, addO_eq, Nat.add_zero, q3, q4, w1, wp, w2, sa, wa, ca, hl, hgv]
      simp (disch := omega) only [c_lt, c_le, c_ble, c_blt, c_beq, c_fits, c_nne]
      rfl
    · have := hb i' j' hi' hj'
      unfold putM
      split <;> omega
    · have hd2 : M c c = iter (ownF n X wh xs c) j 0 0 := hd c hcc
      show _ = iter (ownF n X wh xs c) (j + 1) 0 0
      rw [iter_succ, Nat.zero_add, eo, <- hd2]
      unfold putM
      by_cases e : c = a
      · rw [if_pos ⟨e, e⟩, if_pos ⟨e.symm, e.symm⟩, e]
      · rw [if_neg (fun h => e h.1), if_neg (fun h => e h.1.symm)]
  · have hm : putM M a b (M a b + v) b a = M b a := by unfold putM; rw [if_neg (fun h => e h.1.symm)]
    rw [hm] at cb
    have t2 := t1.put hbb ha (M b a + v)
    unfold putP idAt rowAt at t2
    refine ⟨_, fun m => ?_, putM (putM M a b (M a b + v)) b a (M b a + v), t2, fun i' j' hi' hj' => ?_, fun c hcc => ?_⟩
    · rw [i_Grid_linking_l1, i_Grid_linking_l1_s]
      simp only [c_and, Int.toNat_natCast, addO_eq, Nat.add_zero, q3, q4, w1, wp, w2, sa, sb, wa, ca, hl, hgv, wb, cb]
      simp (disch := omega) only [c_lt, c_le, c_ble, c_blt, c_beq, c_fits, c_ne]
      rfl
    · have := hb i' j' hi' hj'
      unfold putM
      split
      · omega
      · split <;> omega
    · have hd2 : M c c = iter (ownF n X wh xs c) j 0 0 := hd c hcc
      show _ = iter (ownF n X wh xs c) (j + 1) 0 0
      rw [iter_succ, Nat.zero_add, eo, <- hd2]
      unfold putM
      rw [if_neg (by omega), if_neg (by omega), if_neg (by omega)]
theorem linkI_l3 (z : β) {N cnt a : Nat} (hN : 100 < N) (h8 : cnt <= 8) (ha : a < cnt) {ids : List (Nat × Nat)} {pool0 : List (List Int)} (hl : ids.length = cnt) {D : Nat -> Int} (t0 : LinkM ids pool0 cnt 64 D) (t76 : Int) (h00 : Int) (h01 h02 h1 h2 : Nat -> Int) (xs : List Int) :
    ∃ pool, LinkM ids pool cnt 64 D ∧ ∀ (k : List (List Int) -> β) (m : Nat), cnt < m -> i_Grid_linking_l3 z cnt cnt cnt a t76 a cnt h00 h01 h02 h1 h2 ids xs m 0 pool0 k = k pool := by
  refine up_to_exB (κ := List (List Int) -> β) (L := fun k m j (s : List (List Int)) => i_Grid_linking_l3 z cnt cnt cnt a t76 a cnt h00 h01 h02 h1 h2 ids xs m (j : Int) s k) (n := cnt) (out := fun k => k) (I := fun _ s => LinkM ids s cnt 64 D)
    (fun b s hb ⟨M, t, hbd, hd⟩ => ?_)
    (fun k m s _ => by rw [i_Grid_linking_l3, i_Grid_linking_l3_s, c_nlt (by omega)]) cnt 0 pool0 (by omega) t0
  by_cases e : a = b
  · refine ⟨s, fun k m => ?_, M, t, hbd, hd⟩
    rw [i_Grid_linking_l3, i_Grid_linking_l3_s]
    simp (disch := omega) only [c_lt, c_nne, c_fits]
    rfl
  · have sa := t.sz a ha
    have wa := t.wide a ha
    have ca := t.cell a b ha hb
    have b1 := hbd a b ha hb
    have b2 := tdiv2_bd (x := M a b) (m := 64) b1
    have t1 := t.put ha hb ((M a b).tdiv 2)
    unfold putP at t1
    unfold idAt at sa t1 wa ca
    unfold rowAt at wa ca t1
    refine ⟨_, fun k m => ?_, putM M a b ((M a b).tdiv 2), t1, fun i' j' hi' hj' => ?_, fun c hcc => ?_⟩
    · rw [i_Grid_linking_l3, i_Grid_linking_l3_s]
      simp only [c_and, Int.toNat_natCast, sa, wa, ca, hl]
      simp (disch := omega) only [c_lt, c_le, c_ble, c_blt, c_beq, c_fits, c_ne]
      rfl
    · have := hbd i' j' hi' hj'
      unfold putM
      split <;> omega
    · rw [<- hd c hcc]
      unfold putM
      rw [if_neg (by omega)]
theorem linkI_l2 (z : β) {N cnt : Nat} (hN : 100 < N) (h8 : cnt <= 8) {ids : List (Nat × Nat)} {pool0 : List (List Int)} (hl : ids.length = cnt) {D : Nat -> Int} (t0 : LinkM ids pool0 cnt 64 D) (h00 : Int) (h01 h02 h1 h2 : Nat -> Int) (xs : List Int) (k : List (List Int) -> β) :
    ∃ pool, i_Grid_linking_l2 z N cnt cnt cnt cnt h00 h01 h02 h1 h2 ids xs N 0 pool0 k = k pool ∧ LinkM ids pool cnt 64 D := by
  refine up_to_ex (L := fun m j (s : List (List Int)) => i_Grid_linking_l2 z N cnt cnt cnt cnt h00 h01 h02 h1 h2 ids xs m (j : Int) s k) (n := cnt) (out := k) (I := fun _ s => LinkM ids s cnt 64 D)
    (fun a s ha t => ?_)
    (fun m s _ => by rw [i_Grid_linking_l2, i_Grid_linking_l2_s, c_nlt (by omega)]) cnt N 0 pool0 (by omega) (by omega) t0
  have sa : (ids[a]?.getD (0, 0)).2 = cnt := by obtain ⟨M, tt, _⟩ := t; exact tt.sz a ha
  obtain ⟨pool, t2, e⟩ := linkI_l3 z (N := N) hN h8 ha hl t cnt h00 h01 h02 h1 h2 xs
  refine ⟨pool, fun m => ?_, t2⟩
  rw [i_Grid_linking_l2, i_Grid_linking_l2_s]
  simp only [c_and, Int.toNat_natCast, sa, hl]
  simp (disch := omega) only [c_lt, c_le, c_ble, c_blt, c_beq]
  rw [e _ N (by omega)]
  simp (disch := omega) only [c_fits]
  rfl
theorem LinkM.diag {ids : List (Nat × Nat)} {pool : List (List Int)} {cnt b : Nat} {D : Nat -> Int} (h : LinkM ids pool cnt b D) (hl : ids.length = cnt) : DiagP ids pool cnt D := by
  obtain ⟨M, t, _, hd⟩ := h
  exact ⟨hl, t.sz, t.wide, fun i hi => by rw [t.cell i i hi hi, hd i hi]⟩
theorem LinkM.up {ids : List (Nat × Nat)} {pool : List (List Int)} {cnt b c : Nat} {D : Nat -> Int} (h : LinkM ids pool cnt b D) (hb : b <= c) : LinkM ids pool cnt c D := by
  obtain ⟨M, t, h2, hd⟩ := h
  exact ⟨M, t, fun i j hi hj => by have := h2 i j hi hj; omega, hd⟩
noncomputable def cmpN (n : Nat) (X O : Nat -> Int) (i : Nat) : Nat := ((compS (nxtC n X O) n).1 i).toNat
noncomputable def cmpC (n : Nat) (X O : Nat -> Int) : Nat := (compS (nxtC n X O) n).2.toNat
theorem cmp_links {n : Nat} {X O : Nat -> Int} (g : GridP n X O) (hX : ∀ j, 0 <= X j) (hO : ∀ j, 0 <= O j) :
    LinkP n (cmpC n X O) X (cmpN n X O) (crossL n X O) ∧ (compS (nxtC n X O) n).2 = cmpC n X O ∧ ∀ i, i < n -> (compS (nxtC n X O) n).1 i = cmpN n X O i := by
  have inv := compS_inv (nxtC_lt g hX hO)
  have h8 := g.hi
  unfold cmpN cmpC
  generalize compS (nxtC n X O) n = s at *
  have h1 := inv.nn
  have h2 := inv.le
  refine ⟨⟨crossL_inv X O h8, CrossB.all n (Nat.le_refl n), fun i hi => ?_, by omega, h8⟩, by omega, fun i hi => ?_⟩
  · have := inv.set i hi
    have := inv.bd i (by omega)
    omega
  · have := inv.set i hi
    omega
theorem s_LinkingTable_val (z : β) {N : Nat} (hN : 100 < N) {n : Nat} {X O : Nat -> Int} (g : GridP n X O) (hX : ∀ j, 0 <= X j) (hO : ∀ j, 0 <= O j) (k0 : Int -> β) (k1 : Nat -> Nat -> Nat -> Int -> List (Nat × Nat) -> List (List Int) -> β) :
    ∃ pool, DiagP (idsOf pool) pool (cmpC n X O) (ownS n X (cmpN n X O) (crossL n X O)) ∧ s_LinkingTable z N n X O k0 k1 = k1 (cmpC n X O) (cmpC n X O) (cmpC n X O) 0 (idsOf pool) pool := by
  obtain ⟨L, e1, e2⟩ := cmp_links g hX hO
  have h8 := L.h8
  have hcn := L.cn
  unfold s_LinkingTable
  rw [s_l01Is_val z (by omega) _ _ _ hX hO, gridB_iff.2 ⟨n, rfl, g⟩, Bool.not_true, c_false, s_l01Components_val z (by omega) g hX hO, s_l03Crossings_val z (by omega) g hX hO, e1]
  obtain ⟨T, t1, t2, t3⟩ := link_l0 z hN g hX L e2 (cmpC n X O) (fun q13 => s_LinkingTable_l1 z N (cmpC n X O) n X O (compS (nxtC n X O) n).1 (crossL n X O) q13 N 0 0 0 0 (List.replicate 0 []) (List.map (fun (i : Nat) => (i, 0)) (List.range 0)) (fun q14 q15 q16 q17 q18 => k1 q14 q15 q16 0 q18 q17))
  rw [t3]
  obtain ⟨pool, p1, p2⟩ := link_l1 z hN (by omega : cmpC n X O <= 8) t1 n X O (compS (nxtC n X O) n).1 (crossL n X O) (fun q14 q15 q16 q17 q18 => k1 q14 q15 q16 0 q18 q17)
  exact ⟨pool, ⟨p1.len, p1.sz, p1.wide, fun i hi => by rw [p1.cell i hi, t2 i hi]⟩, p2⟩
theorem i_Grid_linking_val (z : β) {N : Nat} (hN : 100 < N) {n : Nat} {X O : Nat -> Int} (g : GridP n X O) (hX : ∀ j, 0 <= X j) (hO : ∀ j, 0 <= O j) (k : Nat -> Nat -> Nat -> List (Nat × Nat) -> List (List Int) -> β) :
    ∃ ids pool, DiagP ids pool (cmpC n X O) (ownS n X (cmpN n X O) (crossL n X O)) ∧ i_Grid_linking z N n X O k = k (cmpC n X O) (cmpC n X O) (cmpC n X O) ids pool := by
  obtain ⟨L, e1, e2⟩ := cmp_links g hX hO
  have h8 := L.h8
  have hcn := L.cn
  have hc := L.c
  have hle := hc.le
  have hlo := g.lo
  unfold i_Grid_linking
  rw [i_Grid_component_val z (by omega) g hX hO, i_Grid_places_val z (by omega) h8 g.px hX, e1]
  generalize hwf : (fun j => if j < n then (compS (nxtC n X O) n).1 j else 0) = wf
  have hw : ∀ i, i < n -> wf i = cmpN n X O i := fun i hi => by rw [<- hwf]; show (if i < n then _ else _) = _; rw [if_pos hi, e2 i hi]
  obtain ⟨pool0, t0, hl, f0⟩ := linkI_l0 z hN (by omega : cmpC n X O <= 8) n X O wf (plc n X) (fun q9 q10 q11 q12 q13 => i_Grid_crossings z N n X O (fun q14 q15 q16 q17 => cond (q15.ble 9223372036854775807) (i_Grid_linking_l1 z q9 q10 q11 q14 q15 q16 (↑q15 : Int) n X O wf (plc n X) q13 q17 N 0 q12 (fun q18 => cond (q10.ble 9223372036854775807) (i_Grid_linking_l2 z N q9 q10 q11 (↑q10 : Int) n X O wf (plc n X) q13 q17 N 0 q18 (fun q19 => k q9 q10 q11 q13 q19)) (z))) (z)))
  rw [f0, i_Grid_crossings_val z (by omega) g hX hO, c_ble (by omega)]
  obtain ⟨pool1, f1, t1⟩ := linkI_l1 z hN g hX L hw (fun r hr => plc_spec g.px hX hr) hl t0 (fun q18 => cond ((cmpC n X O).ble 9223372036854775807) (i_Grid_linking_l2 z N (cmpC n X O) (cmpC n X O) (cmpC n X O) (↑(cmpC n X O) : Int) n X O wf (plc n X) (idsOf pool0) (crossL n X O) N 0 q18 (fun q19 => k (cmpC n X O) (cmpC n X O) (cmpC n X O) (idsOf pool0) q19)) (z))
  rw [f1, c_ble (by omega)]
  obtain ⟨pool2, f2, t2⟩ := linkI_l2 z hN (by omega : cmpC n X O <= 8) hl (t1.up hle) n X O wf (plc n X) (crossL n X O) (fun q19 => k (cmpC n X O) (cmpC n X O) (cmpC n X O) (idsOf pool0) q19)
  exact ⟨_, pool2, t2.diag hl, f2⟩
end
end Go.AM
namespace Go.AM
section
variable {β : Type}
theorem iter_appT {γ : Type} (v : Nat -> γ) : ∀ d, iter (fun b (s : List γ) => s ++ [v b]) d 0 [] = (List.range d).map v := by
  intro d
  induction d with
  | zero => rfl
  | succ d ih => rw [iter_succ, ih, Nat.zero_add, List.range_succ, List.map_append]; rfl
noncomputable def cuspC (n : Nat) (X O : Nat -> Int) (c : Nat) : Int × Int := cuspS (cornersL n X O) (skipC (compS (nxtC n X O) n).1 c) (2 * n)
noncomputable def numsC (n : Nat) (X O : Nat -> Int) (c : Nat) : List Int := [-(ownS n X (cmpN n X O) (crossL n X O) c) - ((cuspC n X O c).1 + (cuspC n X O c).2).tdiv 2, ((cuspC n X O c).1 - (cuspC n X O c).2).tdiv 2]
noncomputable def numsT (n : Nat) (X O : Nat -> Int) : List (List Int) := (List.range (cmpC n X O)).map (numsC n X O)
theorem numsT_len (n : Nat) (X O : Nat -> Int) : (numsT n X O).length = cmpC n X O := by simp [numsT]
theorem numsT_small {N n : Nat} {X O : Nat -> Int} (hN : 100 < N) (h : cmpC n X O <= 8) : SmallT N (numsT n X O) := by
  refine ⟨by rw [numsT_len]; omega, fun i hi => ?_⟩
  rw [numsT_len] at hi
  have : rowAt (numsT n X O) i = numsC n X O i := by unfold rowAt numsT; simp [hi]
  rw [this]
  show 2 < N ∧ 2 <= 1000
  omega
theorem numsC_bd {n : Nat} (h8 : n <= 8) (X O : Nat -> Int) (c : Nat) : (0 <= (cuspC n X O c).1 ∧ 0 <= (cuspC n X O c).2 ∧ (cuspC n X O c).1 + (cuspC n X O c).2 <= 16) ∧ (-64 <= ownS n X (cmpN n X O) (crossL n X O) c ∧ ownS n X (cmpN n X O) (crossL n X O) c <= 64) := by
  have h1 := cuspS_bd (cornersL n X O) (skipC (compS (nxtC n X O) n).1 c) (2 * n)
  have h2 := ownS_bd (n := n) (X := X) (wh := cmpN n X O) (crossL_inv X O h8) c
  unfold cuspC
  omega
theorem cn_l0 (z : β) {N : Nat} (hN : 100 < N) {n : Nat} {X O : Nat -> Int} (g : GridP n X O) (hX : ∀ j, 0 <= X j) (hO : ∀ j, 0 <= O j) (hc : cmpC n X O <= 8) {ids : List (Nat × Nat)} {pool : List (List Int)} (dg : DiagP ids pool (cmpC n X O) (ownS n X (cmpN n X O) (crossL n X O))) (k : Nat -> Nat -> Nat -> List (List Int) -> List (Nat × Nat) -> β) :
    s_ComponentNumbers_l0_s2 z N (cmpC n X O) (cmpC n X O) (cmpC n X O) n X O ids pool N 0 0 0 0 (List.replicate 0 []) (List.map (fun (i : Nat) => (i, 0)) (List.range 0)) k = k (cmpC n X O) (cmpC n X O) (cmpC n X O) (numsT n X O) (idsOf (numsT n X O)) := by
  unfold numsT
  rw [<- iter_appT (numsC n X O)]
  have h8 := g.hi
  have hl := dg.len
  generalize hcn : cmpC n X O = cnt at *
  have key := up_to (L := fun M b (s : List (List Int)) => s_ComponentNumbers_l0_s2 z N cnt cnt cnt n X O ids pool M b b b (b : Int) s (idsOf s) k) (n := cnt) (out := fun s => k cnt cnt cnt s (idsOf s))
    (f := fun b (s : List (List Int)) => s ++ [numsC n X O b]) (I := fun b s => s.length = b)
    (fun M b s hb i1 => ⟨?_, by simp [i1]⟩)
    (fun M s i1 => by rw [s_ComponentNumbers_l0_s2, s_ComponentNumbers_l0_s2_s, c_ble (by omega), c_nlt (by omega)]) cnt N 0 [] (by omega) (by omega) rfl
  · exact key
  · have sa := dg.sz b hb
    have wa := dg.wide b hb
    have ca := dg.cell b hb
    unfold idAt at sa wa ca
    unfold rowAt at wa ca
    obtain ⟨⟨q1, q2, q3⟩, q4⟩ := numsC_bd h8 X O b
    have hid := idsOf_len s
    rw [s_ComponentNumbers_l0_s2, s_ComponentNumbers_l0_s2_s, c_ble (by omega), c_lt (by omega), s_l07Cusps_val z (by omega) g hX hO]
    show cond _ _ _ = s_ComponentNumbers_l0_s2 z N cnt cnt cnt n X O ids pool M (b + 1) (b + 1) (b + 1) ((b + 1 : Nat) : Int) (s ++ [[-(ownS n X (cmpN n X O) (crossL n X O) b) - ((cuspC n X O b).1 + (cuspC n X O b).2).tdiv 2, ((cuspC n X O b).1 - (cuspC n X O b).2).tdiv 2]]) (idsOf (s ++ [[-(ownS n X (cmpN n X O) (crossL n X O) b) - ((cuspC n X O b).1 + (cuspC n X O b).2).tdiv 2, ((cuspC n X O b).1 - (cuspC n X O b).2).tdiv 2]])) k
    rw [show cuspS (cornersL n X O) (skipC (compS (nxtC n X O) n).1 b) (2 * n) = cuspC n X O b from rfl]
    generalize cuspC n X O b = u at *
    generalize ownS n X (cmpN n X O) (crossL n X O) b = v at *
    have h3 := tdiv2_bd (x := u.1 + u.2) (m := 16) (by omega)
    have h4 := tdiv2_bd (x := u.1 - u.2) (m := 16) (by omega)
    simp only [c_and, c_true, Int.toNat_natCast, sa, wa, ca, hl]
    simp (disch := omega) only [c_lt, c_le, c_blt, c_ble, c_nble, c_beq, c_fits]
    rw [idsOf_app, List.length_append, List.length_singleton, hid, i1]
    rfl
def frontO (xs : List Int) (j o : Nat) (h : Nat -> Int) : Nat -> Int :=
  if recAt xs j 2 = 1 ∨ recAt xs j 2 = 2 then h else if ((recAt xs j 3 != 0) == (recAt xs j 2 == 3)) = true then upd (upd h o (h o + 1)) (o + 2) (h (o + 2) + 1) else upd (upd h o (h o + 1)) (o + 1) (h (o + 1) + 1)
theorem i_front_add_s2_val (z : β) (N : Nat) (a b : Int) {xs : List Int} {j o w : Nat} {h : Nat -> Int} (ho : o + 3 <= w) (hk : 0 <= recAt xs j 2 ∧ recAt xs j 2 <= 3) (hb : ∀ q, q < 3 -> 0 <= h (o + q) ∧ h (o + q) <= 1000) (k : (Nat -> Int) -> β) :
    i_front_add_s2 z N o w a b (recAt xs j 2) (recAt xs j 3 != 0) w h k = k (frontO xs j o h) := by
  have b0 := hb 0 (by omega)
  have b1 := hb 1 (by omega)
  have b2 := hb 2 (by omega)
  rw [Nat.add_zero] at b0
  have u1 : upd h o (h o + 1) (o + 1) = h (o + 1) := by rw [upd_at, if_neg (by omega)]
  have u2 : upd h o (h o + 1) (o + 2) = h (o + 2) := by rw [upd_at, if_neg (by omega)]
  have f1 : (([] : List UInt8) == [117]) = false := by decide
  have f2 : (([] : List UInt8) == [100]) = false := by decide
  have f3 : (([117] : List UInt8) == [117]) = true := by decide
  have f4 : (([100] : List UInt8) == [117]) = false := by decide
  have f5 : (([100] : List UInt8) == [100]) = true := by decide
  unfold i_front_add_s2 i_Corner_letter i_Corner_isCusp frontO
  simp only [addO_eq, Nat.add_zero, c_and]
  simp (disch := omega) only [c_beq, c_blt]
  have hcase : recAt xs j 2 = 0 ∨ recAt xs j 2 = 1 ∨ recAt xs j 2 = 2 ∨ recAt xs j 2 = 3 := by omega
  rcases hcase with e | e | e | e
  · simp only [e, u1, u2]
    cases hx : (recAt xs j 3 != 0) <;> simp [f1, f2, f3, f4, f5]
    all_goals (rw [fits64 (by omega), fits64 (by omega)]; rfl)
  · simp only [e]
    simp [f1, f2]
  · simp only [e]
    simp [f1, f2]
  · simp only [e, u1, u2]
    cases hx : (recAt xs j 3 != 0) <;> simp [f1, f2, f3, f4, f5]
    all_goals (rw [fits64 (by omega), fits64 (by omega)]; rfl)
def FrontI (cnt : Nat) (whI : Nat -> Int) (xs : List Int) (j : Nat) (h : Nat -> Int) : Prop :=
  ∀ c, c < cnt -> h (c * 3) = (cuspS xs (skipC whI c) j).1 + (cuspS xs (skipC whI c) j).2 ∧ h (c * 3 + 1) = (cuspS xs (skipC whI c) j).2 ∧ h (c * 3 + 2) = (cuspS xs (skipC whI c) j).1
theorem FrontI.step {cnt : Nat} {whI : Nat -> Int} {xs : List Int} {j : Nat} {h : Nat -> Int} (H : FrontI cnt whI xs j h) {a i : Nat} (hi : recAt xs j 0 = i) (ha : whI i = a) : FrontI cnt whI xs (j + 1) (frontO xs j (a * 3) h) := by
  intro c hc
  have es : cuspS xs (skipC whI c) (j + 1) = cuspF xs (skipC whI c) j (cuspS xs (skipC whI c) j) := by unfold cuspS; rw [iter_succ, Nat.zero_add]
  rw [es]
  obtain ⟨p0, p1, p2⟩ := H c hc
  have sk : skipC whI c (recAt xs j 0) = true ↔ c ≠ a := by
    unfold skipC
    rw [hi, Int.toNat_natCast, ha]
    simp
    omega
  generalize cuspS xs (skipC whI c) j = s at *
  unfold frontO cuspF
  by_cases e : recAt xs j 2 = 1 ∨ recAt xs j 2 = 2
  · rw [if_pos e, if_pos (.inr e)]; exact ⟨p0, p1, p2⟩
  · rw [if_neg e]
    by_cases ec : c = a
    · subst ec
      rw [if_neg (c := skipC whI c (recAt xs j 0) = true ∨ _) (fun hh => hh.elim (fun h => (sk.1 h) rfl) e)]
      have n1 : ¬ c * 3 = c * 3 + 1 := by omega
      have n2 : ¬ c * 3 + 2 = c * 3 + 1 := by omega
      have n3 : ¬ c * 3 + 2 = c * 3 := by omega
      have n4 : ¬ c * 3 = c * 3 + 2 := by omega
      have n5 : ¬ c * 3 + 1 = c * 3 + 2 := by omega
      have n6 : ¬ c * 3 + 1 = c * 3 := by omega
      cases hb : ((recAt xs j 3 != 0) == (recAt xs j 2 == 3))
      · simp only [Bool.false_eq_true, if_false, upd_at, n1, n2, n3, n4, n5, n6, if_true]
        omega
      · simp only [if_true, upd_at, n1, n2, n3, n4, n5, n6, if_false]
        omega
    · rw [if_pos (c := skipC whI c (recAt xs j 0) = true ∨ _) (.inl (sk.2 ec))]
      cases hb : ((recAt xs j 3 != 0) == (recAt xs j 2 == 3))
      · simp only [Bool.false_eq_true, if_false, upd_at]
        repeat rw [if_neg (by omega)]
        exact ⟨p0, p1, p2⟩
      · simp only [if_true, upd_at]
        repeat rw [if_neg (by omega)]
        exact ⟨p0, p1, p2⟩
theorem cnI_l0 (z : β) {N : Nat} (hN : 100 < N) {n : Nat} {X O : Nat -> Int} (g : GridP n X O) (hX : ∀ j, 0 <= X j) (hO : ∀ j, 0 <= O j) {wf : Nat -> Int} (hw : ∀ i, i < n -> wf i = cmpN n X O i) (k : (Nat -> Int) -> β) :
    ∃ h, FrontI (cmpC n X O) (compS (nxtC n X O) n).1 (cornersL n X O) (2 * n) h ∧ i_ComponentNumbers_1_l0 z N (cmpC n X O * 3) (cmpC n X O) (cmpC n X O) (8 * n) (2 * n) (2 * n) ((2 * n : Nat) : Int) n X O wf (cmpC n X O * 3) (cornersL n X O) N 0 (fun _ => 0) k = k h := by
  obtain ⟨L, e1, e2⟩ := cmp_links g hX hO
  have h8 := g.hi
  have hr := corner_recs (n := n) (X := X) (O := O)
  have hl := cornersL_len n X O
  have hcn := L.cn
  have hwl := L.wh
  obtain ⟨h, a1, a2⟩ := up_to_ex (L := fun m j h => i_ComponentNumbers_1_l0 z N (cmpC n X O * 3) (cmpC n X O) (cmpC n X O) (8 * n) (2 * n) (2 * n) ((2 * n : Nat) : Int) n X O wf (cmpC n X O * 3) (cornersL n X O) m (j : Int) h k) (n := 2 * n) (out := k)
    (I := fun j h => FrontI (cmpC n X O) (compS (nxtC n X O) n).1 (cornersL n X O) j h)
    (fun j h hj H => by
      obtain ⟨r0, r1, r2⟩ := hr j hj
      have hi : j / 2 < n := by omega
      have hc := hwl _ hi
      refine ⟨frontO (cornersL n X O) j (cmpN n X O (j / 2) * 3) h, fun m => ?_, H.step r0 (e2 _ hi)⟩
      have hwi := hw _ hi
      generalize cornersL n X O = xs at *
      have r0' := r0
      unfold recAt at r0'
      rw [Nat.add_zero] at r0'
      have e2' : xs[j * 4 + 2]?.getD 0 = recAt xs j 2 := rfl
      have e3 : xs[j * 4 + 3]?.getD 0 = recAt xs j 3 := rfl
      obtain ⟨p0, p1, p2⟩ := H _ hc
      have bd := cuspS_bd xs (skipC (compS (nxtC n X O) n).1 (cmpN n X O (j / 2))) j
      have hb : ∀ q, q < 3 -> 0 <= h (cmpN n X O (j / 2) * 3 + q) ∧ h (cmpN n X O (j / 2) * 3 + q) <= 1000 := fun q hq => by
        have : q = 0 ∨ q = 1 ∨ q = 2 := by omega
        rcases this with rfl | rfl | rfl
        · rw [Nat.add_zero]; omega
        · omega
        · omega
      have ia := i_front_add_s2_val z N (xs[j * 4]?.getD 0) (xs[j * 4 + 1]?.getD 0) (xs := xs) (j := j) (o := cmpN n X O (j / 2) * 3) (w := cmpC n X O * 3) (by omega) ⟨r1, r2⟩ hb
      rw [i_ComponentNumbers_1_l0, i_ComponentNumbers_1_l0_s]
      rw [r0'] at ia
      simp only [c_and, Int.toNat_natCast, addO_eq, Nat.add_zero, e2', e3, r0', hwi, ia]
      simp (disch := omega) only [c_lt, c_le, c_ble, c_blt, c_beq, c_fits]
      rfl)
    (fun m s _ => by rw [i_ComponentNumbers_1_l0, i_ComponentNumbers_1_l0_s, c_nlt (by omega)]) (2 * n) N 0 (fun _ => 0) (by omega) (by omega) (fun c _ => by simp [cuspS, iter])
  exact ⟨h, a2, a1⟩
theorem cnI_l1 (z : β) {N : Nat} (hN : 100 < N) {n : Nat} {X O : Nat -> Int} (h8 : n <= 8) (hc : cmpC n X O <= 8) {wf : Nat -> Int} {h : Nat -> Int} (H : FrontI (cmpC n X O) (compS (nxtC n X O) n).1 (cornersL n X O) (2 * n) h)
    {ids : List (Nat × Nat)} {pool : List (List Int)} (dg : DiagP ids pool (cmpC n X O) (ownS n X (cmpN n X O) (crossL n X O))) (xs : List Int) (k : Nat -> Nat -> Nat -> List (List Int) -> List (Nat × Nat) -> β) :
    i_ComponentNumbers_1_l1 z N (cmpC n X O) (cmpC n X O) (cmpC n X O) (cmpC n X O * 3) (cmpC n X O) (cmpC n X O) (cmpC n X O) n X O wf (cmpC n X O * 3) h xs ids pool N 0 0 0 0 (List.replicate 0 []) (List.map (fun (i : Nat) => (i, 0)) (List.range 0)) k = k (cmpC n X O) (cmpC n X O) (cmpC n X O) (numsT n X O) (idsOf (numsT n X O)) := by
  unfold numsT
  rw [<- iter_appT (numsC n X O)]
  have hl := dg.len
  have bds := numsC_bd h8 X O
  have key := up_to (L := fun M b (s : List (List Int)) => i_ComponentNumbers_1_l1 z N (cmpC n X O) (cmpC n X O) (cmpC n X O) (cmpC n X O * 3) (cmpC n X O) (cmpC n X O) (cmpC n X O) n X O wf (cmpC n X O * 3) h xs ids pool M b b b (b : Int) s (idsOf s) k) (n := cmpC n X O) (out := fun s => k (cmpC n X O) (cmpC n X O) (cmpC n X O) s (idsOf s))
    (f := fun b (s : List (List Int)) => s ++ [numsC n X O b]) (I := fun b s => s.length = b)
    (fun M b s hb i1 => ⟨?_, by simp [i1]⟩)
    (fun M s i1 => by rw [i_ComponentNumbers_1_l1, i_ComponentNumbers_1_l1_s, c_nlt (by omega)]) (cmpC n X O) N 0 [] (by omega) (by omega) rfl
  · exact key
  · have sa := dg.sz b hb
    have wa := dg.wide b hb
    have ca := dg.cell b hb
    unfold idAt at sa wa ca
    unfold rowAt at wa ca
    obtain ⟨⟨q1, q2, q3⟩, q4⟩ := bds b
    obtain ⟨p0, p1, p2⟩ := H b hb
    have hid := idsOf_len s
    show _ = i_ComponentNumbers_1_l1 z N (cmpC n X O) (cmpC n X O) (cmpC n X O) (cmpC n X O * 3) (cmpC n X O) (cmpC n X O) (cmpC n X O) n X O wf (cmpC n X O * 3) h xs ids pool M (b + 1) (b + 1) (b + 1) ((b + 1 : Nat) : Int) (s ++ [[-(ownS n X (cmpN n X O) (crossL n X O) b) - ((cuspC n X O b).1 + (cuspC n X O b).2).tdiv 2, ((cuspC n X O b).1 - (cuspC n X O b).2).tdiv 2]]) (idsOf (s ++ [[-(ownS n X (cmpN n X O) (crossL n X O) b) - ((cuspC n X O b).1 + (cuspC n X O b).2).tdiv 2, ((cuspC n X O b).1 - (cuspC n X O b).2).tdiv 2]])) k
    rw [show cuspS (cornersL n X O) (skipC (compS (nxtC n X O) n).1 b) (2 * n) = cuspC n X O b from rfl] at p0 p1 p2
    generalize cuspC n X O b = u at *
    generalize ownS n X (cmpN n X O) (crossL n X O) b = v at *
    have h3 := tdiv2_bd (x := u.1 + u.2) (m := 16) (by omega)
    have h4 := tdiv2_bd (x := u.1 - u.2) (m := 16) (by omega)
    have e2 : ∀ a c : Int, ((List.replicate 2 (0 : Int)).set 0 a).set 1 c = [a, c] := fun _ _ => rfl
    rw [i_ComponentNumbers_1_l1, i_ComponentNumbers_1_l1_s]
    simp only [c_and, c_true, Int.toNat_natCast, sa, wa, ca, hl, i_front_numbers, shiftF_eq, Nat.add_zero, p0, p1, p2, e2]
    simp (disch := omega) only [c_lt, c_le, c_blt, c_ble, c_nble, c_beq, c_fits]
    rw [idsOf_app, List.length_append, List.length_singleton, hid, i1]
    rfl
end
end Go.AM
namespace Go.AM
section
variable {β : Type}
end
end Go.AM
namespace Go.AM
section
variable {β : Type}
end
end Go.AM
