/- A part of a proof about the given program: an abstract machine, what the given functions come to, and plain laws. -/
import Derived.Test.YtoginabccpjeoaaMachB
import Derived.Test.YtoginabccpjeoaaDallLawComponents1
set_option linter.unusedVariables false
set_option linter.unusedSimpArgs false
namespace Go.AM
section guards
variable {β : Type} {x y : β}
theorem c_and (a b : Bool) : cond (a && b) x y = cond a (cond b x y) y := by cases a <;> rfl
theorem c_not (a : Bool) : cond (!a) x y = cond a y x := by cases a <;> rfl
theorem c_lt {a b : Int} (h : a < b) : cond (decide (a < b)) x y = x := by rw [decide_eq_true h]; rfl
theorem c_nlt {a b : Int} (h : b <= a) : cond (decide (a < b)) x y = y := by rw [decide_eq_false (by omega)]; rfl
theorem c_le {a b : Int} (h : a <= b) : cond (decide (a <= b)) x y = x := by rw [decide_eq_true h]; rfl
theorem c_nle {a b : Int} (h : b < a) : cond (decide (a <= b)) x y = y := by rw [decide_eq_false (by omega)]; rfl
theorem c_ne {a b : Int} (h : a ≠ b) : cond (a != b) x y = x := by rw [show (a != b) = true by simpa using h]; rfl
theorem c_nne {a b : Int} (h : a = b) : cond (a != b) x y = y := by rw [show (a != b) = false by simpa using h]; rfl
theorem c_eq {a b : Int} (h : a = b) : cond (a == b) x y = x := by rw [show (a == b) = true by simpa using h]; rfl
theorem c_neq {a b : Int} (h : a ≠ b) : cond (a == b) x y = y := by rw [show (a == b) = false by simpa using h]; rfl
theorem c_blt {a b : Nat} (h : a < b) : cond (a.blt b) x y = x := by rw [show a.blt b = true by rwa [Nat.blt_eq]]; rfl
theorem c_ble {a b : Nat} (h : a <= b) : cond (a.ble b) x y = x := by rw [show a.ble b = true by rwa [Nat.ble_eq]]; rfl
theorem c_nble {a b : Nat} (h : b < a) : cond (a.ble b) x y = y := by rw [show a.ble b = false by rw [<- Bool.not_eq_true, Nat.ble_eq]; omega]; rfl
theorem c_beq {a b : Nat} (h : a = b) : cond (a.beq b) x y = x := by rw [show a.beq b = true by subst h; exact Nat.beq_refl a]; rfl
theorem fits64 {x : Int} (h : -9223372036854775808 <= x ∧ x <= 9223372036854775807) : fits .i64 x = true := by rw [fits_iff]; exact h
theorem c_fits {a : Int} (h : -9223372036854775808 <= a ∧ a <= 9223372036854775807) : cond (fits .i64 a) x y = x := by rw [fits64 h]; rfl
theorem c_true : cond true x y = x := rfl
theorem c_false : cond false x y = y := rfl
end guards
section upd
variable {β : Type}
theorem upd_at (f : Nat -> β) (i : Nat) (v : β) (j : Nat) : upd f i v j = if j = i then v else f j := by
  unfold upd
  by_cases h : j = i
  · subst h; rw [Nat.beq_refl]; simp
  · rw [show Nat.beq j i = false by rw [<- Bool.not_eq_true]; exact fun e => h (Nat.eq_of_beq_eq_true e), if_neg h]; rfl
end upd
section loops
variable {β σ ρ : Type}
def iter (f : Nat -> σ -> σ) : Nat -> Nat -> σ -> σ
  | 0, _, s => s
  | d + 1, i, s => iter f d (i + 1) (f i s)
theorem iter_inv {f : Nat -> σ -> σ} {I : Nat -> σ -> Prop} {n : Nat} (h : ∀ i s, i < n -> I i s -> I (i + 1) (f i s)) : ∀ (d i : Nat) (s : σ), i + d <= n -> I i s -> I (i + d) (iter f d i s) := by
  intro d
  induction d with
  | zero => intro i s _ h0; exact h0
  | succ d ih =>
    intro i s hn h0
    have := ih (i + 1) (f i s) (by omega) (h i s (by omega) h0)
    rw [show i + 1 + d = i + (d + 1) by omega] at this
    exact this
theorem up_to {L : Nat -> Nat -> σ -> β} {n : Nat} {out : σ -> β} {f : Nat -> σ -> σ} {I : Nat -> σ -> Prop}
    (hs : ∀ m i s, i < n -> I i s -> L (m + 1) i s = L m (i + 1) (f i s) ∧ I (i + 1) (f i s)) (he : ∀ m s, I n s -> L (m + 1) n s = out s) :
    ∀ (d m i : Nat) (s : σ), i + d = n -> d < m -> I i s -> L m i s = out (iter f d i s) := by
  intro d
  induction d with
  | zero =>
    intro m i s hi hm h0
    obtain ⟨m, rfl⟩ : ∃ m', m = m' + 1 := ⟨m - 1, by omega⟩
    have : i = n := by omega
    subst this
    exact he m s h0
  | succ d ih =>
    intro m i s hi hm h0
    obtain ⟨m, rfl⟩ : ∃ m', m = m' + 1 := ⟨m - 1, by omega⟩
    obtain ⟨h1, h2⟩ := hs m i s (by omega) h0
    rw [h1]
    exact ih m (i + 1) (f i s) (by omega) (by omega) h2
theorem up_to_ex {L : Nat -> Nat -> σ -> β} {n : Nat} {out : σ -> β} {I : Nat -> σ -> Prop}
    (hs : ∀ i s, i < n -> I i s -> ∃ s', (∀ m, L (m + 1) i s = L m (i + 1) s') ∧ I (i + 1) s') (he : ∀ m s, I n s -> L (m + 1) n s = out s) :
    ∀ (d m i : Nat) (s : σ), i + d = n -> d < m -> I i s -> ∃ s', L m i s = out s' ∧ I n s' := by
  intro d
  induction d with
  | zero =>
    intro m i s hi hm h0
    obtain ⟨m, rfl⟩ : ∃ m', m = m' + 1 := ⟨m - 1, by omega⟩
    have : i = n := by omega
    subst this
    exact ⟨s, he m s h0, h0⟩
  | succ d ih =>
    intro m i s hi hm h0
    obtain ⟨m, rfl⟩ : ∃ m', m = m' + 1 := ⟨m - 1, by omega⟩
    obtain ⟨s', h1, h2⟩ := hs i s (by omega) h0
    rw [h1]
    exact ih m (i + 1) s' (by omega) (by omega) h2
def iterE (f : Nat -> σ -> σ ⊕ ρ) : Nat -> Nat -> σ -> σ ⊕ ρ
  | 0, _, s => .inl s
  | d + 1, i, s => match f i s with
    | .inl s' => iterE f d (i + 1) s'
    | .inr r => .inr r
def orOut (out : σ -> β) (ex : ρ -> β) : σ ⊕ ρ -> β
  | .inl s => out s
  | .inr r => ex r
theorem up_to_E {L : Nat -> Nat -> σ -> β} {n : Nat} {out : σ -> β} {ex : ρ -> β} {f : Nat -> σ -> σ ⊕ ρ} {I : Nat -> σ -> Prop}
    (hs : ∀ m i s, i < n -> I i s -> (∃ s', f i s = .inl s' ∧ L (m + 1) i s = L m (i + 1) s' ∧ I (i + 1) s') ∨ ∃ r, f i s = .inr r ∧ L (m + 1) i s = ex r) (he : ∀ m s, I n s -> L (m + 1) n s = out s) :
    ∀ (d m i : Nat) (s : σ), i + d = n -> d < m -> I i s -> L m i s = orOut out ex (iterE f d i s) := by
  intro d
  induction d with
  | zero =>
    intro m i s hi hm h0
    obtain ⟨m, rfl⟩ : ∃ m', m = m' + 1 := ⟨m - 1, by omega⟩
    have : i = n := by omega
    subst this
    exact he m s h0
  | succ d ih =>
    intro m i s hi hm h0
    obtain ⟨m, rfl⟩ : ∃ m', m = m' + 1 := ⟨m - 1, by omega⟩
    rcases hs m i s (by omega) h0 with ⟨s', h1, h2, h3⟩ | ⟨r, h1, h2⟩
    · rw [h2, iterE, h1]
      exact ih m (i + 1) s' (by omega) (by omega) h3
    · rw [h2, iterE, h1]; rfl
def allFrom (p : Nat -> Bool) : Nat -> Nat -> Bool
  | 0, _ => true
  | d + 1, i => p i && allFrom p d (i + 1)
theorem allFrom_iff {p : Nat -> Bool} : ∀ (d i : Nat), allFrom p d i = true ↔ ∀ j, i <= j -> j < i + d -> p j = true := by
  intro d
  induction d with
  | zero => intro i; exact ⟨fun _ j h1 h2 => by omega, fun _ => rfl⟩
  | succ d ih =>
    intro i
    rw [allFrom, Bool.and_eq_true, ih]
    refine ⟨fun ⟨h1, h2⟩ j h3 h4 => ?_, fun h => ⟨h i (by omega) (by omega), fun j h3 h4 => h j (by omega) (by omega)⟩⟩
    by_cases e : j = i
    · subst e; exact h1
    · exact h2 j (by omega) (by omega)
theorem up_to_all {L : Nat -> Nat -> β} {n : Nat} {kt kf : β} {p : Nat -> Bool}
    (hs : ∀ m i, i < n -> L (m + 1) i = cond (p i) (L m (i + 1)) kf) (he : ∀ m, L (m + 1) n = kt) :
    ∀ (d m i : Nat), i + d = n -> d < m -> L m i = cond (allFrom p d i) kt kf := by
  intro d
  induction d with
  | zero =>
    intro m i hi hm
    obtain ⟨m, rfl⟩ : ∃ m', m = m' + 1 := ⟨m - 1, by omega⟩
    have : i = n := by omega
    subst this
    exact he m
  | succ d ih =>
    intro m i hi hm
    obtain ⟨m, rfl⟩ : ∃ m', m = m' + 1 := ⟨m - 1, by omega⟩
    rw [hs m i (by omega), allFrom]
    cases p i with
    | false => rfl
    | true => exact ih m (i + 1) (by omega) (by omega)
theorem iter_set {γ : Type} (g : Nat -> γ) : ∀ (d i : Nat) (h : Nat -> γ), iter (fun i h => upd h i (g i)) d i h = fun j => if i <= j ∧ j < i + d then g j else h j := by
  intro d
  induction d with
  | zero => intro i h; funext j; rw [if_neg (by omega)]; rfl
  | succ d ih =>
    intro i h
    rw [iter, ih]
    funext j
    simp only [upd_at]
    by_cases e : j = i
    · subst e; rw [if_neg (by omega), if_pos (by omega)]; simp
    · by_cases e2 : i + 1 <= j ∧ j < i + 1 + d
      · rw [if_pos e2, if_pos (by omega)]
      · rw [if_neg e2, if_neg e, if_neg (by omega)]
end loops
end Go.AM
namespace Go.AM
theorem surj_of_inj : ∀ (n : Nat) (f : Nat -> Nat), (∀ i, i < n -> f i < n) -> (∀ i j, i < n -> j < n -> f i = f j -> i = j) -> ∀ r, r < n -> ∃ i, i < n ∧ f i = r := by
  intro n
  induction n with
  | zero => intro f _ _ r hr; omega
  | succ n ih =>
    intro f hf hi r hr
    have hg := ih (fun i => if f i = n then f n else f i) (fun i h => by
      try simp only
      split
      · rename_i e
        have h1 := hf n (by omega)
        have h2 : f n ≠ n := fun e2 => by have := hi i n (by omega) (by omega) (by omega); omega
        omega
      · have := hf i (by omega); omega) (fun i j h1 h2 e => by
      try simp only at e
      split at e <;> split at e
      · exact hi i j (by omega) (by omega) (by omega)
      · have := hi n j (by omega) (by omega) e; omega
      · have := hi i n (by omega) (by omega) e; omega
      · exact hi i j (by omega) (by omega) e)
    by_cases e : r = n
    · subst e
      by_cases e2 : f r = r
      · exact ⟨r, by omega, e2⟩
      · obtain ⟨i, h1, h2⟩ := hg (f r) (by have := hf r (by omega); omega)
        try simp only at h2
        split at h2
        · rename_i e3; exact ⟨i, by omega, e3⟩
        · have := hi i r (by omega) (by omega) h2; omega
    · obtain ⟨i, h1, h2⟩ := hg r (by omega)
      try simp only at h2
      split at h2
      · exact ⟨n, by omega, h2⟩
      · exact ⟨i, by omega, h2⟩
theorem inj_of_surj (n : Nat) (f : Nat -> Nat) (hf : ∀ i, i < n -> f i < n) (hs : ∀ r, r < n -> ∃ i, i < n ∧ f i = r) : ∀ i j, i < n -> j < n -> f i = f j -> i = j := by
  have hc : ∀ r, ∃ i, r < n -> i < n ∧ f i = r := fun r => by
    by_cases h : r < n
    · obtain ⟨i, hi⟩ := hs r h; exact ⟨i, fun _ => hi⟩
    · exact ⟨0, fun h' => absurd h' h⟩
  obtain ⟨g, hg⟩ := Classical.axiomOfChoice hc
  have hgs := surj_of_inj n g (fun i h => (hg i h).1) (fun i j h1 h2 e => by have a := (hg i h1).2; have b := (hg j h2).2; rw [e] at a; omega)
  intro i j hi hj e
  obtain ⟨r, h1, h2⟩ := hgs i hi
  obtain ⟨s, h3, h4⟩ := hgs j hj
  have a := (hg r h1).2
  have b := (hg s h3).2
  rw [h2] at a
  rw [h4] at b
  have : r = s := by omega
  rw [<- h2, <- h4, this]
theorem bitI_or_nat {a b : Nat} (ha : a < 2 ^ 63) (hb : b < 2 ^ 63) : bitI .or .i64 (a : Int) (b : Int) = ((a ||| b : Nat) : Int) := by
  have e : bitI .or .i64 (a : Int) (b : Int) = IntKind.wrap .i64 ((BitVec.ofInt 64 a ||| BitVec.ofInt 64 b).toNat : Int) := rfl
  rw [e, BitVec.ofInt_natCast, BitVec.ofInt_natCast, BitVec.toNat_or, BitVec.toNat_ofNat, BitVec.toNat_ofNat, Nat.mod_eq_of_lt (by omega), Nat.mod_eq_of_lt (by omega)]
  apply wrap_fits
  have := Nat.or_lt_two_pow ha hb
  exact fits64 (by omega)
theorem shlI_one (x : Nat) : shlI 1 (x : Int) = ((2 ^ x : Nat) : Int) := by
  unfold shlI
  simp
def PermP (w n : Nat) (p : Nat -> Int) : Prop := (∀ j, n <= j -> j < w -> p j = 0) ∧ (∀ j, j < n -> p j < n) ∧ ∀ i j, i < n -> j < n -> p i = p j -> i = j
noncomputable def permB (w n : Nat) (p : Nat -> Int) : Bool := @decide (PermP w n p) (Classical.propDecidable _)
theorem permB_iff {w n : Nat} {p : Nat -> Int} : permB w n p = true ↔ PermP w n p := by
  unfold permB; exact @decide_eq_true_iff _ (Classical.propDecidable _)
theorem permB_of {w n : Nat} {p : Nat -> Int} {b : Bool} (h : b = true ↔ PermP w n p) : b = permB w n p := by
  cases b <;> cases hq : permB w n p <;> simp_all [permB_iff, <- permB_iff]
section order
variable {β : Type}
def ordS (w : Nat) (z : β) (n : Int) (h0 : Nat -> Int) (seen : Int) (t10 : Int) (kn : Int -> Int -> β) (k0 : β) (k1 : Int -> β) : β :=
  cond (decide (t10 < (w : Int))) (cond (decide (0 <= t10) && decide (t10 < (↑w : Int))) (cond (t10.toNat.blt w) (cond (decide (n <= t10)) (cond (h0 t10.toNat != 0) (k0) (cond (decide (n <= h0 t10.toNat)) (k0) (cond (decide (t10 < n)) (cond (decide (0 <= h0 t10.toNat) && decide (h0 t10.toNat < (↑64 : Int))) (cond (fits .i64 (shlI 1 (h0 t10.toNat))) (cond (fits .i64 (t10 + 1)) (kn (bitI BinOp.or IntKind.i64 seen (shlI 1 (h0 t10.toNat))) (t10 + 1)) (z)) (z)) (z)) (cond (fits .i64 (t10 + 1)) (kn seen (t10 + 1)) (z))))) (cond (decide (n <= h0 t10.toNat)) (k0) (cond (decide (t10 < n)) (cond (decide (0 <= h0 t10.toNat) && decide (h0 t10.toNat < (↑64 : Int))) (cond (fits .i64 (shlI 1 (h0 t10.toNat))) (cond (fits .i64 (t10 + 1)) (kn (bitI BinOp.or IntKind.i64 seen (shlI 1 (h0 t10.toNat))) (t10 + 1)) (z)) (z)) (z)) (cond (fits .i64 (t10 + 1)) (kn seen (t10 + 1)) (z))))) (z)) (z)) (k1 seen)
def ordL (w : Nat) (z : β) (n : Int) (h0 : Nat -> Int) : Nat -> Int -> Int -> β -> (Int -> β) -> β
  | 0, _, _, _, _ => z
  | m + 1, seen, t10, k0, k1 => ordS w z n h0 seen t10 (fun seen t10 => ordL w z n h0 m seen t10 k0 k1) k0 k1
def ordF (n : Nat) (p : Nat -> Int) (i s : Nat) : Nat ⊕ Unit :=
  if n <= i then (if p i = 0 then .inl s else .inr ()) else if p i < n then .inl (s ||| 2 ^ (p i).toNat) else .inr ()
theorem ordL_val (w : Nat) (hw : w <= 64) (z : β) (n : Nat) (hn : 1 <= n) (hn8 : n <= 8) (p : Nat -> Int) (hp : ∀ j, 0 <= p j) (k0 : β) (k1 : Int -> β) {N : Nat} (hN : w < N) :
    ordL w z n p N 0 0 k0 k1 = orOut (fun s : Nat => k1 (s : Int)) (fun _ => k0) (iterE (ordF n p) w 0 0) := by
  refine up_to_E (L := fun m i (s : Nat) => ordL w z n p m (s : Int) (i : Int) k0 k1) (n := w) (out := fun s : Nat => k1 (s : Int)) (ex := fun _ => k0) (f := ordF n p) (I := fun _ s => s < 256) ?_ ?_ w N 0 0 (by omega) hN (by omega)
  · intro m i s hi hs
    have h0 := hp i
    simp only [ordL, ordS, c_and, Int.toNat_natCast]
    by_cases h1 : n <= i
    · by_cases h2 : p i = 0
      · left
        refine ⟨s, by unfold ordF; rw [if_pos h1, if_pos h2], ?_, hs⟩
        simp (disch := omega) only [c_lt, c_nlt, c_le, c_nle, c_blt, c_nne, c_fits]
        rfl
      · right
        refine ⟨(), by unfold ordF; rw [if_pos h1, if_neg h2], ?_⟩
        simp (disch := omega) only [c_lt, c_nlt, c_le, c_nle, c_blt, c_ne, c_fits]
    · by_cases h2 : p i < n
      · left
        have hs2 : s ||| 2 ^ (p i).toNat < 256 := Nat.or_lt_two_pow (n := 8) hs (Nat.pow_lt_pow_right (by omega) (by omega))
        refine ⟨s ||| 2 ^ (p i).toNat, by unfold ordF; rw [if_neg h1, if_pos h2], ?_, hs2⟩
        obtain ⟨v, hv⟩ : ∃ v : Nat, p i = (v : Int) := ⟨(p i).toNat, by omega⟩
        have hv8 : v < 8 := by omega
        have hpow : 2 ^ v < 256 := Nat.pow_lt_pow_right (n := 8) (by omega) hv8
        simp only [hv, Int.toNat_natCast, shlI_one] at *
        generalize 2 ^ v = q at *
        simp (disch := omega) only [c_lt, c_nlt, c_le, c_nle, c_blt, c_ne, c_fits]
        rw [bitI_or_nat (by omega) (by omega)]
        rfl
      · right
        refine ⟨(), by unfold ordF; rw [if_neg h1, if_neg h2], ?_⟩
        simp (disch := omega) only [c_lt, c_nlt, c_le, c_nle, c_blt, c_ne, c_fits]
  · intro m s _
    simp (disch := omega) only [ordL, ordS, c_nlt]
def OkFrom (w n : Nat) (p : Nat -> Int) (i : Nat) : Prop := ∀ j, i <= j -> j < w -> (n <= j -> p j = 0) ∧ (j < n -> p j < n)
theorem OkFrom.step {w n i : Nat} {p : Nat -> Int} (hi : i < w) : OkFrom w n p i ↔ ((n <= i -> p i = 0) ∧ (i < n -> p i < n)) ∧ OkFrom w n p (i + 1) := by
  refine ⟨fun h => ⟨h i (by omega) hi, fun j h1 h2 => h j (by omega) h2⟩, fun ⟨h1, h2⟩ j h3 h4 => ?_⟩
  by_cases e : j = i
  · subst e; exact h1
  · exact h2 j (by omega) h4
theorem ordF_run {w n : Nat} {p : Nat -> Int} : ∀ (d i s : Nat), i + d = w ->
    (∃ s', iterE (ordF n p) d i s = .inl s' ∧ OkFrom w n p i ∧ ∀ r, s'.testBit r = true ↔ s.testBit r = true ∨ ∃ j, i <= j ∧ j < n ∧ j < w ∧ (p j).toNat = r) ∨ (iterE (ordF n p) d i s = .inr () ∧ ¬ OkFrom w n p i) := by
  intro d
  induction d with
  | zero =>
    intro i s hi
    left
    refine ⟨s, rfl, fun j h1 h2 => by omega, fun r => ⟨.inl, fun h => ?_⟩⟩
    rcases h with h | ⟨j, h1, _, h2, _⟩
    · exact h
    · omega
  | succ d ih =>
    intro i s hi
    rw [OkFrom.step (by omega)]
    have key : ∀ s', ordF n p i s = .inl s' -> ((n <= i -> p i = 0) ∧ (i < n -> p i < n)) -> (∀ r, s'.testBit r = true ↔ s.testBit r = true ∨ (i < n ∧ (p i).toNat = r)) ->
        (∃ s', iterE (ordF n p) (d + 1) i s = .inl s' ∧ (((n <= i -> p i = 0) ∧ (i < n -> p i < n)) ∧ OkFrom w n p (i + 1)) ∧ ∀ r, s'.testBit r = true ↔ s.testBit r = true ∨ ∃ j, i <= j ∧ j < n ∧ j < w ∧ (p j).toNat = r) ∨
        (iterE (ordF n p) (d + 1) i s = .inr () ∧ ¬ (((n <= i -> p i = 0) ∧ (i < n -> p i < n)) ∧ OkFrom w n p (i + 1))) := by
      intro s' h1 h2 h3
      rcases ih (i + 1) s' (by omega) with ⟨s2, h4, h5, h6⟩ | ⟨h4, h5⟩
      · left
        refine ⟨s2, by rw [iterE, h1]; exact h4, ⟨h2, h5⟩, fun r => ?_⟩
        rw [h6, h3]
        constructor
        · rintro ((h | ⟨h, h'⟩) | ⟨j, g1, g2, g3, g4⟩)
          · exact .inl h
          · exact .inr ⟨i, by omega, h, by omega, h'⟩
          · exact .inr ⟨j, by omega, g2, g3, g4⟩
        · rintro (h | ⟨j, g1, g2, g3, g4⟩)
          · exact .inl (.inl h)
          · by_cases e : j = i
            · subst e; exact .inl (.inr ⟨g2, g4⟩)
            · exact .inr ⟨j, by omega, g2, g3, g4⟩
      · right
        exact ⟨by rw [iterE, h1]; exact h4, fun h => h5 h.2⟩
    by_cases h1 : n <= i
    · by_cases h2 : p i = 0
      · exact key s (by unfold ordF; rw [if_pos h1, if_pos h2]) ⟨fun _ => h2, fun h => by omega⟩ fun r => ⟨.inl, fun h => h.elim id fun h => by omega⟩
      · right
        refine ⟨?_, fun h => h2 (h.1.1 h1)⟩
        rw [iterE]
        have : ordF n p i s = .inr () := by unfold ordF; rw [if_pos h1, if_neg h2]
        rw [this]
    · by_cases h2 : p i < n
      · refine key (s ||| 2 ^ (p i).toNat) (by unfold ordF; rw [if_neg h1, if_pos h2]) ⟨fun h => by omega, fun _ => h2⟩ fun r => ?_
        rw [Nat.testBit_or, Nat.testBit_two_pow, Bool.or_eq_true, decide_eq_true_eq]
        exact ⟨fun h => h.imp id fun h => ⟨by omega, h⟩, fun h => h.imp id fun h => h.2⟩
      · right
        refine ⟨?_, fun h => h2 (h.1.2 (by omega))⟩
        rw [iterE]
        have : ordF n p i s = .inr () := by unfold ordF; rw [if_neg h1, if_neg h2]
        rw [this]
theorem ord_val (w : Nat) (hw : w <= 64) (z : β) (n : Nat) (hn : 1 <= n) (hn8 : n <= 8) (hnw : n <= w) (p : Nat -> Int) (hp : ∀ j, 0 <= p j) (k : Bool -> β) {N : Nat} (hN : w < N) :
    ordL w z n p N 0 0 (k false) (fun q5 => cond (decide (0 <= (n : Int)) && decide ((n : Int) < (↑64 : Int))) (cond (fits .i64 (shlI 1 n)) (cond (fits .i64 (shlI 1 n - 1)) (k (q5 == shlI 1 n - 1)) (z)) (z)) (z)) = k (permB w n p) := by
  rw [ordL_val w hw z n hn hn8 p hp _ _ hN]
  have hpow : 2 ^ n <= 256 := Nat.pow_le_pow_right (n := 2) (by omega) hn8
  have hpos : 0 < 2 ^ n := Nat.two_pow_pos n
  rcases ordF_run (w := w) (n := n) (p := p) w 0 0 (by omega) with ⟨s, h1, h2, h3⟩ | ⟨h1, h2⟩
  · rw [h1]
    simp only [orOut, shlI_one, c_and]
    simp (disch := omega) only [c_lt, c_le, c_fits]
    refine congrArg k (permB_of ?_)
    have hb : ∀ r, s.testBit r = true ↔ ∃ j, j < n ∧ (p j).toNat = r := fun r => by
      rw [h3]
      simp only [Nat.zero_testBit, Bool.false_eq_true, false_or]
      exact ⟨fun ⟨j, _, a, _, b⟩ => ⟨j, a, b⟩, fun ⟨j, a, b⟩ => ⟨j, by omega, a, by omega, b⟩⟩
    have hf : ∀ i, i < n -> (p i).toNat < n := fun i hi => by have := (h2 i (by omega) (by omega)).2 hi; omega
    have e1 : ((s : Int) == ((2 ^ n : Nat) : Int) - 1) = true ↔ ∀ r, r < n -> ∃ j, j < n ∧ (p j).toNat = r := by
      constructor
      · intro h r hr
        have : s = 2 ^ n - 1 := by simp only [beq_iff_eq] at h; omega
        rw [<- hb, this, Nat.testBit_two_pow_sub_one]
        exact decide_eq_true hr
      · intro h
        have : s = 2 ^ n - 1 := by
          apply Nat.eq_of_testBit_eq
          intro r
          rw [Nat.testBit_two_pow_sub_one]
          by_cases hr : r < n
          · rw [decide_eq_true hr, hb]; exact h r hr
          · rw [decide_eq_false hr, <- Bool.not_eq_true, hb]
            rintro ⟨j, a, b⟩
            have := hf j a
            omega
        simp only [beq_iff_eq]
        omega
    rw [e1]
    constructor
    · intro h
      refine ⟨fun j a b => (h2 j (by omega) b).1 a, fun j a => (h2 j (by omega) (by omega)).2 a, fun i j a b e => inj_of_surj n (fun i => (p i).toNat) hf h i j a b (by rw [e])⟩
    · rintro ⟨_, _, h⟩
      exact surj_of_inj n (fun i => (p i).toNat) hf fun i j a b e => h i j a b (by have := hp i; have := hp j; omega)
  · rw [h1]
    simp only [orOut]
    refine congrArg k (permB_of ⟨fun h => (by cases h), fun h => absurd (fun j _ b => ⟨fun a => h.1 j a b, fun a => h.2.1 j a⟩) h2⟩)
end order
end Go.AM
namespace Go.AM
section perm
variable {β : Type}
def permS (w : Nat) (z : β) (n : Int) (h0 : Nat -> Int) (i : Int) (h1 : Nat -> Bool) (kn : Int -> (Nat -> Bool) -> β) (k0 : (Nat -> Bool) -> β) (k1 : (Nat -> Bool) -> β) : β :=
  cond (decide (i < (w : Int))) (cond (decide (n <= i)) (cond (decide (0 <= i) && decide (i < (↑w : Int))) (cond (i.toNat.blt w) (cond (h0 i.toNat != 0) (k0 h1) (cond (fits .i64 (i + 1)) (kn (i + 1) h1) (z))) (z)) (z)) (cond (decide (0 <= i) && decide (i < (↑w : Int))) (cond (i.toNat.blt w) (cond (decide (n <= h0 i.toNat)) (k0 h1) (cond (decide (0 <= i) && decide (i < (↑w : Int))) (cond (i.toNat.blt w) (cond (decide (0 <= h0 i.toNat) && decide (h0 i.toNat < (↑w : Int))) (cond ((h0 i.toNat).toNat.blt w) (cond (h1 (h0 i.toNat).toNat) (k0 h1) (cond (decide (0 <= i) && decide (i < (↑w : Int))) (cond (i.toNat.blt w) (cond (decide (0 <= h0 i.toNat) && decide (h0 i.toNat < (↑w : Int))) (cond ((h0 i.toNat).toNat.blt w) (cond (fits .i64 (i + 1)) (kn (i + 1) (upd h1 (h0 i.toNat).toNat true)) (z)) (z)) (z)) (z)) (z))) (z)) (z)) (z)) (z))) (z)) (z))) (k1 h1)
def permL (w : Nat) (z : β) (n : Int) (h0 : Nat -> Int) : Nat -> Int -> (Nat -> Bool) -> ((Nat -> Bool) -> β) -> ((Nat -> Bool) -> β) -> β
  | 0, _, _, _, _ => z
  | m + 1, i, h1, k0, k1 => permS w z n h0 i h1 (fun i h1 => permL w z n h0 m i h1 k0 k1) k0 k1
def permF (n : Nat) (p : Nat -> Int) (i : Nat) (met : Nat -> Bool) : (Nat -> Bool) ⊕ Unit :=
  if n <= i then (if p i = 0 then .inl met else .inr ()) else if p i < n then (if met (p i).toNat = true then .inr () else .inl (upd met (p i).toNat true)) else .inr ()
theorem permL_val (w : Nat) (hw : w <= 64) (z : β) (n : Nat) (hnw : n <= w) (p : Nat -> Int) (hp : ∀ j, 0 <= p j) (kf kt : β) {N : Nat} (hN : w < N) (met : Nat -> Bool) :
    permL w z n p N 0 met (fun _ => kf) (fun _ => kt) = orOut (fun _ => kt) (fun _ => kf) (iterE (permF n p) w 0 met) := by
  refine up_to_E (L := fun m i (s : Nat -> Bool) => permL w z n p m (i : Int) s (fun _ => kf) (fun _ => kt)) (n := w) (out := fun _ => kt) (ex := fun _ => kf) (f := permF n p) (I := fun _ _ => True) ?_ ?_ w N 0 met (by omega) hN trivial
  · intro m i s hi _
    have h0 := hp i
    simp only [permL, permS, c_and, Int.toNat_natCast]
    by_cases h1 : n <= i
    · by_cases h2 : p i = 0
      · left
        refine ⟨s, by unfold permF; rw [if_pos h1, if_pos h2], ?_, trivial⟩
        simp (disch := omega) only [c_lt, c_nlt, c_le, c_nle, c_blt, c_nne, c_fits]
        rfl
      · right
        refine ⟨(), by unfold permF; rw [if_pos h1, if_neg h2], ?_⟩
        simp (disch := omega) only [c_lt, c_nlt, c_le, c_nle, c_blt, c_ne, c_fits]
    · by_cases h2 : p i < n
      · cases h3 : s (p i).toNat with
        | true =>
          right
          refine ⟨(), by unfold permF; rw [if_neg h1, if_pos h2, if_pos h3], ?_⟩
          simp (disch := omega) only [c_lt, c_nlt, c_le, c_nle, c_blt, c_ne, c_fits, h3, c_true]
        | false =>
          left
          refine ⟨upd s (p i).toNat true, by unfold permF; rw [if_neg h1, if_pos h2, if_neg (by simp [h3])], ?_, trivial⟩
          simp (disch := omega) only [c_lt, c_nlt, c_le, c_nle, c_blt, c_ne, c_fits, h3, c_false]
          rfl
      · right
        refine ⟨(), by unfold permF; rw [if_neg h1, if_neg h2], ?_⟩
        simp (disch := omega) only [c_lt, c_nlt, c_le, c_nle, c_blt, c_ne, c_fits]
  · intro m s _
    simp (disch := omega) only [permL, permS, c_nlt]
def FreeFrom (w n : Nat) (p : Nat -> Int) (i : Nat) (met : Nat -> Bool) : Prop :=
  OkFrom w n p i ∧ (∀ j, i <= j -> j < n -> j < w -> met (p j).toNat = false) ∧ ∀ a b, i <= a -> a < b -> b < n -> b < w -> (p a).toNat ≠ (p b).toNat
theorem permF_run {w n : Nat} {p : Nat -> Int} : ∀ (d i : Nat) (met : Nat -> Bool), i + d = w ->
    ((∃ m, iterE (permF n p) d i met = .inl m) ∧ FreeFrom w n p i met) ∨ (iterE (permF n p) d i met = .inr () ∧ ¬ FreeFrom w n p i met) := by
  intro d
  induction d with
  | zero =>
    intro i met hi
    left
    exact ⟨⟨met, rfl⟩, fun j h1 h2 => by omega, fun j h1 _ h2 => by omega, fun a b h1 h2 _ h3 => by omega⟩
  | succ d ih =>
    intro i met hi
    have bad : permF n p i met = .inr () -> ¬ FreeFrom w n p i met -> ((∃ m, iterE (permF n p) (d + 1) i met = .inl m) ∧ FreeFrom w n p i met) ∨ (iterE (permF n p) (d + 1) i met = .inr () ∧ ¬ FreeFrom w n p i met) := by
      intro h1 h2
      right
      exact ⟨by rw [iterE, h1], h2⟩
    have good : ∀ met', permF n p i met = .inl met' -> (FreeFrom w n p i met ↔ FreeFrom w n p (i + 1) met') -> ((∃ m, iterE (permF n p) (d + 1) i met = .inl m) ∧ FreeFrom w n p i met) ∨ (iterE (permF n p) (d + 1) i met = .inr () ∧ ¬ FreeFrom w n p i met) := by
      intro met' h1 h2
      rw [h2, iterE, h1]
      exact ih (i + 1) met' (by omega)
    by_cases h1 : n <= i
    · by_cases h2 : p i = 0
      · refine good met (by unfold permF; rw [if_pos h1, if_pos h2]) ?_
        unfold FreeFrom
        rw [OkFrom.step (by omega)]
        exact ⟨fun ⟨⟨_, a⟩, b, c⟩ => ⟨a, fun j g1 g2 g3 => b j (by omega) g2 g3, fun x y g1 g2 g3 g4 => c x y (by omega) g2 g3 g4⟩,
          fun ⟨a, b, c⟩ => ⟨⟨⟨fun _ => h2, fun h => by omega⟩, a⟩, fun j g1 g2 g3 => by omega, fun x y g1 g2 g3 g4 => by omega⟩⟩
      · exact bad (by unfold permF; rw [if_pos h1, if_neg h2]) fun h => h2 ((h.1 i (by omega) (by omega)).1 h1)
    · by_cases h2 : p i < n
      · cases h3 : met (p i).toNat with
        | true => exact bad (by unfold permF; rw [if_neg h1, if_pos h2, if_pos h3]) fun h => by have := h.2.1 i (by omega) (by omega) (by omega); rw [h3] at this; cases this
        | false =>
          refine good (upd met (p i).toNat true) (by unfold permF; rw [if_neg h1, if_pos h2, if_neg (by simp [h3])]) ?_
          unfold FreeFrom
          rw [OkFrom.step (by omega)]
          constructor
          · rintro ⟨⟨_, a⟩, b, c⟩
            refine ⟨a, fun j g1 g2 g3 => ?_, fun x y g1 g2 g3 g4 => c x y (by omega) g2 g3 g4⟩
            rw [upd_at, if_neg (fun e => c i j (by omega) (by omega) g2 g3 e.symm)]
            exact b j (by omega) g2 g3
          · rintro ⟨a, b, c⟩
            have b' : ∀ j, i + 1 <= j -> j < n -> j < w -> (p j).toNat ≠ (p i).toNat ∧ met (p j).toNat = false := by
              intro j g1 g2 g3
              have := b j g1 g2 g3
              rw [upd_at] at this
              split at this
              · cases this
              · rename_i e; exact ⟨e, this⟩
            refine ⟨⟨⟨fun h => by omega, fun _ => h2⟩, a⟩, fun j g1 g2 g3 => ?_, fun x y g1 g2 g3 g4 => ?_⟩
            · by_cases e : j = i
              · subst e; exact h3
              · exact (b' j (by omega) g2 g3).2
            · by_cases e : x = i
              · subst e; exact fun e => (b' y (by omega) g3 g4).1 e.symm
              · exact c x y (by omega) g2 g3 g4
      · exact bad (by unfold permF; rw [if_neg h1, if_neg h2]) fun h => h2 ((h.1 i (by omega) (by omega)).2 (by omega))
theorem perm_val (w : Nat) (hw : w <= 64) (z : β) (n : Nat) (hnw : n <= w) (p : Nat -> Int) (hp : ∀ j, 0 <= p j) (k : Bool -> β) {N : Nat} (hN : w < N) :
    permL w z n p N 0 (fun _ => false) (fun _ => k false) (fun _ => k true) = k (permB w n p) := by
  rw [permL_val w hw z n hnw p hp _ _ hN]
  rcases permF_run (w := w) (n := n) (p := p) w 0 (fun _ => false) (by omega) with ⟨⟨m, h1⟩, h2, _, h3⟩ | ⟨h1, h2⟩
  · rw [h1]
    refine congrArg k (permB_of ⟨fun _ => ⟨fun j a b => (h2 j (by omega) b).1 a, fun j a => (h2 j (by omega) (by omega)).2 a, fun i j a b e => ?_⟩, fun _ => rfl⟩)
    rcases Nat.lt_trichotomy i j with g | g | g
    · exact absurd (by rw [e]) (h3 i j (by omega) g b (by omega))
    · exact g
    · exact absurd (by rw [e]) (h3 j i (by omega) g a (by omega))
  · rw [h1]
    refine congrArg k (permB_of ⟨fun h => (by cases h), fun h => absurd ⟨fun j _ b => ⟨fun a => h.1 j a b, fun a => h.2.1 j a⟩, fun _ _ _ _ => rfl, fun a b _ g1 g2 _ e => ?_⟩ h2⟩)
    have := h.2.2 a b (by omega) g2 (by have := hp a; have := hp b; omega)
    omega
end perm
end Go.AM
namespace Go.AM
section
variable {β : Type}
theorem i_within_val (z : β) (N : Nat) (x lo hi : Int) (k : Bool -> β) : q001 z N x lo hi k = k (decide (lo <= x ∧ x <= hi)) := by
  unfold q001
  by_cases h : lo <= x
  · rw [c_le h]; congr 1; exact decide_eq_decide.2 ⟨fun h2 => ⟨h, h2⟩, fun h2 => h2.2⟩
  · rw [c_nle (by omega), decide_eq_false (fun h2 => h h2.1)]
theorem s_l01In_val (z : β) (N : Nat) (x lo hi : Int) (k : Bool -> β) : q000 z N x lo hi k = k (decide (lo <= x ∧ x <= hi)) := by
  unfold q000
  by_cases h : lo <= x
  · rw [c_le h]; congr 1; exact decide_eq_decide.2 ⟨fun h2 => ⟨h, h2⟩, fun h2 => h2.2⟩
  · rw [c_nle (by omega), decide_eq_false (fun h2 => h h2.1)]
end
end Go.AM
namespace Go.AM
section
variable {β : Type}
theorem isOrder_s2_ordL (z : β) (n a : Int) (h g : Nat -> Int) : ∀ m s t k0 k1, q00a z n a h g m s t k0 k1 = ordL 8 z n h m s t k0 k1 := by
  intro m
  induction m with
  | zero => intros; rfl
  | succ m ih => intro s t k0 k1; simp only [q00a, ordL, ih]; rfl
theorem isOrder_s3_ordL (z : β) (n a : Int) (h g : Nat -> Int) : ∀ m s t k0 k1, q00d z n a h g m s t k0 k1 = ordL 8 z n g m s t k0 k1 := by
  intro m
  induction m with
  | zero => intros; rfl
  | succ m ih => intro s t k0 k1; simp only [q00d, ordL, ih]; rfl
theorem l01Perm_permL (z : β) (n : Int) (h : Nat -> Int) : ∀ m i s k0 k1, q003 z n h m i s k0 k1 = permL 8 z n h m i s k0 k1 := by
  intro m
  induction m with
  | zero => intros; rfl
  | succ m ih => intro s t k0 k1; simp only [q003, permL, ih]; rfl
theorem s_l01Perm_val (z : β) {N : Nat} (hN : 8 < N) {m : Nat} (hm : m <= 8) (X : Nat -> Int) (hX : ∀ j, 0 <= X j) (k : Bool -> β) : q004 z N X m k = k (permB 8 m X) := by
  unfold q004
  rw [l01Perm_permL]
  exact perm_val 8 (by omega) z m hm X hX k hN
theorem i_isOrder_s2_val (z : β) {N : Nat} (hN : 8 < N) {m : Nat} (h1 : 1 <= m) (hm : m <= 8) (a : Int) (X O : Nat -> Int) (hX : ∀ j, 0 <= X j) (k : Bool -> β) : q00b z N m a X O k = k (permB 8 m X) := by
  unfold q00b
  rw [isOrder_s2_ordL]
  exact ord_val 8 (by omega) z m h1 hm hm X hX k hN
theorem i_isOrder_s3_val (z : β) {N : Nat} (hN : 8 < N) {m : Nat} (h1 : 1 <= m) (hm : m <= 8) (a : Int) (X O : Nat -> Int) (hO : ∀ j, 0 <= O j) (k : Bool -> β) : q00e z N m a X O k = k (permB 8 m O) := by
  unfold q00e
  rw [isOrder_s3_ordL]
  exact ord_val 8 (by omega) z m h1 hm hm O hO k hN
def apartB (n : Nat) (X O : Nat -> Int) : Bool := allFrom (fun i => !(X i == O i)) n 0
noncomputable def gridB (n : Int) (X O : Nat -> Int) : Bool := decide (2 <= n ∧ n <= 8) && (permB 8 n.toNat X && (permB 8 n.toNat O && apartB n.toNat X O))
structure GridP (n : Nat) (X O : Nat -> Int) : Prop where
  lo : 2 <= n
  hi : n <= 8
  px : PermP 8 n X
  po : PermP 8 n O
  ne : ∀ i, i < n -> X i ≠ O i
theorem gridB_iff {n : Int} {X O : Nat -> Int} : gridB n X O = true ↔ ∃ m : Nat, n = m ∧ GridP m X O := by
  unfold gridB
  simp only [Bool.and_eq_true, decide_eq_true_eq, permB_iff, apartB, allFrom_iff]
  constructor
  · rintro ⟨⟨h1, h2⟩, h3, h4, h5⟩
    refine ⟨n.toNat, by omega, by omega, by omega, h3, h4, fun i hi => ?_⟩
    have := h5 i (by omega) (by omega)
    simpa using this
  · rintro ⟨m, rfl, g⟩
    have := g.lo
    have := g.hi
    refine ⟨by omega, g.px, g.po, fun j _ h => ?_⟩
    have := g.ne j (by simpa using h)
    simpa using this
theorem gridB_false {n : Int} {X O : Nat -> Int} (h : ¬ (2 <= n ∧ n <= 8)) : gridB n X O = false := by unfold gridB; rw [decide_eq_false h]; rfl
theorem s_l01Is_val (z : β) {N : Nat} (hN : 8 < N) (n : Int) (X O : Nat -> Int) (hX : ∀ j, 0 <= X j) (hO : ∀ j, 0 <= O j) (k : Bool -> β) : q007 z N n X O k = k (gridB n X O) := by
  unfold q007
  rw [s_l01In_val]
  by_cases h : 2 <= n ∧ n <= 8
  · obtain ⟨m, rfl⟩ : ∃ m : Nat, n = (m : Int) := ⟨n.toNat, by omega⟩
    simp only [decide_eq_true h, Bool.not_true, c_false]
    rw [s_l01Perm_val z hN (by omega) X hX]
    unfold gridB
    rw [decide_eq_true h, Int.toNat_natCast]
    cases permB 8 m X with
    | false => rfl
    | true =>
      simp only [Bool.not_true, c_false, Bool.true_and]
      rw [s_l01Perm_val z hN (by omega) O hO]
      cases permB 8 m O with
      | false => rfl
      | true =>
        simp only [Bool.not_true, c_false, Bool.true_and]
        have := up_to_all (L := fun j i => q006 z m X O j (i : Int) (k false) (k true)) (n := m) (kt := k true) (kf := k false) (p := fun i => !(X i == O i))
          (fun j i hi => by
            simp only [q006, q005, c_and, Int.toNat_natCast]
            simp (disch := omega) only [c_lt, c_le, c_blt, c_fits, c_not]
            rfl)
          (fun j => by simp (disch := omega) only [q006, q005, c_nlt]) m N 0 (by omega) (by omega)
        refine this.trans ?_
        unfold apartB
        cases allFrom (fun i => !(X i == O i)) m 0 <;> rfl
  · simp only [decide_eq_false h, Bool.not_false, c_true]
    rw [gridB_false h]
theorem i_IsGrid_val (z : β) {N : Nat} (hN : 8 < N) (n : Int) (X O : Nat -> Int) (hX : ∀ j, 0 <= X j) (hO : ∀ j, 0 <= O j) (k : Bool -> β) : q00h z N n X O k = k (gridB n X O) := by
  unfold q00h
  rw [i_within_val]
  by_cases h : 2 <= n ∧ n <= 8
  · obtain ⟨m, rfl⟩ : ∃ m : Nat, n = (m : Int) := ⟨n.toNat, by omega⟩
    simp only [decide_eq_true h, Bool.not_true, c_false, q008]
    rw [i_isOrder_s2_val z hN (by omega) (by omega) _ X O hX]
    unfold gridB
    rw [decide_eq_true h, Int.toNat_natCast]
    cases permB 8 m X with
    | false => rfl
    | true =>
      simp only [Bool.not_true, c_false, Bool.true_and]
      rw [i_isOrder_s3_val z hN (by omega) (by omega) _ X O hO]
      cases permB 8 m O with
      | false => rfl
      | true =>
        simp only [Bool.not_true, c_false, Bool.true_and]
        have := up_to_all (L := fun j i => q00g z m m X O j (i : Int) (k false) (k true)) (n := m) (kt := k true) (kf := k false) (p := fun i => !(X i == O i))
          (fun j i hi => by
            simp only [q00g, q00f, c_and, Int.toNat_natCast]
            simp (disch := omega) only [c_lt, c_le, c_blt, c_fits, c_not]
            rfl)
          (fun j => by simp (disch := omega) only [q00g, q00f, c_nlt]) m N 0 (by omega) (by omega)
        refine this.trans ?_
        unfold apartB
        cases allFrom (fun i => !(X i == O i)) m 0 <;> rfl
  · simp only [decide_eq_false h, Bool.not_false, c_true]
    rw [gridB_false h]
end
end Go.AM
namespace Go.AM
section
variable {β : Type}
end
end Go.AM
namespace Go.AM
section
variable {β : Type}
theorem tmod_pos {a b : Int} (ha : 0 <= a) : a.tmod b = a % b := Int.tmod_eq_emod_of_nonneg ha
theorem tmod_bnd {a b : Int} (hb : 0 < b) : -b < a.tmod b ∧ a.tmod b < b := by
  refine ⟨?_, Int.tmod_lt_of_pos a hb⟩
  have := Int.tmod_lt_of_pos (-a) hb
  rw [Int.neg_tmod] at this
  omega
theorem tmod_twice (a : Int) {n : Int} (hn : 0 < n) : (a.tmod n + n).tmod n = a % n := by
  have h := tmod_bnd (a := a) hn
  rw [tmod_pos (by omega), Int.add_emod_right]
  have h1 : a.tmod n = a - n * a.tdiv n := by have := Int.mul_tdiv_add_tmod a n; omega
  rw [h1]
  have : a - n * a.tdiv n = a + n * (-(a.tdiv n)) := by rw [Int.mul_neg]; omega
  rw [this, Int.add_mul_emod_self_left]
theorem tmod_more (a i : Int) {n : Int} (hn : 0 < n) (hi : 0 <= i) (ha : -100 <= a) : (i + (a + 100 * n).tmod n).tmod n = (i + a) % n := by
  have h0 : 0 <= a + 100 * n := by omega
  rw [tmod_pos h0]
  have h1 := Int.emod_nonneg (a + 100 * n) (show n ≠ 0 by omega)
  rw [tmod_pos (by omega), show a + 100 * n = a + n * 100 by omega, Int.add_mul_emod_self_left, Int.add_emod_emod]
theorem emod_bd (a : Int) {n : Int} (hn : 0 < n) : 0 <= a % n ∧ a % n < n := ⟨Int.emod_nonneg a (by omega), Int.emod_lt_of_pos a hn⟩
def rollF (n : Nat) (X O : Nat -> Int) (v u : Int) (i : Nat) (h : (Nat -> Int) × (Nat -> Int)) : (Nat -> Int) × (Nat -> Int) :=
  (upd h.1 ((i + u) % (n : Int)).toNat (wrapU .u8 ((X i + v) % (n : Int))), upd h.2 ((i + u) % (n : Int)).toNat (wrapU .u8 ((O i + v) % (n : Int))))
def rollP (n : Nat) (X O : Nat -> Int) (v u : Int) : (Nat -> Int) × (Nat -> Int) := iter (rollF n X O v u) n 0 (fun _ => 0, fun _ => 0)
theorem s_l01Rolled_val (z : β) {N : Nat} (hN : 8 < N) {n : Nat} {X O : Nat -> Int} (h2 : 2 <= n) (h8 : n <= 8) (hX : ∀ j, 0 <= X j ∧ X j <= 255) (hO : ∀ j, 0 <= O j ∧ O j <= 255) {v u : Int} (hv : -1000 <= v ∧ v <= 1000) (hu : -1000 <= u ∧ u <= 1000) (k0 : (Nat -> Int) -> (Nat -> Int) -> β) :
    q00k z N n X O v u k0 = k0 (rollP n X O v u).1 (rollP n X O v u).2 := by
  unfold q00k
  refine up_to (L := fun m i (h : (Nat -> Int) × (Nat -> Int)) => q00j z v u n n X O 0 (fun _ => 0) (fun _ => 0) n m (i : Int) h.1 h.2 k0) (n := n) (out := fun h => k0 h.1 h.2) (f := rollF n X O v u) (I := fun _ _ => True)
    (fun m i s hi _ => ⟨?_, trivial⟩) (fun m s _ => by simp (disch := omega) only [q00j, q00i, c_nlt]) n N 0 (fun _ => 0, fun _ => 0) (by omega) (by omega) trivial
  have h1 := hX i
  have h3 := hO i
  have hn : (0 : Int) < n := by omega
  have b1 := tmod_bnd (a := (i : Int) + u) hn
  have b2 := tmod_bnd (a := X i + v) hn
  have b3 := tmod_bnd (a := O i + v) hn
  have b4 := emod_bd ((i : Int) + u) hn
  simp only [q00j, q00i, c_and, c_not, Int.toNat_natCast, tmod_twice _ hn]
  simp (disch := omega) only [c_lt, c_le, c_blt, c_fits, c_neq]
  rfl
theorem i_Grid_shift_val (z : β) {N : Nat} (hN : 8 < N) {n : Nat} {X O : Nat -> Int} (h2 : 2 <= n) (h8 : n <= 8) (hX : ∀ j, 0 <= X j ∧ X j <= 255) (hO : ∀ j, 0 <= O j ∧ O j <= 255) {v u : Int} (hv : -100 <= v ∧ v <= 100) (hu : -100 <= u ∧ u <= 100) (k0 : (Nat -> Int) -> (Nat -> Int) -> β) :
    q00s z N n X O ((v + 100 * n).tmod n) ((u + 100 * n).tmod n) k0 = k0 (rollP n X O v u).1 (rollP n X O v u).2 := by
  unfold q00s q00r
  simp only [c_false, q008]
  refine up_to (L := fun m i (h : (Nat -> Int) × (Nat -> Int)) => q00q z N n ((u + 100 * n).tmod n) n X O ((v + 100 * n).tmod n) n X O 0 (fun _ => 0) (fun _ => 0) n m (i : Int) h.1 h.2 k0) (n := n) (out := fun h => k0 h.1 h.2) (f := rollF n X O v u) (I := fun _ _ => True)
    (fun m i s hi _ => ⟨?_, trivial⟩) (fun m s _ => by simp (disch := omega) only [q00q, q00p, c_nlt]) n N 0 (fun _ => 0, fun _ => 0) (by omega) (by omega) trivial
  have h1 := hX i
  have h3 := hO i
  have hn : (0 : Int) < n := by omega
  have a1 := tmod_more u i hn (by omega) hu.1
  have a2 := tmod_more v (X i) hn h1.1 hv.1
  have a3 := tmod_more v (O i) hn h3.1 hv.1
  have b4 := emod_bd ((i : Int) + u) hn
  have b5 := tmod_bnd (a := v + 100 * n) hn
  have b6 := tmod_bnd (a := u + 100 * n) hn
  simp only [q00q, q00p, q00m, q008, c_and, c_not, Int.toNat_natCast, a1, a2, a3]
  simp (disch := omega) only [c_lt, c_le, c_blt, c_fits, c_neq]
  rfl
end
end Go.AM
namespace Go.AM
section
variable {β : Type}
theorem wrapD {x : Int} (h : 0 <= x ∧ x <= 255) : wrapU .u8 x = x := by
  show x % 256 = x
  omega
structure Src (hn : Nat) (h : Nat -> Int) (n l : Nat) : Prop where
  eq : n = hn
  le : l <= hn
  sm : l <= 4096
  b : ∀ j, j < hn -> 0 <= h j ∧ h j <= 255
theorem and_bd (x : Int) : 0 <= bitI .and .u64 x 16777215 ∧ bitI .and .u64 x 16777215 <= 16777215 := by
  rw [bitI_eq]
  have e : bitJ .and .u64 x 16777215 = IntKind.wrap .u64 ((BitVec.ofInt 64 x &&& BitVec.ofInt 64 16777215).toNat : Int) := rfl
  have e2 : (BitVec.ofInt 64 16777215).toNat = 16777215 := by decide
  have h : (BitVec.ofInt 64 x &&& BitVec.ofInt 64 16777215).toNat <= 16777215 := by
    rw [BitVec.toNat_and, e2]
    exact Nat.and_le_right
  rw [e, wrap_fits]
  · omega
  · rw [fits_iff]
    show (0 : Int) <= _ ∧ _ <= (18446744073709551615 : Int)
    omega
theorem next_val (z : β) (N : Nat) {hn n l : Nat} {h : Nat -> Int} (S : Src hn h n l) (c : Nat) (m : Int) {a : Int} (ha : 0 <= a) (b : Int) :
    ∃ v a' b' : Int, 0 <= a' ∧ (1 <= m -> 0 <= v ∧ v < m) ∧ (m < 1 -> v = 0) ∧ ∀ k, q013 z N m hn h n l c a b k = k v a' b' := by
  have hq := S.eq
  have hl := S.le
  have hs := S.sm
  have hb := S.b
  by_cases hm : m < 1
  · exact ⟨0, a, b, ha, fun h => by omega, fun _ => rfl, fun k => by unfold q013; rw [c_lt hm]⟩
  · obtain ⟨b', hb'⟩ : ∃ b', wrapU .u64 (wrapU .u64 (b * 6364136223846793005) + 1442695040888963407) = b' := ⟨_, rfl⟩
    obtain ⟨x, hxe⟩ : ∃ x, bitI BinOp.and IntKind.u64 (shrI b' 33) 16777215 = x := ⟨_, rfl⟩
    have hx := and_bd (shrI b' 33)
    rw [hxe] at hx
    by_cases e : a < l
    · have hc := hb a.toNat (by omega)
      refine ⟨(x + h a.toNat).tmod m, a + 1, b', by omega, fun _ => ⟨Int.tmod_nonneg _ (by omega), Int.tmod_lt_of_pos _ (by omega)⟩, fun h => absurd h hm, fun k => ?_⟩
      unfold q013
      simp only [c_and, c_not, hb', hxe]
      simp (disch := omega) only [c_nlt, c_lt, c_le, c_ble, c_blt, c_beq, c_fits, c_neq]
    · refine ⟨x.tmod m, a, b', ha, fun _ => ⟨Int.tmod_nonneg _ (by omega), Int.tmod_lt_of_pos _ (by omega)⟩, fun h => absurd h hm, fun k => ?_⟩
      unfold q013
      simp only [c_and, c_not, hb', hxe]
      simp (disch := omega) only [c_nlt, c_lt, c_le, c_ble, c_blt, c_beq, c_fits, c_neq]
theorem from_val (z : β) {N : Nat} (hN : 5000 < N) {hn n l : Nat} {h : Nat -> Int} (S : Src hn h n l) (c : Nat) : ∃ b : Int, ∀ k, q012 z N n l c hn h k = k 0 b := by
  have hq := S.eq
  have hl := S.le
  have hs := S.sm
  refine ⟨iter (fun i b => wrapU .u64 (wrapU .u64 (wrapU .u64 (b * 1099511628211) + h i) + 43)) l 0 (wrapU .u64 (10711 + wrapU .u64 (↑l : Int))), fun k => ?_⟩
  · unfold q012
    rw [c_ble (by omega)]
    exact up_to (L := fun m i b => q011 z n l c hn h n l c 0 m (i : Int) b fun q8 => k 0 q8) (n := l) (out := fun b => k 0 b) (f := fun i b => wrapU .u64 (wrapU .u64 (wrapU .u64 (b * 1099511628211) + h i) + 43)) (I := fun _ _ => True)
      (fun m i s hi _ => ⟨by
        rw [q011, q010]
        simp only [c_and, Int.toNat_natCast]
        simp (disch := omega) only [c_lt, c_le, c_ble, c_blt, c_beq, c_fits]
        rfl, trivial⟩)
      (fun m s _ => by
        rw [q011, q010]
        simp (disch := omega) only [c_ble, c_nlt]) l N 0 _ (by omega) (by omega) trivial
structure BndC (n : Nat) (f : Nat -> Int) : Prop where
  b : ∀ j, j < n -> 0 <= f j ∧ f j < n
  z : ∀ j, n <= j -> f j = 0
theorem BndC.upd {n i : Nat} {f : Nat -> Int} {v : Int} (h : BndC n f) (hi : i < n) (hv : 0 <= v ∧ v < n) : BndC n (upd f i v) :=
  ⟨fun j hj => by rw [upd_at]; split; exact hv; exact h.b j hj, fun j hj => by rw [upd_at, if_neg (by omega)]; exact h.z j hj⟩
theorem BndC.nn {n : Nat} {f : Nat -> Int} (h : BndC n f) (j : Nat) : 0 <= f j := by
  rcases Nat.lt_or_ge j n with hj | hj
  · exact (h.b j hj).1
  · rw [h.z j hj]; exact Int.le_refl 0
theorem BndC.le {n : Nat} {f : Nat -> Int} (h : BndC n f) (h8 : n <= 256) (j : Nat) : f j <= 255 := by
  rcases Nat.lt_or_ge j n with hj | hj
  · have := h.b j hj; omega
  · rw [h.z j hj]; omega
theorem BndC.zero (n : Nat) (h : 1 <= n) : BndC n fun _ => 0 := ⟨fun _ _ => by constructor <;> simp <;> omega, fun _ _ => rfl⟩
theorem up_to_exD {σ κ : Type} {L : κ -> Nat -> Nat -> σ -> β} {n : Nat} {out : κ -> σ -> β} {I : Nat -> σ -> Prop}
    (hs : ∀ i s, i < n -> I i s -> ∃ s', (∀ k m, L k (m + 1) i s = L k m (i + 1) s') ∧ I (i + 1) s') (he : ∀ k m s, I n s -> L k (m + 1) n s = out k s) :
    ∀ (d i : Nat) (s : σ), i + d = n -> I i s -> ∃ s', I n s' ∧ ∀ k m, d < m -> L k m i s = out k s' := by
  intro d
  induction d with
  | zero =>
    intro i s hi h0
    have : i = n := by omega
    subst this
    refine ⟨s, h0, fun k m hm => ?_⟩
    obtain ⟨m, rfl⟩ : ∃ m', m = m' + 1 := ⟨m - 1, by omega⟩
    exact he k m s h0
  | succ d ih =>
    intro i s hi h0
    obtain ⟨s', h1, h2⟩ := hs i s (by omega) h0
    obtain ⟨s'', h3, h4⟩ := ih (i + 1) s' (by omega) h2
    refine ⟨s'', h3, fun k m hm => ?_⟩
    obtain ⟨m, rfl⟩ : ∃ m', m = m' + 1 := ⟨m - 1, by omega⟩
    rw [h1]
    exact h4 k m (by omega)
theorem mixed_l0 (z : β) {N n : Nat} (hN : 8 < N) (h1 : 1 <= n) (h8 : n <= 8) (hn : Nat) (h : Nat -> Int) (n' l c : Nat) (a b : Int) (h2 : Nat -> Int) :
    ∃ f, BndC n f ∧ ∀ k, q016 z n hn h n' l c a b h2 N 0 (fun (x : Nat) => 0) k = k f := by
  obtain ⟨f, i1, i2⟩ := up_to_exD (κ := (Nat -> Int) -> β) (L := fun k m i f => q016 z n hn h n' l c a b h2 m (i : Int) f k) (n := n) (out := fun k => k) (I := fun _ f => BndC n f)
    (fun i s hi hs => ⟨upd s i i, fun k m => by
      rw [q016, q015]
      simp only [c_and, Int.toNat_natCast]
      simp (disch := omega) only [c_lt, c_le, c_blt, c_fits]
      rw [wrapD (by omega)]
      rfl, hs.upd hi (by omega)⟩)
    (fun k m s _ => by rw [q016, q015, c_nlt (by omega)]) n 0 (fun _ => 0) (by omega) (BndC.zero n h1)
  exact ⟨f, i1, fun k => i2 k N (by omega)⟩
theorem mixed_l1 (z : β) {N : Nat} {hn n' l : Nat} {h : Nat -> Int} (S : Src hn h n' l) (c : Nat) {n : Nat} (h8 : n <= 8) (h2 : Nat -> Int) :
    ∀ (i : Nat), i < n -> ∀ (f : Nat -> Int) (a b : Int), BndC n f -> 0 <= a -> ∃ a' b' f', 0 <= a' ∧ BndC n f' ∧ ∀ k m, i < m -> q018 z N hn h n' l c h2 m i a b f k = k a' b' f' := by
  intro i
  induction i with
  | zero =>
    intro hi f a b hf ha
    refine ⟨a, b, f, ha, hf, fun k m hm => ?_⟩
    obtain ⟨m, rfl⟩ : ∃ m', m = m' + 1 := ⟨m - 1, by omega⟩
    rw [q018, q017, c_nlt (by omega)]
  | succ i ih =>
    intro hi f a b hf ha
    obtain ⟨v, a1, b1, ha1, hv, _, e⟩ := next_val z N S c (((i + 1 : Nat) : Int) + 1) ha b
    have hv := hv (by omega)
    obtain ⟨q, rfl⟩ : ∃ q : Nat, v = q := ⟨v.toNat, by omega⟩
    obtain ⟨a', b', f', ha', hf', e'⟩ := ih (by omega) (upd (upd f (i + 1) (f q)) q (f (i + 1))) a1 b1 ((hf.upd hi (hf.b q (by omega))).upd (by omega) (hf.b (i + 1) hi)) ha1
    refine ⟨a', b', f', ha', hf', fun k m hm => ?_⟩
    obtain ⟨m, rfl⟩ : ∃ m', m = m' + 1 := ⟨m - 1, by omega⟩
    rw [q018, q017, c_lt (by omega), c_fits (by omega), e]
    simp only [c_and, Int.toNat_natCast]
    simp (disch := omega) only [c_lt, c_le, c_blt, c_fits]
    rw [show ((i + 1 : Nat) : Int) - 1 = i by omega]
    exact e' k m (by omega)
theorem mixed_val (z : β) {N : Nat} (hN : 100 < N) {hn n' l : Nat} {h : Nat -> Int} (S : Src hn h n' l) (c : Nat) {n : Nat} (h1 : 1 <= n) (h8 : n <= 8) {a : Int} (ha : 0 <= a) (b : Int) :
    ∃ f a' b', BndC n f ∧ 0 <= a' ∧ ∀ k, q019 z N n hn h n' l c a b k = k f a' b' := by
  obtain ⟨f0, i1, e1⟩ := mixed_l0 z (N := N) (by omega) h1 h8 hn h n' l c a b (fun (x : Nat) => 0)
  obtain ⟨a', b', f', ha', hf', e'⟩ := mixed_l1 z (N := N) S c h8 (fun (x : Nat) => 0) (n - 1) (by omega) f0 a b i1 ha
  refine ⟨f', a', b', hf', ha', fun k => ?_⟩
  unfold q019
  rw [e1, c_fits (by omega), show ((n : Int) - 1) = ((n - 1 : Nat) : Int) by omega, e' _ N (by omega)]
theorem ds_l0 (z : β) {N n : Nat} (hN : 100 < N) (h2 : 2 <= n) (h8 : n <= 8) (hn : Nat) (h : Nat -> Int) (n' l c : Nat) (a b y0 : Int) (y1 y2 x : Nat -> Int) {f : Nat -> Int} (hf : BndC n f) :
    ∃ f', BndC n f' ∧ ∀ k, q01b z n hn h n' l c a b y0 y1 y2 x N 0 f k = k f' := by
  obtain ⟨f', i1, i2⟩ := up_to_exD (κ := (Nat -> Int) -> β) (L := fun k m i f => q01b z n hn h n' l c a b y0 y1 y2 x m (i : Int) f k) (n := 3 * n) (out := fun k => k) (I := fun _ f => BndC n f)
    (fun i s hi hs => by
      have t1 : ((i : Int)).tmod n = ((i % n : Nat) : Int) := by rw [Int.tmod_eq_emod_of_nonneg (by omega)]; rfl
      have t2 : (((i % n : Nat) : Int) + 1).tmod n = (((i % n + 1) % n : Nat) : Int) := by rw [Int.tmod_eq_emod_of_nonneg (by omega)]; rfl
      have l1 : i % n < n := Nat.mod_lt _ (by omega)
      have l2 : (i % n + 1) % n < n := Nat.mod_lt _ (by omega)
      generalize i % n = p at *
      generalize hq : (p + 1) % n = q at *
      by_cases e : x p = s p
      · refine ⟨upd (upd s p (s q)) q (s p), fun k m => ?_, (hs.upd l1 (hs.b q l2)).upd l2 (hs.b p l1)⟩
        rw [q01b, q01a]
        simp only [c_and, c_not, t1, t2, Int.toNat_natCast]
        simp (disch := omega) only [c_lt, c_le, c_blt, c_fits, c_neq, c_eq]
        rfl
      · refine ⟨s, fun k m => ?_, hs⟩
        rw [q01b, q01a]
        simp only [c_and, c_not, t1, t2, Int.toNat_natCast]
        have e2 : cond (x p == s p) = fun (a b : β) => b := by funext a b; exact c_neq e
        simp (disch := omega) only [c_lt, c_le, c_blt, c_fits, e2]
        rw [c_neq (by omega)]
        rfl)
    (fun k m s _ => by rw [q01b, q01a, c_fits (by omega), c_nlt (by omega)]) (3 * n) 0 f (by omega) hf
  exact ⟨f', i1, fun k => i2 k N (by omega)⟩
theorem ds_l1 (z : β) {N n : Nat} (hN : 100 < N) (h2 : 2 <= n) (h8 : n <= 8) (hn : Nat) (h : Nat -> Int) (n' l c : Nat) (a b y0 y5 : Int) (y1 y2 y4 y6 : Nat -> Int) {x f : Nat -> Int} (hx : BndC n x) (hf : BndC n f) :
    ∃ f', BndC n f' ∧ ∀ k, q01d z n hn h n' l c a b y0 y1 y2 x y4 y5 y6 N 0 f k = k f' := by
  obtain ⟨f', i1, i2⟩ := up_to_exD (κ := (Nat -> Int) -> β) (L := fun k m i f => q01d z n hn h n' l c a b y0 y1 y2 x y4 y5 y6 m (i : Int) f k) (n := n) (out := fun k => k) (I := fun _ f => BndC n f)
    (fun i s hi hs => by
      have hb := hx.b i hi
      have q1 : 0 <= (x i + 1).tmod n ∧ (x i + 1).tmod n < n := ⟨Int.tmod_nonneg _ (by omega), Int.tmod_lt_of_pos _ (by omega)⟩
      refine ⟨upd s i ((x i + 1).tmod n), fun k m => ?_, hs.upd hi q1⟩
      rw [q01d, q01c]
      simp only [c_and, c_not, Int.toNat_natCast, wrapD (show 0 <= (x i + 1).tmod n ∧ (x i + 1).tmod n <= 255 by omega)]
      simp (disch := omega) only [c_lt, c_le, c_blt, c_fits, c_neq]
      rfl)
    (fun k m s _ => by rw [q01d, q01c, c_nlt (by omega)]) n 0 f (by omega) hf
  exact ⟨f', i1, fun k => i2 k N (by omega)⟩
theorem size_val (z : β) {N : Nat} (hN : 100 < N) {hn n' l : Nat} {h : Nat -> Int} (S : Src hn h n' l) (c : Nat) {n : Nat} (h2 : 2 <= n) (h8 : n <= 8) {a : Int} (ha : 0 <= a) (b : Int) :
    ∃ X O a' b', BndC n X ∧ BndC n O ∧ 0 <= a' ∧ ∀ k, q01e z N n hn h n' l c a b k = k X O a' b' := by
  obtain ⟨X, a1, b1, hX, ha1, e1⟩ := mixed_val z hN S c (by omega : 1 <= n) h8 ha b
  obtain ⟨O, a2, b2, hO, ha2, e2⟩ := mixed_val z hN S c (by omega : 1 <= n) h8 ha1 b1
  obtain ⟨O2, hO2, e3⟩ := ds_l0 z (N := N) hN h2 h8 hn h n' l c a2 b2 0 (fun (x : Nat) => 0) (fun (x : Nat) => 0) X hO
  cases hg : gridB n X O2 with
  | true =>
    refine ⟨X, O2, a2, b2, hX, hO2, ha2, fun k => ?_⟩
    unfold q01e
    rw [e1, e2, e3, s_l01Is_val z (by omega) _ _ _ hX.nn hO2.nn, hg]
    rfl
  | false =>
    obtain ⟨O3, hO3, e4⟩ := ds_l1 z (N := N) hN h2 h8 hn h n' l c a2 b2 0 n (fun (x : Nat) => 0) (fun (x : Nat) => 0) O2 X hX hO2
    refine ⟨X, O3, a2, b2, hX, hO3, ha2, fun k => ?_⟩
    unfold q01e
    rw [e1, e2, e3, s_l01Is_val z (by omega) _ _ _ hX.nn hO2.nn, hg, Bool.not_false, c_true, e4]
theorem pick3_val (z : β) (N : Nat) {hn n' l : Nat} {h : Nat -> Int} (S : Src hn h n' l) (c : Nat) {a : Int} (ha : 0 <= a) (b : Int) {xs : List Int} (hx : xs.length = 3) :
    ∃ (i : Nat) (a' b' : Int), i < 3 ∧ 0 <= a' ∧ ∀ k, q014 z N hn h n' l c a b xs k = k (xs[i]?.getD 0) a' b' := by
  obtain ⟨v, a1, b1, ha1, hv, _, e⟩ := next_val z N S c 3 ha b
  have hv := hv (by omega)
  obtain ⟨q, rfl⟩ : ∃ q : Nat, v = q := ⟨v.toNat, by omega⟩
  refine ⟨q, a1, b1, by omega, ha1, fun k => ?_⟩
  unfold q014
  rw [e]
  simp only [c_and, Int.toNat_natCast, hx]
  simp (disch := omega) only [c_lt, c_le, c_blt, c_beq]
theorem pick5_val (z : β) (N : Nat) {hn n' l : Nat} {h : Nat -> Int} (S : Src hn h n' l) (c : Nat) {a : Int} (ha : 0 <= a) (b : Int) {xs : List Int} (hx : xs.length = 5) :
    ∃ (i : Nat) (a' b' : Int), i < 5 ∧ 0 <= a' ∧ ∀ k, q01f z N hn h n' l c a b xs k = k (xs[i]?.getD 0) a' b' := by
  obtain ⟨v, a1, b1, ha1, hv, _, e⟩ := next_val z N S c 5 ha b
  have hv := hv (by omega)
  obtain ⟨q, rfl⟩ : ∃ q : Nat, v = q := ⟨v.toNat, by omega⟩
  refine ⟨q, a1, b1, by omega, ha1, fun k => ?_⟩
  unfold q01f
  rw [e]
  simp only [c_and, Int.toNat_natCast, hx]
  simp (disch := omega) only [c_lt, c_le, c_blt, c_beq]
theorem draw_l0 (z : β) {N n : Nat} (hN : 100 < N) (h1 : 1 <= n) (h8 : n <= 8) {p : Int} (hp : 0 <= p ∧ p <= 8) (hn : Nat) (h : Nat -> Int) (n' l c : Nat) (a b y0 y3 : Int) (y1 y2 : Nat -> Int) :
    ∃ X O, BndC n X ∧ BndC n O ∧ ∀ k, q01h z p n hn h n' l c a b y0 y1 y2 y3 N 0 (fun (x : Nat) => 0) (fun (x : Nat) => 0) k = k X O := by
  obtain ⟨s, ⟨i1, i2⟩, e⟩ := up_to_exD (κ := (Nat -> Int) -> (Nat -> Int) -> β) (L := fun k m i (s : (Nat -> Int) × (Nat -> Int)) => q01h z p n hn h n' l c a b y0 y1 y2 y3 m (i : Int) s.1 s.2 k) (n := n) (out := fun k s => k s.1 s.2) (I := fun _ s => BndC n s.1 ∧ BndC n s.2)
    (fun i s hi ⟨h1, h2⟩ => by
      have q1 : 0 <= ((i : Int) + p).tmod n ∧ ((i : Int) + p).tmod n < n := ⟨Int.tmod_nonneg _ (by omega), Int.tmod_lt_of_pos _ (by omega)⟩
      refine ⟨(upd s.1 i i, upd s.2 i (((i : Int) + p).tmod n)), fun k m => ?_, h1.upd hi (by omega), h2.upd hi q1⟩
      rw [q01h, q01g]
      simp only [c_and, c_not, Int.toNat_natCast, wrapD (show 0 <= ((i : Int) + p).tmod n ∧ ((i : Int) + p).tmod n <= 255 by omega), wrapD (show 0 <= (i : Int) ∧ (i : Int) <= 255 by omega)]
      simp (disch := omega) only [c_lt, c_le, c_blt, c_fits, c_neq]
      rfl)
    (fun k m s _ => by rw [q01h, q01g, c_nlt (by omega)]) n 0 (fun _ => 0, fun _ => 0) (by omega) ⟨BndC.zero n h1, BndC.zero n h1⟩
  exact ⟨s.1, s.2, i1, i2, fun k => e k N (by omega)⟩
theorem roll_bnd {n : Nat} (h1 : 1 <= n) (X O : Nat -> Int) (v u : Int) (h8 : n <= 8) : BndC n (rollP n X O v u).1 ∧ BndC n (rollP n X O v u).2 := by
  have := iter_inv (f := rollF n X O v u) (n := n) (I := fun _ s => BndC n s.1 ∧ BndC n s.2) (fun i s _ ⟨a, b⟩ => by
    have hn : (0 : Int) < n := by omega
    have e1 := emod_bd ((i : Int) + u) hn
    have e2 := emod_bd (X i + v) hn
    have e3 := emod_bd (O i + v) hn
    unfold rollF
    rw [wrapD (by omega), wrapD (by omega)]
    exact ⟨a.upd (by omega) e2, b.upd (by omega) e3⟩) n 0 (fun _ => 0, fun _ => 0) (by omega) ⟨BndC.zero n h1, BndC.zero n h1⟩
  exact this
theorem draw_val (z : β) {N : Nat} (hN : 100 < N) {hn n' l : Nat} {h : Nat -> Int} (S : Src hn h n' l) (c : Nat) {a : Int} (ha : 0 <= a) (b : Int) :
    ∃ (n : Nat) (X O : Nat -> Int) (a' b' : Int), 2 <= n ∧ n <= 8 ∧ BndC n X ∧ BndC n O ∧ 0 <= a' ∧ ∀ k, q01i z N hn h n' l c a b k = k n X O a' b' := by
  obtain ⟨v, a1, b1, ha1, hv, _, e⟩ := next_val z N S c 6 ha b
  have hv := hv (by omega)
  by_cases v0 : v = 0
  · obtain ⟨p, a2, b2, ha2, hp, _, e2⟩ := next_val z N S c 3 ha1 b1
    have hp := hp (by omega)
    obtain ⟨u, a3, b3, ha3, hu, _, e3⟩ := next_val z N S c (5 - (1 + p)) ha2 b2
    have hu := hu (by omega)
    obtain ⟨n, hn'⟩ : ∃ n : Nat, 1 + p + 1 + u = n := ⟨(1 + p + 1 + u).toNat, by omega⟩
    obtain ⟨X, O, hX, hO, e4⟩ := draw_l0 z (N := N) hN (by omega : 1 <= n) (by omega) (p := 1 + p) (by omega) hn h n' l c a3 b3 0 n (fun (x : Nat) => 0) (fun (x : Nat) => 0)
    obtain ⟨v1, a4, b4, ha4, hv1, _, e5⟩ := next_val z N S c n ha3 b3
    have hv1 := hv1 (by omega)
    obtain ⟨v2, a5, b5, ha5, hv2, _, e6⟩ := next_val z N S c n ha4 b4
    have hv2 := hv2 (by omega)
    obtain ⟨r1, r2⟩ := roll_bnd (by omega : 1 <= n) X O v1 v2 (by omega)
    refine ⟨n, (rollP n X O v1 v2).1, (rollP n X O v1 v2).2, a5, b5, by omega, by omega, r1, r2, ha5, fun k => ?_⟩
    unfold q01i
    rw [e, c_eq v0, e2, c_fits (by omega), c_fits (by omega), c_fits (by omega), e3, hn', c_fits (by omega), e4, e5, e6, s_l01Rolled_val z (by omega) (by omega) (by omega) (fun j => ⟨hX.nn j, hX.le (by omega) j⟩) (fun j => ⟨hO.nn j, hO.le (by omega) j⟩) (by omega) (by omega)]
  · have size : ∀ (n : Nat) (a b : Int), 2 <= n -> n <= 8 -> 0 <= a -> ∃ X O a' b', BndC n X ∧ BndC n O ∧ 0 <= a' ∧ ∀ k : Int -> (Nat -> Int) -> (Nat -> Int) -> Int -> Int -> β, q01e z N n hn h n' l c a b (fun q16 q17 q18 q19 => k n q16 q17 q18 q19) = k n X O a' b' := fun n a b h2 h8 ha => by
      obtain ⟨X, O, a', b', h1, h2, h3, h4⟩ := size_val z hN S c h2 h8 ha b
      exact ⟨X, O, a', b', h1, h2, h3, fun k => h4 _⟩
    by_cases v1 : v = 1
    · obtain ⟨i, a2, b2, hi, ha2, e2⟩ := pick3_val z N S c ha1 b1 (xs := (((List.replicate 3 (0 : Int)).set 0 6).set 1 7).set 2 8) rfl
      obtain ⟨n, hn', h2, h8⟩ : ∃ n : Nat, ((((List.replicate 3 (0 : Int)).set 0 6).set 1 7).set 2 8)[i]?.getD 0 = n ∧ 2 <= n ∧ n <= 8 := by
        have : i = 0 ∨ i = 1 ∨ i = 2 := by omega
        rcases this with rfl | rfl | rfl
        · exact ⟨6, rfl, by omega, by omega⟩
        · exact ⟨7, rfl, by omega, by omega⟩
        · exact ⟨8, rfl, by omega, by omega⟩
      obtain ⟨X, O, a3, b3, hX, hO, ha3, e3⟩ := size n a2 b2 h2 h8 ha2
      refine ⟨n, X, O, a3, b3, h2, h8, hX, hO, ha3, fun k => ?_⟩
      unfold q01i
      rw [e, c_neq v0, c_eq v1, e2, hn', e3]
    · obtain ⟨i, a2, b2, hi, ha2, e2⟩ := pick5_val z N S c ha1 b1 (xs := (((((List.replicate 5 (0 : Int)).set 0 2).set 1 3).set 2 4).set 3 5).set 4 5) rfl
      obtain ⟨n, hn', h2, h8⟩ : ∃ n : Nat, ((((((List.replicate 5 (0 : Int)).set 0 2).set 1 3).set 2 4).set 3 5).set 4 5)[i]?.getD 0 = n ∧ 2 <= n ∧ n <= 8 := by
        have : i = 0 ∨ i = 1 ∨ i = 2 ∨ i = 3 ∨ i = 4 := by omega
        rcases this with rfl | rfl | rfl | rfl | rfl
        · exact ⟨2, rfl, by omega, by omega⟩
        · exact ⟨3, rfl, by omega, by omega⟩
        · exact ⟨4, rfl, by omega, by omega⟩
        · exact ⟨5, rfl, by omega, by omega⟩
        · exact ⟨5, rfl, by omega, by omega⟩
      obtain ⟨X, O, a3, b3, hX, hO, ha3, e3⟩ := size n a2 b2 h2 h8 ha2
      refine ⟨n, X, O, a3, b3, h2, h8, hX, hO, ha3, fun k => ?_⟩
      unfold q01i
      rw [e, c_neq v0, c_neq v1, e2, hn', e3]
structure Byt (f : Nat -> Int) : Prop where
  b : ∀ j, 0 <= f j ∧ f j <= 255
  z : ∀ j, 8 <= j -> f j = 0
theorem BndC.byt {n : Nat} {f : Nat -> Int} (h : BndC n f) (h8 : n <= 8) : Byt f := ⟨fun j => ⟨h.nn j, h.le (by omega) j⟩, fun j hj => h.z j (by omega)⟩
theorem broken_val (z : β) (N : Nat) {hn n' l : Nat} {h : Nat -> Int} (S : Src hn h n' l) (c : Nat) {n : Nat} (hn8 : n <= 8) {X O : Nat -> Int} (hX : Byt X) (hO : Byt O) {a : Int} (ha : 0 <= a) (b : Int) :
    ∃ (m : Int) (Y P : Nat -> Int) (a' b' : Int), (-1 <= m ∧ m <= 9) ∧ Byt Y ∧ Byt P ∧ 0 <= a' ∧ ∀ k, q01j z N n X O hn h n' l c a b k = k m Y P a' b' := by
  obtain ⟨v, a1, b1, ha1, hv, _, e⟩ := next_val z N S c 40 ha b
  by_cases v0 : v = 0
  · obtain ⟨i, a2, b2, hi, ha2, e2⟩ := pick5_val z N S c ha1 b1 (xs := (((((List.replicate 5 (0 : Int)).set 0 0).set 1 1).set 2 9).set 3 (-1)).set 4 ((n : Int) - 1)) rfl
    refine ⟨((((((List.replicate 5 (0 : Int)).set 0 0).set 1 1).set 2 9).set 3 (-1)).set 4 ((n : Int) - 1))[i]?.getD 0, X, O, a2, b2, ?_, hX, hO, ha2, fun k => ?_⟩
    rotate_left 1
    · unfold q01j
      rw [e, c_eq v0, c_fits (by omega), e2]
    · have : i = 0 ∨ i = 1 ∨ i = 2 ∨ i = 3 ∨ i = 4 := by omega
      rcases this with rfl | rfl | rfl | rfl | rfl
      · show (-1 : Int) <= 0 ∧ (0 : Int) <= 9; omega
      · show (-1 : Int) <= 1 ∧ (1 : Int) <= 9; omega
      · show (-1 : Int) <= 9 ∧ (9 : Int) <= 9; omega
      · show (-1 : Int) <= -1 ∧ (-1 : Int) <= 9; omega
      · show (-1 : Int) <= (n : Int) - 1 ∧ (n : Int) - 1 <= 9; omega
  · by_cases v1 : v = 1
    · obtain ⟨q, a2, b2, ha2, hq, _, e2⟩ := next_val z N S c 8 ha1 b1
      have hq := hq (by omega)
      obtain ⟨w, a3, b3, ha3, hw, _, e3⟩ := next_val z N S c 9 ha2 b2
      have hw := hw (by omega)
      refine ⟨n, X, upd O q.toNat w, a3, b3, by omega, hX, ⟨fun j => ?_, fun j hj => ?_⟩, ha3, fun k => ?_⟩
      · rw [upd_at]; split
        · omega
        · exact hO.b j
      · rw [upd_at, if_neg (by omega)]; exact hO.z j hj
      · unfold q01j
        rw [e, c_neq v0, c_eq v1, e2, e3]
        simp only [c_and, wrapD (show 0 <= w ∧ w <= 255 by omega)]
        simp (disch := omega) only [c_lt, c_le, c_blt]
    · by_cases v2 : v = 2
      · exact ⟨n, O, O, a1, b1, by omega, hO, hO, ha1, fun k => by unfold q01j; rw [e, c_neq v0, c_neq v1, c_eq v2]⟩
      · exact ⟨n, X, O, a1, b1, by omega, hX, hO, ha1, fun k => by unfold q01j; rw [e, c_neq v0, c_neq v1, c_neq v2]⟩
end
end Go.AM
namespace Go.AM
section
variable {β : Type}
theorem spoil1_val (z : β) {N : Nat} (hN : 100 < N) {hn n' l : Nat} {h : Nat -> Int} (S : Src hn h n' l) (c : Nat) {a : Int} (ha : 0 <= a) (b : Int) :
    ∃ (m : Int) (X O : Nat -> Int) (a' b' : Int), (-1 <= m ∧ m <= 9) ∧ Byt X ∧ Byt O ∧ 0 <= a' ∧ ∀ k, q029 z N hn h n' l c a b k = k m X O a' b' := by
  obtain ⟨n, X, O, a1, b1, h2, h8, hX, hO, ha1, e1⟩ := draw_val z hN S c ha b
  obtain ⟨m, Y, P, a', b', g1, g2, g3, g4, g5⟩ := broken_val z N S c h8 (hX.byt h8) (hO.byt h8) ha1 b1
  refine ⟨m, Y, P, a', b', g1, g2, g3, g4, fun k => ?_⟩
  unfold q029
  rw [e1, g5]
end
end Go.AM
namespace Go.AM
section
variable {β : Type}
theorem drawComps_val (z : β) {N : Nat} (hN : 5000 < N) {hn n l : Nat} {h : Nat -> Int} (S : Src hn h n l) (c : Nat) :
    ∃ (m : Int) (X O : Nat -> Int), Byt X ∧ Byt O ∧ ∀ k, q03c z N n l c hn h k = k m X O := by
  obtain ⟨b, e0⟩ := from_val z hN S c
  obtain ⟨m, X, O, a1, b1, hm, hX, hO, ha1, e1⟩ := spoil1_val z (by omega : 100 < N) S c (Int.le_refl 0) b
  refine ⟨m, X, O, hX, hO, fun k => ?_⟩
  unfold q03c
  rw [e0, e1]
theorem pick2_val (z : β) (N : Nat) {hn n' l : Nat} {h : Nat -> Int} (S : Src hn h n' l) (c : Nat) {a : Int} (ha : 0 <= a) (b : Int) {xs : List Int} (hx : xs.length = 2) :
    ∃ (i : Nat) (a' b' : Int), i < 2 ∧ 0 <= a' ∧ ∀ k, q03d z N hn h n' l c a b xs k = k (xs[i]?.getD 0) a' b' := by
  obtain ⟨v, a1, b1, ha1, hv, _, e⟩ := next_val z N S c 2 ha b
  have hv := hv (by omega)
  refine ⟨v.toNat, a1, b1, by omega, ha1, fun k => ?_⟩
  unfold q03d
  rw [e]
  simp only [c_and]
  simp (disch := omega) only [c_beq, c_le, c_lt, c_blt]
theorem pick4_val (z : β) (N : Nat) {hn n' l : Nat} {h : Nat -> Int} (S : Src hn h n' l) (c : Nat) {a : Int} (ha : 0 <= a) (b : Int) {xs : List Int} (hx : xs.length = 4) :
    ∃ (i : Nat) (a' b' : Int), i < 4 ∧ 0 <= a' ∧ ∀ k, q03g z N hn h n' l c a b xs k = k (xs[i]?.getD 0) a' b' := by
  obtain ⟨v, a1, b1, ha1, hv, _, e⟩ := next_val z N S c 4 ha b
  have hv := hv (by omega)
  refine ⟨v.toNat, a1, b1, by omega, ha1, fun k => ?_⟩
  unfold q03g
  rw [e]
  simp only [c_and]
  simp (disch := omega) only [c_beq, c_le, c_lt, c_blt]
theorem drawShift_val (z : β) {N : Nat} (hN : 5000 < N) {hn n l : Nat} {h : Nat -> Int} (S : Src hn h n l) (c : Nat) :
    ∃ (m : Int) (X O : Nat -> Int) (v u : Int), Byt X ∧ Byt O ∧ ∀ k, q03e z N n l c hn h k = k m X O v u := by
  obtain ⟨b, e0⟩ := from_val z hN S c
  obtain ⟨m, X, O, a1, b1, hm, hX, hO, ha1, e1⟩ := spoil1_val z (by omega : 100 < N) S c (Int.le_refl 0) b
  obtain ⟨v2, a2, b2, ha2, hv2, _, e2⟩ := next_val z N S c 17 ha1 b1
  obtain ⟨v3, a3, b3, ha3, hv3, _, e3⟩ := next_val z N S c 17 ha2 b2
  obtain ⟨v4, a4, b4, ha4, hv4, _, e4⟩ := next_val z N S c 203 ha3 b3
  have hv2 := hv2 (by omega)
  have hv3 := hv3 (by omega)
  have hv4 := hv4 (by omega)
  obtain ⟨i, a5, b5, hi, ha5, e5⟩ := pick2_val z N S c ha4 b4 (xs := ((List.replicate 2 0).set 0 (v3 - 8)).set 1 (v4 - 101)) rfl
  refine ⟨m, X, O, v2 - 8, (((List.replicate 2 0).set 0 (v3 - 8)).set 1 (v4 - 101))[i]?.getD 0, hX, hO, fun k => ?_⟩
  unfold q03e
  simp (disch := omega) only [e0, e1, e2, c_fits, e3, e4, e5]
theorem near_val (z : β) (N : Nat) {hn n' l : Nat} {h : Nat -> Int} (S : Src hn h n' l) (c : Nat) {a : Int} (ha : 0 <= a) (b : Int) {most : Int} (hm : 0 <= most ∧ most <= 1000) :
    ∃ (v a' b' : Int), (-9000000000000000000 <= v ∧ v <= 9000000000000000000) ∧ 0 <= a' ∧ ∀ k, q03h z N most hn h n' l c a b k = k v a' b' := by
  obtain ⟨v, a1, b1, ha1, hv, _, e⟩ := next_val z N S c 14 ha b
  by_cases v0 : v = 0
  · obtain ⟨i, a2, b2, hi, ha2, e2⟩ := pick4_val z N S c ha1 b1 (xs := ((((List.replicate 4 0).set 0 (-1)).set 1 (most + 1)).set 2 1099511627776).set 3 (-4611686018427387904)) rfl
    refine ⟨(((((List.replicate 4 0).set 0 (-1)).set 1 (most + 1)).set 2 1099511627776).set 3 (-4611686018427387904))[i]?.getD 0, a2, b2, ?_, ha2, fun k => by unfold q03h; simp (disch := omega) only [e, c_eq, c_fits, e2]⟩
    rcases (show i = 0 ∨ i = 1 ∨ i = 2 ∨ i = 3 by omega) with rfl | rfl | rfl | rfl
    · show _ <= (-1 : Int) ∧ (-1 : Int) <= _; omega
    · show _ <= most + 1 ∧ most + 1 <= _; omega
    · show _ <= (1099511627776 : Int) ∧ (1099511627776 : Int) <= _; omega
    · show _ <= (-4611686018427387904 : Int) ∧ (-4611686018427387904 : Int) <= _; omega
  · obtain ⟨v2, a2, b2, ha2, hv2, _, e2⟩ := next_val z N S c (most + 1) ha1 b1
    have hv2 := hv2 (by omega)
    refine ⟨v2, a2, b2, by omega, ha2, fun k => by unfold q03h; simp (disch := omega) only [e, c_neq, c_fits, e2]⟩
theorem drawTorus_val (z : β) {N : Nat} (hN : 5000 < N) {hn n l : Nat} {h : Nat -> Int} (S : Src hn h n l) (c : Nat) :
    ∃ (p q : Int), ∀ k, q03i z N n l c hn h k = k p q := by
  obtain ⟨b, e0⟩ := from_val z hN S c
  obtain ⟨v1, a1, b1, hv1, ha1, e1⟩ := near_val z N S c (Int.le_refl 0) b (most := 6) ⟨by decide, by decide⟩
  obtain ⟨v2, a2, b2, hv2, ha2, e2⟩ := near_val z N S c ha1 b1 (most := 5) ⟨by decide, by decide⟩
  refine ⟨1 + v1, 1 + v2, fun k => ?_⟩
  unfold q03i
  simp (disch := omega) only [e0, e1, e2, c_fits]
theorem drawUnion_val (z : β) {N : Nat} (hN : 5000 < N) {hn n l : Nat} {h : Nat -> Int} (S : Src hn h n l) (c : Nat) :
    ∃ (m : Int) (X O : Nat -> Int) (m' : Int) (Y P : Nat -> Int), Byt X ∧ Byt O ∧ Byt Y ∧ Byt P ∧ ∀ k, q03f z N n l c hn h k = k m X O m' Y P := by
  have hN1 : 100 < N := by omega
  obtain ⟨b, e0⟩ := from_val z hN S c
  obtain ⟨v1, a1, b1, ha1, hv1, _, e1⟩ := next_val z N S c 6 (Int.le_refl 0) b
  by_cases v0 : v1 = 0
  · obtain ⟨m, X, O, a2, b2, hm, hX, hO, ha2, e2⟩ := spoil1_val z hN1 S c ha1 b1
    obtain ⟨m', Y, P, a3, b3, hm', hY, hP, ha3, e3⟩ := spoil1_val z hN1 S c ha2 b2
    refine ⟨m, X, O, m', Y, P, hX, hO, hY, hP, fun k => ?_⟩
    unfold q03f
    simp (disch := omega) only [e0, e1, c_eq, e2, e3]
  · obtain ⟨v2, a2, b2, ha2, hv2, _, e2⟩ := next_val z N S c 3 ha1 b1
    have hv2 := hv2 (by omega)
    obtain ⟨w2, hw2⟩ : ∃ w : Nat, 2 + v2 = w := ⟨(2 + v2).toNat, by omega⟩
    obtain ⟨X0, O0, a3, b3, hX0, hO0, ha3, e3⟩ := size_val z hN1 S c (n := w2) (by omega) (by omega) ha2 b2
    obtain ⟨m, X, O, a4, b4, hm, hX, hO, ha4, e4⟩ := broken_val z N S c (n := w2) (by omega) (hX0.byt (by omega)) (hO0.byt (by omega)) ha3 b3
    obtain ⟨v5, a5, b5, ha5, hv5, _, e5⟩ := next_val z N S c 3 ha4 b4
    have hv5 := hv5 (by omega)
    obtain ⟨w5, hw5⟩ : ∃ w : Nat, 2 + v5 = w := ⟨(2 + v5).toNat, by omega⟩
    obtain ⟨Y0, P0, a6, b6, hY0, hP0, ha6, e6⟩ := size_val z hN1 S c (n := w5) (by omega) (by omega) ha5 b5
    obtain ⟨m', Y, P, a7, b7, hm', hY, hP, ha7, e7⟩ := broken_val z N S c (n := w5) (by omega) (hY0.byt (by omega)) (hP0.byt (by omega)) ha6 b6
    refine ⟨m, X, O, m', Y, P, hX, hO, hY, hP, fun k => ?_⟩
    unfold q03f
    rw [e0, e1, c_neq v0, e2, hw2, c_fits (by omega), e3, e4, e5, hw5, c_fits (by omega), e6, e7]
end
end Go.AM
namespace Go.AM
section
variable {β : Type}
theorem perm_surj {n : Nat} {X : Nat -> Int} (h : PermP 8 n X) (hX : ∀ j, 0 <= X j) {r : Nat} (hr : r < n) : ∃ i, i < n ∧ X i = r := by
  obtain ⟨i, h1, h2⟩ := surj_of_inj n (fun i => (X i).toNat) (fun i hi => by have := h.2.1 i hi; have := hX i; omega) (fun i j hi hj e => h.2.2 i j hi hj (by have := hX i; have := hX j; omega)) r hr
  exact ⟨i, h1, by have := hX i; omega⟩
noncomputable def rowOf (n : Nat) (X : Nat -> Int) (r : Nat) : Nat := @dite _ (∃ i, i < n ∧ X i = r) (Classical.propDecidable _) (fun h => Classical.choose h) (fun _ => 0)
theorem rowOf_spec {n : Nat} {X : Nat -> Int} (h : PermP 8 n X) (hX : ∀ j, 0 <= X j) {r : Nat} (hr : r < n) : rowOf n X r < n ∧ X (rowOf n X r) = r := by
  have hx := perm_surj h hX hr
  unfold rowOf
  rw [dif_pos hx]
  exact Classical.choose_spec hx
theorem rowOf_eq {n : Nat} {X : Nat -> Int} (h : PermP 8 n X) (hX : ∀ j, 0 <= X j) {r i : Nat} (hi : i < n) (hr : X i = r) : rowOf n X r = i := by
  have := h.2.1 i hi
  have h2 := rowOf_spec h hX (r := r) (by omega)
  exact h.2.2 _ _ h2.1 hi (by omega)
theorem s_l01Row_val (z : β) {N : Nat} (hN : 8 < N) {n : Nat} (h8 : n <= 8) {X : Nat -> Int} (h : PermP 8 n X) (hX : ∀ j, 0 <= X j) {r : Nat} (hr : r < n) (k : Int -> β) : q00w z N X n r k = k (rowOf n X r) := by
  unfold q00w
  obtain ⟨h1, h2⟩ := rowOf_spec h hX hr
  have key : ∀ (d i m : Nat), i + d = rowOf n X r -> d < m -> q00v z n r X m (i : Int) k (k 0) = k (rowOf n X r) := by
    intro d
    induction d with
    | zero =>
      intro i m hi hm
      obtain ⟨m, rfl⟩ : ∃ m', m = m' + 1 := ⟨m - 1, by omega⟩
      have e : i = rowOf n X r := by omega
      subst e
      simp only [q00v, q00u, c_and, Int.toNat_natCast]
      simp (disch := omega) only [c_lt, c_le, c_blt, c_eq]
    | succ d ih =>
      intro i m hi hm
      obtain ⟨m, rfl⟩ : ∃ m', m = m' + 1 := ⟨m - 1, by omega⟩
      have hne : X i ≠ (r : Int) := fun e => by have := rowOf_eq h hX (by omega) e; omega
      simp only [q00v, q00u, c_and, Int.toNat_natCast]
      simp (disch := omega) only [c_lt, c_le, c_blt, c_neq, c_fits]
      exact ih (i + 1) m (by omega) (by omega)
  exact key (rowOf n X r) 0 N (by omega) (by omega)
def plc (n : Nat) (X : Nat -> Int) : Nat -> Int := iter (fun i h => upd h (X i).toNat (i : Int)) n 0 (fun _ => 0)
theorem plc_spec {n : Nat} {X : Nat -> Int} (h : PermP 8 n X) (hX : ∀ j, 0 <= X j) {r : Nat} (hr : r < n) : plc n X r = rowOf n X r := by
  have := iter_inv (f := fun i (h : Nat -> Int) => upd h (X i).toNat (i : Int)) (I := fun i h => ∀ j, j < i -> h (X j).toNat = j) (n := n)
    (fun i s hi hs j hj => by
      simp only [upd_at]
      by_cases e : (X j).toNat = (X i).toNat
      · rw [if_pos e]
        have := h.2.2 j i (by omega) hi (by have := hX i; have := hX j; omega)
        omega
      · rw [if_neg e]
        exact hs j (by by_cases e2 : j = i; (· subst e2; exact absurd rfl e); omega)) n 0 (fun _ => 0) (by omega) (fun j hj => by omega)
  rw [Nat.zero_add] at this
  obtain ⟨h1, h2⟩ := rowOf_spec h hX hr
  have h3 := this _ h1
  rw [h2, Int.toNat_natCast] at h3
  exact h3
theorem i_Grid_places_val (z : β) {N : Nat} (hN : 8 < N) {n : Nat} (h8 : n <= 8) {Y : Nat -> Int} (h : PermP 8 n Y) (hY : ∀ j, 0 <= Y j) (X O : Nat -> Int) (k : (Nat -> Int) -> β) : q00z z N n X O Y k = k (plc n Y) := by
  unfold q00z q008
  refine up_to (L := fun m i h => q00y z n n X O Y (fun _ => 0) m (i : Int) h k) (n := n) (out := k) (f := fun i h => upd h (Y i).toNat (i : Int)) (I := fun _ _ => True)
    (fun m i s hi _ => ⟨?_, trivial⟩) (fun m s _ => by simp (disch := omega) only [q00y, q00x, c_nlt]) n N 0 (fun _ => 0) (by omega) (by omega) trivial
  have h1 := hY i
  have h3 := h.2.1 i hi
  simp only [q00y, q00x, c_and, Int.toNat_natCast]
  simp (disch := omega) only [c_lt, c_le, c_blt, c_fits]
  rfl
end
end Go.AM
namespace Go.AM
section
variable {β : Type}
end
end Go.AM
namespace Go.AM
section
variable {β : Type}
def upm (n : Nat) (p : Nat -> Int) (left : Nat) (b : Int) (k : Nat) : Int := (p (((left : Int) + k) % n).toNat - b + n) % n
def cntF (n : Nat) (p : Nat -> Int) (left : Nat) (b h : Int) (k : Nat) (c : Int) : Int := if upm n p left b k < h then c + 1 else c
def cntM (n : Nat) (p : Nat -> Int) (left : Nat) (b h : Int) (w : Nat) : Int := iter (cntF n p left b h) w 0 0
def rectL (n : Nat) (X O x : Nat -> Int) (left w : Nat) : List Int :=
  [(left : Int), x left, (w : Int), upm n x left (x left) w, cntM n X left (x left) (upm n x left (x left) w) w, cntM n O left (x left) (upm n x left (x left) w) w]
end
end Go.AM
namespace Go.AM
section
variable {β : Type}
def recs (n : Nat) (X O x : Nat -> Int) (ps : List (Nat × Nat)) : List Int := ps.flatMap fun p => rectL n X O x p.1 p.2
end
end Go.AM
namespace Go.AM
section
variable {β : Type}
theorem s_l01Row_int (z : β) {N : Nat} (hN : 8 < N) {n : Nat} (h8 : n <= 8) {X : Nat -> Int} (h : PermP 8 n X) (hX : ∀ j, 0 <= X j) {r : Int} (h0 : 0 <= r) (hr : r < n) (k : Int -> β) : q00w z N X n r k = k (rowOf n X r.toNat) := by
  have := s_l01Row_val z hN h8 h hX (r := r.toNat) (by omega) k
  rwa [Int.toNat_of_nonneg h0] at this
theorem GridP.swap {n : Nat} {X O : Nat -> Int} (g : GridP n X O) : GridP n O X := ⟨g.lo, g.hi, g.po, g.px, fun i hi => (g.ne i hi).symm⟩
end
end Go.AM
namespace Go.AM
section
variable {β : Type}
def walkH (nxt : Nat -> Nat) (c : Int) : Nat -> Nat -> (Nat -> Int) -> Nat -> Int
  | 0, _, h => h
  | d + 1, k, h => if h k < 0 then walkH nxt c d (nxt k) (upd h k c) else h
def cntU (n : Nat) (h : Nat -> Int) : Nat := (List.range n).countP fun j => decide (h j < 0)
theorem cntU_le (n : Nat) (h : Nat -> Int) : cntU n h <= n := by
  have := List.countP_le_length (p := fun j => decide (h j < 0)) (l := List.range n)
  simpa [cntU] using this
theorem cntU_zero {n : Nat} {h : Nat -> Int} (e : cntU n h = 0) {k : Nat} (hk : k < n) : 0 <= h k := by
  unfold cntU at e
  rw [List.countP_eq_zero] at e
  have := e k (by simpa using hk)
  simpa using this
theorem cntU_upd {n : Nat} {h : Nat -> Int} {k : Nat} (hk : k < n) (hu : h k < 0) {c : Int} (hc : 0 <= c) : cntU n (upd h k c) + 1 <= cntU n h := by
  unfold cntU
  have key : ∀ (l : List Nat), k ∈ l -> (l.countP fun j => decide (upd h k c j < 0)) + 1 <= l.countP fun j => decide (h j < 0) := by
    intro l
    have hle : ∀ l : List Nat, (l.countP fun j => decide (upd h k c j < 0)) <= l.countP fun j => decide (h j < 0) := fun l =>
      List.countP_mono_left fun j _ hj => by
        rw [decide_eq_true_eq, upd_at] at hj
        split at hj
        · omega
        · simpa using hj
    induction l with
    | nil => intro h; simp at h
    | cons x xs ih =>
      intro hm
      rw [List.countP_cons, List.countP_cons]
      by_cases e : x = k
      · subst e
        have := hle xs
        rw [decide_eq_false (show ¬ upd h x c x < 0 by rw [upd_at, if_pos rfl]; omega), decide_eq_true hu]
        simp
        exact this
      · have := ih (by simpa [Ne.symm e] using hm)
        rw [show upd h k c x = h x by rw [upd_at, if_neg e]]
        omega
  exact key _ (by simpa using hk)
theorem walk_loop {L : Nat -> Nat -> (Nat -> Int) -> β} {out : (Nat -> Int) -> β} {n : Nat} {nxt : Nat -> Nat} {c : Int} (hc : 0 <= c) (hn : ∀ k, k < n -> nxt k < n) {I : (Nat -> Int) -> Prop}
    (hI : ∀ k h, k < n -> I h -> h k < 0 -> I (upd h k c))
    (h1 : ∀ m k h, k < n -> I h -> h k < 0 -> L (m + 1) k h = L m (nxt k) (upd h k c)) (h2 : ∀ m k h, k < n -> I h -> 0 <= h k -> L (m + 1) k h = out h) :
    ∀ (d m k : Nat) (h : Nat -> Int), cntU n h <= d -> d < m -> k < n -> I h -> L m k h = out (walkH nxt c d k h) := by
  intro d
  induction d with
  | zero =>
    intro m k h hd hm hk hi
    obtain ⟨m, rfl⟩ : ∃ m', m = m' + 1 := ⟨m - 1, by omega⟩
    exact h2 m k h hk hi (cntU_zero (by omega) hk)
  | succ d ih =>
    intro m k h hd hm hk hi
    obtain ⟨m, rfl⟩ : ∃ m', m = m' + 1 := ⟨m - 1, by omega⟩
    simp only [walkH]
    by_cases hu : h k < 0
    · rw [if_pos hu, h1 m k h hk hi hu]
      have := cntU_upd hk hu hc
      exact ih m (nxt k) _ (by omega) (by omega) (hn k hk) (hI k h hk hi hu)
    · rw [if_neg hu]
      exact h2 m k h hk hi (by omega)
theorem walkH_val (nxt : Nat -> Nat) (c : Int) : ∀ (d k : Nat) (h : Nat -> Int) (j : Nat), walkH nxt c d k h j = h j ∨ (h j < 0 ∧ walkH nxt c d k h j = c) := by
  intro d
  induction d with
  | zero => exact fun k h j => .inl rfl
  | succ d ih =>
    intro k h j
    simp only [walkH]
    split
    · rename_i hu
      rcases ih (nxt k) (upd h k c) j with e | ⟨e1, e2⟩
      · rw [e, upd_at]
        split
        · rename_i hj; subst hj; exact .inr ⟨hu, rfl⟩
        · exact .inl rfl
      · rw [upd_at] at e1
        split at e1
        · rename_i hj; subst hj; exact .inr ⟨hu, e2⟩
        · exact .inr ⟨e1, e2⟩
    · exact .inl rfl
theorem walkH_start (nxt : Nat -> Nat) {c : Int} (hc : 0 <= c) (d k : Nat) (h : Nat -> Int) : 0 <= walkH nxt c (d + 1) k h k := by
  simp only [walkH]
  split
  · rcases walkH_val nxt c d (nxt k) (upd h k c) k with e | ⟨_, e⟩
    · rw [e, upd_at, if_pos rfl]; exact hc
    · rw [e]; exact hc
  · omega
theorem walkH_lt {nxt : Nat -> Nat} {c : Int} {n : Nat} (hn : ∀ k, k < n -> nxt k < n) : ∀ (d k : Nat) (h : Nat -> Int), k < n -> ∀ j, n <= j -> walkH nxt c d k h j = h j := by
  intro d
  induction d with
  | zero => exact fun k h _ j _ => rfl
  | succ d ih =>
    intro k h hk j hj
    simp only [walkH]
    split
    · rw [ih _ _ (hn k hk) j hj, upd_at, if_neg (by omega)]
    · rfl
def compF (nxt : Nat -> Nat) (n i : Nat) (s : (Nat -> Int) × Int) : (Nat -> Int) × Int := if s.1 i < 0 then (walkH nxt s.2 n i s.1, s.2 + 1) else s
def compS (nxt : Nat -> Nat) (n : Nat) : (Nat -> Int) × Int := iter (compF nxt n) n 0 ((fun j => if j < 8 then -1 else 0), 0)
structure CompI (n i : Nat) (s : (Nat -> Int) × Int) : Prop where
  nn : 0 <= s.2
  le : s.2 <= i
  set : ∀ j, j < i -> 0 <= s.1 j
  bd : ∀ j, j < 8 -> -1 <= s.1 j ∧ s.1 j < s.2 ∨ s.1 j = -1
  rest : ∀ j, n <= j -> j < 8 -> s.1 j = -1
theorem compF_step {nxt : Nat -> Nat} {n i : Nat} (hn : ∀ k, k < n -> nxt k < n) (hi : i < n) {s : (Nat -> Int) × Int} (h : CompI n i s) : CompI n (i + 1) (compF nxt n i s) := by
  unfold compF
  obtain ⟨n', rfl⟩ : ∃ n', n = n' + 1 := ⟨n - 1, by omega⟩
  split
  · rename_i hu
    refine ⟨by have := h.nn; simp only; omega, by have := h.le; simp only; omega, fun j hj => ?_, fun j hj => ?_, fun j h1 h2 => ?_⟩
    · simp only
      by_cases e : j = i
      · subst e; exact walkH_start nxt h.nn n' j s.1
      · rcases walkH_val nxt s.2 (n' + 1) i s.1 j with e2 | ⟨_, e2⟩
        · rw [e2]; exact h.set j (by omega)
        · rw [e2]; exact h.nn
    · simp only
      have h1 := h.bd j hj
      have h2 := h.nn
      rcases walkH_val nxt s.2 (n' + 1) i s.1 j with e2 | ⟨_, e2⟩
      · rw [e2]; omega
      · rw [e2]; omega
    · simp only
      rw [walkH_lt hn _ _ _ hi j h1]
      exact h.rest j h1 h2
  · rename_i hu
    refine ⟨h.nn, by have := h.le; omega, fun j hj => ?_, h.bd, h.rest⟩
    by_cases e : j = i
    · subst e; omega
    · exact h.set j (by omega)
theorem compS_inv {nxt : Nat -> Nat} {n : Nat} (hn : ∀ k, k < n -> nxt k < n) : CompI n n (compS nxt n) := by
  have := iter_inv (f := compF nxt n) (I := fun i s => CompI n i s) (n := n) (fun i s hi h => compF_step hn hi h) n 0 ((fun j => if j < 8 then -1 else 0), 0) (by omega)
    ⟨Int.le_refl _, Int.le_refl _, fun j hj => by omega, fun j hj => by simp [hj], fun j _ hj => by simp [hj]⟩
  rwa [Nat.zero_add] at this
noncomputable def nxtC (n : Nat) (X O : Nat -> Int) (i : Nat) : Nat := rowOf n X (O i).toNat
theorem nxtC_lt {n : Nat} {X O : Nat -> Int} (g : GridP n X O) (hX : ∀ j, 0 <= X j) (hO : ∀ j, 0 <= O j) : ∀ k, k < n -> nxtC n X O k < n := fun k hk => by
  have o1 := g.po.2.1 k hk
  have o2 := hO k
  exact (rowOf_spec g.px hX (by omega)).1
theorem s_l01Follow_val (z : β) {N : Nat} (hN : 8 < N) {n : Nat} {X O : Nat -> Int} (g : GridP n X O) (hX : ∀ j, 0 <= X j) (hO : ∀ j, 0 <= O j) {i : Nat} (hi : i < n) (k : Int -> β) : q01m z N n X O i k = k (nxtC n X O i) := by
  have h8 := g.hi
  have o1 := g.po.2.1 i hi
  have o2 := hO i
  unfold q01m
  simp only [c_and, Int.toNat_natCast, s_l01Row_int z hN h8 g.px hX o2 o1]
  simp (disch := omega) only [c_lt, c_le, c_blt]
  rfl
theorem s_l01Components_val (z : β) {N : Nat} (hN : 8 < N) {n : Nat} {X O : Nat -> Int} (g : GridP n X O) (hX : ∀ j, 0 <= X j) (hO : ∀ j, 0 <= O j) (k : (Nat -> Int) -> Int -> β) :
    q01r z N n X O k = k (compS (nxtC n X O) n).1 (compS (nxtC n X O) n).2 := by
  have h8 := g.hi
  unfold q01r
  have first : ∀ kk : (Nat -> Int) -> β, q01l z n X O (fun _ => 0) N 0 (fun _ => 0) kk = kk (fun j => if j < 8 then -1 else 0) := by
    intro kk
    refine (up_to (L := fun m i h => q01l z n X O (fun _ => 0) m (i : Int) h kk) (n := 8) (out := kk) (f := fun i h => upd h i (-1)) (I := fun _ _ => True)
      (fun m i s hi _ => ⟨by
        simp only [q01l, q01k, c_and, Int.toNat_natCast]
        simp (disch := omega) only [c_lt, c_le, c_blt, c_fits]
        rfl, trivial⟩)
      (fun m s _ => by simp (disch := omega) only [q01l, q01k, c_nlt]) 8 N 0 (fun _ => 0) rfl hN trivial).trans ?_
    rw [iter_set (fun _ => (-1 : Int))]
    congr 1
    funext j
    simp
  rw [first]
  refine up_to (L := fun m i s => q01q z N n X O (fun _ => 0) m s.2 (i : Int) s.1 fun q7 q8 => k q8 q7) (n := n) (out := fun s => k s.1 s.2) (f := compF (nxtC n X O) n) (I := CompI n)
    (fun m i s hi hI => ⟨?_, compF_step (nxtC_lt g hX hO) hi hI⟩) (fun m s _ => by simp (disch := omega) only [q01q, q01p, c_nlt]) n N 0 ((fun j => if j < 8 then -1 else 0), 0) (by omega) (by omega)
    ⟨Int.le_refl _, Int.le_refl _, fun j hj => by omega, fun j hj => by simp [hj], fun j _ hj => by simp [hj]⟩
  have h1 := hI.nn
  have h2 := hI.le
  have walk : ∀ kk : (Nat -> Int) -> β, q01o z N s.2 i n X O (fun _ => 0) N (i : Int) s.1 kk = kk (walkH (nxtC n X O) s.2 n i s.1) := by
    intro kk
    refine walk_loop (L := fun m k h => q01o z N s.2 i n X O (fun _ => 0) m (k : Int) h kk) (out := kk) (n := n) (nxt := nxtC n X O) (c := s.2) h1 (nxtC_lt g hX hO) (I := fun _ => True) (fun _ _ _ _ _ => trivial)
      (fun m k h hk _ hu => ?_) (fun m k h hk _ hu => ?_) n N i s.1 (cntU_le _ _) (by omega) hi trivial
    · simp only [q01o, q01n, c_and, Int.toNat_natCast, s_l01Follow_val z hN g hX hO hk]
      simp (disch := omega) only [c_lt, c_le, c_blt]
    · simp only [q01o, q01n, c_and, Int.toNat_natCast]
      simp (disch := omega) only [c_lt, c_nlt, c_le, c_blt]
  simp only [q01q, q01p, c_and, Int.toNat_natCast, walk]
  simp (disch := omega) only [c_lt, c_le, c_blt, c_fits]
  unfold compF
  by_cases hu : s.1 i < 0
  · rw [c_nle hu, if_pos hu]
    rfl
  · rw [c_le (by omega), if_neg hu]
    rfl
end
end Go.AM
namespace Go.AM
section
variable {β : Type}
end
end Go.AM
namespace Go.AM
section
variable {β : Type}
theorem GridP.bdX {n : Nat} {X O : Nat -> Int} (g : GridP n X O) (hX : ∀ j, 0 <= X j) {i : Nat} (hi : i < n) : 0 <= X i ∧ X i < n := by
  have := g.px.2.1 i hi
  have := hX i
  omega
structure CrossI (m : Nat) (s : List Int) : Prop where
  len : s.length = 3 * (s.length / 3)
  le : s.length / 3 <= m
  sg : ∀ j, j < s.length / 3 -> s[j * 3 + 2]?.getD 0 = 1 ∨ s[j * 3 + 2]?.getD 0 = -1
end
end Go.AM
namespace Go.AM
section
variable {β : Type}
def upH (h : Nat -> Int) : Nat -> Int := fun j => if j < 8 then h j + 1 else 0
theorem upH_upd {h : Nat -> Int} {k : Nat} (hk : k < 8) (c : Int) : upd (upH h) k (c + 1) = upH (upd h k c) := by
  funext j
  unfold upH
  simp only [upd_at]
  by_cases e : j = k
  · subst e; rw [if_pos rfl, if_pos rfl, if_pos hk]
  · rw [if_neg e, if_neg e]
theorem i_Grid_component_val (z : β) {N : Nat} (hN : 8 < N) {n : Nat} {X O : Nat -> Int} (g : GridP n X O) (hX : ∀ j, 0 <= X j) (hO : ∀ j, 0 <= O j) (k : (Nat -> Int) -> Int -> β) :
    q01y z N n X O k = k (fun j => if j < n then (compS (nxtC n X O) n).1 j else 0) (compS (nxtC n X O) n).2 := by
  have h8 := g.hi
  unfold q01y q008
  rw [i_Grid_places_val z hN h8 g.px hX]
  have hlt := nxtC_lt g hX hO
  have inv := compS_inv hlt
  have main : ∀ kk : Int -> (Nat -> Int) -> β, q01v z N n n X O (fun _ => 0) (plc n X) N 0 0 (fun _ => 0) kk = kk (compS (nxtC n X O) n).2 (upH (compS (nxtC n X O) n).1) := by
    intro kk
    have e0 : (fun _ : Nat => (0 : Int)) = upH fun j => if j < 8 then -1 else 0 := by
      funext j
      unfold upH
      by_cases e : j < 8
      · simp only [if_pos e]; rfl
      · simp only [if_neg e]
    have hst := up_to (L := fun m i s => q01v z N n n X O (fun _ => 0) (plc n X) m s.2 (i : Int) (upH s.1) kk) (n := n) (out := fun s => kk s.2 (upH s.1)) (f := compF (nxtC n X O) n) (I := CompI n)
      (fun m i s hi hI => ⟨?_, compF_step hlt hi hI⟩) (fun m s _ => by simp (disch := omega) only [q01v, q01u, c_nlt]) n N 0 ((fun j => if j < 8 then -1 else 0), 0) (by omega) (by omega)
      ⟨Int.le_refl _, Int.le_refl _, fun j hj => by omega, fun j hj => by simp [hj], fun j _ hj => by simp [hj]⟩
    · rw [<- e0] at hst
      exact hst
    have h1 := hI.nn
    have h2 := hI.le
    have walk : ∀ kk : (Nat -> Int) -> β, q01t z (s.2 + 1) n i n X O (fun _ => 0) (plc n X) N (i : Int) (upH s.1) kk = kk (upH (walkH (nxtC n X O) s.2 n i s.1)) := by
      intro kk
      refine walk_loop (L := fun m k h => q01t z (s.2 + 1) n i n X O (fun _ => 0) (plc n X) m (k : Int) (upH h) kk) (out := fun h => kk (upH h)) (n := n) (nxt := nxtC n X O) (c := s.2) h1 hlt (I := fun h => ∀ j, j < 8 -> -1 <= h j) (fun k h hk hI hu j hj => by
          rw [upd_at]; split
          · omega
          · exact hI j hj)
        (fun m k h hk hh hu => ?_) (fun m k h hk hh hu => ?_) n N i s.1 (cntU_le _ _) (by omega) hi (fun j hj => by have := hI.bd j hj; omega)
      · have o1 := g.swap.bdX hO hk
        have e : upH h k = 0 := by unfold upH; rw [if_pos (by omega)]; have := hh k (by omega); omega
        have ep : plc n X (O k).toNat = (nxtC n X O k : Int) := plc_spec g.px hX (by omega)
        simp only [q01t, q01s, c_and, Int.toNat_natCast, e, ep]
        simp (disch := omega) only [c_lt, c_le, c_blt, c_eq]
        rw [upH_upd (by omega)]
      · have e : upH h k ≠ 0 := by unfold upH; rw [if_pos (by omega)]; omega
        simp only [q01t, q01s, c_and, Int.toNat_natCast]
        simp (disch := omega) only [c_lt, c_le, c_blt, c_neq]
    have e : upH s.1 i = s.1 i + 1 := by unfold upH; rw [if_pos (by omega)]
    simp only [q01v, q01u, c_and, Int.toNat_natCast, walk, e]
    simp (disch := omega) only [c_lt, c_le, c_blt, c_fits]
    unfold compF
    by_cases hu : s.1 i < 0
    · rw [c_nlt (by omega), if_pos hu]
      rfl
    · rw [c_lt (by omega), if_neg hu]
      rfl
  rw [main]
  generalize hs : compS (nxtC n X O) n = s at *
  refine (up_to (L := fun m i h => q01x z s.2 n n X O (fun _ => 0) (plc n X) m (i : Int) h fun q9 => k q9 s.2) (n := n) (out := fun h => k h s.2) (f := fun i h => upd h i (h i - 1)) (I := fun i h => ∀ j, h j = if j < i then s.1 j else upH s.1 j)
    (fun m i h hi hh => ⟨by
      have e1 := hh i
      have e2 := inv.bd i (by omega)
      have e3 := inv.le
      rw [if_neg (by omega)] at e1
      unfold upH at e1
      rw [if_pos (by omega)] at e1
      simp only [q01x, q01w, c_and, Int.toNat_natCast]
      simp (disch := omega) only [c_lt, c_le, c_blt, c_fits]
      rfl, fun j => by
      rw [upd_at]
      by_cases e : j = i
      · subst e
        rw [if_pos rfl, if_pos (by omega), hh j, if_neg (by omega)]
        unfold upH
        rw [if_pos (by omega)]
        omega
      · rw [if_neg e, hh j]
        by_cases e2 : j < i
        · rw [if_pos e2, if_pos (by omega)]
        · rw [if_neg e2, if_neg (by omega)]⟩)
    (fun m s _ => by simp (disch := omega) only [q01x, q01w, c_nlt]) n N 0 (upH s.1) (by omega) (by omega) (fun j => by rw [if_neg (by omega)])).trans ?_
  congr 1
  have key := iter_inv (f := fun i (h : Nat -> Int) => upd h i (h i - 1)) (n := n) (I := fun i h => ∀ j, h j = if j < i then s.1 j else upH s.1 j) (fun i h hi hh j => by
      rw [upd_at]
      by_cases e : j = i
      · subst e
        rw [if_pos rfl, if_pos (by omega), hh j, if_neg (by omega)]
        unfold upH
        rw [if_pos (by omega)]
        omega
      · rw [if_neg e, hh j]
        by_cases e2 : j < i
        · rw [if_pos e2, if_pos (by omega)]
        · rw [if_neg e2, if_neg (by omega)]) n 0 (upH s.1) (by omega) (fun j => by rw [if_neg (by omega)])
  funext j
  rw [Nat.zero_add] at key
  rw [key j]
  by_cases e : j < n
  · rw [if_pos e, if_pos e]
  · rw [if_neg e, if_neg e]
    unfold upH
    by_cases e2 : j < 8
    · rw [if_pos e2, inv.rest j (by omega) e2]; rfl
    · rw [if_neg e2]
end
end Go.AM
namespace Go.AM
section
variable {β : Type}
abbrev idAt (ids : List (Nat × Nat)) (i : Nat) : Nat × Nat := ids[i]?.getD (0, 0)
abbrev rowAt (T : List (List Int)) (i : Nat) : List Int := T[i]?.getD []
structure TabP (ids : List (Nat × Nat)) (pool T : List (List Int)) : Prop where
  len : T.length <= ids.length
  lt : ∀ i, i < T.length -> (idAt ids i).1 < pool.length
  sz : ∀ i, i < T.length -> (idAt ids i).2 = (rowAt T i).length
  row : ∀ i, i < T.length -> rowAt pool (idAt ids i).1 = rowAt T i
  inj : ∀ i j, i < T.length -> j < T.length -> (idAt ids i).1 = (idAt ids j).1 -> i = j
def total (T : List (List Int)) : Nat -> Nat
  | 0 => 0
  | i + 1 => total T i + (rowAt T i).length
structure SmallT (N : Nat) (T : List (List Int)) : Prop where
  rows : T.length < N ∧ T.length <= 1000
  cols : ∀ i, i < T.length -> (rowAt T i).length < N ∧ (rowAt T i).length <= 1000
def MarkR (k0 : Int) (L : Nat) (xs : List Int) : Prop := xs.length = L ∧ ∀ j, j < L -> xs[j]?.getD 0 = k0 + j
structure TabM (ids : List (Nat × Nat)) (P T : List (List Int)) : Prop where
  len : T.length <= ids.length
  sz : ∀ i, i < T.length -> (idAt ids i).2 = (rowAt T i).length
  row : ∀ i, i < T.length -> MarkR (1 + total T i) (rowAt T i).length (rowAt P (idAt ids i).1)
end
end Go.AM
namespace Go.AM
section
variable {β : Type}
theorem len1 {γ : Type} (s : List γ) (x : γ) : (s ++ [x]).length = s.length + 1 := by simp
end
end Go.AM
namespace Go.AM
section
variable {β : Type}
structure WInv (nxt : Nat -> Nat) (n st : Nat) (h : Nat -> Int) (k : Nat) : Prop where
  lt : k < n
  fresh : h k < 0
  back : ∀ x, x < n -> 0 <= h (nxt x) -> nxt x = st ∨ 0 <= h x
  prev : k = st ∨ ∃ p, p < n ∧ 0 <= h p ∧ nxt p = k
  stv : k = st ∨ 0 <= h st
def BackC (nxt : Nat -> Nat) (n : Nat) (h : Nat -> Int) : Prop := ∀ x, x < n -> 0 <= h (nxt x) -> 0 <= h x
theorem WInv.start {nxt : Nat -> Nat} {n k : Nat} {h : Nat -> Int} (hk : k < n) (hf : h k < 0) (hb : BackC nxt n h) : WInv nxt n k h k :=
  ⟨hk, hf, fun x hx hv => .inr (hb x hx hv), .inl rfl, .inl rfl⟩
theorem WInv.step {nxt : Nat -> Nat} {n st k : Nat} {h : Nat -> Int} {c : Int} (hn : ∀ k, k < n -> nxt k < n) (hi : ∀ a b, a < n -> b < n -> nxt a = nxt b -> a = b) (hc : 0 <= c) (w : WInv nxt n st h k) (hne : nxt k ≠ st) :
    WInv nxt n st (upd h k c) (nxt k) := by
  have hk := w.lt
  have hfr := w.fresh
  have hself : nxt k ≠ k := fun e => by
    rcases w.prev with e2 | ⟨p, hp, hv, e2⟩
    · exact hne (e.trans e2)
    · have := hi p k hp hk (e2.trans e.symm)
      subst this
      omega
  refine ⟨hn k hk, ?_, fun x hx hv => ?_, .inr ⟨k, hk, ?_, rfl⟩, .inr ?_⟩
  · rw [upd_at, if_neg hself]
    rcases Int.lt_or_le (h (nxt k)) 0 with h1 | h1
    · exact h1
    · rcases w.back k hk h1 with e | e
      · exact absurd e hne
      · omega
  · rw [upd_at] at hv
    rw [upd_at]
    by_cases ex : x = k
    · right; rw [if_pos ex]; exact hc
    · rw [if_neg ex]
      by_cases e : nxt x = k
      · rcases w.prev with e2 | ⟨p, hp, hpv, e2⟩
        · exact .inl (e.trans e2)
        · have := hi p x hp hx (e2.trans e.symm)
          subst this
          exact .inr hpv
      · rw [if_neg e] at hv
        exact w.back x hx hv
  · rw [upd_at, if_pos rfl]; exact hc
  · rw [upd_at]
    split
    · exact hc
    · rename_i e
      rcases w.stv with e2 | e2
      · exact absurd e2.symm e
      · exact e2
theorem WInv.done {nxt : Nat -> Nat} {n st k : Nat} {h : Nat -> Int} {c : Int} (hi : ∀ a b, a < n -> b < n -> nxt a = nxt b -> a = b) (hc : 0 <= c) (w : WInv nxt n st h k) (he : nxt k = st) : BackC nxt n (upd h k c) := by
  intro x hx hv
  rw [upd_at] at hv ⊢
  by_cases ex : x = k
  · rw [if_pos ex]; exact hc
  · rw [if_neg ex]
    by_cases e : nxt x = k
    · rcases w.prev with e2 | ⟨p, hp, hpv, e2⟩
      · exact absurd (hi x k hx w.lt ((e.trans e2).trans he.symm)) ex
      · have := hi p x hp hx (e2.trans e.symm)
        subst this
        exact hpv
    · rw [if_neg e] at hv
      rcases w.back x hx hv with e3 | e3
      · exact absurd (hi x k hx w.lt (e3.trans he.symm)) ex
      · exact e3
theorem WInv.stSet {nxt : Nat -> Nat} {n st k : Nat} {h : Nat -> Int} {c : Int} (hc : 0 <= c) (w : WInv nxt n st h k) : 0 <= upd h k c st := by
  rw [upd_at]
  split
  · exact hc
  · rename_i e
    rcases w.stv with e2 | e2
    · exact absurd e2.symm e
    · exact e2
theorem walkH_back {nxt : Nat -> Nat} {n st : Nat} {c : Int} (hn : ∀ k, k < n -> nxt k < n) (hi : ∀ a b, a < n -> b < n -> nxt a = nxt b -> a = b) (hc : 0 <= c) :
    ∀ (d k : Nat) (h : Nat -> Int), cntU n h <= d -> WInv nxt n st h k -> BackC nxt n (walkH nxt c d k h) := by
  intro d
  induction d with
  | zero =>
    intro k h hd w
    have := cntU_zero (by omega : cntU n h = 0) w.lt
    have := w.fresh
    omega
  | succ d ih =>
    intro k h hd w
    have hcn := cntU_upd w.lt w.fresh hc
    simp only [walkH]
    rw [if_pos w.fresh]
    by_cases e : nxt k = st
    · have hs : walkH nxt c d (nxt k) (upd h k c) = upd h k c := by
        have := w.stSet hc
        rw [<- e] at this
        cases d with
        | zero => rfl
        | succ d => simp only [walkH]; rw [if_neg (by omega)]
      rw [hs]
      exact w.done hi hc e
    · exact ih _ _ (by omega) (w.step hn hi hc e)
def startF (nxt : Nat -> Nat) (n i : Nat) (s : ((Nat -> Int) × Int) × List Nat) : ((Nat -> Int) × Int) × List Nat := (compF nxt n i s.1, if s.1.1 i < 0 then s.2 ++ [i] else s.2)
def startS (nxt : Nat -> Nat) (n : Nat) : ((Nat -> Int) × Int) × List Nat := iter (startF nxt n) n 0 (((fun j => if j < 8 then -1 else 0), 0), [])
theorem startS_comp (nxt : Nat -> Nat) (n : Nat) : (startS nxt n).1 = compS nxt n := by
  have key : ∀ (d i : Nat) (s : ((Nat -> Int) × Int) × List Nat), (iter (startF nxt n) d i s).1 = iter (compF nxt n) d i s.1 := by
    intro d
    induction d with
    | zero => exact fun i s => rfl
    | succ d ih => exact fun i s => ih (i + 1) _
  exact key n 0 _
structure StartI (nxt : Nat -> Nat) (n i : Nat) (s : ((Nat -> Int) × Int) × List Nat) : Prop where
  comp : CompI n i s.1
  back : BackC nxt n s.1.1
  len : (s.2.length : Int) = s.1.2
  lt : ∀ q, q < s.2.length -> s.2[q]?.getD 0 < i
  own : ∀ q, q < s.2.length -> s.1.1 (s.2[q]?.getD 0) = q
  first : ∀ q, q < s.2.length -> ∀ j, j < s.2[q]?.getD 0 -> s.1.1 j ≠ q
theorem StartI.step {nxt : Nat -> Nat} {n i : Nat} (h8 : n <= 8) (hn : ∀ k, k < n -> nxt k < n) (hinj : ∀ a b, a < n -> b < n -> nxt a = nxt b -> a = b) (hi : i < n) {s : ((Nat -> Int) × Int) × List Nat} (h : StartI nxt n i s) : StartI nxt n (i + 1) (startF nxt n i s) := by
  have hcomp := compF_step hn hi h.comp
  obtain ⟨n', rfl⟩ : ∃ n', n = n' + 1 := ⟨n - 1, by omega⟩
  unfold startF
  by_cases hu : s.1.1 i < 0
  · rw [if_pos hu]
    have hcf : compF nxt (n' + 1) i s.1 = (walkH nxt s.1.2 (n' + 1) i s.1.1, s.1.2 + 1) := by unfold compF; rw [if_pos hu]
    have hnn := h.comp.nn
    have hlen := h.len
    have hval := fun j => walkH_val nxt s.1.2 (n' + 1) i s.1.1 j
    have hbk := walkH_back (st := i) (c := s.1.2) hn hinj hnn (n' + 1) i s.1.1 (cntU_le _ _) (WInv.start hi hu h.back)
    have hold : ∀ j, 0 <= s.1.1 j -> walkH nxt s.1.2 (n' + 1) i s.1.1 j = s.1.1 j := fun j hj => by
      rcases hval j with e | ⟨e, _⟩
      · exact e
      · omega
    have hnew : walkH nxt s.1.2 (n' + 1) i s.1.1 i = s.1.2 := by
      have h1 := walkH_start nxt hnn n' i s.1.1
      rcases hval i with e | ⟨_, e⟩
      · omega
      · exact e
    refine ⟨hcomp, ?_, ?_, fun q hq => ?_, fun q hq => ?_, fun q hq j hj => ?_⟩
    · rw [hcf]; exact hbk
    · rw [hcf]; simp only [List.length_append, List.length_singleton]; omega
    · rw [len1] at hq
      by_cases e : q = s.2.length
      · subst e; simp
      · simp only; rw [List.getElem?_append_left (by omega)]; have := h.lt q (by omega); omega
    · rw [len1] at hq
      rw [hcf]
      by_cases e : q = s.2.length
      · subst e; simp only [List.getElem?_append_right (Nat.le_refl _), Nat.sub_self, List.getElem?_cons_zero, Option.getD_some]; rw [hnew]; omega
      · simp only; rw [List.getElem?_append_left (by omega), hold _ (by rw [h.own q (by omega)]; omega)]; exact h.own q (by omega)
    · rw [len1] at hq
      rw [hcf]
      by_cases e : q = s.2.length
      · subst e
        simp only [List.getElem?_append_right (Nat.le_refl _), Nat.sub_self, List.getElem?_cons_zero, Option.getD_some] at hj
        simp only
        have hset := h.comp.set j hj
        rw [hold j hset]
        have := h.comp.bd j (by omega)
        omega
      · simp only at hj ⊢
        rw [List.getElem?_append_left (by omega)] at hj
        have hlt := h.lt q (by omega)
        rw [hold j (h.comp.set j (by omega))]
        exact h.first q (by omega) j hj
  · rw [if_neg hu]
    have hcf : compF nxt (n' + 1) i s.1 = s.1 := by unfold compF; rw [if_neg hu]
    rw [hcf] at hcomp ⊢
    exact ⟨hcomp, h.back, h.len, fun q hq => by have := h.lt q hq; simp only; omega, h.own, h.first⟩
theorem StartI.zero {nxt : Nat -> Nat} {n : Nat} (h8 : n <= 8) (hn : ∀ k, k < n -> nxt k < n) : StartI nxt n 0 (((fun j => if j < 8 then -1 else 0), 0), []) :=
  ⟨⟨Int.le_refl _, Int.le_refl _, fun j hj => by omega, fun j hj => by simp [hj], fun j _ hj => by simp [hj]⟩, fun x hx hv => by
    simp only at hv
    have := hn x hx
    rw [if_pos (by omega)] at hv
    omega, rfl, fun q hq => by simp at hq, fun q hq => by simp at hq, fun q hq => by simp at hq⟩
theorem startS_inv {nxt : Nat -> Nat} {n : Nat} (h8 : n <= 8) (hn : ∀ k, k < n -> nxt k < n) (hinj : ∀ a b, a < n -> b < n -> nxt a = nxt b -> a = b) : StartI nxt n n (startS nxt n) := by
  have := iter_inv (f := startF nxt n) (n := n) (I := fun i s => StartI nxt n i s) (fun i s hi h => h.step h8 hn hinj hi) n 0 _ (by omega) (StartI.zero h8 hn)
  rwa [Nat.zero_add] at this
end
end Go.AM
namespace Go.AM
section
variable {β : Type}
theorem nxtC_inj {n : Nat} {X O : Nat -> Int} (g : GridP n X O) (hX : ∀ j, 0 <= X j) (hO : ∀ j, 0 <= O j) : ∀ a b, a < n -> b < n -> nxtC n X O a = nxtC n X O b -> a = b := by
  intro a b ha hb e
  have o1 := g.swap.bdX hO ha
  have o2 := g.swap.bdX hO hb
  unfold nxtC at e
  have e1 := (rowOf_spec g.px hX (r := (O a).toNat) (by omega)).2
  have e2 := (rowOf_spec g.px hX (r := (O b).toNat) (by omega)).2
  rw [e, e2] at e1
  exact g.po.2.2 a b ha hb (by omega)
end
end Go.AM
namespace Go.AM
section
noncomputable def prevC (n : Nat) (X O : Nat -> Int) (i : Nat) : Nat := rowOf n O (X i).toNat
theorem prevC_spec {n : Nat} {X O : Nat -> Int} (g : GridP n X O) (hX : ∀ j, 0 <= X j) (hO : ∀ j, 0 <= O j) {i : Nat} (hi : i < n) : prevC n X O i < n ∧ nxtC n X O (prevC n X O i) = i ∧ prevC n X O i ≠ i ∧ O (prevC n X O i) = X i := by
  have b := g.bdX hX hi
  obtain ⟨h1, h2⟩ := rowOf_spec g.po hO (r := (X i).toNat) (by omega)
  have h3 : O (prevC n X O i) = X i := by unfold prevC; rw [h2]; omega
  refine ⟨h1, ?_, fun e => ?_, h3⟩
  · unfold nxtC
    rw [h3]
    exact rowOf_eq g.px hX hi (by omega)
  · rw [e] at h3
    exact g.ne i hi h3.symm
theorem prevC_nxt {n : Nat} {X O : Nat -> Int} (g : GridP n X O) (hX : ∀ j, 0 <= X j) (hO : ∀ j, 0 <= O j) {i : Nat} (hi : i < n) : prevC n X O (nxtC n X O i) = i := by
  have h1 := nxtC_lt g hX hO i hi
  obtain ⟨p1, p2, _, _⟩ := prevC_spec g hX hO h1
  exact nxtC_inj g hX hO _ _ p1 hi p2
end
end Go.AM
namespace Go.AM
section
def sumI (f : Nat -> Int) : Nat -> Int
  | 0 => 0
  | d + 1 => sumI f d + f d
theorem sumI_congr {f g : Nat -> Int} : ∀ {n : Nat}, (∀ i, i < n -> f i = g i) -> sumI f n = sumI g n := by
  intro n
  induction n with
  | zero => intro _; rfl
  | succ n ih => intro h; rw [sumI, sumI, ih fun i hi => h i (by omega), h n (by omega)]
theorem sumI_bump {f g : Nat -> Int} {k : Nat} {a : Int} : ∀ {n : Nat}, k < n -> f k = g k + a -> (∀ i, i < n -> i ≠ k -> f i = g i) -> sumI f n = sumI g n + a := by
  intro n
  induction n with
  | zero => intro h; omega
  | succ n ih =>
    intro hk h1 h2
    rw [sumI, sumI]
    by_cases e : k = n
    · subst e
      rw [sumI_congr fun i hi => h2 i (by omega) (by omega), h1]
      omega
    · rw [ih (by omega) h1 fun i hi => h2 i (by omega), h2 n (by omega) (by omega)]
      omega
theorem sumI_zero : ∀ n, sumI (fun _ => 0) n = 0 := by
  intro n
  induction n with
  | zero => rfl
  | succ n ih => rw [sumI, ih]; rfl
end
end Go.AM
namespace Go.AM
section
def itN (f : Nat -> Nat) : Nat -> Nat -> Nat
  | 0, x => x
  | j + 1, x => f (itN f j x)
theorem itN_lt {f : Nat -> Nat} {n : Nat} (hn : ∀ k, k < n -> f k < n) {x : Nat} (hx : x < n) : ∀ j, itN f j x < n := by
  intro j
  induction j with
  | zero => exact hx
  | succ j ih => exact hn _ ih
theorem itN_same {γ : Type} {f : Nat -> Nat} {n : Nat} (hn : ∀ k, k < n -> f k < n) {L : Nat -> γ} (hL : ∀ x, x < n -> L (f x) = L x) {x : Nat} (hx : x < n) : ∀ j, L (itN f j x) = L x := by
  intro j
  induction j with
  | zero => rfl
  | succ j ih => rw [itN, hL _ (itN_lt hn hx j), ih]
theorem walkH_closed {nxt : Nat -> Nat} {n st : Nat} {c : Int} (hn : ∀ k, k < n -> nxt k < n) (hi : ∀ a b, a < n -> b < n -> nxt a = nxt b -> a = b) (hc : 0 <= c) :
    ∀ (d k : Nat) (h : Nat -> Int), cntU n h <= d -> WInv nxt n st h k -> (k = st ∨ h st = c) -> (∀ x, x < n -> 0 <= h x -> h (nxt x) = h x ∨ (h x = c ∧ nxt x = k)) -> (∀ x, x < n -> h x = c -> ∃ j, itN nxt j st = x) -> (∃ j, itN nxt j st = k) ->
      (∀ x, x < n -> 0 <= walkH nxt c d k h x -> walkH nxt c d k h (nxt x) = walkH nxt c d k h x) ∧ ∀ x, x < n -> walkH nxt c d k h x = c -> ∃ j, itN nxt j st = x := by
  intro d
  induction d with
  | zero =>
    intro k h hd w
    have := cntU_zero (by omega : cntU n h = 0) w.lt
    have := w.fresh
    omega
  | succ d ih =>
    intro k h hd w hs hcl hrc hk
    have hcn := cntU_upd w.lt w.fresh hc
    have hfr := w.fresh
    have step : ∀ x, x < n -> x ≠ k -> 0 <= h x -> upd h k c (nxt x) = h x := fun x hx hxk hv => by
      rw [upd_at]
      rcases hcl x hx hv with e | ⟨e1, e2⟩
      · have : nxt x ≠ k := fun e2 => by rw [e2] at e; omega
        rw [if_neg this, e]
      · rw [if_pos e2, e1]
    have rc : ∀ x, x < n -> upd h k c x = c -> ∃ j, itN nxt j st = x := fun x hx hv => by
      rw [upd_at] at hv
      by_cases e : x = k
      · rw [e]; exact hk
      · rw [if_neg e] at hv; exact hrc x hx hv
    simp only [walkH]
    rw [if_pos w.fresh]
    by_cases e : nxt k = st
    · have hs' : walkH nxt c d (nxt k) (upd h k c) = upd h k c := by
        have := w.stSet hc
        rw [<- e] at this
        cases d with
        | zero => rfl
        | succ d => simp only [walkH]; rw [if_neg (by omega)]
      rw [hs']
      refine ⟨fun x hx hv => ?_, rc⟩
      by_cases ex : x = k
      · subst ex
        rw [e, upd_at, upd_at, if_pos rfl]
        rcases hs with hs | hs
        · rw [if_pos hs.symm]
        · split
          · rfl
          · exact hs
      · have hv2 : upd h k c x = h x := by rw [upd_at, if_neg ex]
        rw [hv2] at hv ⊢
        exact step x hx ex hv
    · obtain ⟨j, hj⟩ := hk
      refine ih _ _ (by omega) (w.step hn hi hc e) (.inr ?_) (fun x hx hv => ?_) rc ⟨j + 1, by rw [itN, hj]⟩
      · rw [upd_at]
        rcases hs with hs | hs
        · rw [if_pos hs.symm]
        · split
          · rfl
          · exact hs
      · by_cases ex : x = k
        · right; subst ex; rw [upd_at, if_pos rfl]; exact ⟨rfl, rfl⟩
        · left
          have hv2 : upd h k c x = h x := by rw [upd_at, if_neg ex]
          rw [hv2] at hv ⊢
          exact step x hx ex hv
structure StartC (nxt : Nat -> Nat) (n : Nat) (s : ((Nat -> Int) × Int) × List Nat) : Prop where
  cl : ∀ x, x < n -> 0 <= s.1.1 x -> s.1.1 (nxt x) = s.1.1 x
  rc : ∀ q, q < s.2.length -> ∀ x, x < n -> s.1.1 x = q -> ∃ j, itN nxt j (s.2[q]?.getD 0) = x
theorem startS_closed {nxt : Nat -> Nat} {n : Nat} (h8 : n <= 8) (hn : ∀ k, k < n -> nxt k < n) (hinj : ∀ a b, a < n -> b < n -> nxt a = nxt b -> a = b) : StartC nxt n (startS nxt n) := by
  have key := iter_inv (f := startF nxt n) (n := n) (I := fun i s => StartI nxt n i s ∧ StartC nxt n s) (fun i s hi ⟨h, h2⟩ => by
    refine ⟨h.step h8 hn hinj hi, ?_⟩
    unfold startF
    by_cases hu : s.1.1 i < 0
    · rw [if_pos hu]
      have hcf : compF nxt n i s.1 = (walkH nxt s.1.2 n i s.1.1, s.1.2 + 1) := by unfold compF; rw [if_pos hu]
      have hnn := h.comp.nn
      have hlen := h.len
      have noc : ∀ x, x < n -> s.1.1 x ≠ s.1.2 := fun x hx e => by rcases h.comp.bd x (by omega) with e1 | e1 <;> omega
      obtain ⟨w1, w2⟩ := walkH_closed hn hinj hnn n i s.1.1 (cntU_le _ _) (WInv.start hi hu h.back) (.inl rfl) (fun x hx hv => .inl (h2.cl x hx hv)) (fun x hx e => absurd e (noc x hx)) ⟨0, rfl⟩
      rw [hcf]
      refine ⟨w1, fun q hq x hx hv => ?_⟩
      have hv : walkH nxt s.1.2 n i s.1.1 x = q := hv
      rw [List.length_append, List.length_singleton] at hq
      show ∃ j, itN nxt j ((s.2 ++ [i])[q]?.getD 0) = x
      by_cases e : q < s.2.length
      · rw [List.getElem?_append_left e]
        refine h2.rc q e x hx ?_
        rcases walkH_val nxt s.1.2 n i s.1.1 x with e1 | ⟨e1, e2⟩
        · rw [<- e1]; exact hv
        · rw [e2] at hv; omega
      · have eq : q = s.2.length := by omega
        subst eq
        rw [List.getElem?_append_right (Nat.le_refl _)]
        have := w2 x hx (by rw [hv, hlen])
        simpa using this
    · rw [if_neg hu]
      have hcf : compF nxt n i s.1 = s.1 := by unfold compF; rw [if_neg hu]
      rw [hcf]
      exact h2) n 0 _ (by omega) ⟨StartI.zero h8 hn, ⟨fun x hx hv => by have : (if x < 8 then (-1 : Int) else 0) = -1 := if_pos (by omega); have hv : 0 <= (if x < 8 then (-1 : Int) else 0) := hv; omega, fun q hq => by simp at hq⟩⟩
  rw [Nat.zero_add] at key
  exact key.2
theorem inj_le {a b : Nat} {f : Nat -> Nat} (hf : ∀ i, i < a -> f i < b) (hi : ∀ i j, i < a -> j < a -> f i = f j -> i = j) : a <= b := by
  have one : ∀ j, ∀ d, d <= a -> sumI (fun i => if f i = j then 1 else 0) d <= 1 ∧ (sumI (fun i => if f i = j then 1 else 0) d = 0 ∨ ∃ i, i < d ∧ f i = j) := by
    intro j d
    induction d with
    | zero => intro _; exact ⟨by simp [sumI], .inl rfl⟩
    | succ d ih =>
      intro hd
      obtain ⟨h1, h2⟩ := ih (by omega)
      rw [sumI]
      by_cases e : f d = j
      · rw [if_pos e]
        rcases h2 with h2 | ⟨i, h3, h4⟩
        · rw [h2]; exact ⟨by omega, .inr ⟨d, by omega, e⟩⟩
        · have := hi i d (by omega) (by omega) (by rw [h4, e]); omega
      · rw [if_neg e]
        refine ⟨by omega, ?_⟩
        rcases h2 with h2 | ⟨i, h3, h4⟩
        · left; omega
        · exact .inr ⟨i, by omega, h4⟩
  have le : ∀ (g : Nat -> Int) (d : Nat), (∀ i, i < d -> g i <= 1) -> sumI g d <= d := by
    intro g d
    induction d with
    | zero => intro _; simp [sumI]
    | succ d ih => intro h; have := ih fun i hi => h i (by omega); have := h d (by omega); rw [sumI]; omega
  have cnt : ∀ d : Nat, sumI (fun _ => 1) d = d := by
    intro d
    induction d with
    | zero => rfl
    | succ d ih => rw [sumI, ih]; omega
  have swap : ∀ (F : Nat -> Nat -> Int) (m n : Nat), sumI (fun i => sumI (fun k => F i k) m) n = sumI (fun k => sumI (fun i => F i k) n) m := by
    intro F m n
    induction n with
    | zero => exact (sumI_zero m).symm
    | succ n ih =>
      have add : ∀ (p q : Nat -> Int) (k : Nat), sumI (fun i => p i + q i) k = sumI p k + sumI q k := by
        intro p q k
        induction k with
        | zero => rfl
        | succ k ih => rw [sumI, sumI, sumI, ih]; omega
      rw [sumI, ih, <- add]
      exact sumI_congr fun k _ => by rw [sumI]
  have h1 : sumI (fun i => sumI (fun j => if f i = j then 1 else 0) b) a = (a : Int) := by
    rw [sumI_congr (g := fun _ => 1) fun i hi => ?_, cnt]
    rw [sumI_bump (g := fun _ => 0) (a := 1) (hf i hi) (by rw [if_pos rfl]; omega) (fun k _ hk => by rw [if_neg (fun e => hk e.symm)]), sumI_zero]
    omega
  rw [swap] at h1
  have h2 := le (fun j => sumI (fun i => if f i = j then 1 else 0) a) b fun j _ => (one j a (Nat.le_refl a)).1
  omega
theorem count_labels {nxt : Nat -> Nat} {n k : Nat} (h8 : n <= 8) (hn : ∀ k, k < n -> nxt k < n) (hinj : ∀ a b, a < n -> b < n -> nxt a = nxt b -> a = b) {L : Nat -> Nat}
    (l1 : ∀ x, x < n -> L x < k) (l2 : ∀ x, x < n -> L (nxt x) = L x) (l3 : ∀ x y, x < n -> y < n -> L x = L y -> ∃ s i j, s < n ∧ itN nxt i s = x ∧ itN nxt j s = y) (l4 : ∀ c, c < k -> ∃ x, x < n ∧ L x = c) : (compS nxt n).2 = k := by
  have C := startS_closed h8 hn hinj
  have I := startS_inv h8 hn hinj
  have hlen := I.len
  rw [<- startS_comp]
  generalize startS nxt n = s at *
  have lt := I.lt
  have own := I.own
  have bd := I.comp.bd
  have st := I.comp.set
  have a : s.2.length <= k := inj_le (f := fun q => L (s.2[q]?.getD 0)) (fun q hq => l1 _ (lt q hq)) (fun p q hp hq e => by
    obtain ⟨r, i, j, hr, hx, hy⟩ := l3 _ _ (lt p hp) (lt q hq) e
    have e1 := own p hp
    have e2 := own q hq
    have key : ∀ j, s.1.1 (itN nxt j r) = s.1.1 r := by
      intro j
      induction j with
      | zero => rfl
      | succ j ih =>
        have hlt := itN_lt hn hr j
        rw [itN, C.cl _ hlt (st _ hlt), ih]
    rw [<- hx, key] at e1
    rw [<- hy, key] at e2
    omega)
  have b : k <= s.2.length := by
    classical
    refine inj_le (f := fun c => if h : ∃ x, x < n ∧ L x = c then (s.1.1 (Classical.choose h)).toNat else 0) (fun c hc => ?_) (fun c d hc hd e => ?_)
    · have h := l4 c hc
      simp only [dif_pos h]
      obtain ⟨h1, _⟩ := Classical.choose_spec h
      have := st _ h1
      rcases bd _ (by omega : Classical.choose h < 8) with e1 | e1 <;> omega
    · have h := l4 c hc
      have h' := l4 d hd
      simp only [dif_pos h, dif_pos h'] at e
      obtain ⟨x1, x2⟩ := Classical.choose_spec h
      obtain ⟨y1, y2⟩ := Classical.choose_spec h'
      generalize Classical.choose h = x at *
      generalize Classical.choose h' = y at *
      have s1 := st x x1
      have s2 := st y y1
      have hb : s.1.1 x < s.1.2 := by rcases bd x (by omega) with e1 | e1 <;> omega
      obtain ⟨i, hi⟩ := C.rc (s.1.1 x).toNat (by omega) x x1 (by omega)
      obtain ⟨j, hj⟩ := C.rc (s.1.1 x).toNat (by omega) y y1 (by omega)
      have hq := lt (s.1.1 x).toNat (by omega)
      rw [<- x2, <- y2, <- hi, <- hj, itN_same hn l2 hq, itN_same hn l2 hq]
  omega
structure CompA (nxt : Nat -> Nat) (n : Nat) : Prop where
  cl : ∀ x, x < n -> (compS nxt n).1 (nxt x) = (compS nxt n).1 x
  bd : ∀ x, x < n -> 0 <= (compS nxt n).1 x ∧ (compS nxt n).1 x < (compS nxt n).2
  rt : ∀ x y, x < n -> y < n -> (compS nxt n).1 x = (compS nxt n).1 y -> ∃ s i j, s < n ∧ itN nxt i s = x ∧ itN nxt j s = y
  su : ∀ c : Nat, (c : Int) < (compS nxt n).2 -> ∃ x, x < n ∧ (compS nxt n).1 x = c
theorem comp_all {nxt : Nat -> Nat} {n : Nat} (h8 : n <= 8) (hn : ∀ k, k < n -> nxt k < n) (hinj : ∀ a b, a < n -> b < n -> nxt a = nxt b -> a = b) : CompA nxt n := by
  have C := startS_closed h8 hn hinj
  have I := startS_inv h8 hn hinj
  have hlen := I.len
  have st := I.comp.set
  have bd : ∀ x, x < n -> (startS nxt n).1.1 x < (startS nxt n).1.2 := fun x hx => by rcases I.comp.bd x (by omega) with e1 | e1 <;> have := st x hx <;> omega
  refine ⟨fun x hx => ?_, fun x hx => ?_, fun x y hx hy e => ?_, fun c hc => ?_⟩
  · rw [<- startS_comp]; exact C.cl x hx (st x hx)
  · rw [<- startS_comp]; exact ⟨st x hx, bd x hx⟩
  · rw [<- startS_comp] at e
    have s1 := st x hx
    have s2 := bd x hx
    obtain ⟨i, hi⟩ := C.rc ((startS nxt n).1.1 x).toNat (by omega) x hx (by omega)
    obtain ⟨j, hj⟩ := C.rc ((startS nxt n).1.1 x).toNat (by omega) y hy (by omega)
    exact ⟨_, i, j, I.lt _ (by omega), hi, hj⟩
  · rw [<- startS_comp] at hc
    refine ⟨(startS nxt n).2[c]?.getD 0, I.lt c (by omega), ?_⟩
    rw [<- startS_comp]
    exact I.own c (by omega)
theorem itN_conj {f g σ : Nat -> Nat} {n : Nat} (hf : ∀ k, k < n -> f k < n) (hc : ∀ x, x < n -> σ (f x) = g (σ x)) {x : Nat} (hx : x < n) : ∀ j, σ (itN f j x) = itN g j (σ x) := by
  intro j
  induction j with
  | zero => rfl
  | succ j ih => rw [itN, itN, hc _ (itN_lt hf hx j), ih]
theorem count_conj {f g σ τ : Nat -> Nat} {n : Nat} (h8 : n <= 8) (hf : ∀ k, k < n -> f k < n) (fi : ∀ a b, a < n -> b < n -> f a = f b -> a = b) (hg : ∀ k, k < n -> g k < n) (gi : ∀ a b, a < n -> b < n -> g a = g b -> a = b)
    (hσ : ∀ x, x < n -> σ x < n ∧ τ (σ x) = x) (hτ : ∀ x, x < n -> τ x < n ∧ σ (τ x) = x) (hc : ∀ x, x < n -> σ (f x) = g (σ x)) : (compS f n).2 = (compS g n).2 := by
  have A := comp_all h8 hg gi
  have nn := (compS_inv hg).nn
  have hc' : ∀ x, x < n -> τ (g x) = f (τ x) := fun x hx => by
    obtain ⟨h1, h2⟩ := hτ x hx
    have h3 := hc (τ x) h1
    rw [h2] at h3
    rw [<- h3, (hσ _ (hf _ h1)).2]
  have := count_labels (k := (compS g n).2.toNat) (L := fun x => ((compS g n).1 (σ x)).toNat) h8 hf fi (fun x hx => by
      have := A.bd _ (hσ x hx).1
      show ((compS g n).1 (σ x)).toNat < _
      omega) (fun x hx => by show ((compS g n).1 (σ (f x))).toNat = _; rw [hc x hx, A.cl _ (hσ x hx).1])
    (fun x y hx hy e => by
      have e : ((compS g n).1 (σ x)).toNat = ((compS g n).1 (σ y)).toNat := e
      have b1 := A.bd _ (hσ x hx).1
      have b2 := A.bd _ (hσ y hy).1
      obtain ⟨s, i, j, h1, h2, h3⟩ := A.rt _ _ (hσ x hx).1 (hσ y hy).1 (by omega)
      refine ⟨τ s, i, j, (hτ s h1).1, ?_, ?_⟩
      · rw [<- itN_conj hg hc' h1, h2, (hσ x hx).2]
      · rw [<- itN_conj hg hc' h1, h3, (hσ y hy).2])
    (fun c hc => by
      obtain ⟨x, h1, h2⟩ := A.su c (by omega)
      refine ⟨τ x, (hτ x h1).1, ?_⟩
      show ((compS g n).1 (σ (τ x))).toNat = c
      rw [(hτ x h1).2, h2]
      rfl)
  omega
end
end Go.AM
namespace Go.AM
section
variable {β : Type}
end
end Go.AM
namespace Go.AM
section
variable {β : Type}
def turnF (n : Nat) (X O : Nat -> Int) (i : Nat) (s : (Nat -> Int) × (Nat -> Int)) : (Nat -> Int) × (Nat -> Int) :=
  (upd s.1 ((n : Int) - 1 - O i).toNat (i : Int), upd s.2 ((n : Int) - 1 - X i).toNat (i : Int))
def turnS (n : Nat) (X O : Nat -> Int) : (Nat -> Int) × (Nat -> Int) := iter (turnF n X O) n 0 (fun _ => 0, fun _ => 0)
theorem wrap8t {t : Nat} (h : t < 256) : wrapU .u8 (t : Int) = t := by
  show (t : Int) % 256 = t
  omega
theorem i_Grid_quarter_val (z : β) {N n : Nat} (hN : 8 < N) {X O : Nat -> Int} (g : GridP n X O) (hX : ∀ j, 0 <= X j) (hO : ∀ j, 0 <= O j) (k : (Nat -> Int) -> (Nat -> Int) -> β) :
    q028 z N n X O k = k (turnS n X O).1 (turnS n X O).2 := by
  have h8 := g.hi
  unfold q028 q027 q008
  rw [c_true]
  exact up_to (L := fun m i s => q024 z N n n X O n X O 0 (fun _ => 0) (fun _ => 0) n m (i : Int) s.1 s.2 fun q10 q11 => k q10 q11) (n := n) (out := fun s => k s.1 s.2) (f := turnF n X O) (I := fun _ _ => True)
    (fun m i s hi _ => ⟨by
      have b1 := g.bdX hX hi
      have b2 := g.swap.bdX hO hi
      simp only [q024, q023, q022, q008, c_and, Int.toNat_natCast, wrap8t (t := i) (by omega)]
      simp (disch := omega) only [c_lt, c_le, c_blt, c_fits]
      rfl, trivial⟩)
    (fun m s _ => by simp (disch := omega) only [q024, q023, c_nlt]) n N 0 (fun _ => 0, fun _ => 0) (by omega) (by omega) trivial
theorem turn_half {n : Nat} {Y : Nat -> Int} (h : PermP 8 n Y) (hY : ∀ j, 0 <= Y j) {s : Nat -> Int} (hs : s = iter (fun i s => upd s ((n : Int) - 1 - Y i).toNat (i : Int)) n 0 (fun _ => 0)) :
    (∀ r, r < n -> s r = rowOf n Y (n - 1 - r)) ∧ ∀ r, n <= r -> s r = 0 := by
  have key := iter_inv (f := fun i (s : Nat -> Int) => upd s ((n : Int) - 1 - Y i).toNat (i : Int)) (n := n) (I := fun i s => (∀ j, j < i -> s ((n : Int) - 1 - Y j).toNat = j) ∧ ∀ r, n <= r -> s r = 0) (fun i s hi ⟨h1, h2⟩ => by
    have a1 := h.2.1 i hi
    have a2 := hY i
    refine ⟨fun j hj => ?_, fun r hr => ?_⟩
    · rw [upd_at]
      by_cases e : j = i
      · subst e; rw [if_pos rfl]
      · have b1 := h.2.1 j (by omega)
        have b2 := hY j
        rw [if_neg (fun e' => e (h.2.2 j i (by omega) hi (by omega)))]
        exact h1 j (by omega)
    · rw [upd_at, if_neg (by omega)]; exact h2 r hr) n 0 (fun _ => 0) (by omega) ⟨fun j hj => by omega, fun _ _ => rfl⟩
  rw [Nat.zero_add, <- hs] at key
  refine ⟨fun r hr => ?_, key.2⟩
  obtain ⟨e1, e2⟩ := rowOf_spec h hY (r := n - 1 - r) (by omega)
  have := key.1 _ e1
  rw [e2, show ((n : Int) - 1 - ((n - 1 - r : Nat) : Int)).toNat = r by omega] at this
  exact this
theorem turnS_parts (n : Nat) (X O : Nat -> Int) : (turnS n X O).1 = iter (fun i s => upd s ((n : Int) - 1 - O i).toNat (i : Int)) n 0 (fun _ => 0) ∧ (turnS n X O).2 = iter (fun i s => upd s ((n : Int) - 1 - X i).toNat (i : Int)) n 0 (fun _ => 0) := by
  have key : ∀ (d i : Nat) (s : (Nat -> Int) × (Nat -> Int)), (iter (turnF n X O) d i s).1 = iter (fun i s => upd s ((n : Int) - 1 - O i).toNat (i : Int)) d i s.1 ∧ (iter (turnF n X O) d i s).2 = iter (fun i s => upd s ((n : Int) - 1 - X i).toNat (i : Int)) d i s.2 := by
    intro d
    induction d with
    | zero => exact fun i s => ⟨rfl, rfl⟩
    | succ d ih => exact fun i s => ih (i + 1) _
  exact key n 0 _
theorem rowOf_inj {n : Nat} {Y : Nat -> Int} (h : PermP 8 n Y) (hY : ∀ j, 0 <= Y j) {a b : Nat} (ha : a < n) (hb : b < n) (e : rowOf n Y a = rowOf n Y b) : a = b := by
  have e1 := (rowOf_spec h hY ha).2
  have e2 := (rowOf_spec h hY hb).2
  rw [e, e2] at e1
  omega
theorem turn_grid {n : Nat} {X O : Nat -> Int} (g : GridP n X O) (hX : ∀ j, 0 <= X j) (hO : ∀ j, 0 <= O j) : GridP n (turnS n X O).1 (turnS n X O).2 ∧ (∀ j, 0 <= (turnS n X O).1 j) ∧ ∀ j, 0 <= (turnS n X O).2 j := by
  obtain ⟨p1, p2⟩ := turnS_parts n X O
  obtain ⟨a1, a2⟩ := turn_half g.po hO p1
  obtain ⟨b1, b2⟩ := turn_half g.px hX p2
  have perm : ∀ {Y s : Nat -> Int}, PermP 8 n Y -> (∀ j, 0 <= Y j) -> (∀ r, r < n -> s r = rowOf n Y (n - 1 - r)) -> (∀ r, n <= r -> s r = 0) -> PermP 8 n s := by
    intro Y s hY hY0 h1 h2
    refine ⟨fun j hj _ => h2 j hj, fun j hj => ?_, fun i j hi hj e => ?_⟩
    · rw [h1 j hj]
      have := (rowOf_spec hY hY0 (r := n - 1 - j) (by omega)).1
      omega
    · rw [h1 i hi, h1 j hj] at e
      have := rowOf_inj hY hY0 (a := n - 1 - i) (b := n - 1 - j) (by omega) (by omega) (by omega)
      omega
  have nn : ∀ {Y s : Nat -> Int}, (∀ r, r < n -> s r = rowOf n Y (n - 1 - r)) -> (∀ r, n <= r -> s r = 0) -> ∀ j, 0 <= s j := by
    intro Y s h1 h2 j
    by_cases hj : j < n
    · rw [h1 j hj]; omega
    · rw [h2 j (by omega)]; omega
  refine ⟨⟨g.lo, g.hi, perm g.po hO a1 a2, perm g.px hX b1 b2, fun i hi e => ?_⟩, nn a1 a2, nn b1 b2⟩
  rw [a1 i hi, b1 i hi] at e
  have e1 := rowOf_spec g.po hO (r := n - 1 - i) (by omega)
  have e2 := rowOf_spec g.px hX (r := n - 1 - i) (by omega)
  have := g.ne _ e1.1
  rw [e1.2, show rowOf n O (n - 1 - i) = rowOf n X (n - 1 - i) by omega, e2.2] at this
  exact this rfl
abbrev TurnSt := (Nat -> Int) × (Nat -> Int) × List (List Int)
structure TurnI (n i : Nat) (s : TurnSt) : Prop where
  g : GridP n s.1 s.2.1
  x : ∀ j, 0 <= s.1 j
  o : ∀ j, 0 <= s.2.1 j
  len : s.2.2.length = i
  row : ∀ j, j < i -> (rowAt s.2.2 j).length = 2
end
end Go.AM
namespace Go.AM
section
theorem starts_up {nxt : Nat -> Nat} {n : Nat} (h8 : n <= 8) (hn : ∀ k, k < n -> nxt k < n) (hinj : ∀ a b, a < n -> b < n -> nxt a = nxt b -> a = b) : ∀ p q, p < q -> q < (startS nxt n).2.length -> (startS nxt n).2[p]?.getD 0 < (startS nxt n).2[q]?.getD 0 := by
  have key := iter_inv (f := startF nxt n) (n := n) (I := fun i s => StartI nxt n i s ∧ ∀ p q, p < q -> q < s.2.length -> s.2[p]?.getD 0 < s.2[q]?.getD 0) (fun i s hi ⟨h, h2⟩ => by
    refine ⟨h.step h8 hn hinj hi, ?_⟩
    unfold startF
    by_cases hu : s.1.1 i < 0
    · rw [if_pos hu]
      intro p q hpq hq
      have hq : q < (s.2 ++ [i]).length := hq
      show (s.2 ++ [i])[p]?.getD 0 < (s.2 ++ [i])[q]?.getD 0
      rw [List.length_append, List.length_singleton] at hq
      by_cases e : q < s.2.length
      · rw [List.getElem?_append_left e, List.getElem?_append_left (by omega)]; exact h2 p q hpq e
      · have eq : q = s.2.length := by omega
        subst eq
        rw [List.getElem?_append_left hpq, List.getElem?_append_right (Nat.le_refl _)]
        have := h.lt p hpq
        simpa using this
    · rw [if_neg hu]
      exact h2) n 0 _ (by omega) ⟨StartI.zero h8 hn, fun p q _ hq => by simp at hq⟩
  rw [Nat.zero_add] at key
  exact key.2
theorem comp_rg {nxt : Nat -> Nat} {n : Nat} (h8 : n <= 8) (hn : ∀ k, k < n -> nxt k < n) (hinj : ∀ a b, a < n -> b < n -> nxt a = nxt b -> a = b) {x : Nat} (hx : x < n) {c : Nat} (hc : (c : Int) < (compS nxt n).1 x) : ∃ y, y < x ∧ (compS nxt n).1 y = c := by
  have I := startS_inv h8 hn hinj
  have A := comp_all h8 hn hinj
  have up := starts_up h8 hn hinj
  have hlen := I.len
  have hb := A.bd x hx
  rw [<- startS_comp] at hc hb ⊢
  have hq : ((startS nxt n).1.1 x).toNat < (startS nxt n).2.length := by omega
  have f := I.first _ hq
  refine ⟨(startS nxt n).2[c]?.getD 0, ?_, I.own c (by omega)⟩
  have u := up c ((startS nxt n).1.1 x).toNat (by omega) hq
  rcases Nat.lt_or_ge x ((startS nxt n).2[((startS nxt n).1.1 x).toNat]?.getD 0) with h | h
  · exact absurd (by omega) (f x h)
  · omega
theorem labels_unique {n : Nat} {h g : Nat -> Int} (h0 : ∀ x, x < n -> 0 <= h x) (g0 : ∀ x, x < n -> 0 <= g x) (hr : ∀ x, x < n -> ∀ c : Nat, (c : Int) < h x -> ∃ y, y < x ∧ h y = c) (gr : ∀ x, x < n -> ∀ c : Nat, (c : Int) < g x -> ∃ y, y < x ∧ g y = c)
    (he : ∀ x y, x < n -> y < n -> (h x = h y ↔ g x = g y)) : ∀ x, x < n -> h x = g x := by
  intro x
  induction x using Nat.strongRecOn with
  | _ x ih =>
    intro hx
    have hh := h0 x hx
    have hg := g0 x hx
    by_cases hex : ∃ y, y < x ∧ h y = h x
    · obtain ⟨y, h1, h2⟩ := hex
      rw [<- h2, ih y h1 (by omega), (he y x (by omega) hx).1 h2]
    · rcases Int.lt_trichotomy (h x) (g x) with e | e | e
      · obtain ⟨y, y1, y2⟩ := gr x hx (h x).toNat (by omega)
        exact absurd ⟨y, y1, by rw [ih y y1 (by omega)]; omega⟩ hex
      · exact e
      · obtain ⟨y, y1, y2⟩ := hr x hx (g x).toNat (by omega)
        have : h y = h x := (he y x (by omega) hx).2 (by rw [<- ih y y1 (by omega)]; omega)
        exact absurd ⟨y, y1, this⟩ hex
theorem comp_back {f g : Nat -> Nat} {n : Nat} (h8 : n <= 8) (hf : ∀ k, k < n -> f k < n) (fi : ∀ a b, a < n -> b < n -> f a = f b -> a = b) (hg : ∀ k, k < n -> g k < n) (gi : ∀ a b, a < n -> b < n -> g a = g b -> a = b)
    (h1 : ∀ x, x < n -> f (g x) = x) (h2 : ∀ x, x < n -> g (f x) = x) : (∀ x, x < n -> (compS f n).1 x = (compS g n).1 x) ∧ (compS f n).2 = (compS g n).2 := by
  have A := comp_all h8 hf fi
  have B := comp_all h8 hg gi
  have fa : ∀ x, x < n -> (compS f n).1 (g x) = (compS f n).1 x := fun x hx => by rw [<- A.cl _ (hg x hx), h1 x hx]
  have gb : ∀ x, x < n -> (compS g n).1 (f x) = (compS g n).1 x := fun x hx => by rw [<- B.cl _ (hf x hx), h2 x hx]
  have eq := labels_unique (fun x hx => (A.bd x hx).1) (fun x hx => (B.bd x hx).1) (fun x hx c hc => comp_rg h8 hf fi hx hc) (fun x hx c hc => comp_rg h8 hg gi hx hc) fun x y hx hy => ⟨fun e => by
      obtain ⟨s, i, j, s1, s2, s3⟩ := A.rt x y hx hy e
      rw [<- s2, <- s3, itN_same hf gb s1, itN_same hf gb s1], fun e => by
      obtain ⟨s, i, j, s1, s2, s3⟩ := B.rt x y hx hy e
      rw [<- s2, <- s3, itN_same hg fa s1, itN_same hg fa s1]⟩
  refine ⟨eq, ?_⟩
  have na := (compS_inv hf).nn
  have nb := (compS_inv hg).nn
  have := count_labels (k := (compS g n).2.toNat) (L := fun x => ((compS g n).1 x).toNat) h8 hf fi (fun x hx => by have := B.bd x hx; show ((compS g n).1 x).toNat < _; omega) (fun x hx => by show ((compS g n).1 (f x)).toNat = _; rw [gb x hx])
    (fun x y hx hy e => by
      have e : ((compS g n).1 x).toNat = ((compS g n).1 y).toNat := e
      have b1 := B.bd x hx
      have b2 := B.bd y hy
      exact A.rt x y hx hy (by rw [eq x hx, eq y hy]; omega))
    (fun c hc => by obtain ⟨x, x1, x2⟩ := B.su c (by omega); exact ⟨x, x1, by show ((compS g n).1 x).toNat = c; rw [x2]; rfl⟩)
  omega
theorem comp_exchange {n : Nat} {X O : Nat -> Int} (g : GridP n X O) (hX : ∀ j, 0 <= X j) (hO : ∀ j, 0 <= O j) : (∀ x, x < n -> (compS (nxtC n O X) n).1 x = (compS (nxtC n X O) n).1 x) ∧ (compS (nxtC n O X) n).2 = (compS (nxtC n X O) n).2 :=
  comp_back g.hi (nxtC_lt g.swap hO hX) (nxtC_inj g.swap hO hX) (nxtC_lt g hX hO) (nxtC_inj g hX hO) (fun _ hx => prevC_nxt g hX hO hx) (fun _ hx => prevC_nxt g.swap hO hX hx)
end
end Go.AM
namespace Go.AM
section
theorem comp_turn {n : Nat} {X O : Nat -> Int} (g : GridP n X O) (hX : ∀ j, 0 <= X j) (hO : ∀ j, 0 <= O j) : (compS (nxtC n (turnS n X O).1 (turnS n X O).2) n).2 = (compS (nxtC n X O) n).2 := by
  obtain ⟨t1, t2, t3⟩ := turn_grid g hX hO
  obtain ⟨p1, p2⟩ := turnS_parts n X O
  have h1 := (turn_half g.po hO p1).1
  have h2 := (turn_half g.px hX p2).1
  refine (count_conj (σ := fun i => n - 1 - (X i).toNat) (τ := fun c => rowOf n X (n - 1 - c)) g.hi (nxtC_lt g hX hO) (nxtC_inj g hX hO) (nxtC_lt t1 t2 t3) (nxtC_inj t1 t2 t3) (fun i hi => ?_) (fun c hc => ?_) (fun i hi => ?_)).symm
  · have b := g.bdX hX hi
    exact ⟨by omega, rowOf_eq g.px hX hi (by omega)⟩
  · obtain ⟨r1, r2⟩ := rowOf_spec g.px hX (r := n - 1 - c) (by omega)
    exact ⟨r1, by show n - 1 - (X (rowOf n X (n - 1 - c))).toNat = c; rw [r2]; omega⟩
  · have b := g.bdX hX hi
    have bo := g.swap.bdX hO hi
    obtain ⟨q1, q2, q3⟩ : nxtC n X O i < n ∧ nxtC n X O i ≠ i ∧ X (nxtC n X O i) = O i := by
      obtain ⟨h1, h2⟩ := rowOf_spec g.px hX (r := (O i).toNat) (by omega)
      have h3 : X (nxtC n X O i) = O i := by unfold nxtC; rw [h2]; omega
      exact ⟨h1, fun e => by rw [e] at h3; exact g.ne i hi h3, h3⟩
    have e1 : (turnS n X O).2 (n - 1 - (X i).toNat) = i := by
      rw [h2 _ (by omega), rowOf_eq g.px hX hi (by omega)]
    have e2 : (turnS n X O).1 (n - 1 - (O i).toNat) = i := by
      rw [h1 _ (by omega), rowOf_eq g.po hO hi (by omega)]
    show n - 1 - (X (nxtC n X O i)).toNat = rowOf n (turnS n X O).1 ((turnS n X O).2 (n - 1 - (X i).toNat)).toNat
    rw [e1, q3, Int.toNat_natCast, rowOf_eq t1.px t2 (by omega : n - 1 - (O i).toNat < n) e2]
theorem roll_parts (n : Nat) (X O : Nat -> Int) (v u : Int) : (rollP n X O v u).1 = iter (fun i s => upd s (((i : Int) + u) % (n : Int)).toNat (wrapU .u8 ((X i + v) % (n : Int)))) n 0 (fun _ => 0) ∧ (rollP n X O v u).2 = iter (fun i s => upd s (((i : Int) + u) % (n : Int)).toNat (wrapU .u8 ((O i + v) % (n : Int)))) n 0 (fun _ => 0) := by
  have key : ∀ (d i : Nat) (s : (Nat -> Int) × (Nat -> Int)), (iter (rollF n X O v u) d i s).1 = iter (fun i s => upd s (((i : Int) + u) % (n : Int)).toNat (wrapU .u8 ((X i + v) % (n : Int)))) d i s.1 ∧ (iter (rollF n X O v u) d i s).2 = iter (fun i s => upd s (((i : Int) + u) % (n : Int)).toNat (wrapU .u8 ((O i + v) % (n : Int)))) d i s.2 := by
    intro d
    induction d with
    | zero => exact fun i s => ⟨rfl, rfl⟩
    | succ d ih => exact fun i s => ih (i + 1) _
  exact key n 0 _
theorem emod_inj {n : Nat} {a b : Nat} {u : Int} (ha : a < n) (hb : b < n) (e : ((a : Int) + u) % (n : Int) = ((b : Int) + u) % (n : Int)) : a = b := by
  have h1 := Int.emod_emod_of_dvd ((a : Int) + u - u) (Int.dvd_refl (n : Int))
  have h2 : (((a : Int) + u) - u) % (n : Int) = (((b : Int) + u) - u) % (n : Int) := by rw [Int.sub_emod, e, <- Int.sub_emod]
  rw [show (a : Int) + u - u = a by omega, show (b : Int) + u - u = b by omega, Int.emod_eq_of_lt (by omega) (by omega), Int.emod_eq_of_lt (by omega) (by omega)] at h2
  omega
theorem roll_half {n : Nat} (h1 : 1 <= n) (h8 : n <= 8) (Y : Nat -> Int) (v u : Int) {s : Nat -> Int} (hs : s = iter (fun i s => upd s (((i : Int) + u) % (n : Int)).toNat (wrapU .u8 ((Y i + v) % (n : Int)))) n 0 (fun _ => 0)) :
    (∀ i, i < n -> s (((i : Int) + u) % (n : Int)).toNat = (Y i + v) % (n : Int)) ∧ ∀ j, n <= j -> s j = 0 := by
  have key := iter_inv (f := fun i (s : Nat -> Int) => upd s (((i : Int) + u) % (n : Int)).toNat (wrapU .u8 ((Y i + v) % (n : Int)))) (n := n) (I := fun d s => (∀ i, i < d -> s (((i : Int) + u) % (n : Int)).toNat = (Y i + v) % (n : Int)) ∧ ∀ j, n <= j -> s j = 0) (fun d s hd ⟨a, b⟩ => by
    have bd := emod_bd ((d : Int) + u) (show (0 : Int) < n by omega)
    have bv := emod_bd (Y d + v) (show (0 : Int) < n by omega)
    have w : wrapU .u8 ((Y d + v) % (n : Int)) = (Y d + v) % (n : Int) := by
      show (Y d + v) % (n : Int) % 256 = _
      exact Int.emod_eq_of_lt bv.1 (by omega)
    refine ⟨fun i hi => ?_, fun j hj => ?_⟩
    · have bi := emod_bd ((i : Int) + u) (show (0 : Int) < n by omega)
      rw [upd_at]
      by_cases e : (((i : Int) + u) % (n : Int)).toNat = (((d : Int) + u) % (n : Int)).toNat
      · have := emod_inj (n := n) (u := u) (by omega : i < n) hd (by omega)
        rw [if_pos e, w, this]
      · rw [if_neg e]
        refine a i ?_
        rcases Nat.lt_or_ge i d with h | h
        · exact h
        · exact absurd (by rw [show i = d by omega]) e
    · rw [upd_at, if_neg (by omega)]; exact b j hj) n 0 (fun _ => 0) (by omega) ⟨fun i hi => by omega, fun _ _ => rfl⟩
  rw [Nat.zero_add, <- hs] at key
  exact key
end
end Go.AM
namespace Go.AM
section
def shN (n : Nat) (u : Int) (i : Nat) : Nat := (((i : Int) + u) % (n : Int)).toNat
theorem shN_val {n : Nat} (h1 : 1 <= n) (u : Int) (i : Nat) : (shN n u i : Int) = ((i : Int) + u) % (n : Int) := by
  have b := emod_bd ((i : Int) + u) (show (0 : Int) < n by omega)
  unfold shN
  omega
theorem shN_lt {n : Nat} (h1 : 1 <= n) (u : Int) (i : Nat) : shN n u i < n := by
  have b := emod_bd ((i : Int) + u) (show (0 : Int) < n by omega)
  have := shN_val h1 u i
  omega
theorem emod_back {n : Nat} {a u : Int} (h0 : 0 <= a) (h1 : a < n) : ((a + u) % (n : Int) + -u) % (n : Int) = a := by
  rw [Int.emod_add_emod, show a + u + -u = a by omega, Int.emod_eq_of_lt h0 h1]
theorem shN_back {n : Nat} (h1 : 1 <= n) {u : Int} {i : Nat} (hi : i < n) : shN n (-u) (shN n u i) = i := by
  have e := shN_val h1 (-u) (shN n u i)
  rw [shN_val h1 u i, emod_back (by omega) (by omega)] at e
  omega
theorem shN_back' {n : Nat} (h1 : 1 <= n) {u : Int} {i : Nat} (hi : i < n) : shN n u (shN n (-u) i) = i := by
  have := shN_back h1 (u := -u) hi
  rwa [Int.neg_neg] at this
structure RollP (n : Nat) (X O : Nat -> Int) (v u : Int) (X' O' : Nat -> Int) : Prop where
  x : ∀ i, i < n -> X' (shN n u i) = (X i + v) % (n : Int)
  o : ∀ i, i < n -> O' (shN n u i) = (O i + v) % (n : Int)
  xz : ∀ j, n <= j -> X' j = 0
  oz : ∀ j, n <= j -> O' j = 0
theorem rollP_is {n : Nat} (h1 : 1 <= n) (h8 : n <= 8) (X O : Nat -> Int) (v u : Int) : RollP n X O v u (rollP n X O v u).1 (rollP n X O v u).2 := by
  obtain ⟨p1, p2⟩ := roll_parts n X O v u
  have a := roll_half h1 h8 X v u p1
  have b := roll_half h1 h8 O v u p2
  exact ⟨a.1, b.1, a.2, b.2⟩
theorem emod_inj' {n : Nat} {a b v : Int} (ha : 0 <= a ∧ a < n) (hb : 0 <= b ∧ b < n) (e : (a + v) % (n : Int) = (b + v) % (n : Int)) : a = b := by
  have h := emod_inj (n := n) (a := a.toNat) (b := b.toNat) (u := v) (by omega) (by omega) (by rw [show ((a.toNat : Nat) : Int) = a by omega, show ((b.toNat : Nat) : Int) = b by omega]; exact e)
  omega
theorem roll_nn {n : Nat} {X O X' O' : Nat -> Int} {v u : Int} (h1 : 1 <= n) (r : RollP n X O v u X' O') : ∀ j, 0 <= X' j ∧ 0 <= O' j := by
  intro j
  rcases Nat.lt_or_ge j n with h | h
  · have e := shN_back' h1 (u := u) h
    have l := shN_lt h1 (-u) j
    have a := r.x _ l
    have b := r.o _ l
    rw [e] at a b
    rw [a, b]
    exact ⟨(emod_bd _ (by omega)).1, (emod_bd _ (by omega)).1⟩
  · rw [r.xz j h, r.oz j h]; omega
theorem roll_perm {n : Nat} {X X' : Nat -> Int} {v u : Int} (h1 : 1 <= n) (p : PermP 8 n X) (hX : ∀ j, 0 <= X j) (hx : ∀ i, i < n -> X' (shN n u i) = (X i + v) % (n : Int)) (hz : ∀ j, n <= j -> X' j = 0) : PermP 8 n X' := by
  have at' : ∀ j, j < n -> X' j = (X (shN n (-u) j) + v) % (n : Int) := fun j hj => by
    have := hx _ (shN_lt h1 (-u) j)
    rwa [shN_back' h1 hj] at this
  refine ⟨fun j h _ => hz j h, fun j hj => ?_, fun a b ha hb e => ?_⟩
  · rw [at' j hj]; exact (emod_bd _ (by omega)).2
  · rw [at' a ha, at' b hb] at e
    have la := shN_lt h1 (-u) a
    have lb := shN_lt h1 (-u) b
    have e2 := emod_inj' ⟨hX _, p.2.1 _ la⟩ ⟨hX _, p.2.1 _ lb⟩ e
    have e3 := p.2.2 _ _ la lb e2
    rw [<- shN_back' h1 (u := u) ha, <- shN_back' h1 (u := u) hb, e3]
theorem roll_grid {n : Nat} {X O X' O' : Nat -> Int} {v u : Int} (g : GridP n X O) (hX : ∀ j, 0 <= X j) (hO : ∀ j, 0 <= O j) (r : RollP n X O v u X' O') : GridP n X' O' := by
  have h1 : 1 <= n := by have := g.lo; omega
  refine ⟨g.lo, g.hi, roll_perm h1 g.px hX r.x r.xz, roll_perm h1 g.po hO r.o r.oz, fun j hj e => ?_⟩
  have l := shN_lt h1 (-u) j
  have a := r.x _ l
  have b := r.o _ l
  rw [shN_back' h1 hj] at a b
  rw [a, b] at e
  exact g.ne _ l (emod_inj' ⟨hX _, g.px.2.1 _ l⟩ ⟨hO _, g.po.2.1 _ l⟩ e)
theorem roll_back {n : Nat} {X O X' O' X2 O2 : Nat -> Int} {v u : Int} (g : GridP n X O) (hX : ∀ j, 0 <= X j) (hO : ∀ j, 0 <= O j) (xz : ∀ j, n <= j -> X j = 0) (oz : ∀ j, n <= j -> O j = 0) (r : RollP n X O v u X' O') (s : RollP n X' O' (-v) (-u) X2 O2) : X2 = X ∧ O2 = O := by
  have h1 : 1 <= n := by have := g.lo; omega
  refine ⟨funext fun j => ?_, funext fun j => ?_⟩
  · rcases Nat.lt_or_ge j n with h | h
    · have a := s.x _ (shN_lt h1 u j)
      rw [shN_back h1 h, r.x j h, emod_back (hX j) (g.px.2.1 j h)] at a
      exact a
    · rw [s.xz j h, xz j h]
  · rcases Nat.lt_or_ge j n with h | h
    · have a := s.o _ (shN_lt h1 u j)
      rw [shN_back h1 h, r.o j h, emod_back (hO j) (g.po.2.1 j h)] at a
      exact a
    · rw [s.oz j h, oz j h]
theorem comp_roll {n : Nat} {X O X' O' : Nat -> Int} {v u : Int} (g : GridP n X O) (hX : ∀ j, 0 <= X j) (hO : ∀ j, 0 <= O j) (r : RollP n X O v u X' O') : (compS (nxtC n X' O') n).2 = (compS (nxtC n X O) n).2 := by
  have h1 : 1 <= n := by have := g.lo; omega
  have g' := roll_grid g hX hO r
  have nn := roll_nn h1 r
  refine (count_conj (σ := shN n u) (τ := shN n (-u)) g.hi (nxtC_lt g hX hO) (nxtC_inj g hX hO) (nxtC_lt g' (fun j => (nn j).1) fun j => (nn j).2) (nxtC_inj g' (fun j => (nn j).1) fun j => (nn j).2) (fun i hi => ⟨shN_lt h1 u i, shN_back h1 hi⟩) (fun i hi => ⟨shN_lt h1 (-u) i, shN_back' h1 hi⟩) (fun i hi => ?_)).symm
  have bo := g.swap.bdX hO hi
  obtain ⟨q1, q2⟩ := rowOf_spec g.px hX (r := (O i).toNat) (by omega)
  have q3 : X (nxtC n X O i) = O i := by unfold nxtC; rw [q2]; omega
  refine (rowOf_eq g'.px (fun j => (nn j).1) (shN_lt h1 u _) ?_).symm
  show X' (shN n u (nxtC n X O i)) = ((O' (shN n u i)).toNat : Int)
  have b := (emod_bd (O i + v) (show (0 : Int) < n by omega)).1
  rw [r.x (nxtC n X O i) q1, q3, r.o i hi]
  omega
end
end Go.AM
namespace Go.AM
section
structure UnH (n m : Nat) (X Y U : Nat -> Int) : Prop where
  l : ∀ i, i < n -> U i = X i
  r : ∀ i, i < m -> U (n + i) = (n : Int) + Y i
  z : ∀ j, n + m <= j -> U j = 0
theorem UnH.r' {n m : Nat} {X Y U : Nat -> Int} (h : UnH n m X Y U) {i : Nat} (h1 : n <= i) (h2 : i < n + m) : U i = (n : Int) + Y (i - n) := by
  have := h.r (i - n) (by omega)
  rwa [show n + (i - n) = i by omega] at this
theorem UnH.nn {n m : Nat} {X Y U : Nat -> Int} (h : UnH n m X Y U) (hX : ∀ j, 0 <= X j) (hY : ∀ j, 0 <= Y j) : ∀ j, 0 <= U j := by
  intro j
  rcases Nat.lt_or_ge j n with a | a
  · rw [h.l j a]; exact hX j
  · rcases Nat.lt_or_ge j (n + m) with b | b
    · rw [h.r' a b]; have := hY (j - n); omega
    · rw [h.z j b]; exact Int.le_refl _
theorem un_perm {n m : Nat} {X Y U : Nat -> Int} (px : PermP 8 n X) (py : PermP 8 m Y) (hX : ∀ j, 0 <= X j) (hY : ∀ j, 0 <= Y j) (h : UnH n m X Y U) : PermP 8 (n + m) U := by
  refine ⟨fun j a _ => h.z j a, fun j hj => ?_, fun a b ha hb e => ?_⟩
  · rcases Nat.lt_or_ge j n with a | a
    · rw [h.l j a]; have := px.2.1 j a; omega
    · rw [h.r' a hj]; have := py.2.1 (j - n) (by omega); omega
  · rcases Nat.lt_or_ge a n with h1 | h1 <;> rcases Nat.lt_or_ge b n with h2 | h2
    · rw [h.l a h1, h.l b h2] at e; exact px.2.2 a b h1 h2 e
    · rw [h.l a h1, h.r' h2 hb] at e; have := px.2.1 a h1; have := hY (b - n); omega
    · rw [h.r' h1 ha, h.l b h2] at e; have := px.2.1 b h2; have := hY (a - n); omega
    · rw [h.r' h1 ha, h.r' h2 hb] at e
      have := py.2.2 (a - n) (b - n) (by omega) (by omega) (by omega)
      omega
theorem un_grid {n m : Nat} {X O Y P U V : Nat -> Int} (g : GridP n X O) (g2 : GridP m Y P) (h8 : n + m <= 8) (hX : ∀ j, 0 <= X j) (hO : ∀ j, 0 <= O j) (hY : ∀ j, 0 <= Y j) (hP : ∀ j, 0 <= P j) (h : UnH n m X Y U) (k : UnH n m O P V) : GridP (n + m) U V := by
  refine ⟨by have := g.lo; omega, h8, un_perm g.px g2.px hX hY h, un_perm g.po g2.po hO hP k, fun j hj e => ?_⟩
  rcases Nat.lt_or_ge j n with a | a
  · rw [h.l j a, k.l j a] at e; exact g.ne j a e
  · rw [h.r' a hj, k.r' a hj] at e; exact g2.ne (j - n) (by omega) (by omega)
theorem un_nxt {n m : Nat} {X O Y P U V : Nat -> Int} (g : GridP n X O) (g2 : GridP m Y P) (h8 : n + m <= 8) (hX : ∀ j, 0 <= X j) (hO : ∀ j, 0 <= O j) (hY : ∀ j, 0 <= Y j) (hP : ∀ j, 0 <= P j) (h : UnH n m X Y U) (k : UnH n m O P V) :
    (∀ i, i < n -> nxtC (n + m) U V i = nxtC n X O i) ∧ ∀ i, i < m -> nxtC (n + m) U V (n + i) = n + nxtC m Y P i := by
  have G := un_grid g g2 h8 hX hO hY hP h k
  have hU := h.nn hX hY
  refine ⟨fun i hi => ?_, fun i hi => ?_⟩
  · have bo := g.swap.bdX hO hi
    obtain ⟨q1, q2⟩ := rowOf_spec g.px hX (r := (O i).toNat) (by omega)
    refine rowOf_eq G.px hU (show nxtC n X O i < n + m by unfold nxtC; omega) ?_
    show U (rowOf n X (O i).toNat) = _
    rw [h.l _ q1, q2, k.l i hi]
  · have bo := g2.swap.bdX hP hi
    obtain ⟨q1, q2⟩ := rowOf_spec g2.px hY (r := (P i).toNat) (by omega)
    refine rowOf_eq G.px hU (show n + nxtC m Y P i < n + m by unfold nxtC; omega) ?_
    show U (n + rowOf m Y (P i).toNat) = _
    rw [h.r _ q1, q2, k.r i hi]
    omega
theorem itN_of {f g : Nat -> Nat} {n : Nat} {s : Nat -> Nat} (hg : ∀ k, k < n -> g k < n) (h : ∀ i, i < n -> f (s i) = s (g i)) {x : Nat} (hx : x < n) : ∀ j, itN f j (s x) = s (itN g j x) := by
  intro j
  induction j with
  | zero => rfl
  | succ j ih => rw [itN, ih, h _ (itN_lt hg hx j)]; rfl
theorem comp_union {n m : Nat} {X O Y P U V : Nat -> Int} (g : GridP n X O) (g2 : GridP m Y P) (h8 : n + m <= 8) (hX : ∀ j, 0 <= X j) (hO : ∀ j, 0 <= O j) (hY : ∀ j, 0 <= Y j) (hP : ∀ j, 0 <= P j) (h : UnH n m X Y U) (k : UnH n m O P V) :
    (compS (nxtC (n + m) U V) (n + m)).2 = (compS (nxtC n X O) n).2 + (compS (nxtC m Y P) m).2 := by
  have G := un_grid g g2 h8 hX hO hY hP h k
  have hU := h.nn hX hY
  have hV := k.nn hO hP
  obtain ⟨e1, e2⟩ := un_nxt g g2 h8 hX hO hY hP h k
  have A := comp_all g.hi (nxtC_lt g hX hO) (nxtC_inj g hX hO)
  have B := comp_all g2.hi (nxtC_lt g2 hY hP) (nxtC_inj g2 hY hP)
  have na := (compS_inv (nxtC_lt g hX hO)).nn
  have nb := (compS_inv (nxtC_lt g2 hY hP)).nn
  have la := nxtC_lt g hX hO
  have lb := nxtC_lt g2 hY hP
  generalize ha : compS (nxtC n X O) n = a at *
  generalize hb : compS (nxtC m Y P) m = b at *
  have key := count_labels (nxt := nxtC (n + m) U V) (n := n + m) (k := a.2.toNat + b.2.toNat) (L := fun x => if x < n then (a.1 x).toNat else a.2.toNat + (b.1 (x - n)).toNat) h8 (nxtC_lt G hU hV) (nxtC_inj G hU hV)
    (fun x hx => ?_) (fun x hx => ?_) (fun x y hx hy e => ?_) (fun c hc => ?_)
  · rw [key]; omega
  · show (if x < n then _ else _) < _
    by_cases h1 : x < n
    · rw [if_pos h1]; have := A.bd x h1; rw [ha] at this; omega
    · rw [if_neg h1]; have := B.bd (x - n) (by omega); rw [hb] at this; omega
  · show (if nxtC (n + m) U V x < n then _ else _) = (if x < n then _ else _)
    by_cases h1 : x < n
    · have := A.cl x h1; rw [ha] at this
      rw [e1 x h1, if_pos h1, if_pos (la x h1), this]
    · have h2 := e2 (x - n) (by omega)
      rw [show n + (x - n) = x by omega] at h2
      have := B.cl (x - n) (by omega); rw [hb] at this
      rw [h2, if_neg h1, if_neg (by omega), show n + nxtC m Y P (x - n) - n = nxtC m Y P (x - n) by omega, this]
  · have ba : ∀ x, x < n -> 0 <= a.1 x ∧ a.1 x < a.2 := fun x h => by have := A.bd x h; rwa [ha] at this
    have bb : ∀ x, x < m -> 0 <= b.1 x ∧ b.1 x < b.2 := fun x h => by have := B.bd x h; rwa [hb] at this
    have ra := A.rt
    have rb := B.rt
    rw [ha] at ra
    rw [hb] at rb
    replace e : (if x < n then (a.1 x).toNat else a.2.toNat + (b.1 (x - n)).toNat) = (if y < n then (a.1 y).toNat else a.2.toNat + (b.1 (y - n)).toNat) := e
    by_cases h1 : x < n <;> by_cases h2 : y < n
    · rw [if_pos h1, if_pos h2] at e
      have := ba x h1
      have := ba y h2
      obtain ⟨s, i, j, hs, f1, f2⟩ := ra x y h1 h2 (by omega)
      refine ⟨s, i, j, by omega, ?_, ?_⟩
      · rw [itN_of (f := nxtC (n + m) U V) (s := fun i => i) la e1 hs i]; exact f1
      · rw [itN_of (f := nxtC (n + m) U V) (s := fun i => i) la e1 hs j]; exact f2
    · rw [if_pos h1, if_neg h2] at e
      have := ba x h1
      omega
    · rw [if_neg h1, if_pos h2] at e
      have := ba y h2
      omega
    · rw [if_neg h1, if_neg h2] at e
      have := bb (x - n) (by omega)
      have := bb (y - n) (by omega)
      obtain ⟨s, i, j, hs, f1, f2⟩ := rb (x - n) (y - n) (by omega) (by omega) (by omega)
      refine ⟨n + s, i, j, by omega, ?_, ?_⟩
      · rw [itN_of (f := nxtC (n + m) U V) (s := fun i => n + i) lb e2 hs i, f1]; omega
      · rw [itN_of (f := nxtC (n + m) U V) (s := fun i => n + i) lb e2 hs j, f2]; omega
  · have sa := A.su
    have sb := B.su
    rw [ha] at sa
    rw [hb] at sb
    by_cases h1 : c < a.2.toNat
    · obtain ⟨x, hx, ex⟩ := sa c (by omega)
      exact ⟨x, by omega, by show (if x < n then _ else _) = c; rw [if_pos hx, ex]; rfl⟩
    · obtain ⟨x, hx, ex⟩ := sb (c - a.2.toNat) (by omega)
      refine ⟨n + x, by omega, ?_⟩
      show (if n + x < n then _ else a.2.toNat + (b.1 (n + x - n)).toNat) = c
      rw [if_neg (by omega), show n + x - n = x by omega, ex]
      omega
end
end Go.AM
namespace Go.AM
section
theorem count_same {f g : Nat -> Nat} {n : Nat} (h8 : n <= 8) (hf : ∀ k, k < n -> f k < n) (fi : ∀ a b, a < n -> b < n -> f a = f b -> a = b) (h : ∀ x, x < n -> g x = f x) : (compS f n).2 = (compS g n).2 :=
  count_conj (σ := fun x => x) (τ := fun x => x) h8 hf fi (fun k hk => by rw [h k hk]; exact hf k hk) (fun a b ha hb e => fi a b ha hb (by rw [<- h a ha, <- h b hb, e])) (fun x hx => ⟨hx, rfl⟩) (fun x hx => ⟨hx, rfl⟩) (fun x hx => (h x hx).symm)
set_option maxRecDepth 100000 in
theorem torus_table : ∀ p : Fin 8, ∀ q : Fin 8, p.val + q.val + 2 <= 8 -> (compS (fun i => (i + (p.val + 1)) % (p.val + 1 + (q.val + 1))) (p.val + 1 + (q.val + 1))).2 = (Nat.gcd (p.val + 1) (q.val + 1) : Int) := by decide
theorem torus_count {p q : Nat} (h1 : 1 <= p) (h2 : 1 <= q) (h8 : p + q <= 8) : (compS (fun i => (i + p) % (p + q)) (p + q)).2 = (Nat.gcd p q : Int) := by
  have := torus_table ⟨p - 1, by omega⟩ ⟨q - 1, by omega⟩ (by show p - 1 + (q - 1) + 2 <= 8; omega)
  simp only [Nat.sub_add_cancel h1, Nat.sub_add_cancel h2] at this
  exact this
structure TorP (p q : Nat) (X O : Nat -> Int) : Prop where
  x : ∀ i, i < p + q -> X i = i
  o : ∀ i, i < p + q -> O i = ((i + p) % (p + q) : Nat)
  xz : ∀ j, p + q <= j -> X j = 0
  oz : ∀ j, p + q <= j -> O j = 0
theorem TorP.nn {p q : Nat} {X O : Nat -> Int} (t : TorP p q X O) : ∀ j, 0 <= X j ∧ 0 <= O j := by
  intro j
  rcases Nat.lt_or_ge j (p + q) with h | h
  · rw [t.x j h, t.o j h]; omega
  · rw [t.xz j h, t.oz j h]; omega
theorem tor_grid {p q : Nat} {X O : Nat -> Int} (h1 : 1 <= p) (h2 : 1 <= q) (h8 : p + q <= 8) (t : TorP p q X O) : GridP (p + q) X O := by
  refine ⟨by omega, h8, ⟨fun j h _ => t.xz j h, fun j h => by rw [t.x j h]; omega, fun a b ha hb e => by rw [t.x a ha, t.x b hb] at e; omega⟩, ⟨fun j h _ => t.oz j h, fun j h => ?_, fun a b ha hb e => ?_⟩, fun j h e => ?_⟩
  · rw [t.o j h]; have := Nat.mod_lt (j + p) (show 0 < p + q by omega); omega
  · rw [t.o a ha, t.o b hb] at e
    have e' : (((a : Int) + p) % ((p + q : Nat) : Int)) = ((b : Int) + p) % ((p + q : Nat) : Int) := by exact_mod_cast e
    exact emod_inj ha hb e'
  · rw [t.x j h, t.o j h] at e
    have e1 : j = (j + p) % (p + q) := by omega
    rcases Nat.lt_or_ge (j + p) (p + q) with l | l
    · rw [Nat.mod_eq_of_lt l] at e1; omega
    · rw [Nat.mod_eq_sub_mod l, Nat.mod_eq_of_lt (by omega)] at e1; omega
theorem tor_nxt {p q : Nat} {X O : Nat -> Int} (h1 : 1 <= p) (h2 : 1 <= q) (h8 : p + q <= 8) (t : TorP p q X O) : ∀ i, i < p + q -> nxtC (p + q) X O i = (i + p) % (p + q) := fun i hi => by
  have l := Nat.mod_lt (i + p) (show 0 < p + q by omega)
  refine rowOf_eq (tor_grid h1 h2 h8 t).px (fun j => (t.nn j).1) l ?_
  rw [t.x _ l, t.o i hi]; omega
theorem comp_torus {p q : Nat} {X O : Nat -> Int} (h1 : 1 <= p) (h2 : 1 <= q) (h8 : p + q <= 8) (t : TorP p q X O) : (compS (nxtC (p + q) X O) (p + q)).2 = (Nat.gcd p q : Int) := by
  have g := tor_grid h1 h2 h8 t
  have hX := fun j => (t.nn j).1
  have hO := fun j => (t.nn j).2
  rw [<- torus_count h1 h2 h8]
  exact count_same h8 (nxtC_lt g hX hO) (nxtC_inj g hX hO) fun x hx => (tor_nxt h1 h2 h8 t x hx).symm
end
end Go.AM
namespace Go.AM
abbrev Mat := Nat -> Nat -> Int
structure TabF (ids : List (Nat × Nat)) (pool : List (List Int)) (R W : Nat) (m : Mat) : Prop where
  len : R <= ids.length
  lt : ∀ i, i < R -> (idAt ids i).1 < pool.length
  sz : ∀ i, i < R -> (idAt ids i).2 = W
  wide : ∀ i, i < R -> (rowAt pool (idAt ids i).1).length = W
  cell : ∀ i j, i < R -> j < W -> (rowAt pool (idAt ids i).1)[j]?.getD 0 = m i j
  inj : ∀ i j, i < R -> j < R -> (idAt ids i).1 = (idAt ids j).1 -> i = j
end Go.AM
namespace Go.AM
section
variable {β : Type}
theorem likeRow (z : β) {N a b c d : Nat} {h0 h1 : List (List Int)} {xs : List Int} (hN : xs.length < N) (hl : xs.length <= 1000) (ha : rowAt h0 a = xs) (hb : rowAt h1 b = xs) (k : Bool -> β) :
    q02h z N a 0 xs.length xs.length c b 0 xs.length xs.length d h0 h1 k = k true := by
  unfold rowAt at ha hb
  unfold q02h
  rw [c_ble (by omega), c_ble (by omega), c_nne rfl]
  exact (up_to_all (L := fun m i => q02g z a 0 xs.length xs.length c b 0 xs.length xs.length d h0 h1 m (i : Int) (k false) (k true)) (n := xs.length) (kt := k true) (kf := k false) (p := fun _ => true)
    (fun m i hi => by
      rw [q02g, q02f]
      simp only [c_and, Int.toNat_natCast, addO_eq, Nat.zero_add, ha, hb]
      simp (disch := omega) only [c_lt, c_le, c_blt, c_ble, c_beq, c_fits, c_nne]
      rfl)
    (fun m => by
      rw [q02g, q02f]
      simp (disch := omega) only [c_ble, c_nlt]) xs.length N 0 (by omega) hN).trans (by rw [(allFrom_iff xs.length 0).2 fun _ _ _ => rfl]; rfl)
theorem rows5_nil (z : β) {N : Nat} (hN : 0 < N) (k : Bool -> β) : q02e z N k = k true := by
  obtain ⟨N, rfl⟩ : ∃ M, N = M + 1 := ⟨N - 1, by omega⟩
  rfl
end
end Go.AM
namespace Go.AM
section
variable {β : Type}
def colsTo (h : Nat -> Int) (i k : Nat) : List Int := ((List.range i).filter (fun j => decide (h j = (k : Int)))).map Int.ofNat
theorem colsTo_succ (h : Nat -> Int) (i k : Nat) : colsTo h (i + 1) k = if h i = (k : Int) then colsTo h i k ++ [(i : Int)] else colsTo h i k := by
  unfold colsTo
  rw [List.range_succ, List.filter_append, List.map_append]
  by_cases e : h i = (k : Int)
  · rw [if_pos e, List.filter_cons_of_pos (by simpa using e)]; rfl
  · rw [if_neg e, List.filter_cons_of_neg (by simpa using e)]; simp
theorem colsTo_len (h : Nat -> Int) (i k : Nat) : (colsTo h i k).length <= i := by
  unfold colsTo
  rw [List.length_map]
  have := List.length_filter_le (fun j => decide (h j = (k : Int))) (List.range i)
  rwa [List.length_range] at this
theorem colsTo_congr {h h' : Nat -> Int} {i k : Nat} (e : ∀ j, j < i -> h j = h' j) : colsTo h i k = colsTo h' i k := by
  unfold colsTo
  rw [List.filter_congr (q := fun j => decide (h' j = (k : Int))) fun j hj => by rw [e j (List.mem_range.1 hj)]]
def tabTo (h : Nat -> Int) (m i : Nat) : List (List Int) := (List.range m).map (colsTo h i)
def idsTo (h : Nat -> Int) (m i : Nat) : List (Nat × Nat) := (List.range m).map (fun k => (k, (colsTo h i k).length))
theorem range_get {α : Type} {f : Nat -> α} {m c : Nat} (hc : c < m) (d : α) : ((List.range m).map f)[c]?.getD d = f c := by
  rw [List.getElem?_map, List.getElem?_range hc]; rfl
theorem range_set {α : Type} {f g : Nat -> α} {m c : Nat} {v : α} (hc : c < m) (hv : g c = v) (hg : ∀ k, k < m -> k ≠ c -> g k = f k) : ((List.range m).map f).set c v = (List.range m).map g := by
  apply List.ext_getElem
  · simp
  · intro j h1 h2
    simp at h1 h2
    rw [List.getElem_set]
    by_cases e : c = j
    · subst e; simp [hv]
    · rw [if_neg e]; simp [hg j h1 (Ne.symm e)]
theorem i_ComponentsOf_1_l0_val (z : β) {N : Nat} (hN : 8 < N) {n m : Nat} (h8 : n <= 8) (hm : m <= 8) {X O h : Nat -> Int} (hb : ∀ i, i < n -> 0 <= h i ∧ h i < m) (k0 : List (List Int) -> List (Nat × Nat) -> β) :
    q02o z m m m n n X O h N 0 (tabTo h m 0) (idsTo h m 0) k0 = k0 (tabTo h m n) (idsTo h m n) := by
  have key := up_to_ex (L := fun M i (s : List (List Int) × List (Nat × Nat)) => q02o z m m m n n X O h M (i : Int) s.1 s.2 k0) (n := n) (out := fun s => k0 s.1 s.2) (I := fun i s => s = (tabTo h m i, idsTo h m i))
    (fun i s hi I => ?_) (fun M s I => by
      subst I
      rw [q02o, q02n]
      simp (disch := omega) only [c_nlt]) n N 0 (tabTo h m 0, idsTo h m 0) (by omega) (by omega) rfl
  · obtain ⟨s', e1, e2⟩ := key
    rw [e2] at e1
    exact e1
  · subst I
    refine ⟨(tabTo h m (i + 1), idsTo h m (i + 1)), fun M => ?_, rfl⟩
    have b := hb i hi
    obtain ⟨c, hc⟩ : ∃ c : Nat, h i = c := ⟨(h i).toNat, by omega⟩
    have hcm : c < m := by omega
    have l := colsTo_len h i c
    have li : (idsTo h m i).length = m := by simp [idsTo]
    have lt : (tabTo h m i).length = m := by simp [tabTo]
    have gi : (idsTo h m i)[c]?.getD (0, 0) = (c, (colsTo h i c).length) := range_get hcm _
    have gt : (tabTo h m i)[c]?.getD [] = colsTo h i c := range_get hcm _
    have st : (tabTo h m i).set c (colsTo h i c ++ [(i : Int)]) = tabTo h m (i + 1) := range_set hcm (by rw [colsTo_succ, if_pos hc]) fun k hk e => by rw [colsTo_succ, if_neg (by omega)]
    have si : (idsTo h m i).set c (c, (colsTo h i c).length + 1) = idsTo h m (i + 1) := range_set hcm (by rw [colsTo_succ, if_pos hc, List.length_append]; rfl) fun k hk e => by rw [colsTo_succ, if_neg (by omega)]
    have fr : fromTo ((List.replicate 1 (0 : Int)).set 0 (i : Int)) 0 1 = [(i : Int)] := rfl
    have la : (colsTo h i c ++ [(i : Int)]).length = (colsTo h i c).length + 1 := by rw [List.length_append]; rfl
    show q02o z m m m n n X O h (M + 1) (i : Int) (tabTo h m i) (idsTo h m i) k0 = q02o z m m m n n X O h M ((i + 1 : Nat) : Int) (tabTo h m (i + 1)) (idsTo h m (i + 1)) k0
    rw [q02o, q02n]
    simp only [c_and, Int.toNat_natCast, hc, gi, gt, fr, st, si]
    simp (disch := omega) only [c_lt, c_le, c_blt, c_beq, c_ble, c_nble, c_fits, c_true, li, la]
    rfl
theorem i_ComponentsOf_val (z : β) {N : Nat} (hN : 8 < N) {n : Nat} {X O : Nat -> Int} (g : GridP n X O) (hX : ∀ j, 0 <= X j) (hO : ∀ j, 0 <= O j) (k0 : Int -> β) (k1 : Nat -> Nat -> Nat -> Int -> List (Nat × Nat) -> List (List Int) -> β) :
    q02r z N n X O k0 k1 = k1 (compS (nxtC n X O) n).2.toNat (compS (nxtC n X O) n).2.toNat (compS (nxtC n X O) n).2.toNat 0 (idsTo (compS (nxtC n X O) n).1 (compS (nxtC n X O) n).2.toNat n) (tabTo (compS (nxtC n X O) n).1 (compS (nxtC n X O) n).2.toNat n) := by
  have h8 := g.hi
  have I := compS_inv (nxtC_lt g hX hO)
  have A := comp_all g.hi (nxtC_lt g hX hO) (nxtC_inj g hX hO)
  have bd := A.bd
  have nn := I.nn
  have le := I.le
  unfold q02r q02q
  rw [i_IsGrid_val z hN _ _ _ hX hO, gridB_iff.2 ⟨n, rfl, g⟩]
  simp only [Bool.not_true, cond_false]
  unfold q02p q008
  rw [i_Grid_component_val z hN g hX hO]
  generalize compS (nxtC n X O) n = s at *
  obtain ⟨h, c⟩ := s
  obtain ⟨m, rfl⟩ : ∃ m : Nat, c = m := ⟨c.toNat, by omega⟩
  simp only [Int.toNat_natCast, c_and]
  simp (disch := omega) only [c_le, c_true]
  have e0 : tabTo (fun j => if j < n then h j else 0) m 0 = List.replicate m [] := by
    unfold tabTo colsTo
    simp [List.map_const']
  have e1 : idsTo (fun j => if j < n then h j else 0) m 0 = List.map (fun i => (i, 0)) (List.range m) := rfl
  rw [<- e0, <- e1, i_ComponentsOf_1_l0_val z hN h8 (by omega) (fun i hi => by rw [if_pos hi]; exact bd i hi)]
  have ec : colsTo (fun j => if j < n then h j else 0) n = colsTo h n := funext fun k => colsTo_congr fun j hj => if_pos hj
  unfold tabTo idsTo
  simp only [ec]
theorem i_ComponentsOf_bad (z : β) {N : Nat} (hN : 8 < N) {n : Int} {X O : Nat -> Int} (hX : ∀ j, 0 <= X j) (hO : ∀ j, 0 <= O j) (hb : gridB n X O = false) (k0 : Int -> β) (k1 : Nat -> Nat -> Nat -> Int -> List (Nat × Nat) -> List (List Int) -> β) : q02r z N n X O k0 k1 = k0 1 := by
  unfold q02r q02q
  rw [i_IsGrid_val z hN _ _ _ hX hO, hb]
  rfl
theorem s_ComponentsOf_l1_val (z : β) {N : Nat} (hN : 8 < N) {n : Nat} (h8 : n <= 8) {cnt : Int} {a b c k : Nat} {X O h : Nat -> Int} {h2 : List (List Int)} {h3 : List (Nat × Nat)} (k0 : Nat -> Nat -> Nat -> List Int -> β) :
    q02t z cnt a b c k n X O h h2 h3 N 0 0 0 0 (List.replicate 0 0) k0 = k0 (colsTo h n k).length (colsTo h n k).length (colsTo h n k).length (colsTo h n k) := by
  have key := up_to_ex (L := fun M i (s : Nat × List Int) => q02t z cnt a b c k n X O h h2 h3 M s.1 s.1 s.1 (i : Int) s.2 k0) (n := n) (out := fun s => k0 s.1 s.1 s.1 s.2) (I := fun i s => s = ((colsTo h i k).length, colsTo h i k))
    (fun i s hi I => ?_) (fun M s I => by
      subst I
      rw [q02t, q02s]
      simp (disch := omega) only [c_nlt]) n N 0 (0, []) (by omega) (by omega) rfl
  · obtain ⟨s', e1, e2⟩ := key
    rw [e2] at e1
    exact e1
  · subst I
    refine ⟨((colsTo h (i + 1) k).length, colsTo h (i + 1) k), fun M => ?_, rfl⟩
    have l := colsTo_len h i k
    have fr : fromTo ((List.replicate 1 (0 : Int)).set 0 (i : Int)) 0 1 = [(i : Int)] := rfl
    have la : (colsTo h i k ++ [(i : Int)]).length = (colsTo h i k).length + 1 := by rw [List.length_append]; rfl
    show q02t z cnt a b c k n X O h h2 h3 (M + 1) (colsTo h i k).length (colsTo h i k).length (colsTo h i k).length (i : Int) (colsTo h i k) k0 = q02t z cnt a b c k n X O h h2 h3 M (colsTo h (i + 1) k).length (colsTo h (i + 1) k).length (colsTo h (i + 1) k).length ((i + 1 : Nat) : Int) (colsTo h (i + 1) k) k0
    rw [q02t, q02s, colsTo_succ]
    simp only [c_and, Int.toNat_natCast, fr]
    simp (disch := omega) only [c_lt, c_le, c_blt]
    by_cases e : h i = (k : Int)
    · rw [if_pos e]
      simp (disch := omega) only [c_eq, c_beq, c_ble, c_nble, c_fits, c_true, la]
      rfl
    · rw [if_neg e]
      simp (disch := omega) only [c_neq, c_fits]
      rfl
theorem s_ComponentsOf_l0_val (z : β) {N : Nat} (hN : 8 < N) {n m : Nat} (h8 : n <= 8) (hm : m <= 8) {X O h : Nat -> Int} (k0 : Nat -> Nat -> Nat -> List (List Int) -> List (Nat × Nat) -> β) :
    q02v z N m n X O h N 0 0 0 0 (List.replicate 0 []) (List.map (fun i => (i, 0)) (List.range 0)) k0 = k0 m m m (tabTo h m n) (idsTo h m n) := by
  have key := up_to_ex (L := fun M i (s : Nat × List (List Int) × List (Nat × Nat)) => q02v z N m n X O h M s.1 s.1 s.1 (i : Int) s.2.1 s.2.2 k0) (n := m) (out := fun s => k0 s.1 s.1 s.1 s.2.1 s.2.2) (I := fun i s => s = (i, tabTo h i n, idsTo h i n))
    (fun i s hi I => ?_) (fun M s I => by
      subst I
      rw [q02v, q02u]
      simp (disch := omega) only [c_nlt]) m N 0 (0, [], []) (by omega) (by omega) rfl
  · obtain ⟨s', e1, e2⟩ := key
    rw [e2] at e1
    exact e1
  · subst I
    refine ⟨(i + 1, tabTo h (i + 1) n, idsTo h (i + 1) n), fun M => ?_, rfl⟩
    have l := colsTo_len h n i
    have li : (idsTo h i n).length = i := by simp [idsTo]
    have lt : (tabTo h i n).length = i := by simp [tabTo]
    have st : tabTo h i n ++ [colsTo h n i] = tabTo h (i + 1) n := by unfold tabTo; rw [List.range_succ, List.map_append]; rfl
    have si : idsTo h i n ++ [(i, (colsTo h n i).length)] = idsTo h (i + 1) n := by unfold idsTo; rw [List.range_succ, List.map_append]; rfl
    have ln : (idsTo h (i + 1) n).length = i + 1 := by simp [idsTo]
    show q02v z N m n X O h (M + 1) i i i (i : Int) (tabTo h i n) (idsTo h i n) k0 = q02v z N m n X O h M (i + 1) (i + 1) (i + 1) ((i + 1 : Nat) : Int) (tabTo h (i + 1) n) (idsTo h (i + 1) n) k0
    rw [q02v, q02u]
    simp (disch := omega) only [c_lt, s_ComponentsOf_l1_val z hN h8, c_and, c_beq, c_true, c_ble, c_nble, c_fits, li, lt, st, si, ln]
    rfl
theorem s_ComponentsOf_val (z : β) {N : Nat} (hN : 8 < N) {n : Nat} {X O : Nat -> Int} (g : GridP n X O) (hX : ∀ j, 0 <= X j) (hO : ∀ j, 0 <= O j) (k0 : Int -> β) (k1 : Nat -> Nat -> Nat -> Int -> List (Nat × Nat) -> List (List Int) -> β) :
    q02w z N n X O k0 k1 = k1 (compS (nxtC n X O) n).2.toNat (compS (nxtC n X O) n).2.toNat (compS (nxtC n X O) n).2.toNat 0 (idsTo (compS (nxtC n X O) n).1 (compS (nxtC n X O) n).2.toNat n) (tabTo (compS (nxtC n X O) n).1 (compS (nxtC n X O) n).2.toNat n) := by
  have h8 := g.hi
  have I := compS_inv (nxtC_lt g hX hO)
  have nn := I.nn
  have le := I.le
  unfold q02w
  rw [s_l01Is_val z hN _ _ _ hX hO, gridB_iff.2 ⟨n, rfl, g⟩]
  simp only [Bool.not_true, cond_false]
  rw [s_l01Components_val z hN g hX hO]
  generalize compS (nxtC n X O) n = s at *
  obtain ⟨h, c⟩ := s
  obtain ⟨m, rfl⟩ : ∃ m : Nat, c = m := ⟨c.toNat, by omega⟩
  rw [s_ComponentsOf_l0_val z hN h8 (by omega)]
  rfl
theorem s_ComponentsOf_bad (z : β) {N : Nat} (hN : 8 < N) {n : Int} {X O : Nat -> Int} (hX : ∀ j, 0 <= X j) (hO : ∀ j, 0 <= O j) (hb : gridB n X O = false) (k0 : Int -> β) (k1 : Nat -> Nat -> Nat -> Int -> List (Nat × Nat) -> List (List Int) -> β) : q02w z N n X O k0 k1 = k0 1 := by
  unfold q02w
  rw [s_l01Is_val z hN _ _ _ hX hO, hb]
  rfl
theorem tabTo_tab (h : Nat -> Int) (m n : Nat) : TabP (idsTo h m n) (tabTo h m n) (tabTo h m n) := by
  have li : (idsTo h m n).length = m := by simp [idsTo]
  have lt : (tabTo h m n).length = m := by simp [tabTo]
  have gi : ∀ c, c < m -> idAt (idsTo h m n) c = (c, (colsTo h n c).length) := fun c hc => range_get hc _
  have gt : ∀ c, c < m -> rowAt (tabTo h m n) c = colsTo h n c := fun c hc => range_get hc _
  refine ⟨by omega, fun i hi => ?_, fun i hi => ?_, fun i hi => ?_, fun i j hi hj e => ?_⟩
  · rw [gi i (by omega), lt]; show i < m; omega
  · rw [gi i (by omega), gt i (by omega)]
  · rw [gi i (by omega)]
  · rw [gi i (by omega), gi j (by omega)] at e; exact e
theorem tabTo_small {N : Nat} (hN : 8 < N) {h : Nat -> Int} {m n : Nat} (hm : m <= 8) (h8 : n <= 8) : SmallT N (tabTo h m n) := by
  have lt : (tabTo h m n).length = m := by simp [tabTo]
  have gt : ∀ c, c < m -> rowAt (tabTo h m n) c = colsTo h n c := fun c hc => range_get hc _
  refine ⟨by omega, fun i hi => ?_⟩
  rw [gt i (by omega)]
  have := colsTo_len h n i
  omega
end
end Go.AM
namespace Go.AM
section
variable {β : Type}
def behF (n : Nat) (Y : Nat -> Int) (i : Nat) (s : Nat -> Int) : Nat -> Int := upd s (n + i) (wrapU .u8 ((n : Int) + Y i))
def behP (n m : Nat) (X Y : Nat -> Int) : Nat -> Int := iter (behF n Y) m 0 X
theorem behP_is {n m : Nat} (h8 : n + m <= 8) {X Y : Nat -> Int} (xz : ∀ j, n <= j -> X j = 0) (hY : ∀ j, j < m -> 0 <= Y j ∧ Y j < 8) : UnH n m X Y (behP n m X Y) := by
  have key := iter_inv (f := behF n Y) (n := m) (I := fun d s => (∀ i, i < n -> s i = X i) ∧ (∀ i, i < d -> s (n + i) = (n : Int) + Y i) ∧ ∀ j, n + d <= j -> s j = 0) (fun d s hd ⟨a, b, c⟩ => by
    have y := hY d hd
    have w : wrapU .u8 ((n : Int) + Y d) = (n : Int) + Y d := by
      show ((n : Int) + Y d) % 256 = _
      omega
    unfold behF
    refine ⟨fun i hi => ?_, fun i hi => ?_, fun j hj => ?_⟩
    · rw [upd_at, if_neg (by omega)]; exact a i hi
    · rw [upd_at, w]
      by_cases e : i = d
      · subst e; rw [if_pos rfl]
      · rw [if_neg (by omega)]; exact b i (by omega)
    · rw [upd_at, if_neg (by omega)]; exact c j (by omega)) m 0 X (by omega) ⟨fun _ _ => rfl, fun i hi => by omega, fun j hj => xz j (by omega)⟩
  rw [Nat.zero_add] at key
  exact ⟨key.1, key.2.1, key.2.2⟩
theorem beh_parts (n m : Nat) (X O Y P : Nat -> Int) : ∀ d i (s : (Nat -> Int) × (Nat -> Int)), iter (fun i (s : (Nat -> Int) × (Nat -> Int)) => (behF n Y i s.1, behF n P i s.2)) d i s = (iter (behF n Y) d i s.1, iter (behF n P) d i s.2) := by
  intro d
  induction d with
  | zero => exact fun _ _ => rfl
  | succ d ih => exact fun i s => ih (i + 1) _
theorem s_UnionOf_val (z : β) {N : Nat} (hN : 8 < N) {n m : Nat} {X O Y P : Nat -> Int} (g : GridP n X O) (g2 : GridP m Y P) (hX : ∀ j, 0 <= X j) (hO : ∀ j, 0 <= O j) (hY : ∀ j, 0 <= Y j) (hP : ∀ j, 0 <= P j) (k0 : Int -> (Nat -> Int) -> (Nat -> Int) -> Int -> β) :
    q032 z N n X O m Y P k0 = if n + m <= 8 then k0 ((n + m : Nat) : Int) (behP n m X Y) (behP n m O P) 0 else k0 0 (fun _ => 0) (fun _ => 0) 3 := by
  have h8 := g.hi
  have h28 := g2.hi
  unfold q032
  rw [s_l01Is_val z hN _ _ _ hX hO, s_l01Is_val z hN _ _ _ hY hP, gridB_iff.2 ⟨n, rfl, g⟩, gridB_iff.2 ⟨m, rfl, g2⟩]
  simp only [Bool.not_true, cond_false]
  rw [c_fits (by omega)]
  by_cases h : n + m <= 8
  · rw [if_pos h, c_nlt (by omega)]
    refine (up_to (L := fun M i (s : (Nat -> Int) × (Nat -> Int)) => q031 z n n m Y P 0 (fun _ => 0) (fun _ => 0) M (i : Int) s.1 s.2 _) (n := m) (out := fun s => k0 ((n + m : Nat) : Int) s.1 s.2 0) (f := fun i s => (behF n Y i s.1, behF n P i s.2)) (I := fun _ _ => True)
      (fun M i s hi _ => ⟨?_, trivial⟩) (fun M s _ => by simp (disch := omega) only [q031, q030, c_nlt, c_fits]; rfl) m N 0 (X, O) (by omega) (by omega) trivial).trans ?_
    · have w : wrapU .u8 (n : Int) = n := wrap8t (by omega)
      have w2 : ((n : Int) + (i : Int)).toNat = n + i := by omega
      rw [q031, q030]
      simp only [c_and, w, w2, Int.toNat_natCast]
      simp (disch := omega) only [c_lt, c_le, c_blt, c_fits]
      rfl
    · rw [beh_parts n m X O Y P]; rfl
  · rw [if_neg h, c_lt (by omega)]
theorem i_UnionOf_val (z : β) {N : Nat} (hN : 8 < N) {n m : Nat} {X O Y P : Nat -> Int} (g : GridP n X O) (g2 : GridP m Y P) (hX : ∀ j, 0 <= X j) (hO : ∀ j, 0 <= O j) (hY : ∀ j, 0 <= Y j) (hP : ∀ j, 0 <= P j) (k0 : Int -> (Nat -> Int) -> (Nat -> Int) -> Int -> β) :
    q035 z N n X O m Y P k0 = if n + m <= 8 then k0 ((n + m : Nat) : Int) (behP n m X Y) (behP n m O P) 0 else k0 0 (fun _ => 0) (fun _ => 0) 3 := by
  have h8 := g.hi
  have h28 := g2.hi
  unfold q035
  rw [i_IsGrid_val z hN _ _ _ hX hO, i_IsGrid_val z hN _ _ _ hY hP, gridB_iff.2 ⟨n, rfl, g⟩, gridB_iff.2 ⟨m, rfl, g2⟩]
  simp only [Bool.not_true, cond_false]
  rw [c_fits (by omega)]
  by_cases h : n + m <= 8
  · rw [if_pos h, c_nlt (by omega), c_fits (by omega)]
    unfold q008
    refine (up_to (L := fun M i (s : (Nat -> Int) × (Nat -> Int)) => q034 z N m n X O m Y P 0 (fun _ => 0) (fun _ => 0) ((n : Int) + (m : Int)) M (i : Int) s.1 s.2 _) (n := m) (out := fun s => k0 ((n + m : Nat) : Int) s.1 s.2 0) (f := fun i s => (behF n Y i s.1, behF n P i s.2)) (I := fun _ _ => True)
      (fun M i s hi _ => ⟨?_, trivial⟩) (fun M s _ => by simp (disch := omega) only [q034, q033, c_nlt]; rfl) m N 0 (X, O) (by omega) (by omega) trivial).trans ?_
    · have w : wrapU .u8 (n : Int) = n := wrap8t (by omega)
      have w2 : ((n : Int) + (i : Int)).toNat = n + i := by omega
      rw [q034, q033]
      unfold q008
      simp only [c_and, w, w2, Int.toNat_natCast, Int.add_comm (_ : Int) (n : Int)]
      simp (disch := omega) only [c_lt, c_le, c_blt, c_fits]
      rfl
    · rw [beh_parts n m X O Y P]; rfl
  · rw [if_neg h, c_lt (by omega)]
theorem s_UnionOf_bad (z : β) {N : Nat} (hN : 8 < N) {n m : Int} {X O Y P : Nat -> Int} (hX : ∀ j, 0 <= X j) (hO : ∀ j, 0 <= O j) (hY : ∀ j, 0 <= Y j) (hP : ∀ j, 0 <= P j) (hb : gridB n X O = false ∨ gridB m Y P = false) (k0 : Int -> (Nat -> Int) -> (Nat -> Int) -> Int -> β) :
    q032 z N n X O m Y P k0 = k0 0 (fun _ => 0) (fun _ => 0) 1 := by
  unfold q032
  rw [s_l01Is_val z hN _ _ _ hX hO, s_l01Is_val z hN _ _ _ hY hP]
  rcases hb with h | h
  · rw [h]; rfl
  · rw [h]; cases gridB n X O <;> rfl
theorem i_UnionOf_bad (z : β) {N : Nat} (hN : 8 < N) {n m : Int} {X O Y P : Nat -> Int} (hX : ∀ j, 0 <= X j) (hO : ∀ j, 0 <= O j) (hY : ∀ j, 0 <= Y j) (hP : ∀ j, 0 <= P j) (hb : gridB n X O = false ∨ gridB m Y P = false) (k0 : Int -> (Nat -> Int) -> (Nat -> Int) -> Int -> β) :
    q035 z N n X O m Y P k0 = k0 0 (fun _ => 0) (fun _ => 0) 1 := by
  unfold q035
  rw [i_IsGrid_val z hN _ _ _ hX hO, i_IsGrid_val z hN _ _ _ hY hP]
  rcases hb with h | h
  · rw [h]; rfl
  · rw [h]; cases gridB n X O <;> rfl
def torF (p q : Nat) (i : Nat) (s : (Nat -> Int) × (Nat -> Int)) : (Nat -> Int) × (Nat -> Int) := (upd s.1 i (i : Int), upd s.2 i (((i + p) % (p + q) : Nat) : Int))
def torP (p q : Nat) : (Nat -> Int) × (Nat -> Int) := iter (torF p q) (p + q) 0 (fun _ => 0, fun _ => 0)
theorem torP_is (p q : Nat) : TorP p q (torP p q).1 (torP p q).2 := by
  have key := iter_inv (f := torF p q) (n := p + q) (I := fun d s => (∀ i, i < d -> s.1 i = i ∧ s.2 i = ((i + p) % (p + q) : Nat)) ∧ ∀ j, d <= j -> s.1 j = 0 ∧ s.2 j = 0) (fun d s hd ⟨a, b⟩ => by
    unfold torF
    refine ⟨fun i hi => ?_, fun j hj => ?_⟩
    · simp only [upd_at]
      by_cases e : i = d
      · subst e; simp
      · simp only [if_neg e]; exact a i (by omega)
    · simp only [upd_at, if_neg (show ¬j = d by omega)]; exact b j (by omega)) (p + q) 0 (fun _ => 0, fun _ => 0) (by omega) ⟨fun i hi => by omega, fun _ _ => ⟨rfl, rfl⟩⟩
  rw [Nat.zero_add] at key
  exact ⟨fun i hi => (key.1 i hi).1, fun i hi => (key.1 i hi).2, fun j hj => (key.2 j hj).1, fun j hj => (key.2 j hj).2⟩
theorem i_TorusGrid_val (z : β) {N : Nat} (hN : 8 < N) {p q : Nat} (h1 : 1 <= p) (h2 : 1 <= q) (h8 : p + q <= 8) (k0 : Int -> (Nat -> Int) -> (Nat -> Int) -> Int -> β) :
    q03b z N p q k0 = k0 ((p + q : Nat) : Int) (torP p q).1 (torP p q).2 0 := by
  unfold q03b
  rw [i_within_val, i_within_val]
  simp (disch := omega) only [decide_eq_true (show (1 : Int) <= p ∧ (p : Int) <= 8 by omega), decide_eq_true (show (1 : Int) <= q ∧ (q : Int) <= 8 by omega), Bool.not_true, cond_false, c_fits, c_nlt]
  refine up_to (L := fun M i (s : (Nat -> Int) × (Nat -> Int)) => q03a z p q ((p : Int) + q) 0 (fun _ => 0) (fun _ => 0) ((p : Int) + q) M (i : Int) s.1 s.2 _) (n := p + q) (out := fun s => k0 ((p + q : Nat) : Int) s.1 s.2 0) (f := torF p q) (I := fun _ _ => True)
    (fun M i s hi _ => ⟨?_, trivial⟩) (fun M s _ => by simp (disch := omega) only [q03a, q039, c_nlt]; rfl) (p + q) N 0 (fun _ => 0, fun _ => 0) (by omega) (by omega) trivial
  have lt := Nat.mod_lt (i + p) (show 0 < p + q by omega)
  have w : wrapU .u8 (i : Int) = i := wrap8t (by omega)
  have t : ((i : Int) + (p : Int)).tmod ((p : Int) + (q : Int)) = ((i + p) % (p + q) : Nat) := by rw [tmod_pos (by omega)]; exact_mod_cast rfl
  have w2 : wrapU .u8 (((i + p) % (p + q) : Nat) : Int) = ((i + p) % (p + q) : Nat) := wrap8t (by omega)
  rw [q03a, q039]
  simp only [c_and, c_not, w, t, w2, Int.toNat_natCast]
  simp (disch := omega) only [c_lt, c_le, c_blt, c_fits, c_neq]
  rfl
theorem s_TorusGrid_val (z : β) {N : Nat} (hN : 8 < N) {p q : Nat} (h1 : 1 <= p) (h2 : 1 <= q) (h8 : p + q <= 8) (k0 : Int -> (Nat -> Int) -> (Nat -> Int) -> Int -> β) :
    q038 z N p q k0 = k0 ((p + q : Nat) : Int) (torP p q).1 (torP p q).2 0 := by
  unfold q038
  rw [s_l01In_val, s_l01In_val]
  simp (disch := omega) only [decide_eq_true (show (1 : Int) <= p ∧ (p : Int) <= 8 by omega), decide_eq_true (show (1 : Int) <= q ∧ (q : Int) <= 8 - (p : Int) by omega), Bool.not_true, cond_false, c_fits]
  refine up_to (L := fun M i (s : (Nat -> Int) × (Nat -> Int)) => q037 z p q 0 (fun _ => 0) (fun _ => 0) ((p : Int) + q) M (i : Int) s.1 s.2 _) (n := p + q) (out := fun s => k0 ((p + q : Nat) : Int) s.1 s.2 0) (f := torF p q) (I := fun _ _ => True)
    (fun M i s hi _ => ⟨?_, trivial⟩) (fun M s _ => by simp (disch := omega) only [q037, q036, c_nlt, c_fits]; rfl) (p + q) N 0 (fun _ => 0, fun _ => 0) (by omega) (by omega) trivial
  have lt := Nat.mod_lt (i + p) (show 0 < p + q by omega)
  have w : wrapU .u8 (i : Int) = i := wrap8t (by omega)
  have t : ((i : Int) + (p : Int)).tmod ((p : Int) + (q : Int)) = ((i + p) % (p + q) : Nat) := by rw [tmod_pos (by omega)]; exact_mod_cast rfl
  have w2 : wrapU .u8 (((i + p) % (p + q) : Nat) : Int) = ((i + p) % (p + q) : Nat) := wrap8t (by omega)
  rw [q037, q036]
  simp only [c_and, c_not, w, t, w2, Int.toNat_natCast]
  simp (disch := omega) only [c_lt, c_le, c_blt, c_fits, c_neq]
  rfl
theorem i_TorusGrid_bad (z : β) {N : Nat} {p q : Int} (h : ¬(1 <= p ∧ 1 <= q ∧ p + q <= 8)) (k0 : Int -> (Nat -> Int) -> (Nat -> Int) -> Int -> β) : q03b z N p q k0 = k0 0 (fun _ => 0) (fun _ => 0) 2 := by
  unfold q03b
  rw [i_within_val]
  by_cases h1 : 1 <= p ∧ p <= 8
  · rw [decide_eq_true h1, Bool.not_true, cond_false, i_within_val]
    by_cases h2 : 1 <= q ∧ q <= 8
    · rw [decide_eq_true h2, Bool.not_true, cond_false, c_fits (by omega), c_lt (by omega)]
    · rw [decide_eq_false h2]; rfl
  · rw [decide_eq_false h1]; rfl
theorem s_TorusGrid_bad (z : β) {N : Nat} {p q : Int} (h : ¬(1 <= p ∧ 1 <= q ∧ p + q <= 8)) (k0 : Int -> (Nat -> Int) -> (Nat -> Int) -> Int -> β) : q038 z N p q k0 = k0 0 (fun _ => 0) (fun _ => 0) 2 := by
  unfold q038
  rw [s_l01In_val]
  by_cases h1 : 1 <= p ∧ p <= 8
  · rw [decide_eq_true h1, Bool.not_true, cond_false, s_l01In_val, c_fits (by omega)]
    rw [decide_eq_false (by omega)]; rfl
  · rw [decide_eq_false h1]; rfl
theorem s_ShiftGrid_val (z : β) {N : Nat} (hN : 8 < N) {n : Nat} {X O : Nat -> Int} (g : GridP n X O) (hX : ∀ j, 0 <= X j ∧ X j <= 255) (hO : ∀ j, 0 <= O j ∧ O j <= 255) {v u : Int} (hv : -100 <= v ∧ v <= 100) (hu : -100 <= u ∧ u <= 100) (k0 : Int -> (Nat -> Int) -> (Nat -> Int) -> Int -> β) :
    q00l z N n X O v u k0 = k0 n (rollP n X O v u).1 (rollP n X O v u).2 0 := by
  unfold q00l
  rw [s_l01Is_val z hN _ _ _ (fun j => (hX j).1) fun j => (hO j).1, gridB_iff.2 ⟨n, rfl, g⟩, s_l01In_val, s_l01In_val, decide_eq_true hv, decide_eq_true hu]
  simp only [Bool.not_true, cond_false]
  rw [s_l01Rolled_val z hN g.lo g.hi hX hO (by omega) (by omega)]
theorem i_ShiftGrid_val (z : β) {N : Nat} (hN : 8 < N) {n : Nat} {X O : Nat -> Int} (g : GridP n X O) (hX : ∀ j, 0 <= X j ∧ X j <= 255) (hO : ∀ j, 0 <= O j ∧ O j <= 255) {v u : Int} (hv : -100 <= v ∧ v <= 100) (hu : -100 <= u ∧ u <= 100) (k0 : Int -> (Nat -> Int) -> (Nat -> Int) -> Int -> β) :
    q00t z N n X O v u k0 = k0 n (rollP n X O v u).1 (rollP n X O v u).2 0 := by
  have hlo := g.lo
  have hhi := g.hi
  unfold q00t
  rw [i_IsGrid_val z hN _ _ _ (fun j => (hX j).1) fun j => (hO j).1, gridB_iff.2 ⟨n, rfl, g⟩, i_within_val, i_within_val, decide_eq_true hv, decide_eq_true hu]
  simp only [Bool.not_true, cond_false, c_not]
  simp (disch := omega) only [c_fits, c_neq]
  rw [i_Grid_shift_val z hN hlo hhi hX hO hv hu]
theorem s_ShiftGrid_bad (z : β) {N : Nat} (hN : 8 < N) {n : Int} {X O : Nat -> Int} (hX : ∀ j, 0 <= X j) (hO : ∀ j, 0 <= O j) {v u : Int} (h : ¬(gridB n X O = true ∧ (-100 <= v ∧ v <= 100) ∧ -100 <= u ∧ u <= 100)) (k0 : Int -> (Nat -> Int) -> (Nat -> Int) -> Int -> β) :
    q00l z N n X O v u k0 = k0 0 (fun _ => 0) (fun _ => 0) (if gridB n X O = true then 2 else 1) := by
  unfold q00l
  rw [s_l01Is_val z hN _ _ _ hX hO, s_l01In_val, s_l01In_val]
  cases hg : gridB n X O with
  | false => rfl
  | true =>
    by_cases hv : -100 <= v ∧ v <= 100
    · rw [decide_eq_true hv, decide_eq_false (fun hu => h ⟨hg, hv, hu⟩)]; rfl
    · rw [decide_eq_false hv]; rfl
theorem i_ShiftGrid_bad (z : β) {N : Nat} (hN : 8 < N) {n : Int} {X O : Nat -> Int} (hX : ∀ j, 0 <= X j) (hO : ∀ j, 0 <= O j) {v u : Int} (h : ¬(gridB n X O = true ∧ (-100 <= v ∧ v <= 100) ∧ -100 <= u ∧ u <= 100)) (k0 : Int -> (Nat -> Int) -> (Nat -> Int) -> Int -> β) :
    q00t z N n X O v u k0 = k0 0 (fun _ => 0) (fun _ => 0) (if gridB n X O = true then 2 else 1) := by
  unfold q00t
  rw [i_IsGrid_val z hN _ _ _ hX hO, i_within_val, i_within_val]
  cases hg : gridB n X O with
  | false => rfl
  | true =>
    by_cases hv : -100 <= v ∧ v <= 100
    · rw [decide_eq_true hv, decide_eq_false (fun hu => h ⟨hg, hv, hu⟩)]; rfl
    · rw [decide_eq_false hv]; rfl
end
end Go.AM
namespace Go.AM
section
end
end Go.AM
namespace Go.AM
section
structure FrontG (n : Nat) (X O : Nat -> Int) : Prop where
  g : GridP n X O
  x : ∀ j, 0 <= X j
  o : ∀ j, 0 <= O j
end
end Go.AM
namespace Go.AM
section
variable {β : Type}
end
end Go.AM
namespace Go.AM
section
end
end Go.AM
namespace Go.AM
section
end
end Go.AM
namespace Go.AM
section
end
end Go.AM
namespace Go.AM
section
variable {β : Type}
end
end Go.AM
namespace Go.AM
section
variable {β : Type}
end
end Go.AM
namespace Go.AM
section
variable {β : Type}
end
end Go.AM
namespace Go.AM
section
variable {β : Type}
end
end Go.AM
namespace Go.AM
section
variable {β : Type}
end
end Go.AM
namespace Go.AM
section
variable {β : Type}
end
end Go.AM
namespace Go.AM
section
variable {β : Type}
noncomputable def bP (p : Prop) : Bool := @decide p (Classical.propDecidable p)
theorem bP_true {p : Prop} (h : p) : bP p = true := @decide_eq_true p (Classical.propDecidable p) h
theorem cond_some {α : Type} {p : Prop} {x : Option α} {r : α} (h : cond (bP p) x none = some r) : p ∧ x = some r := by
  cases hb : bP p with
  | false => rw [hb] at h; cases h
  | true => rw [hb] at h; exact ⟨@of_decide_eq_true p (Classical.propDecidable p) hb, h⟩
theorem c_bP {p : Prop} (h : p) {x y : β} : cond (bP p) x y = x := by rw [bP_true h]; rfl
structure FrP (N : Nat) (m : Int) (X O : Nat -> Int) (n : Nat) : Prop where
  N : 100 < N
  m : m = n
  g : GridP n X O
  x : Byt X
  o : Byt O
structure FrA (N : Nat) (m : Int) (X O : Nat -> Int) : Prop where
  N : 100 < N
  x : Byt X
  o : Byt O
  g : gridB m X O = false
section grids
variable {z : β} {N n : Nat} {X O : Nat -> Int}
end grids
section bad
variable {z : β} {N : Nat} {m : Int} {X O : Nat -> Int}
end bad
end
end Go.AM
namespace Go.AM
section
variable {β : Type}
def CpG (N : Nat) (m : Int) (X O : Nat -> Int) : Prop := ∃ n : Nat, m = n ∧ 8 < N ∧ GridP n X O ∧ Byt X ∧ Byt O
def CpB (N : Nat) (m : Int) (X O : Nat -> Int) : Prop := 8 < N ∧ gridB m X O = false ∧ Byt X ∧ Byt O
def CpR (v u : Int) : Prop := (-100 <= v ∧ v <= 100) ∧ -100 <= u ∧ u <= 100
def CpS (N : Nat) (m : Int) (X O : Nat -> Int) (v u : Int) : Prop := 8 < N ∧ Byt X ∧ Byt O ∧ ¬(gridB m X O = true ∧ CpR v u)
def CpU (N : Nat) (m : Int) (X O : Nat -> Int) (m' : Int) (Y P : Nat -> Int) : Prop := 8 < N ∧ Byt X ∧ Byt O ∧ Byt Y ∧ Byt P ∧ (gridB m X O = false ∨ gridB m' Y P = false)
def CpT (p q : Int) : Prop := 1 <= p ∧ 1 <= q ∧ p + q <= 8
noncomputable def cpN (m : Int) (X O : Nat -> Int) : Nat := (compS (nxtC m.toNat X O) m.toNat).2.toNat
noncomputable def cpI (m : Int) (X O : Nat -> Int) : List (Nat × Nat) := idsTo (compS (nxtC m.toNat X O) m.toNat).1 (cpN m X O) m.toNat
noncomputable def cpT (m : Int) (X O : Nat -> Int) : List (List Int) := tabTo (compS (nxtC m.toNat X O) m.toNat).1 (cpN m X O) m.toNat
theorem cond_two {α : Type} {p : Prop} {x y : Option α} {r : α} (h : cond (bP p) x y = some r) : (p ∧ x = some r) ∨ y = some r := by
  cases hb : bP p with
  | false => rw [hb] at h; exact .inr h
  | true => rw [hb] at h; exact .inl ⟨@of_decide_eq_true p (Classical.propDecidable p) hb, h⟩
theorem c_nbP {p : Prop} (h : ¬p) {x y : β} : cond (bP p) x y = y := by
  have : bP p = false := @decide_eq_false p (Classical.propDecidable p) h
  rw [this]; rfl
section vals
variable {z : β} {N n : Nat} {X O : Nat -> Int}
theorem cpN_val (g : GridP n X O) (hX : Byt X) (hO : Byt O) : (cpN n X O : Int) = (compS (nxtC n X O) n).2 := by
  have := (compS_inv (nxtC_lt g (fun j => (hX.b j).1) fun j => (hO.b j).1)).nn
  unfold cpN
  rw [Int.toNat_natCast]
  omega
theorem cp_comps_i (hN : 8 < N) (g : GridP n X O) (hX : Byt X) (hO : Byt O) (k0 : Int -> β) (k1 : Nat -> Nat -> Nat -> Int -> List (Nat × Nat) -> List (List Int) -> β) : q02r z N n X O k0 k1 = k1 (cpN n X O) (cpN n X O) (cpN n X O) 0 (cpI n X O) (cpT n X O) :=
  i_ComponentsOf_val z hN g (fun j => (hX.b j).1) (fun j => (hO.b j).1) k0 k1
theorem cp_comps_s (hN : 8 < N) (g : GridP n X O) (hX : Byt X) (hO : Byt O) (k0 : Int -> β) (k1 : Nat -> Nat -> Nat -> Int -> List (Nat × Nat) -> List (List Int) -> β) : q02w z N n X O k0 k1 = k1 (cpN n X O) (cpN n X O) (cpN n X O) 0 (cpI n X O) (cpT n X O) :=
  s_ComponentsOf_val z hN g (fun j => (hX.b j).1) (fun j => (hO.b j).1) k0 k1
theorem cp_knot_i (hN : 8 < N) (g : GridP n X O) (hX : Byt X) (hO : Byt O) (k0 : Bool -> Int -> β) : q02m z N n X O k0 = k0 ((cpN n X O : Int) == 1) 0 := by
  have x := fun j => (hX.b j).1
  have o := fun j => (hO.b j).1
  rw [cpN_val g hX hO]
  unfold q02m q02l q01z
  rw [i_IsGrid_val z hN _ _ _ x o, gridB_iff.2 ⟨n, rfl, g⟩, Bool.not_true, c_false, i_Grid_component_val z hN g x o]
theorem cp_knot_s (hN : 8 < N) (g : GridP n X O) (hX : Byt X) (hO : Byt O) (k0 : Bool -> Int -> β) : q02x z N n X O k0 = k0 ((cpN n X O : Int) == 1) 0 := by
  have x := fun j => (hX.b j).1
  have o := fun j => (hO.b j).1
  rw [cpN_val g hX hO]
  unfold q02x
  rw [s_l01Is_val z hN _ _ _ x o, gridB_iff.2 ⟨n, rfl, g⟩, Bool.not_true, c_false, s_l01Components_val z hN g x o]
theorem cp_turn (hN : 8 < N) (g : GridP n X O) (hX : Byt X) (hO : Byt O) (k0 : Int -> (Nat -> Int) -> (Nat -> Int) -> Int -> β) : q02z z N n X O k0 = k0 n (turnS n X O).1 (turnS n X O).2 0 := by
  have x := fun j => (hX.b j).1
  have o := fun j => (hO.b j).1
  unfold q02z q02y
  rw [i_IsGrid_val z hN _ _ _ x o, gridB_iff.2 ⟨n, rfl, g⟩, Bool.not_true, c_false, i_Grid_quarter_val z hN g x o]
theorem cp_exch (hN : 8 < N) (g : GridP n X O) (hX : Byt X) (hO : Byt O) (k0 : Int -> (Nat -> Int) -> (Nat -> Int) -> Int -> β) : q02k z N n X O k0 = k0 n O X 0 := by
  have x := fun j => (hX.b j).1
  have o := fun j => (hO.b j).1
  unfold q02k q02j q02i
  rw [i_IsGrid_val z hN _ _ _ x o, gridB_iff.2 ⟨n, rfl, g⟩, Bool.not_true, c_false]
end vals
noncomputable def cbb_i_ComponentsOf (z : β) (N : Nat) (g_0 : Int) (g_1 : Nat -> Int) (g_2 : Nat -> Int) (k0 : β) (k1 : Nat -> Nat -> Nat -> List (Nat × Nat) -> List (List Int) -> β) : β := cond (bP (CpB N g_0 g_1 g_2)) k0 (cond (bP (CpG N g_0 g_1 g_2)) (k1 (cpN g_0 g_1 g_2) (cpN g_0 g_1 g_2) (cpN g_0 g_1 g_2) (cpI g_0 g_1 g_2) (cpT g_0 g_1 g_2)) z)
theorem cbb_i_ComponentsOf_mono {α : Type} {N : Nat} {g_0 : Int} {g_1 g_2 : Nat -> Int} {k0 : Int -> Option α} {k1 : Nat -> Nat -> Nat -> Int -> List (Nat × Nat) -> List (List Int) -> Option α} {r : α} (h : cbb_i_ComponentsOf none N g_0 g_1 g_2 (k0 1) (fun a b c p q => k1 a b c 0 p q) = some r) : q02r none N g_0 g_1 g_2 k0 k1 = some r := by
  rcases cond_two h with ⟨⟨hN, hb, hX, hO⟩, hk⟩ | h
  · rw [i_ComponentsOf_bad none hN (fun j => (hX.b j).1) (fun j => (hO.b j).1) hb]; exact hk
  · obtain ⟨⟨n, rfl, hN, g, hX, hO⟩, hk⟩ := cond_some h
    rw [cp_comps_i hN g hX hO]; exact hk
noncomputable def cbb_i_IsKnot (z : β) (N : Nat) (g_0 : Int) (g_1 : Nat -> Int) (g_2 : Nat -> Int) (k0 : β) : β := cond (bP (CpB N g_0 g_1 g_2)) k0 z
theorem cbb_i_IsKnot_mono {α : Type} {N : Nat} {g_0 : Int} {g_1 g_2 : Nat -> Int} {k0 : Bool -> Int -> Option α} {r : α} (h : cbb_i_IsKnot none N g_0 g_1 g_2 (k0 false 1) = some r) : q02m none N g_0 g_1 g_2 k0 = some r := by
  obtain ⟨⟨hN, hb, hX, hO⟩, hk⟩ := cond_some h
  unfold q02m q02l
  rw [i_IsGrid_val none hN _ _ _ (fun j => (hX.b j).1) (fun j => (hO.b j).1), hb]; exact hk
noncomputable def cbb_i_ShiftGrid (z : β) (N : Nat) (g_0 : Int) (g_1 : Nat -> Int) (g_2 : Nat -> Int) (v u : Int) (k0 : Nat -> β) : β := cond (bP (CpS N g_0 g_1 g_2 v u)) (k0 (if gridB g_0 g_1 g_2 = true then 1 else 0)) z
theorem cbb_i_ShiftGrid_mono {α : Type} {N : Nat} {g_0 : Int} {g_1 g_2 : Nat -> Int} {v u : Int} {k0 : Int -> (Nat -> Int) -> (Nat -> Int) -> Int -> Option α} {r : α} (h : cbb_i_ShiftGrid none N g_0 g_1 g_2 v u (fun a => k0 0 (fun (x : Nat) => (0 : Int)) (fun (x : Nat) => (0 : Int)) (Int.ofNat (Nat.succ a))) = some r) : q00t none N g_0 g_1 g_2 v u k0 = some r := by
  obtain ⟨⟨hN, hX, hO, hb⟩, hk⟩ := cond_some h
  rw [i_ShiftGrid_bad none hN (fun j => (hX.b j).1) (fun j => (hO.b j).1) hb]
  cases hg : gridB g_0 g_1 g_2 with
  | false => rw [hg] at hk; exact hk
  | true => rw [hg] at hk; exact hk
noncomputable def cbb_i_UnionOf (z : β) (N : Nat) (g_0 : Int) (g_1 : Nat -> Int) (g_2 : Nat -> Int) (a1_0 : Int) (a1_1 : Nat -> Int) (a1_2 : Nat -> Int) (k0 : Nat -> β) (k1 : Int -> (Nat -> Int) -> (Nat -> Int) -> β) : β := cond (bP (CpU N g_0 g_1 g_2 a1_0 a1_1 a1_2)) (k0 0) (cond (bP ((CpG N g_0 g_1 g_2) ∧ (CpG N a1_0 a1_1 a1_2) ∧ 8 < g_0 + a1_0)) (k0 2) (cond (bP ((CpG N g_0 g_1 g_2) ∧ (CpG N a1_0 a1_1 a1_2) ∧ g_0 + a1_0 <= 8)) (k1 (g_0 + a1_0) (behP g_0.toNat a1_0.toNat g_1 a1_1) (behP g_0.toNat a1_0.toNat g_2 a1_2)) z))
theorem cbb_i_UnionOf_mono {α : Type} {N : Nat} {g_0 : Int} {g_1 g_2 : Nat -> Int} {a1_0 : Int} {a1_1 a1_2 : Nat -> Int} {k0 : Int -> (Nat -> Int) -> (Nat -> Int) -> Int -> Option α} {r : α} (h : cbb_i_UnionOf none N g_0 g_1 g_2 a1_0 a1_1 a1_2 (fun a => k0 0 (fun (x : Nat) => (0 : Int)) (fun (x : Nat) => (0 : Int)) (Int.ofNat (Nat.succ a))) (fun a b c => k0 a b c 0) = some r) : q035 none N g_0 g_1 g_2 a1_0 a1_1 a1_2 k0 = some r := by
  rcases cond_two h with ⟨⟨hN, hX, hO, hY, hP, hb⟩, hk⟩ | h
  · rw [i_UnionOf_bad none hN (fun j => (hX.b j).1) (fun j => (hO.b j).1) (fun j => (hY.b j).1) (fun j => (hP.b j).1) hb]; exact hk
  rcases cond_two h with ⟨⟨⟨n, rfl, hN, g, hX, hO⟩, ⟨m, rfl, _, g2, hY, hP⟩, hb⟩, hk⟩ | h
  · rw [i_UnionOf_val none hN g g2 (fun j => (hX.b j).1) (fun j => (hO.b j).1) (fun j => (hY.b j).1) (fun j => (hP.b j).1), if_neg (by omega)]; exact hk
  · obtain ⟨⟨⟨n, rfl, hN, g, hX, hO⟩, ⟨m, rfl, _, g2, hY, hP⟩, hb⟩, hk⟩ := cond_some h
    rw [i_UnionOf_val none hN g g2 (fun j => (hX.b j).1) (fun j => (hO.b j).1) (fun j => (hY.b j).1) (fun j => (hP.b j).1), if_pos (by omega)]; exact hk
noncomputable def cbb_i_TorusGrid (z : β) (N : Nat) (p q : Int) (k0 : β) (k1 : Int -> (Nat -> Int) -> (Nat -> Int) -> β) : β := cond (bP (¬CpT p q)) k0 (cond (bP (8 < N ∧ CpT p q)) (k1 (p + q) (torP p.toNat q.toNat).1 (torP p.toNat q.toNat).2) z)
theorem cbb_i_TorusGrid_mono {α : Type} {N : Nat} {p q : Int} {k0 : Int -> (Nat -> Int) -> (Nat -> Int) -> Int -> Option α} {r : α} (h : cbb_i_TorusGrid none N p q (k0 0 (fun (x : Nat) => (0 : Int)) (fun (x : Nat) => (0 : Int)) 2) (fun a b c => k0 a b c 0) = some r) : q03b none N p q k0 = some r := by
  rcases cond_two h with ⟨hb, hk⟩ | h
  · rw [i_TorusGrid_bad none hb]; exact hk
  · obtain ⟨⟨hN, h1, h2, h8⟩, hk⟩ := cond_some h
    obtain ⟨p, rfl⟩ : ∃ m : Nat, p = m := ⟨p.toNat, by omega⟩
    obtain ⟨q, rfl⟩ : ∃ m : Nat, q = m := ⟨q.toNat, by omega⟩
    rw [i_TorusGrid_val none hN (by omega) (by omega) (by omega)]; exact hk
noncomputable def cbb_s_ComponentsOf (z : β) (N : Nat) (g_0 : Int) (g_1 : Nat -> Int) (g_2 : Nat -> Int) (k0 : β) : β := cond (bP (CpB N g_0 g_1 g_2)) k0 z
theorem cbb_s_ComponentsOf_mono {α : Type} {N : Nat} {g_0 : Int} {g_1 g_2 : Nat -> Int} {k0 : Int -> Option α} {k1 : Nat -> Nat -> Nat -> Int -> List (Nat × Nat) -> List (List Int) -> Option α} {r : α} (h : cbb_s_ComponentsOf none N g_0 g_1 g_2 (k0 1) = some r) : q02w none N g_0 g_1 g_2 k0 k1 = some r := by
  obtain ⟨⟨hN, hb, hX, hO⟩, hk⟩ := cond_some h
  rw [s_ComponentsOf_bad none hN (fun j => (hX.b j).1) (fun j => (hO.b j).1) hb]; exact hk
noncomputable def cbb_s_IsKnot (z : β) (N : Nat) (g_0 : Int) (g_1 : Nat -> Int) (g_2 : Nat -> Int) (k0 : β) : β := cond (bP (CpB N g_0 g_1 g_2)) k0 z
theorem cbb_s_IsKnot_mono {α : Type} {N : Nat} {g_0 : Int} {g_1 g_2 : Nat -> Int} {k0 : Bool -> Int -> Option α} {r : α} (h : cbb_s_IsKnot none N g_0 g_1 g_2 (k0 false 1) = some r) : q02x none N g_0 g_1 g_2 k0 = some r := by
  obtain ⟨⟨hN, hb, hX, hO⟩, hk⟩ := cond_some h
  unfold q02x
  rw [s_l01Is_val none hN _ _ _ (fun j => (hX.b j).1) (fun j => (hO.b j).1), hb]; exact hk
noncomputable def cbb_s_ShiftGrid (z : β) (N : Nat) (g_0 : Int) (g_1 : Nat -> Int) (g_2 : Nat -> Int) (v u : Int) (k0 : Nat -> β) : β := cond (bP (CpS N g_0 g_1 g_2 v u)) (k0 (if gridB g_0 g_1 g_2 = true then 1 else 0)) z
theorem cbb_s_ShiftGrid_mono {α : Type} {N : Nat} {g_0 : Int} {g_1 g_2 : Nat -> Int} {v u : Int} {k0 : Int -> (Nat -> Int) -> (Nat -> Int) -> Int -> Option α} {r : α} (h : cbb_s_ShiftGrid none N g_0 g_1 g_2 v u (fun a => k0 0 (fun (x : Nat) => (0 : Int)) (fun (x : Nat) => (0 : Int)) (Int.ofNat (Nat.succ a))) = some r) : q00l none N g_0 g_1 g_2 v u k0 = some r := by
  obtain ⟨⟨hN, hX, hO, hb⟩, hk⟩ := cond_some h
  rw [s_ShiftGrid_bad none hN (fun j => (hX.b j).1) (fun j => (hO.b j).1) hb]
  cases hg : gridB g_0 g_1 g_2 with
  | false => rw [hg] at hk; exact hk
  | true => rw [hg] at hk; exact hk
noncomputable def cbb_s_UnionOf (z : β) (N : Nat) (g_0 : Int) (g_1 : Nat -> Int) (g_2 : Nat -> Int) (h_0 : Int) (h_1 : Nat -> Int) (h_2 : Nat -> Int) (k0 : Nat -> β) (k1 : Int -> (Nat -> Int) -> (Nat -> Int) -> β) : β := cond (bP (CpU N g_0 g_1 g_2 h_0 h_1 h_2)) (k0 0) (cond (bP ((CpG N g_0 g_1 g_2) ∧ (CpG N h_0 h_1 h_2) ∧ 8 < g_0 + h_0)) (k0 2) (cond (bP ((CpG N g_0 g_1 g_2) ∧ (CpG N h_0 h_1 h_2) ∧ g_0 + h_0 <= 8)) (k1 (g_0 + h_0) (behP g_0.toNat h_0.toNat g_1 h_1) (behP g_0.toNat h_0.toNat g_2 h_2)) z))
theorem cbb_s_UnionOf_mono {α : Type} {N : Nat} {g_0 : Int} {g_1 g_2 : Nat -> Int} {h_0 : Int} {h_1 h_2 : Nat -> Int} {k0 : Int -> (Nat -> Int) -> (Nat -> Int) -> Int -> Option α} {r : α} (h : cbb_s_UnionOf none N g_0 g_1 g_2 h_0 h_1 h_2 (fun a => k0 0 (fun (x : Nat) => (0 : Int)) (fun (x : Nat) => (0 : Int)) (Int.ofNat (Nat.succ a))) (fun a b c => k0 a b c 0) = some r) : q032 none N g_0 g_1 g_2 h_0 h_1 h_2 k0 = some r := by
  rcases cond_two h with ⟨⟨hN, hX, hO, hY, hP, hb⟩, hk⟩ | h
  · rw [s_UnionOf_bad none hN (fun j => (hX.b j).1) (fun j => (hO.b j).1) (fun j => (hY.b j).1) (fun j => (hP.b j).1) hb]; exact hk
  rcases cond_two h with ⟨⟨⟨n, rfl, hN, g, hX, hO⟩, ⟨m, rfl, _, g2, hY, hP⟩, hb⟩, hk⟩ | h
  · rw [s_UnionOf_val none hN g g2 (fun j => (hX.b j).1) (fun j => (hO.b j).1) (fun j => (hY.b j).1) (fun j => (hP.b j).1), if_neg (by omega)]; exact hk
  · obtain ⟨⟨⟨n, rfl, hN, g, hX, hO⟩, ⟨m, rfl, _, g2, hY, hP⟩, hb⟩, hk⟩ := cond_some h
    rw [s_UnionOf_val none hN g g2 (fun j => (hX.b j).1) (fun j => (hO.b j).1) (fun j => (hY.b j).1) (fun j => (hP.b j).1), if_pos (by omega)]; exact hk
noncomputable def cbb_s_TorusGrid (z : β) (N : Nat) (p q : Int) (k0 : β) (k1 : Int -> (Nat -> Int) -> (Nat -> Int) -> β) : β := cond (bP (¬CpT p q)) k0 (cond (bP (8 < N ∧ CpT p q)) (k1 (p + q) (torP p.toNat q.toNat).1 (torP p.toNat q.toNat).2) z)
theorem cbb_s_TorusGrid_mono {α : Type} {N : Nat} {p q : Int} {k0 : Int -> (Nat -> Int) -> (Nat -> Int) -> Int -> Option α} {r : α} (h : cbb_s_TorusGrid none N p q (k0 0 (fun (x : Nat) => (0 : Int)) (fun (x : Nat) => (0 : Int)) 2) (fun a b c => k0 a b c 0) = some r) : q038 none N p q k0 = some r := by
  rcases cond_two h with ⟨hb, hk⟩ | h
  · rw [s_TorusGrid_bad none hb]; exact hk
  · obtain ⟨⟨hN, h1, h2, h8⟩, hk⟩ := cond_some h
    obtain ⟨p, rfl⟩ : ∃ m : Nat, p = m := ⟨p.toNat, by omega⟩
    obtain ⟨q, rfl⟩ : ∃ m : Nat, q = m := ⟨q.toNat, by omega⟩
    rw [s_TorusGrid_val none hN (by omega) (by omega) (by omega)]; exact hk
noncomputable def cbg_i_ComponentsOf (z : β) (N : Nat) (g_0 : Int) (g_1 : Nat -> Int) (g_2 : Nat -> Int) (k0 : β) (k1 : Nat -> Nat -> Nat -> List (Nat × Nat) -> List (List Int) -> β) : β := cond (bP (CpB N g_0 g_1 g_2)) k0 (cond (bP (CpG N g_0 g_1 g_2)) (k1 (cpN g_0 g_1 g_2) (cpN g_0 g_1 g_2) (cpN g_0 g_1 g_2) (cpI g_0 g_1 g_2) (cpT g_0 g_1 g_2)) z)
theorem cbg_i_ComponentsOf_mono {α : Type} {N : Nat} {g_0 : Int} {g_1 g_2 : Nat -> Int} {k0 : Int -> Option α} {k1 : Nat -> Nat -> Nat -> Int -> List (Nat × Nat) -> List (List Int) -> Option α} {r : α} (h : cbg_i_ComponentsOf none N g_0 g_1 g_2 (k0 1) (fun a b c p q => k1 a b c 0 p q) = some r) : q02r none N g_0 g_1 g_2 k0 k1 = some r := by
  rcases cond_two h with ⟨⟨hN, hb, hX, hO⟩, hk⟩ | h
  · rw [i_ComponentsOf_bad none hN (fun j => (hX.b j).1) (fun j => (hO.b j).1) hb]; exact hk
  · obtain ⟨⟨n, rfl, hN, g, hX, hO⟩, hk⟩ := cond_some h
    rw [cp_comps_i hN g hX hO]; exact hk
noncomputable def cbg_i_IsKnot (z : β) (N : Nat) (g_0 : Int) (g_1 : Nat -> Int) (g_2 : Nat -> Int) (k0 : β) : β := cond (bP (CpB N g_0 g_1 g_2)) k0 z
theorem cbg_i_IsKnot_mono {α : Type} {N : Nat} {g_0 : Int} {g_1 g_2 : Nat -> Int} {k0 : Bool -> Int -> Option α} {r : α} (h : cbg_i_IsKnot none N g_0 g_1 g_2 (k0 false 1) = some r) : q02m none N g_0 g_1 g_2 k0 = some r := by
  obtain ⟨⟨hN, hb, hX, hO⟩, hk⟩ := cond_some h
  unfold q02m q02l
  rw [i_IsGrid_val none hN _ _ _ (fun j => (hX.b j).1) (fun j => (hO.b j).1), hb]; exact hk
noncomputable def cbg_i_ShiftGrid (z : β) (N : Nat) (g_0 : Int) (g_1 : Nat -> Int) (g_2 : Nat -> Int) (v u : Int) (k0 : Int -> (Nat -> Int) -> (Nat -> Int) -> β) : β := cond (bP (CpG N g_0 g_1 g_2 ∧ CpR v u)) (k0 g_0 (rollP g_0.toNat g_1 g_2 v u).1 (rollP g_0.toNat g_1 g_2 v u).2) z
theorem cbg_i_ShiftGrid_mono {α : Type} {N : Nat} {g_0 : Int} {g_1 g_2 : Nat -> Int} {v u : Int} {k0 : Int -> (Nat -> Int) -> (Nat -> Int) -> Int -> Option α} {r : α} (h : cbg_i_ShiftGrid none N g_0 g_1 g_2 v u (fun a b c => k0 a b c 0) = some r) : q00t none N g_0 g_1 g_2 v u k0 = some r := by
  obtain ⟨⟨⟨n, rfl, hN, g, hX, hO⟩, hv, hu⟩, hk⟩ := cond_some h
  rw [i_ShiftGrid_val none hN g hX.b hO.b hv hu]; exact hk
noncomputable def cbg_i_UnionOf (z : β) (N : Nat) (g_0 : Int) (g_1 : Nat -> Int) (g_2 : Nat -> Int) (a1_0 : Int) (a1_1 : Nat -> Int) (a1_2 : Nat -> Int) (k0 : Nat -> β) (k1 : Int -> (Nat -> Int) -> (Nat -> Int) -> β) : β := cond (bP (CpU N g_0 g_1 g_2 a1_0 a1_1 a1_2)) (k0 0) (cond (bP ((CpG N g_0 g_1 g_2) ∧ (CpG N a1_0 a1_1 a1_2) ∧ 8 < g_0 + a1_0)) (k0 2) (cond (bP ((CpG N g_0 g_1 g_2) ∧ (CpG N a1_0 a1_1 a1_2) ∧ g_0 + a1_0 <= 8)) (k1 (g_0 + a1_0) (behP g_0.toNat a1_0.toNat g_1 a1_1) (behP g_0.toNat a1_0.toNat g_2 a1_2)) z))
theorem cbg_i_UnionOf_mono {α : Type} {N : Nat} {g_0 : Int} {g_1 g_2 : Nat -> Int} {a1_0 : Int} {a1_1 a1_2 : Nat -> Int} {k0 : Int -> (Nat -> Int) -> (Nat -> Int) -> Int -> Option α} {r : α} (h : cbg_i_UnionOf none N g_0 g_1 g_2 a1_0 a1_1 a1_2 (fun a => k0 0 (fun (x : Nat) => (0 : Int)) (fun (x : Nat) => (0 : Int)) (Int.ofNat (Nat.succ a))) (fun a b c => k0 a b c 0) = some r) : q035 none N g_0 g_1 g_2 a1_0 a1_1 a1_2 k0 = some r := by
  rcases cond_two h with ⟨⟨hN, hX, hO, hY, hP, hb⟩, hk⟩ | h
  · rw [i_UnionOf_bad none hN (fun j => (hX.b j).1) (fun j => (hO.b j).1) (fun j => (hY.b j).1) (fun j => (hP.b j).1) hb]; exact hk
  rcases cond_two h with ⟨⟨⟨n, rfl, hN, g, hX, hO⟩, ⟨m, rfl, _, g2, hY, hP⟩, hb⟩, hk⟩ | h
  · rw [i_UnionOf_val none hN g g2 (fun j => (hX.b j).1) (fun j => (hO.b j).1) (fun j => (hY.b j).1) (fun j => (hP.b j).1), if_neg (by omega)]; exact hk
  · obtain ⟨⟨⟨n, rfl, hN, g, hX, hO⟩, ⟨m, rfl, _, g2, hY, hP⟩, hb⟩, hk⟩ := cond_some h
    rw [i_UnionOf_val none hN g g2 (fun j => (hX.b j).1) (fun j => (hO.b j).1) (fun j => (hY.b j).1) (fun j => (hP.b j).1), if_pos (by omega)]; exact hk
noncomputable def cbg_i_TorusGrid (z : β) (N : Nat) (p q : Int) (k0 : β) (k1 : Int -> (Nat -> Int) -> (Nat -> Int) -> β) : β := cond (bP (¬CpT p q)) k0 (cond (bP (8 < N ∧ CpT p q)) (k1 (p + q) (torP p.toNat q.toNat).1 (torP p.toNat q.toNat).2) z)
theorem cbg_i_TorusGrid_mono {α : Type} {N : Nat} {p q : Int} {k0 : Int -> (Nat -> Int) -> (Nat -> Int) -> Int -> Option α} {r : α} (h : cbg_i_TorusGrid none N p q (k0 0 (fun (x : Nat) => (0 : Int)) (fun (x : Nat) => (0 : Int)) 2) (fun a b c => k0 a b c 0) = some r) : q03b none N p q k0 = some r := by
  rcases cond_two h with ⟨hb, hk⟩ | h
  · rw [i_TorusGrid_bad none hb]; exact hk
  · obtain ⟨⟨hN, h1, h2, h8⟩, hk⟩ := cond_some h
    obtain ⟨p, rfl⟩ : ∃ m : Nat, p = m := ⟨p.toNat, by omega⟩
    obtain ⟨q, rfl⟩ : ∃ m : Nat, q = m := ⟨q.toNat, by omega⟩
    rw [i_TorusGrid_val none hN (by omega) (by omega) (by omega)]; exact hk
noncomputable def cbg_s_ComponentsOf (z : β) (N : Nat) (g_0 : Int) (g_1 : Nat -> Int) (g_2 : Nat -> Int) (k0 : β) : β := cond (bP (CpB N g_0 g_1 g_2)) k0 z
theorem cbg_s_ComponentsOf_mono {α : Type} {N : Nat} {g_0 : Int} {g_1 g_2 : Nat -> Int} {k0 : Int -> Option α} {k1 : Nat -> Nat -> Nat -> Int -> List (Nat × Nat) -> List (List Int) -> Option α} {r : α} (h : cbg_s_ComponentsOf none N g_0 g_1 g_2 (k0 1) = some r) : q02w none N g_0 g_1 g_2 k0 k1 = some r := by
  obtain ⟨⟨hN, hb, hX, hO⟩, hk⟩ := cond_some h
  rw [s_ComponentsOf_bad none hN (fun j => (hX.b j).1) (fun j => (hO.b j).1) hb]; exact hk
noncomputable def cbg_s_IsKnot (z : β) (N : Nat) (g_0 : Int) (g_1 : Nat -> Int) (g_2 : Nat -> Int) (k0 : β) : β := cond (bP (CpB N g_0 g_1 g_2)) k0 z
theorem cbg_s_IsKnot_mono {α : Type} {N : Nat} {g_0 : Int} {g_1 g_2 : Nat -> Int} {k0 : Bool -> Int -> Option α} {r : α} (h : cbg_s_IsKnot none N g_0 g_1 g_2 (k0 false 1) = some r) : q02x none N g_0 g_1 g_2 k0 = some r := by
  obtain ⟨⟨hN, hb, hX, hO⟩, hk⟩ := cond_some h
  unfold q02x
  rw [s_l01Is_val none hN _ _ _ (fun j => (hX.b j).1) (fun j => (hO.b j).1), hb]; exact hk
noncomputable def cbg_s_ShiftGrid (z : β) (N : Nat) (g_0 : Int) (g_1 : Nat -> Int) (g_2 : Nat -> Int) (v u : Int) (k0 : Int -> (Nat -> Int) -> (Nat -> Int) -> β) : β := cond (bP (CpG N g_0 g_1 g_2 ∧ CpR v u)) (k0 g_0 (rollP g_0.toNat g_1 g_2 v u).1 (rollP g_0.toNat g_1 g_2 v u).2) z
theorem cbg_s_ShiftGrid_mono {α : Type} {N : Nat} {g_0 : Int} {g_1 g_2 : Nat -> Int} {v u : Int} {k0 : Int -> (Nat -> Int) -> (Nat -> Int) -> Int -> Option α} {r : α} (h : cbg_s_ShiftGrid none N g_0 g_1 g_2 v u (fun a b c => k0 a b c 0) = some r) : q00l none N g_0 g_1 g_2 v u k0 = some r := by
  obtain ⟨⟨⟨n, rfl, hN, g, hX, hO⟩, hv, hu⟩, hk⟩ := cond_some h
  rw [s_ShiftGrid_val none hN g hX.b hO.b hv hu]; exact hk
noncomputable def cbg_s_UnionOf (z : β) (N : Nat) (g_0 : Int) (g_1 : Nat -> Int) (g_2 : Nat -> Int) (h_0 : Int) (h_1 : Nat -> Int) (h_2 : Nat -> Int) (k0 : Nat -> β) (k1 : Int -> (Nat -> Int) -> (Nat -> Int) -> β) : β := cond (bP (CpU N g_0 g_1 g_2 h_0 h_1 h_2)) (k0 0) (cond (bP ((CpG N g_0 g_1 g_2) ∧ (CpG N h_0 h_1 h_2) ∧ 8 < g_0 + h_0)) (k0 2) (cond (bP ((CpG N g_0 g_1 g_2) ∧ (CpG N h_0 h_1 h_2) ∧ g_0 + h_0 <= 8)) (k1 (g_0 + h_0) (behP g_0.toNat h_0.toNat g_1 h_1) (behP g_0.toNat h_0.toNat g_2 h_2)) z))
theorem cbg_s_UnionOf_mono {α : Type} {N : Nat} {g_0 : Int} {g_1 g_2 : Nat -> Int} {h_0 : Int} {h_1 h_2 : Nat -> Int} {k0 : Int -> (Nat -> Int) -> (Nat -> Int) -> Int -> Option α} {r : α} (h : cbg_s_UnionOf none N g_0 g_1 g_2 h_0 h_1 h_2 (fun a => k0 0 (fun (x : Nat) => (0 : Int)) (fun (x : Nat) => (0 : Int)) (Int.ofNat (Nat.succ a))) (fun a b c => k0 a b c 0) = some r) : q032 none N g_0 g_1 g_2 h_0 h_1 h_2 k0 = some r := by
  rcases cond_two h with ⟨⟨hN, hX, hO, hY, hP, hb⟩, hk⟩ | h
  · rw [s_UnionOf_bad none hN (fun j => (hX.b j).1) (fun j => (hO.b j).1) (fun j => (hY.b j).1) (fun j => (hP.b j).1) hb]; exact hk
  rcases cond_two h with ⟨⟨⟨n, rfl, hN, g, hX, hO⟩, ⟨m, rfl, _, g2, hY, hP⟩, hb⟩, hk⟩ | h
  · rw [s_UnionOf_val none hN g g2 (fun j => (hX.b j).1) (fun j => (hO.b j).1) (fun j => (hY.b j).1) (fun j => (hP.b j).1), if_neg (by omega)]; exact hk
  · obtain ⟨⟨⟨n, rfl, hN, g, hX, hO⟩, ⟨m, rfl, _, g2, hY, hP⟩, hb⟩, hk⟩ := cond_some h
    rw [s_UnionOf_val none hN g g2 (fun j => (hX.b j).1) (fun j => (hO.b j).1) (fun j => (hY.b j).1) (fun j => (hP.b j).1), if_pos (by omega)]; exact hk
noncomputable def cbg_s_TorusGrid (z : β) (N : Nat) (p q : Int) (k0 : β) (k1 : Int -> (Nat -> Int) -> (Nat -> Int) -> β) : β := cond (bP (¬CpT p q)) k0 (cond (bP (8 < N ∧ CpT p q)) (k1 (p + q) (torP p.toNat q.toNat).1 (torP p.toNat q.toNat).2) z)
theorem cbg_s_TorusGrid_mono {α : Type} {N : Nat} {p q : Int} {k0 : Int -> (Nat -> Int) -> (Nat -> Int) -> Int -> Option α} {r : α} (h : cbg_s_TorusGrid none N p q (k0 0 (fun (x : Nat) => (0 : Int)) (fun (x : Nat) => (0 : Int)) 2) (fun a b c => k0 a b c 0) = some r) : q038 none N p q k0 = some r := by
  rcases cond_two h with ⟨hb, hk⟩ | h
  · rw [s_TorusGrid_bad none hb]; exact hk
  · obtain ⟨⟨hN, h1, h2, h8⟩, hk⟩ := cond_some h
    obtain ⟨p, rfl⟩ : ∃ m : Nat, p = m := ⟨p.toNat, by omega⟩
    obtain ⟨q, rfl⟩ : ∃ m : Nat, q = m := ⟨q.toNat, by omega⟩
    rw [s_TorusGrid_val none hN (by omega) (by omega) (by omega)]; exact hk
noncomputable def cgg_i_ComponentsOf (z : β) (N : Nat) (g_0 : Int) (g_1 : Nat -> Int) (g_2 : Nat -> Int) (k0 : Nat -> Nat -> Nat -> List (Nat × Nat) -> List (List Int) -> β) : β := cond (bP (CpG N g_0 g_1 g_2)) (k0 (cpN g_0 g_1 g_2) (cpN g_0 g_1 g_2) (cpN g_0 g_1 g_2) (cpI g_0 g_1 g_2) (cpT g_0 g_1 g_2)) z
theorem cgg_i_ComponentsOf_mono {α : Type} {N : Nat} {g_0 : Int} {g_1 g_2 : Nat -> Int} {k0 : Int -> Option α} {k1 : Nat -> Nat -> Nat -> Int -> List (Nat × Nat) -> List (List Int) -> Option α} {r : α} (h : cgg_i_ComponentsOf none N g_0 g_1 g_2 (fun a b c p q => k1 a b c 0 p q) = some r) : q02r none N g_0 g_1 g_2 k0 k1 = some r := by
  obtain ⟨⟨n, rfl, hN, g, hX, hO⟩, hk⟩ := cond_some h
  rw [cp_comps_i hN g hX hO]; exact hk
noncomputable def cgg_i_IsKnot (z : β) (N : Nat) (g_0 : Int) (g_1 : Nat -> Int) (g_2 : Nat -> Int) (k0 : Bool -> β) : β := cond (bP (CpG N g_0 g_1 g_2)) (k0 ((cpN g_0 g_1 g_2 : Int) == 1)) z
theorem cgg_i_IsKnot_mono {α : Type} {N : Nat} {g_0 : Int} {g_1 g_2 : Nat -> Int} {k0 : Bool -> Int -> Option α} {r : α} (h : cgg_i_IsKnot none N g_0 g_1 g_2 (fun a => k0 a 0) = some r) : q02m none N g_0 g_1 g_2 k0 = some r := by
  obtain ⟨⟨n, rfl, hN, g, hX, hO⟩, hk⟩ := cond_some h
  rw [cp_knot_i hN g hX hO]; exact hk
noncomputable def cgg_i_ShiftGrid (z : β) (N : Nat) (g_0 : Int) (g_1 : Nat -> Int) (g_2 : Nat -> Int) (v u : Int) (k0 : Int -> (Nat -> Int) -> (Nat -> Int) -> β) : β := cond (bP (CpG N g_0 g_1 g_2 ∧ CpR v u)) (k0 g_0 (rollP g_0.toNat g_1 g_2 v u).1 (rollP g_0.toNat g_1 g_2 v u).2) z
theorem cgg_i_ShiftGrid_mono {α : Type} {N : Nat} {g_0 : Int} {g_1 g_2 : Nat -> Int} {v u : Int} {k0 : Int -> (Nat -> Int) -> (Nat -> Int) -> Int -> Option α} {r : α} (h : cgg_i_ShiftGrid none N g_0 g_1 g_2 v u (fun a b c => k0 a b c 0) = some r) : q00t none N g_0 g_1 g_2 v u k0 = some r := by
  obtain ⟨⟨⟨n, rfl, hN, g, hX, hO⟩, hv, hu⟩, hk⟩ := cond_some h
  rw [i_ShiftGrid_val none hN g hX.b hO.b hv hu]; exact hk
noncomputable def cgg_i_UnionOf (z : β) (N : Nat) (g_0 : Int) (g_1 : Nat -> Int) (g_2 : Nat -> Int) (a1_0 : Int) (a1_1 : Nat -> Int) (a1_2 : Nat -> Int) (k0 : Nat -> β) (k1 : Int -> (Nat -> Int) -> (Nat -> Int) -> β) : β := cond (bP (CpU N g_0 g_1 g_2 a1_0 a1_1 a1_2)) (k0 0) (cond (bP ((CpG N g_0 g_1 g_2) ∧ (CpG N a1_0 a1_1 a1_2) ∧ 8 < g_0 + a1_0)) (k0 2) (cond (bP ((CpG N g_0 g_1 g_2) ∧ (CpG N a1_0 a1_1 a1_2) ∧ g_0 + a1_0 <= 8)) (k1 (g_0 + a1_0) (behP g_0.toNat a1_0.toNat g_1 a1_1) (behP g_0.toNat a1_0.toNat g_2 a1_2)) z))
theorem cgg_i_UnionOf_mono {α : Type} {N : Nat} {g_0 : Int} {g_1 g_2 : Nat -> Int} {a1_0 : Int} {a1_1 a1_2 : Nat -> Int} {k0 : Int -> (Nat -> Int) -> (Nat -> Int) -> Int -> Option α} {r : α} (h : cgg_i_UnionOf none N g_0 g_1 g_2 a1_0 a1_1 a1_2 (fun a => k0 0 (fun (x : Nat) => (0 : Int)) (fun (x : Nat) => (0 : Int)) (Int.ofNat (Nat.succ a))) (fun a b c => k0 a b c 0) = some r) : q035 none N g_0 g_1 g_2 a1_0 a1_1 a1_2 k0 = some r := by
  rcases cond_two h with ⟨⟨hN, hX, hO, hY, hP, hb⟩, hk⟩ | h
  · rw [i_UnionOf_bad none hN (fun j => (hX.b j).1) (fun j => (hO.b j).1) (fun j => (hY.b j).1) (fun j => (hP.b j).1) hb]; exact hk
  rcases cond_two h with ⟨⟨⟨n, rfl, hN, g, hX, hO⟩, ⟨m, rfl, _, g2, hY, hP⟩, hb⟩, hk⟩ | h
  · rw [i_UnionOf_val none hN g g2 (fun j => (hX.b j).1) (fun j => (hO.b j).1) (fun j => (hY.b j).1) (fun j => (hP.b j).1), if_neg (by omega)]; exact hk
  · obtain ⟨⟨⟨n, rfl, hN, g, hX, hO⟩, ⟨m, rfl, _, g2, hY, hP⟩, hb⟩, hk⟩ := cond_some h
    rw [i_UnionOf_val none hN g g2 (fun j => (hX.b j).1) (fun j => (hO.b j).1) (fun j => (hY.b j).1) (fun j => (hP.b j).1), if_pos (by omega)]; exact hk
noncomputable def cgg_i_TorusGrid (z : β) (N : Nat) (p q : Int) (k0 : β) (k1 : Int -> (Nat -> Int) -> (Nat -> Int) -> β) : β := cond (bP (¬CpT p q)) k0 (cond (bP (8 < N ∧ CpT p q)) (k1 (p + q) (torP p.toNat q.toNat).1 (torP p.toNat q.toNat).2) z)
theorem cgg_i_TorusGrid_mono {α : Type} {N : Nat} {p q : Int} {k0 : Int -> (Nat -> Int) -> (Nat -> Int) -> Int -> Option α} {r : α} (h : cgg_i_TorusGrid none N p q (k0 0 (fun (x : Nat) => (0 : Int)) (fun (x : Nat) => (0 : Int)) 2) (fun a b c => k0 a b c 0) = some r) : q03b none N p q k0 = some r := by
  rcases cond_two h with ⟨hb, hk⟩ | h
  · rw [i_TorusGrid_bad none hb]; exact hk
  · obtain ⟨⟨hN, h1, h2, h8⟩, hk⟩ := cond_some h
    obtain ⟨p, rfl⟩ : ∃ m : Nat, p = m := ⟨p.toNat, by omega⟩
    obtain ⟨q, rfl⟩ : ∃ m : Nat, q = m := ⟨q.toNat, by omega⟩
    rw [i_TorusGrid_val none hN (by omega) (by omega) (by omega)]; exact hk
noncomputable def cgg_s_ComponentsOf (z : β) (N : Nat) (g_0 : Int) (g_1 : Nat -> Int) (g_2 : Nat -> Int) (k0 : Nat -> Nat -> Nat -> List (Nat × Nat) -> List (List Int) -> β) : β := cond (bP (CpG N g_0 g_1 g_2)) (k0 (cpN g_0 g_1 g_2) (cpN g_0 g_1 g_2) (cpN g_0 g_1 g_2) (cpI g_0 g_1 g_2) (cpT g_0 g_1 g_2)) z
theorem cgg_s_ComponentsOf_mono {α : Type} {N : Nat} {g_0 : Int} {g_1 g_2 : Nat -> Int} {k0 : Int -> Option α} {k1 : Nat -> Nat -> Nat -> Int -> List (Nat × Nat) -> List (List Int) -> Option α} {r : α} (h : cgg_s_ComponentsOf none N g_0 g_1 g_2 (fun a b c p q => k1 a b c 0 p q) = some r) : q02w none N g_0 g_1 g_2 k0 k1 = some r := by
  obtain ⟨⟨n, rfl, hN, g, hX, hO⟩, hk⟩ := cond_some h
  rw [cp_comps_s hN g hX hO]; exact hk
noncomputable def cgg_s_IsKnot (z : β) (N : Nat) (g_0 : Int) (g_1 : Nat -> Int) (g_2 : Nat -> Int) (k0 : Bool -> β) : β := cond (bP (CpG N g_0 g_1 g_2)) (k0 ((cpN g_0 g_1 g_2 : Int) == 1)) z
theorem cgg_s_IsKnot_mono {α : Type} {N : Nat} {g_0 : Int} {g_1 g_2 : Nat -> Int} {k0 : Bool -> Int -> Option α} {r : α} (h : cgg_s_IsKnot none N g_0 g_1 g_2 (fun a => k0 a 0) = some r) : q02x none N g_0 g_1 g_2 k0 = some r := by
  obtain ⟨⟨n, rfl, hN, g, hX, hO⟩, hk⟩ := cond_some h
  rw [cp_knot_s hN g hX hO]; exact hk
noncomputable def cgg_s_ShiftGrid (z : β) (N : Nat) (g_0 : Int) (g_1 : Nat -> Int) (g_2 : Nat -> Int) (v u : Int) (k0 : Int -> (Nat -> Int) -> (Nat -> Int) -> β) : β := cond (bP (CpG N g_0 g_1 g_2 ∧ CpR v u)) (k0 g_0 (rollP g_0.toNat g_1 g_2 v u).1 (rollP g_0.toNat g_1 g_2 v u).2) z
theorem cgg_s_ShiftGrid_mono {α : Type} {N : Nat} {g_0 : Int} {g_1 g_2 : Nat -> Int} {v u : Int} {k0 : Int -> (Nat -> Int) -> (Nat -> Int) -> Int -> Option α} {r : α} (h : cgg_s_ShiftGrid none N g_0 g_1 g_2 v u (fun a b c => k0 a b c 0) = some r) : q00l none N g_0 g_1 g_2 v u k0 = some r := by
  obtain ⟨⟨⟨n, rfl, hN, g, hX, hO⟩, hv, hu⟩, hk⟩ := cond_some h
  rw [s_ShiftGrid_val none hN g hX.b hO.b hv hu]; exact hk
noncomputable def cgg_s_UnionOf (z : β) (N : Nat) (g_0 : Int) (g_1 : Nat -> Int) (g_2 : Nat -> Int) (h_0 : Int) (h_1 : Nat -> Int) (h_2 : Nat -> Int) (k0 : Nat -> β) (k1 : Int -> (Nat -> Int) -> (Nat -> Int) -> β) : β := cond (bP (CpU N g_0 g_1 g_2 h_0 h_1 h_2)) (k0 0) (cond (bP ((CpG N g_0 g_1 g_2) ∧ (CpG N h_0 h_1 h_2) ∧ 8 < g_0 + h_0)) (k0 2) (cond (bP ((CpG N g_0 g_1 g_2) ∧ (CpG N h_0 h_1 h_2) ∧ g_0 + h_0 <= 8)) (k1 (g_0 + h_0) (behP g_0.toNat h_0.toNat g_1 h_1) (behP g_0.toNat h_0.toNat g_2 h_2)) z))
theorem cgg_s_UnionOf_mono {α : Type} {N : Nat} {g_0 : Int} {g_1 g_2 : Nat -> Int} {h_0 : Int} {h_1 h_2 : Nat -> Int} {k0 : Int -> (Nat -> Int) -> (Nat -> Int) -> Int -> Option α} {r : α} (h : cgg_s_UnionOf none N g_0 g_1 g_2 h_0 h_1 h_2 (fun a => k0 0 (fun (x : Nat) => (0 : Int)) (fun (x : Nat) => (0 : Int)) (Int.ofNat (Nat.succ a))) (fun a b c => k0 a b c 0) = some r) : q032 none N g_0 g_1 g_2 h_0 h_1 h_2 k0 = some r := by
  rcases cond_two h with ⟨⟨hN, hX, hO, hY, hP, hb⟩, hk⟩ | h
  · rw [s_UnionOf_bad none hN (fun j => (hX.b j).1) (fun j => (hO.b j).1) (fun j => (hY.b j).1) (fun j => (hP.b j).1) hb]; exact hk
  rcases cond_two h with ⟨⟨⟨n, rfl, hN, g, hX, hO⟩, ⟨m, rfl, _, g2, hY, hP⟩, hb⟩, hk⟩ | h
  · rw [s_UnionOf_val none hN g g2 (fun j => (hX.b j).1) (fun j => (hO.b j).1) (fun j => (hY.b j).1) (fun j => (hP.b j).1), if_neg (by omega)]; exact hk
  · obtain ⟨⟨⟨n, rfl, hN, g, hX, hO⟩, ⟨m, rfl, _, g2, hY, hP⟩, hb⟩, hk⟩ := cond_some h
    rw [s_UnionOf_val none hN g g2 (fun j => (hX.b j).1) (fun j => (hO.b j).1) (fun j => (hY.b j).1) (fun j => (hP.b j).1), if_pos (by omega)]; exact hk
noncomputable def cgg_s_TorusGrid (z : β) (N : Nat) (p q : Int) (k0 : β) (k1 : Int -> (Nat -> Int) -> (Nat -> Int) -> β) : β := cond (bP (¬CpT p q)) k0 (cond (bP (8 < N ∧ CpT p q)) (k1 (p + q) (torP p.toNat q.toNat).1 (torP p.toNat q.toNat).2) z)
theorem cgg_s_TorusGrid_mono {α : Type} {N : Nat} {p q : Int} {k0 : Int -> (Nat -> Int) -> (Nat -> Int) -> Int -> Option α} {r : α} (h : cgg_s_TorusGrid none N p q (k0 0 (fun (x : Nat) => (0 : Int)) (fun (x : Nat) => (0 : Int)) 2) (fun a b c => k0 a b c 0) = some r) : q038 none N p q k0 = some r := by
  rcases cond_two h with ⟨hb, hk⟩ | h
  · rw [s_TorusGrid_bad none hb]; exact hk
  · obtain ⟨⟨hN, h1, h2, h8⟩, hk⟩ := cond_some h
    obtain ⟨p, rfl⟩ : ∃ m : Nat, p = m := ⟨p.toNat, by omega⟩
    obtain ⟨q, rfl⟩ : ∃ m : Nat, q = m := ⟨q.toNat, by omega⟩
    rw [s_TorusGrid_val none hN (by omega) (by omega) (by omega)]; exact hk
noncomputable def cgg_i_QuarterTurn (z : β) (N : Nat) (g_0 : Int) (g_1 : Nat -> Int) (g_2 : Nat -> Int) (k0 : Int -> (Nat -> Int) -> (Nat -> Int) -> β) : β := cond (bP (CpG N g_0 g_1 g_2)) (k0 g_0 (turnS g_0.toNat g_1 g_2).1 (turnS g_0.toNat g_1 g_2).2) z
theorem cgg_i_QuarterTurn_mono {α : Type} {N : Nat} {g_0 : Int} {g_1 g_2 : Nat -> Int} {k0 : Int -> (Nat -> Int) -> (Nat -> Int) -> Int -> Option α} {r : α} (h : cgg_i_QuarterTurn none N g_0 g_1 g_2 (fun a b c => k0 a b c 0) = some r) : q02z none N g_0 g_1 g_2 k0 = some r := by
  obtain ⟨⟨n, rfl, hN, g, hX, hO⟩, hk⟩ := cond_some h
  rw [cp_turn hN g hX hO]; exact hk
noncomputable def cgg_i_ExchangeOf (z : β) (N : Nat) (g_0 : Int) (g_1 : Nat -> Int) (g_2 : Nat -> Int) (k0 : Int -> (Nat -> Int) -> (Nat -> Int) -> β) : β := cond (bP (CpG N g_0 g_1 g_2)) (k0 g_0 g_2 g_1) z
theorem cgg_i_ExchangeOf_mono {α : Type} {N : Nat} {g_0 : Int} {g_1 g_2 : Nat -> Int} {k0 : Int -> (Nat -> Int) -> (Nat -> Int) -> Int -> Option α} {r : α} (h : cgg_i_ExchangeOf none N g_0 g_1 g_2 (fun a b c => k0 a b c 0) = some r) : q02k none N g_0 g_1 g_2 k0 = some r := by
  obtain ⟨⟨n, rfl, hN, g, hX, hO⟩, hk⟩ := cond_some h
  rw [cp_exch hN g hX hO]; exact hk
noncomputable def cgb_i_ComponentsOf (z : β) (N : Nat) (g_0 : Int) (g_1 : Nat -> Int) (g_2 : Nat -> Int) (k0 : Nat -> Nat -> Nat -> List (Nat × Nat) -> List (List Int) -> β) : β := cond (bP (CpG N g_0 g_1 g_2)) (k0 (cpN g_0 g_1 g_2) (cpN g_0 g_1 g_2) (cpN g_0 g_1 g_2) (cpI g_0 g_1 g_2) (cpT g_0 g_1 g_2)) z
theorem cgb_i_ComponentsOf_mono {α : Type} {N : Nat} {g_0 : Int} {g_1 g_2 : Nat -> Int} {k0 : Int -> Option α} {k1 : Nat -> Nat -> Nat -> Int -> List (Nat × Nat) -> List (List Int) -> Option α} {r : α} (h : cgb_i_ComponentsOf none N g_0 g_1 g_2 (fun a b c p q => k1 a b c 0 p q) = some r) : q02r none N g_0 g_1 g_2 k0 k1 = some r := by
  obtain ⟨⟨n, rfl, hN, g, hX, hO⟩, hk⟩ := cond_some h
  rw [cp_comps_i hN g hX hO]; exact hk
noncomputable def cgb_i_IsKnot (z : β) (N : Nat) (g_0 : Int) (g_1 : Nat -> Int) (g_2 : Nat -> Int) (k0 : Bool -> β) : β := cond (bP (CpG N g_0 g_1 g_2)) (k0 ((cpN g_0 g_1 g_2 : Int) == 1)) z
theorem cgb_i_IsKnot_mono {α : Type} {N : Nat} {g_0 : Int} {g_1 g_2 : Nat -> Int} {k0 : Bool -> Int -> Option α} {r : α} (h : cgb_i_IsKnot none N g_0 g_1 g_2 (fun a => k0 a 0) = some r) : q02m none N g_0 g_1 g_2 k0 = some r := by
  obtain ⟨⟨n, rfl, hN, g, hX, hO⟩, hk⟩ := cond_some h
  rw [cp_knot_i hN g hX hO]; exact hk
noncomputable def cgb_i_ShiftGrid (z : β) (N : Nat) (g_0 : Int) (g_1 : Nat -> Int) (g_2 : Nat -> Int) (v u : Int) (k0 : Nat -> β) : β := cond (bP (CpS N g_0 g_1 g_2 v u)) (k0 (if gridB g_0 g_1 g_2 = true then 1 else 0)) z
theorem cgb_i_ShiftGrid_mono {α : Type} {N : Nat} {g_0 : Int} {g_1 g_2 : Nat -> Int} {v u : Int} {k0 : Int -> (Nat -> Int) -> (Nat -> Int) -> Int -> Option α} {r : α} (h : cgb_i_ShiftGrid none N g_0 g_1 g_2 v u (fun a => k0 0 (fun (x : Nat) => (0 : Int)) (fun (x : Nat) => (0 : Int)) (Int.ofNat (Nat.succ a))) = some r) : q00t none N g_0 g_1 g_2 v u k0 = some r := by
  obtain ⟨⟨hN, hX, hO, hb⟩, hk⟩ := cond_some h
  rw [i_ShiftGrid_bad none hN (fun j => (hX.b j).1) (fun j => (hO.b j).1) hb]
  cases hg : gridB g_0 g_1 g_2 with
  | false => rw [hg] at hk; exact hk
  | true => rw [hg] at hk; exact hk
noncomputable def cgb_i_UnionOf (z : β) (N : Nat) (g_0 : Int) (g_1 : Nat -> Int) (g_2 : Nat -> Int) (a1_0 : Int) (a1_1 : Nat -> Int) (a1_2 : Nat -> Int) (k0 : Nat -> β) (k1 : Int -> (Nat -> Int) -> (Nat -> Int) -> β) : β := cond (bP (CpU N g_0 g_1 g_2 a1_0 a1_1 a1_2)) (k0 0) (cond (bP ((CpG N g_0 g_1 g_2) ∧ (CpG N a1_0 a1_1 a1_2) ∧ 8 < g_0 + a1_0)) (k0 2) (cond (bP ((CpG N g_0 g_1 g_2) ∧ (CpG N a1_0 a1_1 a1_2) ∧ g_0 + a1_0 <= 8)) (k1 (g_0 + a1_0) (behP g_0.toNat a1_0.toNat g_1 a1_1) (behP g_0.toNat a1_0.toNat g_2 a1_2)) z))
theorem cgb_i_UnionOf_mono {α : Type} {N : Nat} {g_0 : Int} {g_1 g_2 : Nat -> Int} {a1_0 : Int} {a1_1 a1_2 : Nat -> Int} {k0 : Int -> (Nat -> Int) -> (Nat -> Int) -> Int -> Option α} {r : α} (h : cgb_i_UnionOf none N g_0 g_1 g_2 a1_0 a1_1 a1_2 (fun a => k0 0 (fun (x : Nat) => (0 : Int)) (fun (x : Nat) => (0 : Int)) (Int.ofNat (Nat.succ a))) (fun a b c => k0 a b c 0) = some r) : q035 none N g_0 g_1 g_2 a1_0 a1_1 a1_2 k0 = some r := by
  rcases cond_two h with ⟨⟨hN, hX, hO, hY, hP, hb⟩, hk⟩ | h
  · rw [i_UnionOf_bad none hN (fun j => (hX.b j).1) (fun j => (hO.b j).1) (fun j => (hY.b j).1) (fun j => (hP.b j).1) hb]; exact hk
  rcases cond_two h with ⟨⟨⟨n, rfl, hN, g, hX, hO⟩, ⟨m, rfl, _, g2, hY, hP⟩, hb⟩, hk⟩ | h
  · rw [i_UnionOf_val none hN g g2 (fun j => (hX.b j).1) (fun j => (hO.b j).1) (fun j => (hY.b j).1) (fun j => (hP.b j).1), if_neg (by omega)]; exact hk
  · obtain ⟨⟨⟨n, rfl, hN, g, hX, hO⟩, ⟨m, rfl, _, g2, hY, hP⟩, hb⟩, hk⟩ := cond_some h
    rw [i_UnionOf_val none hN g g2 (fun j => (hX.b j).1) (fun j => (hO.b j).1) (fun j => (hY.b j).1) (fun j => (hP.b j).1), if_pos (by omega)]; exact hk
noncomputable def cgb_i_TorusGrid (z : β) (N : Nat) (p q : Int) (k0 : β) (k1 : Int -> (Nat -> Int) -> (Nat -> Int) -> β) : β := cond (bP (¬CpT p q)) k0 (cond (bP (8 < N ∧ CpT p q)) (k1 (p + q) (torP p.toNat q.toNat).1 (torP p.toNat q.toNat).2) z)
theorem cgb_i_TorusGrid_mono {α : Type} {N : Nat} {p q : Int} {k0 : Int -> (Nat -> Int) -> (Nat -> Int) -> Int -> Option α} {r : α} (h : cgb_i_TorusGrid none N p q (k0 0 (fun (x : Nat) => (0 : Int)) (fun (x : Nat) => (0 : Int)) 2) (fun a b c => k0 a b c 0) = some r) : q03b none N p q k0 = some r := by
  rcases cond_two h with ⟨hb, hk⟩ | h
  · rw [i_TorusGrid_bad none hb]; exact hk
  · obtain ⟨⟨hN, h1, h2, h8⟩, hk⟩ := cond_some h
    obtain ⟨p, rfl⟩ : ∃ m : Nat, p = m := ⟨p.toNat, by omega⟩
    obtain ⟨q, rfl⟩ : ∃ m : Nat, q = m := ⟨q.toNat, by omega⟩
    rw [i_TorusGrid_val none hN (by omega) (by omega) (by omega)]; exact hk
noncomputable def cgb_s_ComponentsOf (z : β) (N : Nat) (g_0 : Int) (g_1 : Nat -> Int) (g_2 : Nat -> Int) (k0 : Nat -> Nat -> Nat -> List (Nat × Nat) -> List (List Int) -> β) : β := cond (bP (CpG N g_0 g_1 g_2)) (k0 (cpN g_0 g_1 g_2) (cpN g_0 g_1 g_2) (cpN g_0 g_1 g_2) (cpI g_0 g_1 g_2) (cpT g_0 g_1 g_2)) z
theorem cgb_s_ComponentsOf_mono {α : Type} {N : Nat} {g_0 : Int} {g_1 g_2 : Nat -> Int} {k0 : Int -> Option α} {k1 : Nat -> Nat -> Nat -> Int -> List (Nat × Nat) -> List (List Int) -> Option α} {r : α} (h : cgb_s_ComponentsOf none N g_0 g_1 g_2 (fun a b c p q => k1 a b c 0 p q) = some r) : q02w none N g_0 g_1 g_2 k0 k1 = some r := by
  obtain ⟨⟨n, rfl, hN, g, hX, hO⟩, hk⟩ := cond_some h
  rw [cp_comps_s hN g hX hO]; exact hk
noncomputable def cgb_s_IsKnot (z : β) (N : Nat) (g_0 : Int) (g_1 : Nat -> Int) (g_2 : Nat -> Int) (k0 : Bool -> β) : β := cond (bP (CpG N g_0 g_1 g_2)) (k0 ((cpN g_0 g_1 g_2 : Int) == 1)) z
theorem cgb_s_IsKnot_mono {α : Type} {N : Nat} {g_0 : Int} {g_1 g_2 : Nat -> Int} {k0 : Bool -> Int -> Option α} {r : α} (h : cgb_s_IsKnot none N g_0 g_1 g_2 (fun a => k0 a 0) = some r) : q02x none N g_0 g_1 g_2 k0 = some r := by
  obtain ⟨⟨n, rfl, hN, g, hX, hO⟩, hk⟩ := cond_some h
  rw [cp_knot_s hN g hX hO]; exact hk
noncomputable def cgb_s_ShiftGrid (z : β) (N : Nat) (g_0 : Int) (g_1 : Nat -> Int) (g_2 : Nat -> Int) (v u : Int) (k0 : Nat -> β) : β := cond (bP (CpS N g_0 g_1 g_2 v u)) (k0 (if gridB g_0 g_1 g_2 = true then 1 else 0)) z
theorem cgb_s_ShiftGrid_mono {α : Type} {N : Nat} {g_0 : Int} {g_1 g_2 : Nat -> Int} {v u : Int} {k0 : Int -> (Nat -> Int) -> (Nat -> Int) -> Int -> Option α} {r : α} (h : cgb_s_ShiftGrid none N g_0 g_1 g_2 v u (fun a => k0 0 (fun (x : Nat) => (0 : Int)) (fun (x : Nat) => (0 : Int)) (Int.ofNat (Nat.succ a))) = some r) : q00l none N g_0 g_1 g_2 v u k0 = some r := by
  obtain ⟨⟨hN, hX, hO, hb⟩, hk⟩ := cond_some h
  rw [s_ShiftGrid_bad none hN (fun j => (hX.b j).1) (fun j => (hO.b j).1) hb]
  cases hg : gridB g_0 g_1 g_2 with
  | false => rw [hg] at hk; exact hk
  | true => rw [hg] at hk; exact hk
noncomputable def cgb_s_UnionOf (z : β) (N : Nat) (g_0 : Int) (g_1 : Nat -> Int) (g_2 : Nat -> Int) (h_0 : Int) (h_1 : Nat -> Int) (h_2 : Nat -> Int) (k0 : Nat -> β) (k1 : Int -> (Nat -> Int) -> (Nat -> Int) -> β) : β := cond (bP (CpU N g_0 g_1 g_2 h_0 h_1 h_2)) (k0 0) (cond (bP ((CpG N g_0 g_1 g_2) ∧ (CpG N h_0 h_1 h_2) ∧ 8 < g_0 + h_0)) (k0 2) (cond (bP ((CpG N g_0 g_1 g_2) ∧ (CpG N h_0 h_1 h_2) ∧ g_0 + h_0 <= 8)) (k1 (g_0 + h_0) (behP g_0.toNat h_0.toNat g_1 h_1) (behP g_0.toNat h_0.toNat g_2 h_2)) z))
theorem cgb_s_UnionOf_mono {α : Type} {N : Nat} {g_0 : Int} {g_1 g_2 : Nat -> Int} {h_0 : Int} {h_1 h_2 : Nat -> Int} {k0 : Int -> (Nat -> Int) -> (Nat -> Int) -> Int -> Option α} {r : α} (h : cgb_s_UnionOf none N g_0 g_1 g_2 h_0 h_1 h_2 (fun a => k0 0 (fun (x : Nat) => (0 : Int)) (fun (x : Nat) => (0 : Int)) (Int.ofNat (Nat.succ a))) (fun a b c => k0 a b c 0) = some r) : q032 none N g_0 g_1 g_2 h_0 h_1 h_2 k0 = some r := by
  rcases cond_two h with ⟨⟨hN, hX, hO, hY, hP, hb⟩, hk⟩ | h
  · rw [s_UnionOf_bad none hN (fun j => (hX.b j).1) (fun j => (hO.b j).1) (fun j => (hY.b j).1) (fun j => (hP.b j).1) hb]; exact hk
  rcases cond_two h with ⟨⟨⟨n, rfl, hN, g, hX, hO⟩, ⟨m, rfl, _, g2, hY, hP⟩, hb⟩, hk⟩ | h
  · rw [s_UnionOf_val none hN g g2 (fun j => (hX.b j).1) (fun j => (hO.b j).1) (fun j => (hY.b j).1) (fun j => (hP.b j).1), if_neg (by omega)]; exact hk
  · obtain ⟨⟨⟨n, rfl, hN, g, hX, hO⟩, ⟨m, rfl, _, g2, hY, hP⟩, hb⟩, hk⟩ := cond_some h
    rw [s_UnionOf_val none hN g g2 (fun j => (hX.b j).1) (fun j => (hO.b j).1) (fun j => (hY.b j).1) (fun j => (hP.b j).1), if_pos (by omega)]; exact hk
noncomputable def cgb_s_TorusGrid (z : β) (N : Nat) (p q : Int) (k0 : β) (k1 : Int -> (Nat -> Int) -> (Nat -> Int) -> β) : β := cond (bP (¬CpT p q)) k0 (cond (bP (8 < N ∧ CpT p q)) (k1 (p + q) (torP p.toNat q.toNat).1 (torP p.toNat q.toNat).2) z)
theorem cgb_s_TorusGrid_mono {α : Type} {N : Nat} {p q : Int} {k0 : Int -> (Nat -> Int) -> (Nat -> Int) -> Int -> Option α} {r : α} (h : cgb_s_TorusGrid none N p q (k0 0 (fun (x : Nat) => (0 : Int)) (fun (x : Nat) => (0 : Int)) 2) (fun a b c => k0 a b c 0) = some r) : q038 none N p q k0 = some r := by
  rcases cond_two h with ⟨hb, hk⟩ | h
  · rw [s_TorusGrid_bad none hb]; exact hk
  · obtain ⟨⟨hN, h1, h2, h8⟩, hk⟩ := cond_some h
    obtain ⟨p, rfl⟩ : ∃ m : Nat, p = m := ⟨p.toNat, by omega⟩
    obtain ⟨q, rfl⟩ : ∃ m : Nat, q = m := ⟨q.toNat, by omega⟩
    rw [s_TorusGrid_val none hN (by omega) (by omega) (by omega)]; exact hk
noncomputable def cgb_i_QuarterTurn (z : β) (N : Nat) (g_0 : Int) (g_1 : Nat -> Int) (g_2 : Nat -> Int) (k0 : Int -> (Nat -> Int) -> (Nat -> Int) -> β) : β := cond (bP (CpG N g_0 g_1 g_2)) (k0 g_0 (turnS g_0.toNat g_1 g_2).1 (turnS g_0.toNat g_1 g_2).2) z
theorem cgb_i_QuarterTurn_mono {α : Type} {N : Nat} {g_0 : Int} {g_1 g_2 : Nat -> Int} {k0 : Int -> (Nat -> Int) -> (Nat -> Int) -> Int -> Option α} {r : α} (h : cgb_i_QuarterTurn none N g_0 g_1 g_2 (fun a b c => k0 a b c 0) = some r) : q02z none N g_0 g_1 g_2 k0 = some r := by
  obtain ⟨⟨n, rfl, hN, g, hX, hO⟩, hk⟩ := cond_some h
  rw [cp_turn hN g hX hO]; exact hk
noncomputable def cgb_i_ExchangeOf (z : β) (N : Nat) (g_0 : Int) (g_1 : Nat -> Int) (g_2 : Nat -> Int) (k0 : Int -> (Nat -> Int) -> (Nat -> Int) -> β) : β := cond (bP (CpG N g_0 g_1 g_2)) (k0 g_0 g_2 g_1) z
theorem cgb_i_ExchangeOf_mono {α : Type} {N : Nat} {g_0 : Int} {g_1 g_2 : Nat -> Int} {k0 : Int -> (Nat -> Int) -> (Nat -> Int) -> Int -> Option α} {r : α} (h : cgb_i_ExchangeOf none N g_0 g_1 g_2 (fun a b c => k0 a b c 0) = some r) : q02k none N g_0 g_1 g_2 k0 = some r := by
  obtain ⟨⟨n, rfl, hN, g, hX, hO⟩, hk⟩ := cond_some h
  rw [cp_exch hN g hX hO]; exact hk
end
end Go.AM
namespace Go.AM
section
variable {β : Type}
theorem colsTo_lt (h : Nat -> Int) (n k j : Nat) (hj : j < (colsTo h n k).length) : ∃ x : Nat, (colsTo h n k)[j]?.getD 0 = (x : Int) ∧ x < n ∧ h x = k := by
  have : (colsTo h n k)[j]'hj ∈ colsTo h n k := List.getElem_mem hj
  rw [List.getElem?_eq_getElem hj, Option.getD_some]
  generalize (colsTo h n k)[j]'hj = y at *
  unfold colsTo at this
  obtain ⟨x, hx, rfl⟩ := List.mem_map.1 this
  obtain ⟨h1, h2⟩ := List.mem_filter.1 hx
  exact ⟨x, rfl, List.mem_range.1 h1, of_decide_eq_true h2⟩
theorem colsTo_inj (h : Nat -> Int) (n k i j : Nat) (hij : i < j) (hj : j < (colsTo h n k).length) : (colsTo h n k)[i]?.getD 0 ≠ (colsTo h n k)[j]?.getD 0 := by
  have pw : List.Pairwise (· < ·) (colsTo h n k) := by
    unfold colsTo
    exact List.Pairwise.map (R := (· < ·)) Int.ofNat (fun a b h => Int.ofNat_lt.2 h) (List.Pairwise.filter _ List.pairwise_lt_range)
  have := List.pairwise_iff_getElem.1 pw i j (by omega) hj hij
  rw [List.getElem?_eq_getElem hj, List.getElem?_eq_getElem (by omega), Option.getD_some, Option.getD_some]
  omega
def lenS (h : Nat -> Int) (n : Nat) : Nat -> Nat
  | 0 => 0
  | k + 1 => lenS h n k + (colsTo h n k).length
theorem lenS_zero (h : Nat -> Int) : ∀ k, lenS h 0 k = 0 := by
  intro k
  induction k with
  | zero => rfl
  | succ k ih => rw [lenS, ih]; rfl
theorem lenS_succ (h : Nat -> Int) (n : Nat) : ∀ k, lenS h (n + 1) k = lenS h n k + if 0 <= h n ∧ h n < k then 1 else 0 := by
  intro k
  induction k with
  | zero => rw [lenS, lenS, if_neg (by omega)]
  | succ k ih =>
    rw [lenS, lenS, ih, colsTo_succ]
    by_cases e : h n = (k : Int)
    · rw [if_pos e, if_neg (by omega), if_pos (by omega), List.length_append]; show _ + 0 + (_ + 1) = _; omega
    · rw [if_neg e]
      by_cases e2 : 0 <= h n ∧ h n < k
      · rw [if_pos e2, if_pos (by omega)]; omega
      · rw [if_neg e2, if_neg (by omega)]; omega
theorem lenS_all {h : Nat -> Int} {m : Nat} : ∀ n, (∀ x, x < n -> 0 <= h x ∧ h x < m) -> lenS h n m = n := by
  intro n
  induction n with
  | zero => intro _; exact lenS_zero h m
  | succ n ih => intro hb; rw [lenS_succ, ih fun x hx => hb x (by omega), if_pos (hb n (by omega))]
theorem lenS_le (h : Nat -> Int) (n : Nat) : ∀ k, lenS h n k <= n * k := by
  intro k
  induction k with
  | zero => exact Nat.zero_le _
  | succ k ih => have := colsTo_len h n k; rw [lenS, Nat.mul_succ]; omega
theorem met_row (z : β) {N : Nat} (hN : 100 < N) {n m k : Nat} (h8 : n <= 8) (hm : m <= 8) (hk : k < m) {h : Nat -> Int} (b : Bool) (cn cl cc hn : Nat) (h0 : Nat -> Int) (X O : Nat -> Int) (ids' : List (Nat × Nat)) (P' : List (List Int)) (met : Nat -> Bool) (hmet : ∀ x : Nat, met x = true -> h x < k) (kb : (Nat -> Bool) -> β) :
    ∃ met' : Nat -> Bool, (∀ x : Nat, met' x = true -> h x < k + 1) ∧ ∀ k1, q03n z cn cl cc m m m b k hn h0 n X O (idsTo h m n) (tabTo h m n) ids' P' N (lenS h n k) 0 met kb k1 = k1 (lenS h n (k + 1)) met' := by
  have li : (idsTo h m n).length = m := by simp [idsTo]
  have gi : (idsTo h m n)[k]?.getD (0, 0) = (k, (colsTo h n k).length) := range_get hk _
  have gt : (tabTo h m n)[k]?.getD [] = colsTo h n k := range_get hk _
  have l := colsTo_len h n k
  have ll := lenS_le h n k
  have l64 : n * k <= 64 := Nat.le_trans (Nat.mul_le_mul h8 (show k <= 8 by omega)) (by decide)
  obtain ⟨s', i1, i2⟩ := up_to_exD (κ := Int -> (Nat -> Bool) -> β) (L := fun k1 M j (s : Nat -> Bool) => q03n z cn cl cc m m m b k hn h0 n X O (idsTo h m n) (tabTo h m n) ids' P' M ((lenS h n k + j : Nat) : Int) (j : Int) s kb k1) (n := (colsTo h n k).length) (out := fun k1 s => k1 (lenS h n (k + 1)) s)
    (I := fun j s => ∀ x : Nat, s x = true -> h x < k ∨ ∃ i, i < j ∧ (colsTo h n k)[i]?.getD 0 = (x : Int))
    (fun j s hj I => by
      obtain ⟨x, ex, hx, hl⟩ := colsTo_lt h n k j hj
      refine ⟨upd s x true, fun k1 M => ?_, fun y hy => ?_⟩
      · have ns : s x = false := by
          cases e : s x with
          | false => rfl
          | true =>
            rcases I x e with e1 | ⟨i, hi, ei⟩
            · omega
            · exact absurd (ei.trans ex.symm) (colsTo_inj h n k i j hi hj)
        rw [q03n, q03m]
        simp only [c_and, Int.toNat_natCast, gi, gt, ex]
        simp (disch := omega) only [c_beq, c_le, c_lt, c_blt, c_ble, c_nlt, c_nle, c_fits, li, ns, c_false]
        rfl
      · rw [upd_at] at hy
        by_cases e : y = x
        · subst e; exact .inr ⟨j, by omega, ex⟩
        · rw [if_neg e] at hy
          rcases I y hy with e1 | ⟨i, hi, ei⟩
          · exact .inl e1
          · exact .inr ⟨i, by omega, ei⟩)
    (fun k1 M s I => by
      rw [q03n, q03m]
      simp only [c_and, Int.toNat_natCast, gi]
      simp (disch := omega) only [c_beq, c_le, c_lt, c_blt, c_ble, c_nlt, li]
      rfl) (colsTo h n k).length 0 met (by omega) (fun x hx => .inl (hmet x hx))
  refine ⟨s', fun x hx => ?_, fun k1 => i2 k1 N (by omega)⟩
  rcases i1 x hx with e1 | ⟨i, hi, ei⟩
  · omega
  · obtain ⟨y, ey, hy, hl⟩ := colsTo_lt h n k i hi
    have : x = y := by omega
    subst this
    omega
theorem met_val (z : β) {N : Nat} (hN : 100 < N) {n m : Nat} (h8 : n <= 8) (hm : m <= 8) {h : Nat -> Int} (hb : ∀ x, x < n -> 0 <= h x ∧ h x < m) (b : Bool) (cn cl cc hn : Nat) (h0 : Nat -> Int) (X O : Nat -> Int) (ids' : List (Nat × Nat)) (P' : List (List Int)) (kb : (Nat -> Bool) -> β) (k1 : Int -> (Nat -> Bool) -> β) :
    ∃ met, q03p z N cn cl cc m m m b hn h0 n X O (idsTo h m n) (tabTo h m n) ids' P' N 0 0 (fun _ => false) kb k1 = k1 n met := by
  obtain ⟨s', i1, i2⟩ := up_to_exD (κ := Unit) (L := fun _ M k (s : Nat -> Bool) => q03p z N cn cl cc m m m b hn h0 n X O (idsTo h m n) (tabTo h m n) ids' P' M (lenS h n k) (k : Int) s kb k1) (n := m) (out := fun _ s => k1 n s) (I := fun k s => ∀ x : Nat, s x = true -> h x < k)
    (fun k s hk I => by
      obtain ⟨s', j1, j2⟩ := met_row z hN h8 hm hk b cn cl cc hn h0 X O ids' P' s I kb
      refine ⟨s', fun _ M => ?_, fun x hx => by have := j1 x hx; omega⟩
      rw [q03p, q03o, c_ble (by omega), c_lt (by omega), j2, c_fits (by omega)]
      rfl)
    (fun _ M s I => by
      rw [q03p, q03o, c_ble (by omega), c_nlt (by omega), lenS_all n hb]) m 0 (fun _ => false) (by omega) (fun x hx => by cases hx)
  exact ⟨s', i2 () N (by omega)⟩
theorem gcd_loop {z : β} {F : Nat -> Int -> Int -> (Int -> β) -> β} (hF : ∀ m x y k, F (m + 1) x y k = cond (decide (0 < y)) (cond (!y == 0) (F m y (x.tmod y) k) z) (k x)) :
    ∀ (y x m : Nat) (k : Int -> β), y < m -> F m x y k = k (Nat.gcd y x : Int) := by
  intro y
  induction y using Nat.strongRecOn with
  | _ y ih =>
    intro x m k hm
    obtain ⟨m, rfl⟩ : ∃ m', m = m' + 1 := ⟨m - 1, by omega⟩
    rw [hF]
    rcases Nat.eq_zero_or_pos y with e | e
    · subst e
      rw [c_nlt (by omega), Nat.gcd_zero_left]
    · have lt := Nat.mod_lt x e
      rw [c_lt (by omega), c_not, c_neq (by omega), tmod_pos (by omega), show (x : Int) % (y : Int) = ((x % y : Nat) : Int) from rfl, ih (x % y) lt y m k (by omega)]
      congr 2
      rw [Nat.gcd_rec y x]
end
end Go.AM
namespace Go.AM
section
variable {β : Type}
theorem byt_of {n : Nat} {X : Nat -> Int} (h8 : n <= 8) (p : PermP 8 n X) (h0 : ∀ j, 0 <= X j) (z : ∀ j, n <= j -> X j = 0) : Byt X := by
  refine ⟨fun j => ⟨h0 j, ?_⟩, fun j hj => z j (by omega)⟩
  rcases Nat.lt_or_ge j n with h | h
  · have := p.2.1 j h; omega
  · rw [z j h]; omega
theorem zer_of {n : Nat} {X : Nat -> Int} (p : PermP 8 n X) (b : Byt X) : ∀ j, n <= j -> X j = 0 := fun j hj => by
  rcases Nat.lt_or_ge j 8 with h | h
  · exact p.1 j hj h
  · exact b.z j h
section one
variable {N n : Nat} {X O : Nat -> Int}
theorem CpG.mk' (hN : 8 < N) (g : GridP n X O) (hX : Byt X) (hO : Byt O) : CpG N n X O := ⟨n, rfl, hN, g, hX, hO⟩
theorem CpG.no {m : Int} (h : CpG N m X O) : ¬CpB N m X O := fun b => by
  obtain ⟨n, rfl, _, g, _⟩ := h
  have := b.2.1
  rw [gridB_iff.2 ⟨n, rfl, g⟩] at this
  cases this
theorem cp_le (g : GridP n X O) (hX : Byt X) (hO : Byt O) : cpN n X O <= 8 := by
  have I := compS_inv (nxtC_lt g (fun j => (hX.b j).1) fun j => (hO.b j).1)
  have := cpN_val g hX hO
  have := I.le
  have := g.hi
  omega
theorem cp_all (g : GridP n X O) (hX : Byt X) (hO : Byt O) : ∀ x, x < n -> 0 <= (compS (nxtC n X O) n).1 x ∧ (compS (nxtC n X O) n).1 x < cpN n X O := by
  have A := comp_all g.hi (nxtC_lt g (fun j => (hX.b j).1) fun j => (hO.b j).1) (nxtC_inj g (fun j => (hX.b j).1) fun j => (hO.b j).1)
  intro x hx
  rw [cpN_val g hX hO]
  exact A.bd x hx
theorem rows5_val3 (z : β) {N c c' : Nat} {ids ids' : List (Nat × Nat)} {P P' T : List (List Int)} (h : TabP ids P T) (h' : TabP ids' P' T) (s : SmallT N T) (k : Bool -> β) :
    q03l z N ids.length T.length c ids'.length T.length c' ids ids' P P' k = k true := by
  have := s.rows
  have := h.len
  have := h'.len
  unfold q03l
  rw [c_ble (by omega), c_ble (by omega), c_nne rfl]
  exact (up_to_all (L := fun m i => q03k z N ids.length T.length c ids'.length T.length c' ids ids' P P' m (i : Int) (k false) (k true)) (n := T.length) (kt := k true) (kf := k false) (p := fun _ => true)
    (fun m i hi => by
      have e1 := h.sz i hi
      have e2 := h'.sz i hi
      have e3 := s.cols i hi
      have e4 := h.row i hi
      have e5 := h'.row i hi
      unfold idAt at e1 e2 e4 e5
      rw [q03k, q03j]
      simp only [c_and, Int.toNat_natCast]
      simp (disch := omega) only [c_lt, c_le, c_blt, c_ble, c_beq, e1, e2]
      rw [likeRow z e3.1 e3.2 e4 e5]
      simp (disch := omega) only [Bool.not_true, cond_false, c_fits]
      rfl)
    (fun m => by
      rw [q03k, q03j]
      simp (disch := omega) only [c_ble, c_nlt]) T.length N 0 (by omega) (by omega)).trans (by rw [(allFrom_iff T.length 0).2 fun _ _ _ => rfl]; rfl)
theorem rows5_val4 (z : β) {N c c' : Nat} {ids ids' : List (Nat × Nat)} {P P' T : List (List Int)} (h : TabP ids P T) (h' : TabP ids' P' T) (s : SmallT N T) (k : Bool -> β) :
    q03s z N ids.length T.length c ids'.length T.length c' ids ids' P P' k = k true := by
  have := s.rows
  have := h.len
  have := h'.len
  unfold q03s
  rw [c_ble (by omega), c_ble (by omega), c_nne rfl]
  exact (up_to_all (L := fun m i => q03r z N ids.length T.length c ids'.length T.length c' ids ids' P P' m (i : Int) (k false) (k true)) (n := T.length) (kt := k true) (kf := k false) (p := fun _ => true)
    (fun m i hi => by
      have e1 := h.sz i hi
      have e2 := h'.sz i hi
      have e3 := s.cols i hi
      have e4 := h.row i hi
      have e5 := h'.row i hi
      unfold idAt at e1 e2 e4 e5
      rw [q03r, q03q]
      simp only [c_and, Int.toNat_natCast]
      simp (disch := omega) only [c_lt, c_le, c_blt, c_ble, c_beq, e1, e2]
      rw [likeRow z e3.1 e3.2 e4 e5]
      simp (disch := omega) only [Bool.not_true, cond_false, c_fits]
      rfl)
    (fun m => by
      rw [q03r, q03q]
      simp (disch := omega) only [c_ble, c_nlt]) T.length N 0 (by omega) (by omega)).trans (by rw [(allFrom_iff T.length 0).2 fun _ _ _ => rfl]; rfl)
theorem cp_tab (g : GridP n X O) (hX : Byt X) (hO : Byt O) (hN : 8 < N) : TabP (cpI n X O) (cpT n X O) (cpT n X O) ∧ SmallT N (cpT n X O) ∧ (cpI n X O).length = cpN n X O ∧ (cpT n X O).length = cpN n X O :=
  ⟨tabTo_tab _ _ _, tabTo_small hN (cp_le g hX hO) g.hi, by unfold cpI idsTo; simp, by unfold cpT tabTo; simp⟩
theorem cp_rows3 (z : β) (g : GridP n X O) (hX : Byt X) (hO : Byt O) (hN : 8 < N) (k : Bool -> β) : q03l z N (cpN n X O) (cpN n X O) (cpN n X O) (cpN n X O) (cpN n X O) (cpN n X O) (cpI n X O) (cpI n X O) (cpT n X O) (cpT n X O) k = k true := by
  obtain ⟨h1, h2, h3, h4⟩ := cp_tab g hX hO hN
  have := rows5_val3 z (c := cpN n X O) (c' := cpN n X O) h1 h1 h2 k
  rwa [h3, h4] at this
theorem cp_rows4 (z : β) (g : GridP n X O) (hX : Byt X) (hO : Byt O) (hN : 8 < N) (k : Bool -> β) : q03s z N (cpN n X O) (cpN n X O) (cpN n X O) (cpN n X O) (cpN n X O) (cpN n X O) (cpI n X O) (cpI n X O) (cpT n X O) (cpT n X O) k = k true := by
  obtain ⟨h1, h2, h3, h4⟩ := cp_tab g hX hO hN
  have := rows5_val4 z (c := cpN n X O) (c' := cpN n X O) h1 h1 h2 k
  rwa [h3, h4] at this
theorem cp_met (z : β) (g : GridP n X O) (hX : Byt X) (hO : Byt O) (hN : 100 < N) (b : Bool) (cn cl cc hn : Nat) (h0 : Nat -> Int) (kb : (Nat -> Bool) -> β) (k1 : Int -> β) :
    q03p z N cn cl cc (cpN n X O) (cpN n X O) (cpN n X O) b hn h0 n X O (cpI n X O) (cpT n X O) (cpI n X O) (cpT n X O) N 0 0 (fun _ => false) kb (fun c _ => k1 c) = k1 n := by
  obtain ⟨met, e⟩ := met_val z hN g.hi (cp_le g hX hO) (cp_all g hX hO) b cn cl cc hn h0 X O (cpI n X O) (cpT n X O) kb (fun (c : Int) (_ : Nat -> Bool) => k1 c)
  exact e
theorem cp_swap (g : GridP n X O) (hX : Byt X) (hO : Byt O) : cpN n O X = cpN n X O ∧ cpI n O X = cpI n X O ∧ cpT n O X = cpT n X O := by
  obtain ⟨h1, h2⟩ := comp_exchange g (fun j => (hX.b j).1) fun j => (hO.b j).1
  have e1 : cpN n O X = cpN n X O := by unfold cpN; rw [Int.toNat_natCast, h2]
  have e2 : colsTo (compS (nxtC n O X) n).1 n = colsTo (compS (nxtC n X O) n).1 n := funext fun k => colsTo_congr h1
  refine ⟨e1, ?_, ?_⟩
  · unfold cpI idsTo; rw [e1, Int.toNat_natCast, e2]
  · unfold cpT tabTo; rw [e1, Int.toNat_natCast, e2]
theorem cp_turnG (g : GridP n X O) (hX : Byt X) (hO : Byt O) (hN : 8 < N) : CpG N n (turnS n X O).1 (turnS n X O).2 ∧ cpN n (turnS n X O).1 (turnS n X O).2 = cpN n X O := by
  have x0 := fun j => (hX.b j).1
  have o0 := fun j => (hO.b j).1
  obtain ⟨t1, t2, t3⟩ := turn_grid g x0 o0
  obtain ⟨p1, p2⟩ := turnS_parts n X O
  refine ⟨.mk' hN t1 (byt_of g.hi t1.px t2 (turn_half g.po o0 p1).2) (byt_of g.hi t1.po t3 (turn_half g.px x0 p2).2), ?_⟩
  unfold cpN
  rw [Int.toNat_natCast, comp_turn g x0 o0]
theorem cp_rollG (g : GridP n X O) (hX : Byt X) (hO : Byt O) (hN : 8 < N) (v u : Int) : CpG N n (rollP n X O v u).1 (rollP n X O v u).2 ∧ cpN n (rollP n X O v u).1 (rollP n X O v u).2 = cpN n X O ∧
    (rollP n (rollP n X O v u).1 (rollP n X O v u).2 (-v) (-u)).1 = X ∧ (rollP n (rollP n X O v u).1 (rollP n X O v u).2 (-v) (-u)).2 = O := by
  have x0 := fun j => (hX.b j).1
  have o0 := fun j => (hO.b j).1
  have h1 : 1 <= n := by have := g.lo; omega
  have r := rollP_is h1 g.hi X O v u
  have g' := roll_grid g x0 o0 r
  have nn := roll_nn h1 r
  have s := rollP_is h1 g.hi (rollP n X O v u).1 (rollP n X O v u).2 (-v) (-u)
  refine ⟨.mk' hN g' (byt_of g.hi g'.px (fun j => (nn j).1) r.xz) (byt_of g.hi g'.po (fun j => (nn j).2) r.oz), ?_, roll_back g x0 o0 (zer_of g.px hX) (zer_of g.po hO) r s⟩
  unfold cpN
  rw [Int.toNat_natCast, comp_roll g x0 o0 r]
theorem cp_unionG {m : Nat} {Y P : Nat -> Int} (g : GridP n X O) (hX : Byt X) (hO : Byt O) (g2 : GridP m Y P) (hY : Byt Y) (hP : Byt P) (h8 : n + m <= 8) (hN : 8 < N) :
    CpG N ((n : Int) + (m : Int)) (behP n m X Y) (behP n m O P) ∧ cpN ((n : Int) + (m : Int)) (behP n m X Y) (behP n m O P) = cpN n X O + cpN m Y P := by
  have x0 := fun j => (hX.b j).1
  have o0 := fun j => (hO.b j).1
  have y0 := fun j => (hY.b j).1
  have p0 := fun j => (hP.b j).1
  have ux := behP_is h8 (zer_of g.px hX) (Y := Y) fun j hj => ⟨y0 j, by have := g2.px.2.1 j hj; have := g2.hi; omega⟩
  have uo := behP_is h8 (zer_of g.po hO) (Y := P) fun j hj => ⟨p0 j, by have := g2.po.2.1 j hj; have := g2.hi; omega⟩
  have G := un_grid g g2 h8 x0 o0 y0 p0 ux uo
  have bx := byt_of h8 G.px (ux.nn x0 y0) ux.z
  have bo := byt_of h8 G.po (uo.nn o0 p0) uo.z
  have k := comp_union g g2 h8 x0 o0 y0 p0 ux uo
  rw [<- cpN_val g hX hO, <- cpN_val g2 hY hP, <- cpN_val G bx bo] at k
  rw [show (n : Int) + (m : Int) = ((n + m : Nat) : Int) from rfl]
  exact ⟨.mk' hN G bx bo, by omega⟩
end one
theorem cp_torusG {N p q : Nat} (h1 : 1 <= p) (h2 : 1 <= q) (h8 : p + q <= 8) (hN : 8 < N) : CpG N ((p : Int) + (q : Int)) (torP p q).1 (torP p q).2 ∧ cpN ((p : Int) + (q : Int)) (torP p q).1 (torP p q).2 = Nat.gcd q p := by
  have t := torP_is p q
  have G := tor_grid h1 h2 h8 t
  have bx := byt_of h8 G.px (fun j => (t.nn j).1) t.xz
  have bo := byt_of h8 G.po (fun j => (t.nn j).2) t.oz
  have k := comp_torus h1 h2 h8 t
  rw [<- cpN_val G bx bo] at k
  rw [show (p : Int) + (q : Int) = ((p + q : Nat) : Int) from rfl, Nat.gcd_comm]
  exact ⟨.mk' hN G bx bo, by omega⟩
end
end Go.AM
