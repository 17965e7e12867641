/- A part of a proof about the given program: an abstract machine, what the given functions come to, and plain laws. -/
import Derived.Test.YtkboldcnkkolkaaAMRun
namespace Go.AM
/-- What a state looks like, but for the values of some variables. -/
inductive Pat where
  | undef
  | nils
  | int (k : IntKind)
  | intC (k : IntKind) (n : Int)
  | bool
  | boolC (b : Bool)
  | str
  | ptr (p : Place)
  | slice (p : Place) (len cap es : Nat) (ex : Bool)
  | sliceV (b s o es : Nat) (ex : Bool)
  | func (f : FuncId) (ps : List Pat)
  | ints (k : IntKind) (n : Nat)
  | intsV (k : IntKind)
  | vec (k : IntKind)
  | bools (n : Nat)
  | vals (ps : List Pat)
  | valsV
  | agg (ps : List Pat)
  | tuple (ps : List Pat)
  | recs (ks : List (Option IntKind))
  | rptr (p : Place) (c : Nat)
  | pool (k : IntKind)
  | hdr (b : Nat)
  | strs
  | sliceR (b es : Nat) (ex : Bool)
  | ptrV (b s : Nat)

/-- The value of a variable. -/
inductive Var where
  | i (x : Int)
  | b (x : Bool)
  | s (x : List UInt8)
  | n (x : Nat)
  | f (g : Nat → Int)
  | g (g : Nat → Bool)
  | l (xs : List Int)
  | v (vs : List AV)
  | r (rows : List (List Int))
  | p (ids : List (Nat × Nat))
  | t (xs : List (List UInt8))

section
def samePlace (p q : Place) : Bool := Nat.beq p.b.b q.b.b && Nat.beq p.b.r q.b.r && Nat.beq p.s q.s && Nat.beq p.o q.o && Nat.beq p.n q.n
def sameB : Bool → Bool → Bool
  | true, true | false, false => true
  | _, _ => false
def sameI : Int → Int → Bool
  | .ofNat a, .ofNat b => Nat.beq a b
  | .negSucc a, .negSucc b => Nat.beq a b
  | _, _ => false
def consV (x : Option (List Var)) (y : Option (List Var)) : Option (List Var) := match x with
  | some a => match y with
    | some b => some (a ++ b)
    | none => none
  | none => none
def onlyIf (b : Bool) (x : List Var) : Option (List Var) := cond b (some x) none
mutual
def matchP : Pat → AV → Option (List Var)
  | .undef, v => match v with | .undef => some [] | _ => none
  | .nils, v => match v with | .nils => some [] | _ => none
  | .int k, v => match v with | .int k' n => onlyIf (keq k k') [.i n] | _ => none
  | .intC k m, v => match v with | .int k' n => onlyIf (keq k k' && sameI m n) [] | _ => none
  | .bool, v => match v with | .bool b => some [.b b] | _ => none
  | .boolC c, v => match v with | .bool b => onlyIf (sameB c b) [] | _ => none
  | .str, v => match v with | .str s => some [.s s] | _ => none
  | .ptr p, v => match v with | .ptr q => onlyIf (samePlace p q) [] | _ => none
  | .slice p l c es ex, v => match v with | .slice q l' c' es' ex' => onlyIf (samePlace p q && Nat.beq l l' && Nat.beq c c' && Nat.beq es es' && sameB ex ex') [] | _ => none
  | .sliceV b s o es ex, v => match v with | .slice q l' c' es' ex' => onlyIf (Nat.beq b q.b.b && Nat.beq 0 q.b.r && Nat.beq s q.s && Nat.beq o q.o && Nat.beq es es' && sameB ex ex') [.n q.n, .n l', .n c'] | _ => none
  | .func f ps, v => match v with | .func g caps => cond (Nat.beq f g) (matchL ps caps) none | _ => none
  | .ints k n, v => match v with | .ints k' n' f => onlyIf (keq k k' && Nat.beq n n') [.f f] | _ => none
  | .intsV k, v => match v with | .ints k' n' f => onlyIf (keq k k') [.n n', .f f] | _ => none
  | .vec k, v => match v with | .vec k' xs => onlyIf (keq k k') [.l xs] | _ => none
  | .bools n, v => match v with | .bools n' g => onlyIf (Nat.beq n n') [.g g] | _ => none
  | .vals ps, v => match v with | .vals vs => matchL ps vs | _ => none
  | .valsV, v => match v with | .vals vs => some [.v vs] | _ => none
  | .agg ps, v => match v with | .agg vs => matchL ps vs | _ => none
  | .tuple ps, v => match v with | .tuple vs => matchL ps vs | _ => none
  | .recs ks, v => match v with | .recs ks' xs => onlyIf (sameCols ks ks') [.l xs] | _ => none
  | .rptr p c, v => match v with | .rptr q d => onlyIf (samePlace p q && Nat.beq c d) [] | _ => none
  | .pool k, v => match v with | .pool k' rows => onlyIf (keq k k') [.r rows] | _ => none
  | .hdr b, v => match v with | .hdr b' ids => onlyIf (Nat.beq b b') [.p ids] | _ => none
  | .strs, v => match v with | .strs xs => some [.t xs] | _ => none
  | .sliceR b es ex, v => match v with
    | .slice q l' c' es' ex' => match q.b.r with
      | r + 1 => onlyIf (Nat.beq b q.b.b && Nat.beq 0 q.s && Nat.beq es es' && sameB ex ex') [.n r, .n q.o, .n q.n, .n l', .n c']
      | 0 => none
    | _ => none
  | .ptrV b s, v => match v with | .ptr q => onlyIf (Nat.beq b q.b.b && Nat.beq 0 q.b.r && Nat.beq s q.s) [.n q.o, .n q.n] | _ => none
def matchL : List Pat → List AV → Option (List Var)
  | [], vs => match vs with | [] => some [] | _ => none
  | p :: ps, vs => match vs with | v :: vs => consV (matchP p v) (matchL ps vs) | [] => none
end
def matchH : List (List Pat) → Heap → Option (List Var)
  | [], h => match h with | [] => some [] | _ => none
  | p :: ps, h => match h with | b :: h => consV (matchL p b) (matchH ps h) | [] => none

mutual
def buildP : Pat → List Var → AV × List Var
  | .undef, l => (.undef, l)
  | .nils, l => (.nils, l)
  | .int k, l => match l with | .i n :: l => (.int k n, l) | l => (.undef, l)
  | .intC k m, l => (.int k m, l)
  | .bool, l => match l with | .b b :: l => (.bool b, l) | l => (.undef, l)
  | .boolC c, l => (.bool c, l)
  | .str, l => match l with | .s s :: l => (.str s, l) | l => (.undef, l)
  | .ptr p, l => (.ptr p, l)
  | .slice p n c es ex, l => (.slice p n c es ex, l)
  | .sliceV b s o es ex, l => match l with | .n n :: .n l' :: .n c' :: l => (.slice ⟨⟨b, 0⟩, s, o, n⟩ l' c' es ex, l) | l => (.undef, l)
  | .func f ps, l => match buildL ps l with | (vs, l) => (.func f vs, l)
  | .ints k n, l => match l with | .f f :: l => (.ints k n f, l) | l => (.undef, l)
  | .intsV k, l => match l with | .n n :: .f f :: l => (.ints k n f, l) | l => (.undef, l)
  | .vec k, l => match l with | .l xs :: l => (.vec k xs, l) | l => (.undef, l)
  | .bools n, l => match l with | .g g :: l => (.bools n g, l) | l => (.undef, l)
  | .vals ps, l => match buildL ps l with | (vs, l) => (.vals vs, l)
  | .valsV, l => match l with | .v vs :: l => (.vals vs, l) | l => (.undef, l)
  | .agg ps, l => match buildL ps l with | (vs, l) => (.agg vs, l)
  | .tuple ps, l => match buildL ps l with | (vs, l) => (.tuple vs, l)
  | .recs ks, l => match l with | .l xs :: l => (.recs ks xs, l) | l => (.undef, l)
  | .rptr p c, l => (.rptr p c, l)
  | .pool k, l => match l with | .r rows :: l => (.pool k rows, l) | l => (.undef, l)
  | .hdr b, l => match l with | .p ids :: l => (.hdr b ids, l) | l => (.undef, l)
  | .strs, l => match l with | .t xs :: l => (.strs xs, l) | l => (.undef, l)
  | .sliceR b es ex, l => match l with | .n r :: .n o :: .n n :: .n l' :: .n c' :: l => (.slice ⟨⟨b, r + 1⟩, 0, o, n⟩ l' c' es ex, l) | l => (.undef, l)
  | .ptrV b s, l => match l with | .n o :: .n n :: l => (.ptr ⟨⟨b, 0⟩, s, o, n⟩, l) | l => (.undef, l)
def buildL : List Pat → List Var → List AV × List Var
  | [], l => ([], l)
  | p :: ps, l => match buildP p l with
    | (v, l) => match buildL ps l with
      | (vs, l) => (v :: vs, l)
end
def buildH : List (List Pat) → List Var → Heap × List Var
  | [], l => ([], l)
  | p :: ps, l => match buildL p l with
    | (v, l) => match buildH ps l with
      | (vs, l) => (v :: vs, l)

/-- What a state looks like: slots and heap. -/
structure SPat where
  t : List Pat
  h : List (List Pat)
def matchS (p : SPat) (s : St) : Option (List Var) := consV (matchL p.t s.t) (matchH p.h s.h)
def buildS (p : SPat) (l : List Var) : St := match buildL p.t l with
  | (t, l) => ⟨t, (buildH p.h l).1⟩

theorem samePlace_eq {p q : Place} (h : samePlace p q = true) : p = q := by
  unfold samePlace at h
  simp only [Bool.and_eq_true] at h
  obtain ⟨⟨⟨⟨h0, h1⟩, h2⟩, h3⟩, h4⟩ := h
  obtain ⟨⟨p1, p2⟩, p3, p4, p5⟩ := p
  obtain ⟨⟨q1, q2⟩, q3, q4, q5⟩ := q
  simp only at h0 h1 h2 h3 h4
  rw [Nat.eq_of_beq_eq_true h0, Nat.eq_of_beq_eq_true h1, Nat.eq_of_beq_eq_true h2, Nat.eq_of_beq_eq_true h3, Nat.eq_of_beq_eq_true h4]
theorem sameColsP : ∀ {a b : List (Option IntKind)}, sameCols a b = true → a = b
  | [], [], _ => rfl
  | [], _ :: _, h => by simp [sameCols] at h
  | _ :: _, [], h => by simp [sameCols] at h
  | x :: as, y :: bs, h => by
    simp only [sameCols] at h
    cases hc : sameCol x y with
    | false => simp [hc] at h
    | true =>
      simp only [hc, cond_true] at h
      rw [sameColsP h]
      congr 1
      cases x <;> cases y <;> simp only [sameCol, Bool.false_eq_true] at hc
      · rfl
      · rename_i k k'
        cases k <;> cases k' <;> first | rfl | cases hc
theorem sameB_eq {a b : Bool} (h : sameB a b = true) : a = b := by cases a <;> cases b <;> simp_all [sameB]
theorem sameI_eq {a b : Int} (h : sameI a b = true) : a = b := by
  cases a <;> cases b <;> simp only [sameI, Bool.false_eq_true] at h
  · rw [Nat.eq_of_beq_eq_true h]
  · rw [Nat.eq_of_beq_eq_true h]
theorem keqP {k k' : IntKind} (h : keq k k' = true) : k = k' := by cases k <;> cases k' <;> first | rfl | simp [keq] at h
theorem onlyIf_some {b : Bool} {x l : List Var} (h : onlyIf b x = some l) : b = true ∧ x = l := by
  cases b <;> simp [onlyIf] at h
  exact ⟨rfl, h⟩
theorem consV_some {x y : Option (List Var)} {l : List Var} (h : consV x y = some l) : ∃ a b, x = some a ∧ y = some b ∧ l = a ++ b := by
  cases x <;> cases y <;> simp [consV] at h
  exact ⟨_, _, rfl, rfl, h.symm⟩

mutual
theorem buildP_of : ∀ (p : Pat) (v : AV) (l : List Var), matchP p v = some l → ∀ rest, buildP p (l ++ rest) = (v, rest)
  | .undef, v, l, h, rest => by cases v <;> simp only [matchP, reduceCtorEq, Option.some.injEq] at h; subst h; rfl
  | .nils, v, l, h, rest => by cases v <;> simp only [matchP, reduceCtorEq, Option.some.injEq] at h; subst h; rfl
  | .int k, v, l, h, rest => by
    cases v <;> simp only [matchP, reduceCtorEq] at h
    obtain ⟨h1, rfl⟩ := onlyIf_some h
    rw [keqP h1]; rfl
  | .intC k m, v, l, h, rest => by
    cases v <;> simp only [matchP, reduceCtorEq] at h
    obtain ⟨h1, rfl⟩ := onlyIf_some h
    simp only [Bool.and_eq_true] at h1
    rw [keqP h1.1, sameI_eq h1.2]; rfl
  | .bool, v, l, h, rest => by cases v <;> simp only [matchP, reduceCtorEq, Option.some.injEq] at h; subst h; rfl
  | .boolC c, v, l, h, rest => by
    cases v <;> simp only [matchP, reduceCtorEq] at h
    obtain ⟨h1, rfl⟩ := onlyIf_some h
    rw [sameB_eq h1]; rfl
  | .str, v, l, h, rest => by cases v <;> simp only [matchP, reduceCtorEq, Option.some.injEq] at h; subst h; rfl
  | .ptr p, v, l, h, rest => by
    cases v <;> simp only [matchP, reduceCtorEq] at h
    obtain ⟨h1, rfl⟩ := onlyIf_some h
    rw [samePlace_eq h1]; rfl
  | .slice p n c es ex, v, l, h, rest => by
    cases v <;> simp only [matchP, reduceCtorEq] at h
    obtain ⟨h1, rfl⟩ := onlyIf_some h
    simp only [Bool.and_eq_true] at h1
    obtain ⟨⟨⟨⟨h1, h2⟩, h3⟩, h4⟩, h5⟩ := h1
    rw [samePlace_eq h1, Nat.eq_of_beq_eq_true h2, Nat.eq_of_beq_eq_true h3, Nat.eq_of_beq_eq_true h4, sameB_eq h5]; rfl
  | .sliceV b s o es ex, v, l, h, rest => by
    cases v <;> simp only [matchP, reduceCtorEq] at h
    rename_i q l' c' es' ex'
    obtain ⟨⟨q1, q2⟩, q3, q4, q5⟩ := q
    obtain ⟨h1, rfl⟩ := onlyIf_some h
    simp only [Bool.and_eq_true] at h1
    obtain ⟨⟨⟨⟨⟨h1, h0⟩, h2⟩, h3⟩, h4⟩, h5⟩ := h1
    have h0 := Nat.eq_of_beq_eq_true h0
    subst h0
    rw [Nat.eq_of_beq_eq_true h1, Nat.eq_of_beq_eq_true h2, Nat.eq_of_beq_eq_true h3, Nat.eq_of_beq_eq_true h4, sameB_eq h5]; rfl
  | .func f ps, v, l, h, rest => by
    cases v <;> simp only [matchP, reduceCtorEq] at h
    rename_i g caps
    cases hq : Nat.beq f g with
    | false => rw [hq] at h; cases h
    | true =>
      rw [hq] at h
      simp only [buildP]
      rw [buildL_of ps caps l h rest, Nat.eq_of_beq_eq_true hq]
  | .ints k n, v, l, h, rest => by
    cases v <;> simp only [matchP, reduceCtorEq] at h
    obtain ⟨h1, rfl⟩ := onlyIf_some h
    simp only [Bool.and_eq_true] at h1
    rw [keqP h1.1, Nat.eq_of_beq_eq_true h1.2]; rfl
  | .intsV k, v, l, h, rest => by
    cases v <;> simp only [matchP, reduceCtorEq] at h
    obtain ⟨h1, rfl⟩ := onlyIf_some h
    rw [keqP h1]; rfl
  | .vec k, v, l, h, rest => by
    cases v <;> simp only [matchP, reduceCtorEq] at h
    obtain ⟨h1, rfl⟩ := onlyIf_some h
    rw [keqP h1]; rfl
  | .bools n, v, l, h, rest => by
    cases v <;> simp only [matchP, reduceCtorEq] at h
    obtain ⟨h1, rfl⟩ := onlyIf_some h
    rw [Nat.eq_of_beq_eq_true h1]; rfl
  | .vals ps, v, l, h, rest => by
    cases v <;> simp only [matchP, reduceCtorEq] at h
    simp only [buildP]
    rw [buildL_of ps _ l h rest]
  | .valsV, v, l, h, rest => by cases v <;> simp only [matchP, reduceCtorEq, Option.some.injEq] at h; subst h; rfl
  | .agg ps, v, l, h, rest => by
    cases v <;> simp only [matchP, reduceCtorEq] at h
    simp only [buildP]
    rw [buildL_of ps _ l h rest]
  | .tuple ps, v, l, h, rest => by
    cases v <;> simp only [matchP, reduceCtorEq] at h
    simp only [buildP]
    rw [buildL_of ps _ l h rest]
  | .recs ks, v, l, h, rest => by
    cases v <;> simp only [matchP, reduceCtorEq] at h
    obtain ⟨h1, rfl⟩ := onlyIf_some h
    rw [sameColsP h1]; rfl
  | .rptr p c, v, l, h, rest => by
    cases v <;> simp only [matchP, reduceCtorEq] at h
    obtain ⟨h1, rfl⟩ := onlyIf_some h
    simp only [Bool.and_eq_true] at h1
    rw [samePlace_eq h1.1, Nat.eq_of_beq_eq_true h1.2]; rfl
  | .pool k, v, l, h, rest => by
    cases v <;> simp only [matchP, reduceCtorEq] at h
    obtain ⟨h1, rfl⟩ := onlyIf_some h
    rw [keqP h1]; rfl
  | .hdr b, v, l, h, rest => by
    cases v <;> simp only [matchP, reduceCtorEq] at h
    obtain ⟨h1, rfl⟩ := onlyIf_some h
    rw [Nat.eq_of_beq_eq_true h1]; rfl
  | .strs, v, l, h, rest => by cases v <;> simp only [matchP, reduceCtorEq, Option.some.injEq] at h; subst h; rfl
  | .sliceR b es ex, v, l, h, rest => by
    cases v <;> simp only [matchP, reduceCtorEq] at h
    rename_i q l' c' es' ex'
    obtain ⟨⟨q1, q2⟩, q3, q4, q5⟩ := q
    cases q2 with
    | zero => cases h
    | succ r =>
      obtain ⟨h1, rfl⟩ := onlyIf_some h
      simp only [Bool.and_eq_true] at h1
      obtain ⟨⟨⟨h1, h2⟩, h4⟩, h5⟩ := h1
      have h2 := Nat.eq_of_beq_eq_true h2
      subst h2
      rw [Nat.eq_of_beq_eq_true h1, Nat.eq_of_beq_eq_true h4, sameB_eq h5]; rfl
  | .ptrV b s, v, l, h, rest => by
    cases v <;> simp only [matchP, reduceCtorEq] at h
    rename_i q
    obtain ⟨⟨q1, q2⟩, q3, q4, q5⟩ := q
    obtain ⟨h1, rfl⟩ := onlyIf_some h
    simp only [Bool.and_eq_true] at h1
    obtain ⟨⟨h1, h0⟩, h2⟩ := h1
    have h0 := Nat.eq_of_beq_eq_true h0
    subst h0
    rw [Nat.eq_of_beq_eq_true h1, Nat.eq_of_beq_eq_true h2]; rfl
theorem buildL_of : ∀ (ps : List Pat) (vs : List AV) (l : List Var), matchL ps vs = some l → ∀ rest, buildL ps (l ++ rest) = (vs, rest)
  | [], vs, l, h, rest => by cases vs <;> simp only [matchL, reduceCtorEq, Option.some.injEq] at h; subst h; rfl
  | p :: ps, vs, l, h, rest => by
    cases vs with
    | nil => simp only [matchL, reduceCtorEq] at h
    | cons v vs =>
      simp only [matchL] at h
      obtain ⟨a, b, h1, h2, rfl⟩ := consV_some h
      simp only [buildL]
      rw [List.append_assoc, buildP_of p v a h1 (b ++ rest)]
      simp only
      rw [buildL_of ps vs b h2 rest]
end
theorem buildH_of : ∀ (ps : List (List Pat)) (h : Heap) (l : List Var), matchH ps h = some l → ∀ rest, buildH ps (l ++ rest) = (h, rest) := by
  intro ps
  induction ps with
  | nil => intro h l he rest; cases h <;> simp only [matchH, reduceCtorEq, Option.some.injEq] at he; subst he; rfl
  | cons p ps ih =>
    intro h l he rest
    cases h with
    | nil => simp only [matchH, reduceCtorEq] at he
    | cons b h =>
      simp only [matchH] at he
      obtain ⟨x, y, h1, h2, rfl⟩ := consV_some he
      simp only [buildH]
      rw [List.append_assoc, buildL_of p b x h1 (y ++ rest)]
      simp only
      rw [ih h y h2 rest]
theorem buildS_of {p : SPat} {s : St} {l : List Var} (h : matchS p s = some l) : buildS p l = s := by
  obtain ⟨a, b, h1, h2, rfl⟩ := consV_some h
  unfold buildS
  rw [buildL_of p.t s.t a h1 b]
  simp only
  have := buildH_of p.h s.h b h2 []
  rw [List.append_nil] at this
  rw [this]

/-- A loop's summary: when the state in front of it looks as told. -/
def loopSum {α : Type} (a : LoopAnn) (ro : Nat) (p : SPat) (L : List Var → (AExit → St → Option α) → Option α) : LSum α := fun ro' st K =>
  cond (Nat.beq ro ro') (match trimSt a.head a.grow st.h.length st with
  | some s => match matchS p s with
    | some l => L l K
    | none => none
  | none => none) none
/-- A result that looks as told, handed on. -/
def retK {α : Type} (s : St) (K : AV → Heap → Option α) : Option α := K (s.t.getD 0 .undef) s.h
/-- A function's summary: when the arguments, and the heap of its own, look as told. -/
def funSum {α : Type} (ro : Nat) (p : SPat) (F : List Var → (AV → Heap → Option α) → Option α) : Sum α := fun ro' args h K =>
  cond (Nat.beq ro ro') (match matchS p ⟨args, h⟩ with
  | some l => F l K
  | none => none) none
end
end Go.AM
