/- A part of a proof about the given program: an abstract machine, what the given functions come to, and plain laws. -/
import Derived.Test.YtoginabccpjeoaaMachF
import Derived.ProofKit
import Derived.Deep.Slices
import Derived.OpenShut
set_option linter.unusedVariables false
set_option linter.unusedSimpArgs false
namespace Go.AM
inductive Pat where
  | undef
  | nils
  | int (k : IntKind)
  | intC (k : IntKind) (n : Int)
  | bool
  | boolC (b : Bool)
  | str
  | ptr (p : Place)
  | slice (p : Place) (len cap es : Nat) (ex : Bool)
  | sliceV (b s o es : Nat) (ex : Bool)
  | func (f : FuncId) (ps : List Pat)
  | ints (k : IntKind) (n : Nat)
  | intsV (k : IntKind)
  | vec (k : IntKind)
  | bools (n : Nat)
  | vals (ps : List Pat)
  | valsV
  | agg (ps : List Pat)
  | tuple (ps : List Pat)
  | recs (ks : List (Option IntKind))
  | rptr (p : Place) (c : Nat)
  | pool (k : IntKind)
  | hdr (b : Nat)
  | strs
  | sliceR (b es : Nat) (ex : Bool)
  | ptrV (b s : Nat)
  | sliceO (b s es : Nat) (ex : Bool)
inductive Var where
  | i (x : Int)
  | b (x : Bool)
  | s (x : List UInt8)
  | n (x : Nat)
  | f (g : Nat -> Int)
  | g (g : Nat -> Bool)
  | l (xs : List Int)
  | v (vs : List AV)
  | r (rows : List (List Int))
  | p (ids : List (Nat × Nat))
  | t (xs : List (List UInt8))
section
def samePlace (p q : Place) : Bool := Nat.beq p.b.b q.b.b && Nat.beq p.b.r q.b.r && Nat.beq p.s q.s && Nat.beq p.o q.o && Nat.beq p.n q.n
def sameB : Bool -> Bool -> Bool
  | true, true | false, false => true
  | _, _ => false
def sameI : Int -> Int -> Bool
  | .ofNat a, .ofNat b => Nat.beq a b
  | .negSucc a, .negSucc b => Nat.beq a b
  | _, _ => false
def consV (x : Option (List Var)) (y : Option (List Var)) : Option (List Var) := match x with
  | some a => match y with
    | some b => some (a ++ b)
    | none => none
  | none => none
def onlyIf (b : Bool) (x : List Var) : Option (List Var) := cond b (some x) none
mutual
def matchP : Pat -> AV -> Option (List Var)
  | .undef, v => match v with | .undef => some [] | _ => none
  | .nils, v => match v with | .nils => some [] | _ => none
  | .int k, v => match v with | .int k' n => onlyIf (keq k k') [.i n] | _ => none
  | .intC k m, v => match v with | .int k' n => onlyIf (keq k k' && sameI m n) [] | _ => none
  | .bool, v => match v with | .bool b => some [.b b] | _ => none
  | .boolC c, v => match v with | .bool b => onlyIf (sameB c b) [] | _ => none
  | .str, v => match v with | .str s => some [.s s] | _ => none
  | .ptr p, v => match v with | .ptr q => onlyIf (samePlace p q) [] | _ => none
  | .slice p l c es ex, v => match v with | .slice q l' c' es' ex' => onlyIf (samePlace p q && Nat.beq l l' && Nat.beq c c' && Nat.beq es es' && sameB ex ex') [] | _ => none
  | .sliceV b s o es ex, v => match v with | .slice q l' c' es' ex' => onlyIf (Nat.beq b q.b.b && Nat.beq 0 q.b.r && Nat.beq s q.s && Nat.beq o q.o && Nat.beq es es' && sameB ex ex') [.n q.n, .n l', .n c'] | _ => none
  | .func f ps, v => match v with | .func g caps => cond (Nat.beq f g) (matchL ps caps) none | _ => none
  | .ints k n, v => match v with | .ints k' n' f => onlyIf (keq k k' && Nat.beq n n') [.f f] | _ => none
  | .intsV k, v => match v with | .ints k' n' f => onlyIf (keq k k') [.n n', .f f] | _ => none
  | .vec k, v => match v with | .vec k' xs => onlyIf (keq k k') [.l xs] | _ => none
  | .bools n, v => match v with | .bools n' g => onlyIf (Nat.beq n n') [.g g] | _ => none
  | .vals ps, v => match v with | .vals vs => matchL ps vs | _ => none
  | .valsV, v => match v with | .vals vs => some [.v vs] | _ => none
  | .agg ps, v => match v with | .agg vs => matchL ps vs | _ => none
  | .tuple ps, v => match v with | .tuple vs => matchL ps vs | _ => none
  | .recs ks, v => match v with | .recs ks' xs => onlyIf (sameCols ks ks') [.l xs] | _ => none
  | .rptr p c, v => match v with | .rptr q d => onlyIf (samePlace p q && Nat.beq c d) [] | _ => none
  | .pool k, v => match v with | .pool k' rows => onlyIf (keq k k') [.r rows] | _ => none
  | .hdr b, v => match v with | .hdr b' ids => onlyIf (Nat.beq b b') [.p ids] | _ => none
  | .strs, v => match v with | .strs xs => some [.t xs] | _ => none
  | .sliceR b es ex, v => match v with
    | .slice q l' c' es' ex' => match q.b.r with
      | r + 1 => onlyIf (Nat.beq b q.b.b && Nat.beq 0 q.s && Nat.beq es es' && sameB ex ex') [.n r, .n q.o, .n q.n, .n l', .n c']
      | 0 => none
    | _ => none
  | .sliceO b s es ex, v => match v with | .slice q l' c' es' ex' => onlyIf (Nat.beq b q.b.b && Nat.beq 0 q.b.r && Nat.beq s q.s && Nat.beq es es' && sameB ex ex') [.n q.o, .n q.n, .n l', .n c'] | _ => none
  | .ptrV b s, v => match v with | .ptr q => onlyIf (Nat.beq b q.b.b && Nat.beq 0 q.b.r && Nat.beq s q.s) [.n q.o, .n q.n] | _ => none
def matchL : List Pat -> List AV -> Option (List Var)
  | [], vs => match vs with | [] => some [] | _ => none
  | p :: ps, vs => match vs with | v :: vs => consV (matchP p v) (matchL ps vs) | [] => none
end
def matchH : List (List Pat) -> Heap -> Option (List Var)
  | [], h => match h with | [] => some [] | _ => none
  | p :: ps, h => match h with | b :: h => consV (matchL p b) (matchH ps h) | [] => none
mutual
def buildP : Pat -> List Var -> AV × List Var
  | .undef, l => (.undef, l)
  | .nils, l => (.nils, l)
  | .int k, l => match l with | .i n :: l => (.int k n, l) | l => (.undef, l)
  | .intC k m, l => (.int k m, l)
  | .bool, l => match l with | .b b :: l => (.bool b, l) | l => (.undef, l)
  | .boolC c, l => (.bool c, l)
  | .str, l => match l with | .s s :: l => (.str s, l) | l => (.undef, l)
  | .ptr p, l => (.ptr p, l)
  | .slice p n c es ex, l => (.slice p n c es ex, l)
  | .sliceV b s o es ex, l => match l with | .n n :: .n l' :: .n c' :: l => (.slice ⟨⟨b, 0⟩, s, o, n⟩ l' c' es ex, l) | l => (.undef, l)
  | .func f ps, l => match buildL ps l with | (vs, l) => (.func f vs, l)
  | .ints k n, l => match l with | .f f :: l => (.ints k n f, l) | l => (.undef, l)
  | .intsV k, l => match l with | .n n :: .f f :: l => (.ints k n f, l) | l => (.undef, l)
  | .vec k, l => match l with | .l xs :: l => (.vec k xs, l) | l => (.undef, l)
  | .bools n, l => match l with | .g g :: l => (.bools n g, l) | l => (.undef, l)
  | .vals ps, l => match buildL ps l with | (vs, l) => (.vals vs, l)
  | .valsV, l => match l with | .v vs :: l => (.vals vs, l) | l => (.undef, l)
  | .agg ps, l => match buildL ps l with | (vs, l) => (.agg vs, l)
  | .tuple ps, l => match buildL ps l with | (vs, l) => (.tuple vs, l)
  | .recs ks, l => match l with | .l xs :: l => (.recs ks xs, l) | l => (.undef, l)
  | .rptr p c, l => (.rptr p c, l)
  | .pool k, l => match l with | .r rows :: l => (.pool k rows, l) | l => (.undef, l)
  | .hdr b, l => match l with | .p ids :: l => (.hdr b ids, l) | l => (.undef, l)
  | .strs, l => match l with | .t xs :: l => (.strs xs, l) | l => (.undef, l)
  | .sliceR b es ex, l => match l with | .n r :: .n o :: .n n :: .n l' :: .n c' :: l => (.slice ⟨⟨b, r + 1⟩, 0, o, n⟩ l' c' es ex, l) | l => (.undef, l)
  | .sliceO b s es ex, l => match l with | .n o :: .n n :: .n l' :: .n c' :: l => (.slice ⟨⟨b, 0⟩, s, o, n⟩ l' c' es ex, l) | l => (.undef, l)
  | .ptrV b s, l => match l with | .n o :: .n n :: l => (.ptr ⟨⟨b, 0⟩, s, o, n⟩, l) | l => (.undef, l)
def buildL : List Pat -> List Var -> List AV × List Var
  | [], l => ([], l)
  | p :: ps, l => match buildP p l with
    | (v, l) => match buildL ps l with
      | (vs, l) => (v :: vs, l)
end
def buildH : List (List Pat) -> List Var -> Heap × List Var
  | [], l => ([], l)
  | p :: ps, l => match buildL p l with
    | (v, l) => match buildH ps l with
      | (vs, l) => (v :: vs, l)
structure SPat where
  t : List Pat
  h : List (List Pat)
def matchS (p : SPat) (s : St) : Option (List Var) := consV (matchL p.t s.t) (matchH p.h s.h)
def buildS (p : SPat) (l : List Var) : St := match buildL p.t l with
  | (t, l) => ⟨t, (buildH p.h l).1⟩
theorem samePlace_eq {p q : Place} (h : samePlace p q = true) : p = q := by
  unfold samePlace at h
  simp only [Bool.and_eq_true] at h
  obtain ⟨⟨⟨⟨h0, h1⟩, h2⟩, h3⟩, h4⟩ := h
  obtain ⟨⟨p1, p2⟩, p3, p4, p5⟩ := p
  obtain ⟨⟨q1, q2⟩, q3, q4, q5⟩ := q
  simp only at h0 h1 h2 h3 h4
  rw [Nat.eq_of_beq_eq_true h0, Nat.eq_of_beq_eq_true h1, Nat.eq_of_beq_eq_true h2, Nat.eq_of_beq_eq_true h3, Nat.eq_of_beq_eq_true h4]
theorem sameColsP : ∀ {a b : List (Option IntKind)}, sameCols a b = true -> a = b
  | [], [], _ => rfl
  | [], _ :: _, h => by simp [sameCols] at h
  | _ :: _, [], h => by simp [sameCols] at h
  | x :: as, y :: bs, h => by
    simp only [sameCols] at h
    cases hc : sameCol x y with
    | false => simp [hc] at h
    | true =>
      simp only [hc, cond_true] at h
      rw [sameColsP h]
      congr 1
      cases x <;> cases y <;> simp only [sameCol, Bool.false_eq_true] at hc
      · rfl
      · rename_i k k'
        cases k <;> cases k' <;> first | rfl | cases hc
theorem sameB_eq {a b : Bool} (h : sameB a b = true) : a = b := by cases a <;> cases b <;> simp_all [sameB]
theorem sameI_eq {a b : Int} (h : sameI a b = true) : a = b := by
  cases a <;> cases b <;> simp only [sameI, Bool.false_eq_true] at h
  · rw [Nat.eq_of_beq_eq_true h]
  · rw [Nat.eq_of_beq_eq_true h]
theorem keqP {k k' : IntKind} (h : keq k k' = true) : k = k' := by cases k <;> cases k' <;> first | rfl | simp [keq] at h
theorem onlyIf_some {b : Bool} {x l : List Var} (h : onlyIf b x = some l) : b = true ∧ x = l := by
  cases b <;> simp [onlyIf] at h
  exact ⟨rfl, h⟩
theorem consV_some {x y : Option (List Var)} {l : List Var} (h : consV x y = some l) : ∃ a b, x = some a ∧ y = some b ∧ l = a ++ b := by
  cases x <;> cases y <;> simp [consV] at h
  exact ⟨_, _, rfl, rfl, h.symm⟩
mutual
theorem buildP_of : ∀ (p : Pat) (v : AV) (l : List Var), matchP p v = some l -> ∀ rest, buildP p (l ++ rest) = (v, rest)
  | .undef, v, l, h, rest => by cases v <;> simp only [matchP, reduceCtorEq, Option.some.injEq] at h; subst h; rfl
  | .nils, v, l, h, rest => by cases v <;> simp only [matchP, reduceCtorEq, Option.some.injEq] at h; subst h; rfl
  | .int k, v, l, h, rest => by
    cases v <;> simp only [matchP, reduceCtorEq] at h
    obtain ⟨h1, rfl⟩ := onlyIf_some h
    rw [keqP h1]; rfl
  | .intC k m, v, l, h, rest => by
    cases v <;> simp only [matchP, reduceCtorEq] at h
    obtain ⟨h1, rfl⟩ := onlyIf_some h
    simp only [Bool.and_eq_true] at h1
    rw [keqP h1.1, sameI_eq h1.2]; rfl
  | .bool, v, l, h, rest => by cases v <;> simp only [matchP, reduceCtorEq, Option.some.injEq] at h; subst h; rfl
  | .boolC c, v, l, h, rest => by
    cases v <;> simp only [matchP, reduceCtorEq] at h
    obtain ⟨h1, rfl⟩ := onlyIf_some h
    rw [sameB_eq h1]; rfl
  | .str, v, l, h, rest => by cases v <;> simp only [matchP, reduceCtorEq, Option.some.injEq] at h; subst h; rfl
  | .ptr p, v, l, h, rest => by
    cases v <;> simp only [matchP, reduceCtorEq] at h
    obtain ⟨h1, rfl⟩ := onlyIf_some h
    rw [samePlace_eq h1]; rfl
  | .slice p n c es ex, v, l, h, rest => by
    cases v <;> simp only [matchP, reduceCtorEq] at h
    obtain ⟨h1, rfl⟩ := onlyIf_some h
    simp only [Bool.and_eq_true] at h1
    obtain ⟨⟨⟨⟨h1, h2⟩, h3⟩, h4⟩, h5⟩ := h1
    rw [samePlace_eq h1, Nat.eq_of_beq_eq_true h2, Nat.eq_of_beq_eq_true h3, Nat.eq_of_beq_eq_true h4, sameB_eq h5]; rfl
  | .sliceV b s o es ex, v, l, h, rest => by
    cases v <;> simp only [matchP, reduceCtorEq] at h
    rename_i q l' c' es' ex'
    obtain ⟨⟨q1, q2⟩, q3, q4, q5⟩ := q
    obtain ⟨h1, rfl⟩ := onlyIf_some h
    simp only [Bool.and_eq_true] at h1
    obtain ⟨⟨⟨⟨⟨h1, h0⟩, h2⟩, h3⟩, h4⟩, h5⟩ := h1
    have h0 := Nat.eq_of_beq_eq_true h0
    subst h0
    rw [Nat.eq_of_beq_eq_true h1, Nat.eq_of_beq_eq_true h2, Nat.eq_of_beq_eq_true h3, Nat.eq_of_beq_eq_true h4, sameB_eq h5]; rfl
  | .func f ps, v, l, h, rest => by
    cases v <;> simp only [matchP, reduceCtorEq] at h
    rename_i g caps
    cases hq : Nat.beq f g with
    | false => rw [hq] at h; cases h
    | true =>
      rw [hq] at h
      simp only [buildP]
      rw [buildL_of ps caps l h rest, Nat.eq_of_beq_eq_true hq]
  | .ints k n, v, l, h, rest => by
    cases v <;> simp only [matchP, reduceCtorEq] at h
    obtain ⟨h1, rfl⟩ := onlyIf_some h
    simp only [Bool.and_eq_true] at h1
    rw [keqP h1.1, Nat.eq_of_beq_eq_true h1.2]; rfl
  | .intsV k, v, l, h, rest => by
    cases v <;> simp only [matchP, reduceCtorEq] at h
    obtain ⟨h1, rfl⟩ := onlyIf_some h
    rw [keqP h1]; rfl
  | .vec k, v, l, h, rest => by
    cases v <;> simp only [matchP, reduceCtorEq] at h
    obtain ⟨h1, rfl⟩ := onlyIf_some h
    rw [keqP h1]; rfl
  | .bools n, v, l, h, rest => by
    cases v <;> simp only [matchP, reduceCtorEq] at h
    obtain ⟨h1, rfl⟩ := onlyIf_some h
    rw [Nat.eq_of_beq_eq_true h1]; rfl
  | .vals ps, v, l, h, rest => by
    cases v <;> simp only [matchP, reduceCtorEq] at h
    simp only [buildP]
    rw [buildL_of ps _ l h rest]
  | .valsV, v, l, h, rest => by cases v <;> simp only [matchP, reduceCtorEq, Option.some.injEq] at h; subst h; rfl
  | .agg ps, v, l, h, rest => by
    cases v <;> simp only [matchP, reduceCtorEq] at h
    simp only [buildP]
    rw [buildL_of ps _ l h rest]
  | .tuple ps, v, l, h, rest => by
    cases v <;> simp only [matchP, reduceCtorEq] at h
    simp only [buildP]
    rw [buildL_of ps _ l h rest]
  | .recs ks, v, l, h, rest => by
    cases v <;> simp only [matchP, reduceCtorEq] at h
    obtain ⟨h1, rfl⟩ := onlyIf_some h
    rw [sameColsP h1]; rfl
  | .rptr p c, v, l, h, rest => by
    cases v <;> simp only [matchP, reduceCtorEq] at h
    obtain ⟨h1, rfl⟩ := onlyIf_some h
    simp only [Bool.and_eq_true] at h1
    rw [samePlace_eq h1.1, Nat.eq_of_beq_eq_true h1.2]; rfl
  | .pool k, v, l, h, rest => by
    cases v <;> simp only [matchP, reduceCtorEq] at h
    obtain ⟨h1, rfl⟩ := onlyIf_some h
    rw [keqP h1]; rfl
  | .hdr b, v, l, h, rest => by
    cases v <;> simp only [matchP, reduceCtorEq] at h
    obtain ⟨h1, rfl⟩ := onlyIf_some h
    rw [Nat.eq_of_beq_eq_true h1]; rfl
  | .strs, v, l, h, rest => by cases v <;> simp only [matchP, reduceCtorEq, Option.some.injEq] at h; subst h; rfl
  | .sliceR b es ex, v, l, h, rest => by
    cases v <;> simp only [matchP, reduceCtorEq] at h
    rename_i q l' c' es' ex'
    obtain ⟨⟨q1, q2⟩, q3, q4, q5⟩ := q
    cases q2 with
    | zero => cases h
    | succ r =>
      obtain ⟨h1, rfl⟩ := onlyIf_some h
      simp only [Bool.and_eq_true] at h1
      obtain ⟨⟨⟨h1, h2⟩, h4⟩, h5⟩ := h1
      have h2 := Nat.eq_of_beq_eq_true h2
      subst h2
      rw [Nat.eq_of_beq_eq_true h1, Nat.eq_of_beq_eq_true h4, sameB_eq h5]; rfl
  | .sliceO b s es ex, v, l, h, rest => by
    cases v <;> simp only [matchP, reduceCtorEq] at h
    rename_i q l' c' es' ex'
    obtain ⟨⟨q1, q2⟩, q3, q4, q5⟩ := q
    obtain ⟨h1, rfl⟩ := onlyIf_some h
    simp only [Bool.and_eq_true] at h1
    obtain ⟨⟨⟨⟨h1, h0⟩, h2⟩, h4⟩, h5⟩ := h1
    have h0 := Nat.eq_of_beq_eq_true h0
    subst h0
    rw [Nat.eq_of_beq_eq_true h1, Nat.eq_of_beq_eq_true h2, Nat.eq_of_beq_eq_true h4, sameB_eq h5]; rfl
  | .ptrV b s, v, l, h, rest => by
    cases v <;> simp only [matchP, reduceCtorEq] at h
    rename_i q
    obtain ⟨⟨q1, q2⟩, q3, q4, q5⟩ := q
    obtain ⟨h1, rfl⟩ := onlyIf_some h
    simp only [Bool.and_eq_true] at h1
    obtain ⟨⟨h1, h0⟩, h2⟩ := h1
    have h0 := Nat.eq_of_beq_eq_true h0
    subst h0
    rw [Nat.eq_of_beq_eq_true h1, Nat.eq_of_beq_eq_true h2]; rfl
theorem buildL_of : ∀ (ps : List Pat) (vs : List AV) (l : List Var), matchL ps vs = some l -> ∀ rest, buildL ps (l ++ rest) = (vs, rest)
  | [], vs, l, h, rest => by cases vs <;> simp only [matchL, reduceCtorEq, Option.some.injEq] at h; subst h; rfl
  | p :: ps, vs, l, h, rest => by
    cases vs with
    | nil => simp only [matchL, reduceCtorEq] at h
    | cons v vs =>
      simp only [matchL] at h
      obtain ⟨a, b, h1, h2, rfl⟩ := consV_some h
      simp only [buildL]
      rw [List.append_assoc, buildP_of p v a h1 (b ++ rest)]
      simp only
      rw [buildL_of ps vs b h2 rest]
end
theorem buildH_of : ∀ (ps : List (List Pat)) (h : Heap) (l : List Var), matchH ps h = some l -> ∀ rest, buildH ps (l ++ rest) = (h, rest) := by
  intro ps
  induction ps with
  | nil => intro h l he rest; cases h <;> simp only [matchH, reduceCtorEq, Option.some.injEq] at he; subst he; rfl
  | cons p ps ih =>
    intro h l he rest
    cases h with
    | nil => simp only [matchH, reduceCtorEq] at he
    | cons b h =>
      simp only [matchH] at he
      obtain ⟨x, y, h1, h2, rfl⟩ := consV_some he
      simp only [buildH]
      rw [List.append_assoc, buildL_of p b x h1 (y ++ rest)]
      simp only
      rw [ih h y h2 rest]
theorem buildS_of {p : SPat} {s : St} {l : List Var} (h : matchS p s = some l) : buildS p l = s := by
  obtain ⟨a, b, h1, h2, rfl⟩ := consV_some h
  unfold buildS
  rw [buildL_of p.t s.t a h1 b]
  simp only
  have := buildH_of p.h s.h b h2 []
  rw [List.append_nil] at this
  rw [this]
def loopSum {α : Type} (a : LoopAnn) (ro : Nat) (p : SPat) (L : List Var -> (AExit -> St -> Option α) -> Option α) : LSum α := fun ro' st K =>
  cond (Nat.beq ro ro') (match trimSt a.head a.grow st.h.length st with
  | some s => match matchS p s with
    | some l => L l K
    | none => none
  | none => none) none
def retK {α : Type} (s : St) (K : AV -> Heap -> Option α) : Option α := K (s.t.getD 0 .undef) s.h
def funSum {α : Type} (ro : Nat) (p : SPat) (F : List Var -> (AV -> Heap -> Option α) -> Option α) : Sum α := fun ro' args h K =>
  cond (Nat.beq ro ro') (match matchS p ⟨args, h⟩ with
  | some l => F l K
  | none => none) none
end
end Go.AM
namespace Go.AM
section
variable {α : Type} {P : Program}
theorem loopsIn_trans {c c' : Code} : ∀ {x : Code}, c ∈ loopsIn x -> c' ∈ loopsIn c -> c' ∈ loopsIn x := by
  intro x
  induction x with
  | seq a b iha ihb => exact fun h1 h2 => (List.mem_append.1 h1).elim (fun h => List.mem_append_left _ (iha h h2)) (fun h => List.mem_append_right _ (ihb h h2))
  | cond _ a b iha ihb => exact fun h1 h2 => (List.mem_append.1 h1).elim (fun h => List.mem_append_left _ (iha h h2)) (fun h => List.mem_append_right _ (ihb h h2))
  | block _ a ih => exact fun h1 h2 => ih h1 h2
  | scope a ih => exact fun h1 h2 => ih h1 h2
  | loop a ih =>
    intro h1 h2
    rcases List.mem_cons.1 h1 with rfl | h
    · exact List.mem_cons_of_mem _ h2
    · exact List.mem_cons_of_mem _ (ih h h2)
  | _ => intro h1; simp [loopsIn] at h1
theorem tailsIn_loop {c y : Code} : ∀ {x : Code}, c ∈ loopsIn x -> y ∈ tailsIn c -> y ∈ tailsIn x := by
  intro x
  induction x with
  | seq a b iha ihb => exact fun h1 h2 => List.mem_cons_of_mem _ ((List.mem_append.1 h1).elim (fun h => List.mem_append_left _ (iha h h2)) (fun h => List.mem_append_right _ (ihb h h2)))
  | cond _ a b iha ihb => exact fun h1 h2 => (List.mem_append.1 h1).elim (fun h => List.mem_append_left _ (iha h h2)) (fun h => List.mem_append_right _ (ihb h h2))
  | block _ a ih => exact fun h1 h2 => ih h1 h2
  | scope a ih => exact fun h1 h2 => ih h1 h2
  | loop a ih =>
    intro h1 h2
    rcases List.mem_cons.1 h1 with rfl | h
    · exact h2
    · exact ih h h2
  | _ => intro h1; simp [loopsIn] at h1
theorem tailsIn_sub {y : Code} : ∀ {x : Code}, y ∈ tailsIn x -> (∀ c, c ∈ loopsIn y -> c ∈ loopsIn x) ∧ ∀ q, q ∈ tailsIn y -> q ∈ tailsIn x := by
  intro x
  induction x with
  | seq a b iha ihb =>
    intro h
    rcases List.mem_cons.1 h with rfl | h
    · exact ⟨fun c hc => List.mem_append_right _ hc, fun q hq => List.mem_cons_of_mem _ (List.mem_append_right _ hq)⟩
    · rcases List.mem_append.1 h with h | h
      · exact ⟨fun c hc => List.mem_append_left _ ((iha h).1 c hc), fun q hq => List.mem_cons_of_mem _ (List.mem_append_left _ ((iha h).2 q hq))⟩
      · exact ⟨fun c hc => List.mem_append_right _ ((ihb h).1 c hc), fun q hq => List.mem_cons_of_mem _ (List.mem_append_right _ ((ihb h).2 q hq))⟩
  | cond _ a b iha ihb =>
    intro h
    rcases List.mem_append.1 h with h | h
    · exact ⟨fun c hc => List.mem_append_left _ ((iha h).1 c hc), fun q hq => List.mem_append_left _ ((iha h).2 q hq)⟩
    · exact ⟨fun c hc => List.mem_append_right _ ((ihb h).1 c hc), fun q hq => List.mem_append_right _ ((ihb h).2 q hq)⟩
  | block _ a ih => exact fun h => ih h
  | scope a ih => exact fun h => ih h
  | loop a ih => exact fun h => ⟨fun c hc => List.mem_cons_of_mem _ ((ih h).1 c hc), (ih h).2⟩
  | _ => intro h1; simp [tailsIn] at h1
theorem tails_loops {fn : Func} {y c : Code} (h1 : y ∈ tailsOf fn) (h2 : c ∈ loopsIn y) : c ∈ loopsOf fn := by
  unfold tailsOf at h1
  unfold loopsOf
  split at h1
  · exact (tailsIn_sub h1).1 c h2
  · simp at h1
theorem tails_trans {fn : Func} {y q : Code} (h1 : y ∈ tailsOf fn) (h2 : q ∈ tailsIn y) : q ∈ tailsOf fn := by
  unfold tailsOf at h1 ⊢
  split at h1
  · exact (tailsIn_sub h1).2 q h2
  · simp at h1
theorem loops_trans {fn : Func} {c c' : Code} (h1 : c ∈ loopsOf fn) (h2 : c' ∈ loopsIn c) : c' ∈ loopsOf fn := by
  unfold loopsOf at h1 ⊢
  split at h1
  · exact loopsIn_trans h1 h2
  · simp at h1
theorem tails_loop {fn : Func} {c y : Code} (h1 : c ∈ loopsOf fn) (h2 : y ∈ tailsIn c) : y ∈ tailsOf fn := by
  unfold loopsOf at h1
  unfold tailsOf
  split at h1
  · exact tailsIn_loop h1 h2
  · simp at h1
theorem EnvOk.base {ann : FuncId -> Nat -> LoopAnn} {lf : Nat} : EnvOk P (Env.base (α := α) ann lf) :=
  ⟨fun _ _ _ h => by simp [Env.base] at h, fun _ _ _ _ _ _ h => by simp [Env.base] at h, fun _ _ _ _ _ _ h => by simp [Env.base] at h⟩
theorem EnvOk.addSum {E : Env α} (hE : EnvOk P E) {f : FuncId} {q : Bool} {s : Sum α} (hs : ∀ (ro : Nat) (args : List AV) (h : Heap) (K : AV -> Heap -> Option α) (r : α), s ro args h K = some r -> ∃ v h', K v h' = some r ∧ CallSem P ro f args h v h') :
    EnvOk P (E.addSum f q s) := by
  refine ⟨fun g q' s' he => ?_, hE.ls, hE.cs⟩
  simp only [Env.addSum] at he
  cases hb : Nat.beq g f with
  | true =>
    rw [hb] at he
    simp only [cond_true, Option.some.injEq, Prod.mk.injEq] at he
    obtain ⟨rfl, rfl⟩ := he
    rw [Nat.eq_of_beq_eq_true hb]
    exact hs
  | false => rw [hb] at he; exact hE.sums g q' s' he
theorem EnvOk.addLoop {E : Env α} (hE : EnvOk P E) {f : FuncId} {fn : Func} (hf : P.funcs[f]? = some fn) {i : Nat} (hi : (loopsOf fn).filter (fun c => Nat.beq (firstRegion c) i) = [loopOf fn i]) {s : LSum α} (hs : LoopOk P s (loopOf fn i)) (hlt : Nat.blt i 1000000 = true) :
    EnvOk P (E.addLoop f i s) := by
  refine ⟨hE.sums, fun g fn' hg c hc s' he => ?_, fun g fn' hg y hy s' he => ?_⟩
  rotate_left
  · simp only [Env.addLoop] at he
    cases hb : (Nat.beq g f && Nat.beq (cutKey y) i) with
    | true =>
      simp only [Bool.and_eq_true] at hb
      have h1 := Nat.eq_of_beq_eq_true hb.2
      rw [Nat.blt_eq] at hlt
      unfold cutKey at h1
      omega
    | false => rw [hb] at he; exact hE.cs g fn' hg y hy s' he
  simp only [Env.addLoop] at he
  cases hb : (Nat.beq g f && Nat.beq (firstRegion c) i) with
  | true =>
    rw [hb] at he
    simp only [cond_true, Option.some.injEq] at he
    subst he
    simp only [Bool.and_eq_true] at hb
    have := Nat.eq_of_beq_eq_true hb.1
    subst this
    rw [hf] at hg
    cases hg
    have : c ∈ (loopsOf fn).filter (fun c => Nat.beq (firstRegion c) i) := List.mem_filter.2 ⟨hc, hb.2⟩
    rw [hi] at this
    rw [List.mem_singleton.1 this]
    exact hs
  | false => rw [hb] at he; exact hE.ls g fn' hg c hc s' he
theorem buildH_len (l : List Var) (ps : List (List Pat)) : (buildH ps l).1.length = ps.length := by
  induction ps generalizing l with
  | nil => rfl
  | cons p ps ih => simp only [buildH, List.length_cons, ih]
theorem loopSum_ok (hm : P.follows .mixedOrders = true) (hnames : NamesOk P) {E : Env α} (hE : EnvOk P E) {f : FuncId} {fn : Func} (hf : P.funcs[f]? = some fn) {i : Nat}
    (hi : (loopsOf fn).filter (fun c => Nat.beq (firstRegion c) i) = [loopOf fn i]) {d ro : Nat} {p : SPat} {L : List Var -> (AExit -> St -> Option α) -> Option α}
    (hL : ∀ l K r, L l K = some r -> loopN (trimSt (E.ann f i).head (E.ann f i).grow p.h.length) (bodyK P E d ro f fn i) E.lf (buildS p l) (leaveLoop (E.ann f i) p.h.length K) = some r) :
    LoopOk P (loopSum (E.ann f i) ro p L) (loopOf fn i) := by
  intro ro' st K r he
  unfold loopSum at he
  cases hb : Nat.beq ro ro' with
  | false => rw [hb] at he; cases he
  | true =>
    rw [hb] at he
    have := Nat.eq_of_beq_eq_true hb
    subst this
    simp only [cond_true] at he
    split at he
    · rename_i s hs
      split at he
      · rename_i l hl
        have hbs := buildS_of hl
        have hlen : st.h.length = p.h.length := by
          have h1 : s.h.length = p.h.length := by
            rw [<- hbs]
            unfold buildS
            simp only
            exact buildH_len _ _
          have h2 : s.h.length = st.h.length := by
            unfold trimSt at hs
            simp only [forceL_eq, forceH_eq, List.take_length] at hs
            cases hq : (Nat.beq st.h.length st.h.length || (allB (refsBelow st.h.length) (keepT (E.ann f i).head (E.ann f i).grow 0 st.t) && allB (fun b => allB (refsBelow st.h.length) b) st.h)) with
            | false => rw [hq] at hs; cases hs
            | true => rw [hq] at hs; simp only [cond_true, Option.some.injEq] at hs; rw [<- hs]
          omega
        have h3 := hL l K r he
        rw [hbs, <- hlen] at h3
        have hmem : loopOf fn i ∈ loopsOf fn := by
          have : loopOf fn i ∈ (loopsOf fn).filter (fun c => Nat.beq (firstRegion c) i) := by rw [hi]; simp
          exact (List.mem_filter.1 this).1
        refine loop_sound (fun st K => codeK_sound (callE_sound hE (callK_sound hm hnames hE d)) hm _ ⟨fun c' hc' s hs => hE.ls f fn hf c' (loops_trans hmem hc') s hs, fun y hy s hs => hE.cs f fn hf y (tails_loop hmem hy) s hs⟩ st K) hs h3
      · cases he
    · cases he
theorem funSum_ok (hm : P.follows .mixedOrders = true) (hnames : NamesOk P) {E : Env α} (hE : EnvOk P E) {f : FuncId} {d ro : Nat} {p : SPat} {F : List Var -> (AV -> Heap -> Option α) -> Option α}
    (hF : ∀ l K r, F l K = some r -> callK P E d f ro (buildS p l).t (buildS p l).h K = some r) :
    ∀ (ro' : Nat) (args : List AV) (h : Heap) (K : AV -> Heap -> Option α) (r : α), funSum ro p F ro' args h K = some r -> ∃ v h', K v h' = some r ∧ CallSem P ro' f args h v h' := by
  intro ro' args h K r he
  unfold funSum at he
  cases hb : Nat.beq ro ro' with
  | false => rw [hb] at he; cases he
  | true =>
    rw [hb] at he
    have := Nat.eq_of_beq_eq_true hb
    subst this
    simp only [cond_true] at he
    split at he
    · rename_i l hl
      have hbs := buildS_of hl
      have h1 := hF l K r he
      rw [hbs] at h1
      exact callK_sound hm hnames hE d f ro args h K r h1
    · cases he
theorem loopN_round {a : LoopAnn} {body : St -> (AExit -> St -> Option α) -> Option α} {n m : Nat} {st : St} {K : AExit -> St -> Option α} :
    loopN (trimSt a.head a.grow n) body (m + 1) st (leaveLoop a n K) = body st (fin a n (fun s => loopN (trimSt a.head a.grow n) body m s (leaveLoop a n K)) K) := by
  rw [loopN]
  refine congrArg (body st) (funext fun e => funext fun st' => ?_)
  cases e <;> rfl
end
end Go.AM
namespace Go.AM
open Go.ChangeShapes Go.WideShapes Go.RowKit
section
variable {P : Program}
def numAt (cs : Array Value) (i : Nat) : Int := match cs[i]? with
  | some (.int _ n) => n
  | _ => 0
end
end Go.AM
namespace Go.AM
section
variable {α : Type} {P : Program}
def Env.addAnn (E : Env α) (f : FuncId) (i : Nat) (a : LoopAnn) : Env α := { E with ann := fun g j => cond (Nat.beq g f && Nat.beq j i) a (E.ann g j) }
theorem EnvOk.addAnn {E : Env α} (hE : EnvOk P E) {f : FuncId} {i : Nat} {a : LoopAnn} : EnvOk P (E.addAnn f i a) := ⟨hE.sums, hE.ls, hE.cs⟩
def funOr (ro : Nat) (p : SPat) (F : List Var -> (AV -> Heap -> Option α) -> Option α) (old : Option (Bool × Sum α)) : Sum α := fun ro' args h K =>
  match cond (Nat.beq ro ro') (matchS p ⟨args, h⟩) none with
  | some l => F l K
  | none => match old with
    | some (_, s) => s ro' args h K
    | none => none
def Env.addFun (E : Env α) (f : FuncId) (quiet : Bool) (ro : Nat) (p : SPat) (F : List Var -> (AV -> Heap -> Option α) -> Option α) : Env α :=
  E.addSum f quiet (funOr ro p F (E.sums f))
theorem EnvOk.addFun {E : Env α} (hE : EnvOk P E) (hm : P.follows .mixedOrders = true) (hnames : NamesOk P) {f : FuncId} {quiet : Bool} {d ro : Nat} {p : SPat} {F : List Var -> (AV -> Heap -> Option α) -> Option α}
    (hF : ∀ l K r, F l K = some r -> callK P E d f ro (buildS p l).t (buildS p l).h K = some r) : EnvOk P (E.addFun f quiet ro p F) := by
  refine hE.addSum fun ro' args h K r he => ?_
  unfold funOr at he
  split at he
  · rename_i l hl
    cases hb : Nat.beq ro ro' with
    | false => rw [hb] at hl; cases hl
    | true =>
      rw [hb] at hl
      simp only [cond_true] at hl
      refine funSum_ok hm hnames hE hF ro' args h K r ?_
      unfold funSum
      rw [hb, hl]
      exact he
  · split at he
    · rename_i q s hs
      exact hE.sums f q s hs ro' args h K r he
    · cases he
def loopSum2 (a : LoopAnn) (ro : Nat) (p : SPat) (L : List Var -> (AExit -> St -> Option α) -> Option α) (old : Option (LSum α)) : LSum α := fun ro' st K =>
  match (cond (Nat.beq ro ro') (match trimSt a.head a.grow st.h.length st with
    | some s => matchS p s
    | none => none) none) with
  | some l => L l K
  | none => match old with
    | some s => s ro' st K
    | none => none
def Env.addLoop2 (E : Env α) (f : FuncId) (i : Nat) (s : LSum α) : Env α := E.addLoop f i s
theorem EnvOk.addLoop2 {E : Env α} (hE : EnvOk P E) {f : FuncId} {fn : Func} (hf : P.funcs[f]? = some fn) {i : Nat} (hi : (loopsOf fn).filter (fun c => Nat.beq (firstRegion c) i) = [loopOf fn i]) {a : LoopAnn} {ro : Nat} {p : SPat} {L : List Var -> (AExit -> St -> Option α) -> Option α}
    (hs : LoopOk P (loopSum a ro p L) (loopOf fn i)) (hi2 : firstRegion (loopOf fn i) = i := by kernel_rfl) (hlt : Nat.blt i 1000000 = true := by rfl) : EnvOk P (E.addLoop2 f i (loopSum2 a ro p L (E.ls f i))) := by
  refine hE.addLoop hf hi (fun ro' st K r he => ?_) hlt
  unfold loopSum2 at he
  split at he
  · rename_i l hl
    refine hs ro' st K r ?_
    unfold loopSum
    cases hb : Nat.beq ro ro' with
    | false => rw [hb] at hl; cases hl
    | true =>
      rw [hb] at hl
      simp only [cond_true] at hl ⊢
      cases ht : trimSt a.head a.grow st.h.length st with
      | none => rw [ht] at hl; cases hl
      | some s =>
        rw [ht] at hl
        simp only at hl ⊢
        rw [hl]
        exact he
  · split at he
    · rename_i s hs'
      have hmem : loopOf fn i ∈ loopsOf fn := by
        have : loopOf fn i ∈ (loopsOf fn).filter (fun c => Nat.beq (firstRegion c) i) := by rw [hi]; simp
        exact (List.mem_filter.1 this).1
      exact hE.ls f fn hf (loopOf fn i) hmem s (by rw [hi2]; exact hs') ro' st K r he
    · cases he
theorem EnvOk.override {E : Env α} (hE : EnvOk P E) {f : FuncId} {quiet : Bool} {ro : Nat} {p : SPat} {F F' : List Var -> (AV -> Heap -> Option α) -> Option α} {rest : Option (Bool × Sum α)}
    (he : E.sums f = some (quiet, funOr ro p F rest)) (hm : ∀ l K r, F' l K = some r -> F l K = some r) : EnvOk P (E.addSum f quiet (funOr ro p F' none)) :=
  hE.addSum fun ro' args h K r hr => by
    refine hE.sums f quiet _ he ro' args h K r ?_
    unfold funOr at hr ⊢
    split at hr
    · exact hm _ _ _ hr
    · cases hr
end
end Go.AM
namespace Go.AM
section
variable {α : Type} {P : Program}
def giveRes (pb : Nat) (s : Sum α) : Sum α := fun ro args h K => s ro args h fun v h' => giveK ro pb v h' fun q h'' => K (idCell pb q) h''
def giveSlot (slot pb : Nat) (s : LSum α) : LSum α := fun ro st K => giveK ro pb (st.t.getD slot .undef) st.h fun q h => s ro ⟨st.t.set slot (idCell pb q), h⟩ K
def tailK (P : Program) (E : Env α) (d ro : Nat) (f : FuncId) (fn : Func) (i n : Nat) (ret : List Nat) (st : St) (K : St -> Option α) : Option α :=
  codeK P ro (callE E (callK P E d)) (E.ls f) (E.ann f) E.lf (tailOf fn i) st fun e s => match e with
    | .ret => match trimSt ret [] n s with
      | some s => K s
      | none => none
    | _ => none
def cutSum (n : Nat) (keep : List Nat) (ro : Nat) (p : SPat) (F : List Var -> (St -> Option α) -> Option α) : LSum α := fun ro' st K =>
  br (Nat.beq ro ro' && (Nat.ble ro n && (Nat.blt n st.h.length && (allB (refsBelow n) (keepT keep [] 0 st.t) && allB (fun b => allB (fun c => Nat.blt c n) (refsL b)) (st.h.take n)))))
    (forceL (keepT keep [] 0 st.t) fun t => forceH (st.h.take n) fun h => match matchS p ⟨t, h⟩ with
    | some l => F l fun s => K .ret ⟨renL (rhoOf (List.range n) st.h.length) s.t, renH (rhoOf (List.range n) st.h.length) s.h ++ st.h.drop n⟩
    | none => none) none
theorem cutSum_ok {n : Nat} {keep ret : List Nat} {ro : Nat} {p : SPat} {F : List Var -> (St -> Option α) -> Option α} {c : Code} {body : St -> (AExit -> St -> Option α) -> Option α}
    (hbody : ∀ (st : St) (K : AExit -> St -> Option α) (r : α), body st K = some r -> ∃ ae st', K ae st' = some r ∧ CodeSem P ro c st ae st')
    (hF : ∀ l K r, F l K = some r -> body (buildS p l) (fun e s => match e with
      | .ret => match trimSt ret [] n s with
        | some s => K s
        | none => none
      | _ => none) = some r) : CutOk P (cutSum n keep ro p F) c := by
  intro ro' st K r he
  unfold cutSum at he
  obtain ⟨hb, he0⟩ := br_fail he
  rw [forceL_eq, forceH_eq] at he0
  simp only [Bool.and_eq_true] at hb
  obtain ⟨h1, h2, h3, h4, h5⟩ := hb
  have := Nat.eq_of_beq_eq_true h1
  subst this
  rw [Nat.ble_eq] at h2
  rw [Nat.blt_eq] at h3
  split at he0
  case h_2 => cases he0
  rename_i l hl
  have hbs := buildS_of hl
  have hf := hF l _ r he0
  rw [hbs] at hf
  obtain ⟨ae, st1, hk, hsem⟩ := hbody _ _ r hf
  cases ae with
  | normal => cases hk
  | exit i => cases hk
  | ret =>
  simp only at hk
  split at hk
  case h_2 => cases hk
  rename_i s hs
  refine ⟨.ret, _, hk, fun a w μ ht H => ?_⟩
  have hlt : ∀ b ∈ List.range n, b < st.h.length := fun b hb => by have := List.mem_range.1 hb; omega
  have hinb : ∀ b ∈ List.range n, ∀ c ∈ refsL (st.h.getD b []), c ∈ List.range n := fun b hb c hc => by
    have hbn := List.mem_range.1 hb
    have hm : st.h.getD b [] ∈ st.h.take n := by
      refine List.mem_of_getElem? (i := b) ?_
      rw [List.getElem?_take, if_pos hbn, List.getD_eq_getElem?_getD, List.getElem?_eq_getElem (by omega)]
      rfl
    have := allB_spec (allB_spec h5 _ hm) c hc
    exact List.mem_range.2 (by simpa using this)
  have hid : ∀ b, b < n -> idxOf b (List.range n) = b := fun b hb => by
    have h1 := idxOf_spec (List.mem_range.2 hb)
    obtain ⟨l1, e1⟩ := List.getElem?_eq_some_iff.1 h1
    rw [List.getElem_range] at e1
    exact e1
  have hρ : ∀ b, b < n -> rhoOf (List.range n) st.h.length b = b := fun b hb => by
    rw [rhoOf_lt (by simpa using hb), List.getElem_range]
  obtain ⟨hhlen, hblk, hren, hsc⟩ := canon_core hlt hinb H.scope
  have hsm : renH (fun b => idxOf b (List.range n)) (getAll st.h (List.range n)) = st.h.take n := by
    refine List.ext_getElem? fun i => ?_
    rw [renH_eq, List.getElem?_map, getAll_get, List.getElem?_take]
    by_cases hi : i < n
    · rw [if_pos hi, List.getElem?_range hi]
      simp only [Option.map_some]
      rw [List.getD_eq_getElem?_getD, List.getElem?_eq_getElem (show i < st.h.length by omega)]
      simp only [Option.getD_some]
      congr 1
      have hz := renL_renL (σ := fun b => idxOf b (List.range n)) (ρ := fun b => b) st.h[i] fun c hc => by
        have hm : st.h[i] ∈ st.h.take n := List.mem_of_getElem? (i := i) (by rw [List.getElem?_take, if_pos hi, List.getElem?_eq_getElem (show i < st.h.length by omega)])
        have := allB_spec (allB_spec h5 _ hm) c hc
        exact hid c (by simpa using this)
      rw [renL_id] at hz
      exact hz
    · rw [if_neg hi, List.getElem?_eq_none (by simpa using hi)]
      rfl
  rw [hsm] at hhlen hblk hren hsc
  rw [List.length_range] at hhlen
  have C : Canon ro ro (rhoOf (List.range n) st.h.length) st.h (st.h.take n) := by
    refine ⟨fun i hi => ?_, fun i j hi hj e => ?_, fun i hi => hblk i (by rw [List.length_range]; omega), fun j => ?_, fun i g1 g2 => ?_, by omega, hsc⟩
    · rw [hρ i (by omega)]; omega
    · rw [hρ i (by omega), hρ j (by omega)] at e; exact e
    · have := rhoOf_ge (bs := List.range n) (n := st.h.length) (j := j)
      rw [List.length_range] at this
      rw [hhlen]
      exact this
    · rw [hρ i (by omega)]; exact g1
  have E := C.emb (μ := μ)
  have hsmall := C.small H
  have hts : TR (st.h.take n) (fun b => μ (renK (rhoOf (List.range n) st.h.length) b)) (keepT keep [] 0 st.t) a.tmps := by
    refine ⟨by rw [keepT_length]; exact ht.1, fun i => ?_⟩
    have h1 : VR st.h μ ((keepT keep [] 0 st.t).getD i .undef) (a.tmps.getD i Go.undef) := by
      rcases keepT_get keep [] st.t 0 i with e | e | e
      · rw [e]; exact .undef _
      · rw [e]; exact ht.2 i
      · rw [e]; exact (ht.2 i).unex H
    have hrb : refsBelow n ((keepT keep [] 0 st.t).getD i .undef) = true := by
      rw [List.getD_eq_getElem?_getD]
      cases hq : (keepT keep [] 0 st.t)[i]? with
      | none => rfl
      | some v => exact allB_spec h4 v (List.mem_of_getElem? hq)
    exact (h1.cut (.inr hrb)).mono ⟨fun b s L hl => ⟨L, hl, Nat.le_refl _, fun _ => ⟨rfl, fun _ => by
      have hb : b.b < n := by have := segLenAt_lt hl; omega
      show μ (renK (rhoOf (List.range n) st.h.length) b) = μ b
      unfold renK
      rw [hρ _ hb]⟩⟩⟩
  refine wp_mono (hsem a w _ hts hsmall) ?_
  rintro e a1 w1 ⟨q0, μ1, q1, q2, q3, q4⟩
  obtain ⟨u1, u2, u3, u4⟩ := trimSt_sound hs hhlen q1 q3 q4 h2
  have hrl : (renH (rhoOf (List.range n) st.h.length) s.h).length = n := by rw [renH_eq, List.length_map, u4]
  obtain ⟨μ2, g1, g2, g3⟩ := C.back H (h'' := renH (rhoOf (List.range n) st.h.length) s.h ++ st.h.drop n) u2 u3
    (fun i hi => by
      rw [hρ i (by omega), List.getElem?_append_left (by omega), renH_eq, List.getElem?_map])
    (fun b hb hne => by
      have hbn : n <= b := by
        rcases Nat.lt_or_ge b n with q | q
        · exact absurd (hρ b q) (hne b (by omega))
        · exact q
      rw [List.getElem?_append_right (by omega), hrl, List.getElem?_drop, show n + (b - n) = b by omega])
    (fun j => by
      rw [List.getElem?_eq_none (by rw [List.length_append, List.length_drop, hrl]; omega), List.getElem?_eq_none (show s.h.length <= (st.h.take n).length + j by omega)]
      rfl)
    (by rw [List.length_append, List.length_drop, hrl]; omega)
  refine ⟨q0, μ2, ⟨by rw [renL_eq, List.length_map]; exact u1.1, fun i => ?_⟩, q2, g2, g3⟩
  rw [renL_eq, getD_map_ren]
  exact (u1.2 i).ren g1
theorem EnvOk.addCut {E : Env α} (hE : EnvOk P E) (hm : P.follows .mixedOrders = true) (hnames : NamesOk P) {f : FuncId} {fn : Func} (hf : P.funcs[f]? = some fn) {i : Nat} (hi : (tailsOf fn).filter (fun c => Nat.beq (firstRegion c) i) = [tailOf fn i]) (hlp : (loopsOf fn).all (fun c => Nat.blt (firstRegion c) 1000000) = true)
    {keep ret : List Nat} {d ro n : Nat} {p : SPat} {F : List Var -> (St -> Option α) -> Option α}
    (hF : ∀ l K r, F l K = some r -> tailK P E d ro f fn i n ret (buildS p l) K = some r) : EnvOk P (E.addLoop f (i + 1000000) (cutSum n keep ro p F)) := by
  refine ⟨hE.sums, fun g fn' hg c hc s' he => ?_, fun g fn' hg y hy s' he => ?_⟩
  · simp only [Env.addLoop] at he
    cases hb : (Nat.beq g f && Nat.beq (firstRegion c) (i + 1000000)) with
    | true =>
      simp only [Bool.and_eq_true] at hb
      have h1 := Nat.eq_of_beq_eq_true hb.1
      have h2 := Nat.eq_of_beq_eq_true hb.2
      subst h1
      rw [hf] at hg
      cases hg
      have h3 := List.all_eq_true.1 hlp c hc
      rw [Nat.blt_eq] at h3
      omega
    | false => rw [hb] at he; exact hE.ls g fn' hg c hc s' he
  · simp only [Env.addLoop] at he
    cases hb : (Nat.beq g f && Nat.beq (cutKey y) (i + 1000000)) with
    | false => rw [hb] at he; exact hE.cs g fn' hg y hy s' he
    | true =>
      rw [hb] at he
      simp only [cond_true, Option.some.injEq] at he
      subst he
      simp only [Bool.and_eq_true] at hb
      have h1 := Nat.eq_of_beq_eq_true hb.1
      have h2 := Nat.eq_of_beq_eq_true hb.2
      subst h1
      rw [hf] at hg
      cases hg
      have hy2 : y = tailOf fn i := by
        have : y ∈ (tailsOf fn).filter (fun c => Nat.beq (firstRegion c) i) := List.mem_filter.2 ⟨hy, by
          unfold cutKey at h2
          have : firstRegion y = i := by omega
          rw [this]
          exact Nat.beq_refl i⟩
        rw [hi] at this
        exact List.mem_singleton.1 this
      subst hy2
      exact cutSum_ok (ret := ret) (fun st K r h => codeK_sound (callE_sound hE (callK_sound hm hnames hE d)) hm _ ⟨fun c' hc' s hs => hE.ls _ fn hf c' (tails_loops hy hc') s hs, fun y' hy' s hs => hE.cs _ fn hf y' (tails_trans hy hy') s hs⟩ st K h) hF
end
end Go.AM
namespace Go.AM
open Go.ChangeShapes Go.WideShapes Go.RowKit
section
variable {P : Program}
inductive Seg where
  | one (ks : List IntKind)
  | many (k : IntKind) (n : Nat)
def Seg.kinds : Seg -> List IntKind
  | .one ks => ks
  | .many k n => List.replicate n k
def onesAV (cs : Array Value) : Nat -> List IntKind -> List AV
  | _, [] => []
  | o, k :: ks => .int k (numAt cs o) :: onesAV cs (o + 1) ks
def segAV (cs : Array Value) : Nat -> List Seg -> List AV
  | _, [] => []
  | o, .one ks :: r => .vals (onesAV cs o ks) :: segAV cs (o + ks.length) r
  | o, .many k n :: r => .ints k n (fun j => numAt cs (o + j)) :: segAV cs (o + n) r
def isKind (P : Program) (u : TypeId) (k : IntKind) : Bool := match P.underlying u with
  | some (.int k') => keq k k'
  | _ => false
def kindsB (P : Program) : List TypeId -> List IntKind -> Bool
  | [], [] => true
  | u :: ts, k :: ks => isKind P u k && kindsB P ts ks
  | _, _ => false
structure AggIn (P : Program) (W : World) (base : Nat) (t : TypeId) (ss : List Seg) (v : Value) (cs : Array Value) : Prop where
  eq : v = .agg cs
  rel : VR [] (fun _ => .absent) (.agg (segAV cs 0 ss)) (.agg cs)
  fit : ∀ (i : Nat) (k : IntKind), (ss.flatMap Seg.kinds)[i]? = some k -> fits k (numAt cs i) = true
def typesB (P : Program) (t : TypeId) (ss : List Seg) : Bool := match P.cellTypes P.depth t with
  | some ts => Nat.beq (P.cellsOf t) ts.length && kindsB P ts (ss.flatMap Seg.kinds)
  | none => false
def isU8 : Option IntKind -> Bool
  | some .u8 => true
  | _ => false
def isI64 : Option IntKind -> Bool
  | some .i64 => true
  | _ => false
end
end Go.AM
namespace Go.AM
open Go.ChangeShapes Go.WideShapes Go.RowKit
section
variable {P : Program} {H : Type} {enc : TypeId × Value -> H} {w : World} {base : Nat} {spare : Nat -> Bool} {held : Bool}
def chkK (P : Program) (t : TypeId) : Option (List IntKind) -> Option (List IntKind)
  | some ks => cond (Nat.beq (P.cellsOf t) ks.length) (some ks) none
  | none => none
def fieldsK (g : TypeId -> Option (List IntKind)) : Nat -> List Field -> Option (List IntKind)
  | _, [] => some []
  | o, f :: fs => match g f.type with
    | some ks => cond (Nat.beq f.offset o) (match fieldsK g (o + ks.length) fs with
      | some r => some (ks ++ r)
      | none => none) none
    | none => none
def cellsK (P : Program) : Nat -> TypeId -> Option (List IntKind)
  | 0, _ => none
  | d + 1, t => chkK P t (match P.underlying t with
    | some (.int k) => some [k]
    | some (.array n e) => match cellsK P d e with
      | some ks => some ((List.replicate n ks).flatten)
      | none => none
    | some (.struct fs) => fieldsK (cellsK P d) 0 fs.toList
    | _ => none)
theorem chkK_spec {t : TypeId} {o : Option (List IntKind)} {ks : List IntKind} (h : chkK P t o = some ks) : o = some ks ∧ P.cellsOf t = ks.length := by
  cases o with
  | none => simp [chkK] at h
  | some l =>
    simp only [chkK] at h
    cases hb : Nat.beq (P.cellsOf t) l.length with
    | false => simp [hb] at h
    | true =>
      simp only [hb, cond_true, Option.some.injEq] at h
      subst h
      exact ⟨rfl, Nat.eq_of_beq_eq_true hb⟩
theorem cellsK_len {d : Nat} {t : TypeId} {ks : List IntKind} (h : cellsK P d t = some ks) : P.cellsOf t = ks.length := by
  cases d with
  | zero => simp [cellsK] at h
  | succ d => exact (chkK_spec h).2
def GoodK (ks : List IntKind) (cs : List Value) : Prop := ∀ (i : Nat) (k : IntKind), ks[i]? = some k -> ∃ n, cs[i]? = some (.int k n) ∧ fits k n = true
theorem wf_fits {k : IntKind} {n : Int} (h : (Lit.int k n).wf = true) : fits k n = true := by
  rw [fits_iff]
  simp only [Lit.wf, Bool.and_eq_true, decide_eq_true_eq] at h
  cases k <;> exact h
theorem repK : ∀ (n : Nat) (ks : List IntKind) (i : Nat) (k : IntKind), ((List.replicate n ks).flatten)[i]? = some k -> ∃ q j, q < n ∧ j < ks.length ∧ i = q * ks.length + j ∧ ks[j]? = some k
  | 0, _, i, k, h => by simp at h
  | n + 1, ks, i, k, h => by
    rw [List.replicate_succ, List.flatten_cons] at h
    by_cases hi : i < ks.length
    · rw [List.getElem?_append_left hi] at h
      exact ⟨0, i, by omega, hi, by omega, h⟩
    · rw [List.getElem?_append_right (by omega)] at h
      obtain ⟨q, j, h1, h2, h3, h4⟩ := repK n ks _ k h
      refine ⟨q + 1, j, by omega, h2, ?_, h4⟩
      rw [Nat.succ_mul]
      omega
theorem take_drop_get (cs : List Value) (o m j : Nat) (hj : j < m) : ((cs.drop o).take m)[j]? = cs[o + j]? := by
  rw [List.getElem?_take, if_pos hj, List.getElem?_drop]
theorem fieldsK_spec {g : TypeId -> Option (List IntKind)} {cs : List Value} (hg : ∀ t ks, g t = some ks -> P.cellsOf t = ks.length) : ∀ (fs : List Field) (o : Nat) (ks : List IntKind), fieldsK g o fs = some ks ->
    (∀ f, f ∈ fs -> ∀ ks', g f.type = some ks' -> GoodK ks' ((cs.drop f.offset).take (P.cellsOf f.type))) -> ∀ (i : Nat) (k : IntKind), ks[i]? = some k -> ∃ n, cs[o + i]? = some (.int k n) ∧ fits k n = true
  | [], o, ks, h, _, i, k, hi => by
    simp only [fieldsK, Option.some.injEq] at h
    subst h
    simp at hi
  | f :: fs, o, ks, h, hf, i, k, hi => by
    simp only [fieldsK] at h
    split at h
    · rename_i ks1 hk1
      cases hb : Nat.beq f.offset o with
      | false => simp [hb] at h
      | true =>
        simp only [hb, cond_true] at h
        have ho := Nat.eq_of_beq_eq_true hb
        split at h
        · rename_i r hr
          simp only [Option.some.injEq] at h
          subst h
          by_cases hlt : i < ks1.length
          · rw [List.getElem?_append_left hlt] at hi
            obtain ⟨n, h1, h2⟩ := hf f (by simp) ks1 hk1 i k hi
            rw [take_drop_get _ _ _ _ (by rw [hg _ _ hk1]; exact hlt), ho] at h1
            exact ⟨n, h1, h2⟩
          · rw [List.getElem?_append_right (by omega)] at hi
            obtain ⟨n, h1, h2⟩ := fieldsK_spec hg fs _ r hr (fun f' hf' => hf f' (by simp [hf'])) _ k hi
            rw [show o + ks1.length + (i - ks1.length) = o + i by omega] at h1
            exact ⟨n, h1, h2⟩
        · cases h
    · cases h
theorem cellsK_spec : ∀ (d : Nat) (t : TypeId) (ks : List IntKind), cellsK P d t = some ks -> ∀ (n : Nat) (cs : List Value) (y : DataW H × List MemPlace), DataW.trod enc P w base spare held n t cs = some y -> GoodK ks cs
  | 0, t, ks, h, _, _, _, _ => by simp [cellsK] at h
  | d + 1, t, ks, h, n, cs, y, hy => by
    obtain ⟨h1, h2⟩ := chkK_spec h
    split at h1
    · rename_i k hu
      simp only [Option.some.injEq] at h1
      subst h1
      obtain ⟨m, rfl, _, hw⟩ := DataW.trod_int hu hy
      intro i k' hi
      cases i with
      | zero =>
        simp only [List.getElem?_cons_zero, Option.some.injEq] at hi
        subst hi
        exact ⟨m, rfl, wf_fits hw⟩
      | succ i => simp at hi
    · rename_i a e hu
      split at h1
      · rename_i ks1 hk1
        simp only [Option.some.injEq] at h1
        subst h1
        obtain ⟨xs, m, _, _, hl, hxl, hx⟩ := DataW.trod_array hu hy
        intro i k hi
        obtain ⟨q, j, hq, hj, rfl, hjk⟩ := repK _ _ _ _ hi
        have hc := cellsK_len hk1
        have hxq := hx q hq
        rw [List.getElem?_eq_getElem (by omega)] at hxq
        obtain ⟨v, h3, h4⟩ := cellsK_spec d e ks1 hk1 m _ _ hxq j k hjk
        rw [take_drop_get _ _ _ _ (by omega), hc] at h3
        exact ⟨v, h3, h4⟩
      · cases h1
    · rename_i fs hu
      obtain ⟨xs, m, _, _, hl, hxl, hx⟩ := DataW.trod_struct hu hy
      intro i k hi
      obtain ⟨v, h3, h4⟩ := fieldsK_spec (P := P) (cs := cs) (fun t ks h => cellsK_len h) fs.toList 0 ks h1 (fun f hf ks' hk' => by
        obtain ⟨q, hq⟩ := List.getElem?_of_mem hf
        have hq' : fs[q]? = some f := by simpa using hq
        have hxq := hx q f hq'
        have hlt : q < fs.size := by
          have := (List.getElem?_eq_some_iff.1 hq).1
          simpa using this
        rw [List.getElem?_eq_getElem (by omega)] at hxq
        exact cellsK_spec d f.type ks' hk' m _ _ hxq) i k hi
      rw [Nat.zero_add] at h3
      exact ⟨v, h3, h4⟩
    · cases h1
def cellNum (w : World) (a : Addr) (o : Nat) : Int := match w.cell? (a.add o) with
  | some (.int _ n) => n
  | _ => 0
def cellNumV (w : World) (v : Value) (o : Nat) : Int := match v with
  | .slice (some a) _ _ => cellNum w a o
  | _ => 0
def sliceLen (v : Value) : Nat := match v with
  | .slice _ l _ => l
  | _ => 0
def sliceLoc (es : Nat) (v : Value) : Loc := match v with
  | .slice (some a) _ cap => .at a.block a.off (cap * es)
  | _ => .none
structure SliceIn (W : World) (k : IntKind) (es : Nat) (v : Value) : Prop where
  small : sliceLen v <= maxLen
  fit : ∀ j, j < sliceLen v * es -> fits k (cellNumV W v j) = true
  val : (∃ kb o cap, v = .slice (some ⟨kb, o, none⟩) (sliceLen v) cap ∧ sliceLen v <= cap ∧ kb < W.heap.size ∧
      (∀ i, i < cap * es -> (∃ c, W.cell? ⟨kb, o + i, none⟩ = some c) ∧ W.frozen? ⟨kb, o + i, none⟩ = false) ∧
      ∀ i, i < sliceLen v * es -> W.cell? ⟨kb, o + i, none⟩ = some (.int k (cellNumV W v i))) ∨ v = .slice none 0 0
def allKind (k : IntKind) (ks : List IntKind) : Bool := allB (fun k' => keq k k') ks
theorem SliceIn.open_ {W : World} {t e : TypeId} {k : IntKind} {es b0 : Nat} {v : Value} {d : DataW H} {p : List MemPlace} (hu : P.underlying t = some (.slice e))
    (hk : (match cellsK P 8 e with | some ks => allKind k ks && (Nat.beq ks.length es && Nat.blt 0 es) | none => false) = true) (hval : Value.okWide P W .any b0 t v)
    (hd : DataW.Trod enc P W 0 (fun _ => true) true t v d p) (hfz : W.noneFrozen p) : SliceIn W k es v := by
  split at hk
  · rename_i ks hks
    simp only [Bool.and_eq_true, Nat.blt_eq] at hk
    obtain ⟨hk1, hk2, hk3⟩ := hk
    have hlen := Nat.eq_of_beq_eq_true hk2
    have hes : P.cellsOf e = es := by rw [cellsK_len hks, hlen]
    have hkk : ∀ j, j < es -> ks[j]? = some k := by
      intro j hj
      rw [List.getElem?_eq_getElem (by omega)]
      have := allB_spec hk1 ks[j] (List.getElem_mem _)
      rw [keq_eq this]
    unfold Value.okWide at hval
    rw [hu] at hval
    have hval : Cell.ok P W .any b0 t v := by
      unfold Cell.okWide at hval
      rw [hu] at hval
      exact hval
    obtain ⟨fuel, hd⟩ := hd
    rcases Deep.open_slice hu hd with ⟨h1, _⟩ | ⟨a, len, cap, m, n, D, Pl, h1, _, h3, h4, h5, h6, h7⟩
    · have : v = .slice none 0 0 := by
        unfold Cell.ok at hval
        rw [hu] at hval
        cases v <;> simp [Value.cells] at h1 hval ⊢
        exact h1
      subst this
      exact ⟨Nat.zero_le _, fun j hj => by simp [sliceLen] at hj, .inr rfl⟩
    · have hv : v = .slice (some a) len cap := by
        unfold Cell.ok at hval
        rw [hu] at hval
        cases v <;> simp [Value.cells] at h1 hval ⊢
        exact h1
      subst hv
      unfold Cell.ok at hval
      rw [hu] at hval
      obtain ⟨_, _, _, hsp, row, cells, hshape, _⟩ := hval
      obtain ⟨kb, o, spot⟩ := a
      have hkb : kb < W.heap.size := by
        simp only [World.shape?] at hshape
        rcases Nat.lt_or_ge kb W.heap.size with h | h
        · exact h
        · rw [Array.getElem?_eq_none h] at hshape
          simp at hshape
      simp only at hsp
      subst hsp
      simp only [if_true] at h5
      subst h5
      have hp : p = MemPlace.row ⟨kb, o, none⟩ (m * P.cellsOf e) ++ (List.range m).flatMap Pl := by
        simp only [Prod.mk.injEq] at h6
        exact h6.2
      have hcell : ∀ q, q < m -> ∀ j, j < es -> ∃ n, W.cell? ⟨kb, o + (q * es + j), none⟩ = some (.int k n) ∧ fits k n = true := by
        intro q hq j hj
        obtain ⟨cs', g1, g2⟩ := h7 q hq
        obtain ⟨n', g3, g4⟩ := cellsK_spec 8 e ks hks _ _ _ g2 j k (hkk j hj)
        refine ⟨n', ?_, g4⟩
        obtain ⟨_, _, g6⟩ := World.cells?_some g1
        have := g6 j (by omega)
        rw [g3, addr_add, addr_add, hes] at this
        rw [<- this, Nat.add_assoc]
      have hall : ∀ i, i < m * es -> ∃ n, W.cell? ⟨kb, o + i, none⟩ = some (.int k n) ∧ fits k n = true := by
        intro i hi
        have e1 : i = i / es * es + i % es := by rw [Nat.mul_comm]; exact (Nat.div_add_mod i es).symm
        have := hcell (i / es) (Nat.div_lt_of_lt_mul (by rw [Nat.mul_comm]; exact hi)) (i % es) (Nat.mod_lt _ hk3)
        rw [<- e1] at this
        exact this
      have hnum : ∀ i, i < m * es -> W.cell? ⟨kb, o + i, none⟩ = some (.int k (cellNumV W (.slice (some ⟨kb, o, none⟩) len m) i)) ∧ fits k (cellNumV W (.slice (some ⟨kb, o, none⟩) len m) i) = true := by
        intro i hi
        obtain ⟨n', g1, g2⟩ := hall i hi
        have : cellNumV W (.slice (some ⟨kb, o, none⟩) len m) i = n' := by simp only [cellNumV, cellNum, addr_add, g1]
        rw [this]
        exact ⟨g1, g2⟩
      have hle : len * es <= m * es := Nat.mul_le_mul_right _ h3
      refine ⟨by simp only [sliceLen]; omega, fun j hj => (hnum j (by simp only [sliceLen] at hj; omega)).2, .inl ⟨kb, o, m, rfl, h3, hkb, fun i hi => ?_, fun i hi => (hnum i (by simp only [sliceLen] at hi; omega)).1⟩⟩
      obtain ⟨n', g1, _⟩ := hall i hi
      refine ⟨⟨_, g1⟩, hfz kb (o + i) ?_⟩
      rw [hp]
      refine List.mem_append_left _ ?_
      unfold MemPlace.row
      exact List.mem_map.2 ⟨i, List.mem_range.2 (by rw [hes]; exact hi), rfl⟩
  · cases hk
end
end Go.AM
namespace Go.AM
open Go.ChangeShapes Go.WideShapes Go.RowKit
section
variable {P : Program}
structure BlkIn (W : World) (b : Blk) (loc : Loc) : Prop where
  plain : poolOf b = none
  some_ : loc ≠ .absent
  nil_ : loc = .none -> flat b = []
  at_ : ∀ k base room, loc = .at k base room -> k < W.heap.size ∧ (flat b).length <= room ∧ (∀ i, i < room -> (∃ c, W.cell? ⟨k, base + i, none⟩ = some c) ∧ W.frozen? ⟨k, base + i, none⟩ = false) ∧
    ∀ (i : Nat) (v : AV), (flat b)[i]? = some v -> ∃ kd n, v = .int kd n ∧ fits kd n = true ∧ W.cell? ⟨k, base + i, none⟩ = some (.int kd n)
  sc : ∀ (i : Nat) (v : AV), (flat b)[i]? = some v -> ∃ kd n, v = .int kd n
def mapOf (l : List (Blk × Loc)) : LMap := fun b => (l.getD b.b ([], .absent)).2
theorem mapOf_get {l : List (Blk × Loc)} {b : Key} {x : Blk × Loc} (h : l[b.b]? = some x) : mapOf l b = x.2 := by simp [mapOf, List.getD_eq_getElem?_getD, h]
theorem HR_of {W : World} {l : List (Blk × Loc)} (hl : ∀ (i : Nat) (x : Blk × Loc), l[i]? = some x -> BlkIn W x.1 x.2) : HR l.length (l.map (·.1)) (mapOf l) W := by
  have get : ∀ (b : Key) (ss : Blk), blk? (l.map (·.1)) b = some ss -> ∃ x, l[b.b]? = some x ∧ x.1 = ss := by
    intro b ss hb
    rcases blk_cases hb with ⟨_, h1, _⟩ | ⟨r, k, rows, xs, _, h1, _, _⟩
    · rw [List.getElem?_map, Option.map_eq_some_iff] at h1
      exact h1
    · rw [List.getElem?_map, Option.map_eq_some_iff] at h1
      obtain ⟨x, h2, h3⟩ := h1
      have := (hl _ x h2).plain
      rw [h3] at this
      cases this
  refine ⟨fun b ss hb hm => ?_, fun b ss k base room hb hm => ?_, fun b b' k base room base' room' h1 h2 => ?_, fun b ss hb i v hv => ?_, by simp⟩
  · obtain ⟨x, hx, rfl⟩ := get b ss hb
    rw [mapOf_get hx] at hm
    exact (hl b.b x hx).nil_ hm
  · obtain ⟨x, hx, rfl⟩ := get b ss hb
    rw [mapOf_get hx] at hm
    obtain ⟨h1, h2, h3, h4⟩ := (hl b.b x hx).at_ k base room hm
    refine ⟨h1, h2, h3, fun i v hv => ?_⟩
    obtain ⟨kd, n, rfl, h5, h6⟩ := h4 i v hv
    exact ⟨_, h6, rfl, .int _ _ h5⟩
  · have := has_lt h2
    simp at this
    omega
  · obtain ⟨x, hx, rfl⟩ := get b ss hb
    obtain ⟨kd, n, rfl⟩ := (hl b.b x hx).sc i v hv
    exact .int _ _
theorem SliceIn.blk {W : World} {k : IntKind} {es : Nat} {v : Value} (h : SliceIn W k es v) : BlkIn W [.ints k (sliceLen v * es) (cellNumV W v)] (sliceLoc es v) := by
  have hf : flat [AV.ints k (sliceLen v * es) (cellNumV W v)] = (List.range (sliceLen v * es)).map fun i => .int k (cellNumV W v i) := by simp [flat, segValsOf]
  have hget : ∀ (i : Nat) (u : AV), (flat [AV.ints k (sliceLen v * es) (cellNumV W v)])[i]? = some u -> i < sliceLen v * es ∧ u = .int k (cellNumV W v i) := by
    intro i u hu
    rw [hf, List.getElem?_map, Option.map_eq_some_iff] at hu
    obtain ⟨j, h1, h2⟩ := hu
    rw [List.getElem?_eq_some_iff] at h1
    obtain ⟨h3, h4⟩ := h1
    simp only [List.length_range] at h3
    simp only [List.getElem_range] at h4
    subst h4
    exact ⟨h3, h2.symm⟩
  rcases h.val with ⟨kb, o, cap, hv, h1, h2, h3, h4⟩ | hv
  · have hloc : sliceLoc es v = .at kb o (cap * es) := by rw [hv]; rfl
    refine ⟨rfl, by rw [hloc]; simp, fun e => (by rw [hloc] at e; cases e), fun k' base room e => ?_, fun i u hu => ⟨k, _, (hget i u hu).2⟩⟩
    rw [hloc] at e
    cases e
    refine ⟨h2, by rw [hf]; simp; exact Nat.mul_le_mul_right _ h1, h3, fun i u hu => ?_⟩
    obtain ⟨hi, rfl⟩ := hget i u hu
    exact ⟨k, _, rfl, h.fit i hi, h4 i hi⟩
  · have h0 : sliceLen v = 0 := by rw [hv]; rfl
    have hloc : sliceLoc es v = .none := by rw [hv]; rfl
    refine ⟨rfl, by rw [hloc]; simp, fun _ => by rw [hf, h0]; simp, fun k' base room e => (by rw [hloc] at e; cases e), fun i u hu => ⟨k, _, (hget i u hu).2⟩⟩
theorem SliceIn.rel {W : World} {k : IntKind} {es : Nat} {v : Value} (h : SliceIn W k es v) {H : Heap} {μ : LMap} {b : Nat} (hb : H[b]? = some [.ints k (sliceLen v * es) (cellNumV W v)]) (hm : μ ⟨b, 0⟩ = sliceLoc es v) :
    VR H μ (.slice ⟨⟨b, 0⟩, 0, 0, sliceLen v * es⟩ (sliceLen v) (sliceLen v) es false) v := by
  have hL : segLenAt H ⟨b, 0⟩ 0 = some (sliceLen v * es) := by
    unfold segLenAt
    rw [blk_top rfl hb]
    rfl
  have ho : segOff H ⟨b, 0⟩ 0 = 0 := by simp [segOff, lenOf]
  rcases h.val with ⟨kb, o, cap, hv, h1, h2, h3, h4⟩ | hv
  · have hloc : sliceLoc es v = .at kb o (cap * es) := by rw [hv]; rfl
    have := VR.slice (h := H) (μ := μ) ⟨⟨b, 0⟩, 0, 0, sliceLen v * es⟩ (sliceLen v) (sliceLen v) es false (some ⟨kb, o, none⟩) cap _ hL (Nat.le_refl _) ⟨Nat.le_refl _, fun _ e => by cases e⟩ fun _ =>
      ⟨h1, fun e => (by cases e), .inl ⟨kb, o, cap * es, by rw [hm, hloc], by simp [ho], fun _ => by simp [ho]⟩⟩
    rw [<- hv] at this
    exact this
  · have h0 : sliceLen v = 0 := by rw [hv]; rfl
    have hloc : sliceLoc es v = .none := by rw [hv]; rfl
    have := VR.slice (h := H) (μ := μ) ⟨⟨b, 0⟩, 0, 0, sliceLen v * es⟩ (sliceLen v) (sliceLen v) es false none 0 _ hL (Nat.le_refl _) ⟨Nat.le_refl _, fun e => by omega⟩ fun _ =>
      ⟨by omega, fun e => (by cases e), .inr ⟨by rw [hm, hloc], rfl, rfl⟩⟩
    rw [h0] at this ⊢
    rw [hv]
    exact this
theorem law_callsH (hm : P.follows .mixedOrders = true) (hnames : NamesOk P) {E : Env (AV × Heap)} (hE : EnvOk P E) {d : Nat} {f : FuncId} {args : List AV} {b : Bool} {h' : Heap} {W : World} (l : List (Blk × Loc))
    (hl : ∀ (i : Nat) (x : Blk × Loc), l[i]? = some x -> BlkIn W x.1 x.2)
    (hk : callK P E d f l.length args (l.map (·.1)) (fun v h => some (v, h)) = some (.bool b, h')) {cs : Array Value} (hlen : args.length = cs.size) (hargs : ∀ i, VR (l.map (·.1)) (mapOf l) (args.getD i .undef) (cs.getD i Go.undef)) :
    Calls P f cs W fun e W' => e = .returned (.bool b) ∧ Below W.heap.size W W' ∧ ∀ a, W'.frozen? a = W.frozen? a := by
  obtain ⟨v, h2, h3, _, hs⟩ := callK_sound hm hnames hE d f l.length args _ _ _ hk
  simp only [Option.some.injEq, Prod.mk.injEq] at h3
  obtain ⟨rfl, rfl⟩ := h3
  refine (hs _ W cs hlen hargs (HR_of hl)).mono ?_
  rintro e W' ⟨c, rfl, μ', v1, _, v3⟩
  cases v1
  refine ⟨rfl, ⟨v3.os, v3.tape, v3.output, v3.size, fun k hk => v3.frame k hk fun b base room h1 h2 => by have := has_lt h2; simp at this; omega⟩, v3.froz⟩
theorem blks_nil {W : World} : ∀ (i : Nat) (y : Blk × Loc), ([] : List (Blk × Loc))[i]? = some y -> BlkIn W y.1 y.2 := fun i y h => by simp at h
theorem blks_cons {W : World} {x : Blk × Loc} {l : List (Blk × Loc)} (hx : BlkIn W x.1 x.2) (hl : ∀ (i : Nat) (y : Blk × Loc), l[i]? = some y -> BlkIn W y.1 y.2) :
    ∀ (i : Nat) (y : Blk × Loc), (x :: l)[i]? = some y -> BlkIn W y.1 y.2 := fun i y h => by
  cases i with
  | zero =>
    simp only [List.getElem?_cons_zero, Option.some.injEq] at h
    subst h
    exact hx
  | succ i => exact hl i y (by simpa using h)
theorem SliceIn.bytes {W : World} {es : Nat} {v : Value} (h : SliceIn W .u8 es v) : ∀ j, j < sliceLen v * es -> 0 <= cellNumV W v j ∧ cellNumV W v j <= 255 := fun j hj => by
  have := h.fit j hj
  rw [fits_iff] at this
  exact this
theorem SliceIn.short {W : World} {k : IntKind} {es : Nat} {v : Value} (h : SliceIn W k es v) : sliceLen v <= 9223372036854775807 := Nat.le_trans h.small (by decide)
end
end Go.AM
namespace Go.AM
open Go.ChangeShapes Go.WideShapes Go.RowKit
section
variable {P : Program} {H : Type} {enc : TypeId × Value -> H}
structure PairIn (W : World) (k0 k : IntKind) (es : Nat) (v : Value) (x : Int) (s : Value) : Prop where
  eq : v = .agg #[.int k0 x, s]
  fit : fits k0 x = true
  sl : SliceIn W k es s
end
end Go.AM
