/- A part of a proof about the given program: an abstract machine, what the given functions come to, and plain laws. -/
import Derived.Test.YtkboldcnkkolkaaAMDraw
namespace Go.AM
section
variable {P : Program} {ro : Nat} {ops : Array Oper} {S : Nat → St}

theorem getD_putO (t : List AV) (dst : Option Nat) (v : AV) (s : Nat) : (putO t dst v).getD s .undef = if dst = some s ∧ s < t.length then v else t.getD s .undef := by
  cases dst with
  | none => simp [putO]
  | some d =>
    simp only [putO, getD_set_list, Option.some.injEq]
    by_cases h : d = s
    · subst h; rfl
    · rw [if_neg (by omega), if_neg (by omega)]

theorem StepOk.slots {draw : Bool} {all : List Oper} {o : Oper} {s s' : St} (h : StepOk P draw ro all o s s') : ∃ v, s'.t = putO s.t o.dst v := by
  rcases h.sem with ⟨_, e⟩ | ⟨v, _, e, _⟩
  · exact ⟨_, by rw [e]⟩
  · exact ⟨v, by rw [e]⟩

/-- The world when the operations are gone through in the order of the text. -/
def Reach (ro : Nat) (s : St) : Prop := ∃ (a : Act) (w : World) (μ : LMap), TR s.h μ s.t a.tmps ∧ HR ro s.h μ w

theorem Reach.step {o : Oper} {all : List Oper} {s s' : St} (hr : Reach ro s) (hs : StepOk P true ro all o s s') : Reach ro s' ∧ s.h.length ≤ s'.h.length ∧ (isW o.op = false → s.h <+: s'.h) := by
  obtain ⟨a, w, μ, ht, H⟩ := hr
  rcases hs.sem with ⟨_, e⟩ | ⟨v, _, e, hop⟩
  · subst e
    exact ⟨⟨a.put o.dst Go.undef, w, μ, ht.put _ (VR.void _ _), H⟩, Nat.le_refl _, fun _ => List.prefix_rfl⟩
  · have et : s'.t = putO s.t o.dst v := by rw [e]
    cases hw : isW o.op with
    | true =>
      simp only [hw, Bool.not_true, Bool.and_false, cond_false] at hop
      obtain ⟨a', w', μ', c, rfl, v1, v2, v3⟩ := Oper.wp_exists (hop o a w μ (fun a' w' => ∃ μ' c, a' = a.put o.dst c ∧ VR s'.h μ' v c ∧ HR ro s'.h μ' w' ∧ Ext ro s.h μ w s'.h μ' w') _ rfl (fun x _ => ht.eval x) H fun μ' w' c v1 v2 v3 => ⟨μ', c, rfl, v1, v2, v3⟩)
      exact ⟨⟨_, w', μ', by rw [et]; exact TR.put (ht.mono v3.le) _ v1, v2⟩, v3.len, fun e => by cases e⟩
    | false =>
      simp only [hw, Bool.not_false, Bool.and_true, cond_true] at hop
      obtain ⟨a', w', μ', c, rfl, v1, v2, v3⟩ := Oper.wp_exists (hop o a w μ (fun a' w' => ∃ μ' c, a' = a.put o.dst c ∧ VR s'.h μ' v c ∧ HR s.h.length s'.h μ' w' ∧ Ext s.h.length s.h μ w s'.h μ' w') _ rfl (fun x _ => ht.eval x) H.quiet fun μ' w' c v1 v2 v3 => ⟨μ', c, rfl, v1, v2, v3⟩)
      exact ⟨⟨_, w', μ', by rw [et]; exact TR.put (ht.mono v3.le) _ v1, H.unquiet v2 v3⟩, v3.len, fun _ => v3.grows⟩

theorem Reach.inScope {s : St} (hr : Reach ro s) : ScopedH s.h ∧ (∀ k, Scoped s.h (s.t.getD k .undef)) ∧ ro ≤ s.h.length := by
  obtain ⟨a, w, μ, ht, H⟩ := hr
  exact ⟨H.scope, fun k => (ht.2 k).inScope, H.rol⟩

/-- What is known of a region's text-order states. -/
structure Text (P : Program) (ro : Nat) (ops : Array Oper) (S : Nat → St) : Prop where
  steps : ∀ i o, ops[i]? = some o → StepOk P true ro ops.toList o (S i) (S (i + 1))
  reach : ∀ i, i ≤ ops.size → Reach ro (S i)

theorem Text.len {i j : Nat} (T : Text P ro ops S) (hij : i ≤ j) (hj : j ≤ ops.size) : (S i).h.length ≤ (S j).h.length := by
  obtain ⟨d, rfl⟩ := Nat.exists_eq_add_of_le hij
  clear hij
  induction d with
  | zero => exact Nat.le_refl _
  | succ d ih =>
    have ho : ops[i + d]? = some ops[i + d] := by simp [show i + d < ops.size by omega]
    exact Nat.le_trans (ih (by omega)) ((T.reach (i + d) (by omega)).step (T.steps _ _ ho)).2.1

theorem Text.pre {i j : Nat} (T : Text P ro ops S) (hij : i ≤ j) (hj : j ≤ ops.size) (hw : ∀ k o, i ≤ k → k < j → ops[k]? = some o → isW o.op = false) : (S i).h <+: (S j).h := by
  obtain ⟨d, rfl⟩ := Nat.exists_eq_add_of_le hij
  clear hij
  induction d with
  | zero => exact List.prefix_rfl
  | succ d ih =>
    have ho : ops[i + d]? = some ops[i + d] := by simp [show i + d < ops.size by omega]
    exact (ih (by omega) fun k o h1 h2 => hw k o h1 (by omega)).trans (((T.reach (i + d) (by omega)).step (T.steps _ _ ho)).2.2 (hw _ _ (by omega) (by omega) ho))

/-- What a slot holds when the operations in 'L' have run: the last writer's value. -/
def slotAt (ops : Array Oper) (S : Nat → St) (L : Nat → Bool) (s : Nat) : Nat → AV
  | 0 => (S 0).t.getD s .undef
  | k + 1 => if L k = true ∧ (ops[k]?).bind (·.dst) = some s then (S (k + 1)).t.getD s .undef else slotAt ops S L s k

theorem Text.other {k s : Nat} (T : Text P ro ops S) (hk : k < ops.size) (hd : (ops[k]?).bind (·.dst) ≠ some s) : (S (k + 1)).t.getD s .undef = (S k).t.getD s .undef := by
  have ho : ops[k]? = some ops[k] := by simp [hk]
  obtain ⟨v, hv⟩ := (T.steps _ _ ho).slots
  rw [hv, getD_putO, if_neg]
  rintro ⟨e, _⟩
  exact hd (by rw [ho]; exact e)

theorem slotAt_read (T : Text P ro ops S) {L : Nat → Bool} {s j : Nat} (hj : j ≤ ops.size) (h1 : ∀ i, i < j → (ops[i]?).bind (·.dst) = some s → L i = true) (h2 : ∀ i, j ≤ i → i < ops.size → (ops[i]?).bind (·.dst) = some s → L i = false) :
    slotAt ops S L s ops.size = (S j).t.getD s .undef := by
  have low : ∀ k, k ≤ j → slotAt ops S L s k = (S k).t.getD s .undef := by
    intro k
    induction k with
    | zero => exact fun _ => rfl
    | succ k ih =>
      intro hk
      simp only [slotAt]
      split
      · rfl
      · rename_i hn
        rw [ih (by omega), T.other (by omega)]
        intro e
        exact hn ⟨h1 k (by omega) e, e⟩
  have high : ∀ d, j + d ≤ ops.size → slotAt ops S L s (j + d) = (S j).t.getD s .undef := by
    intro d
    induction d with
    | zero => exact fun _ => low j (Nat.le_refl _)
    | succ d ih =>
      intro hd
      rw [show j + (d + 1) = (j + d) + 1 by omega]
      simp only [slotAt]
      rw [if_neg, ih (by omega)]
      rintro ⟨e1, e2⟩
      rw [h2 (j + d) (by omega) (by omega) e2] at e1
      cases e1
  have := high (ops.size - j) (by omega)
  rwa [show j + (ops.size - j) = ops.size by omega] at this

theorem slotAt_same {L L' : Nat → Bool} {s : Nat} : ∀ (k : Nat), (∀ i, i < k → (ops[i]?).bind (·.dst) = some s → L i = L' i) → slotAt ops S L s k = slotAt ops S L' s k := by
  intro k
  induction k with
  | zero => exact fun _ => rfl
  | succ k ih =>
    intro h
    simp only [slotAt]
    rw [ih fun i hi => h i (by omega)]
    by_cases hd : (ops[k]?).bind (·.dst) = some s
    · rw [h k (by omega) hd]
    · rw [if_neg (fun h => hd h.2), if_neg (fun h => hd h.2)]

theorem slotAt_new {L : Nat → Bool} {s j : Nat} (hL : L j = true) (hd : (ops[j]?).bind (·.dst) = some s) (h2 : ∀ i, j < i → i < ops.size → (ops[i]?).bind (·.dst) = some s → L i = false) (hj : j < ops.size) :
    slotAt ops S L s ops.size = (S (j + 1)).t.getD s .undef := by
  have high : ∀ d, j + 1 + d ≤ ops.size → slotAt ops S L s (j + 1 + d) = (S (j + 1)).t.getD s .undef := by
    intro d
    induction d with
    | zero =>
      intro _
      simp only [slotAt]
      rw [if_pos ⟨hL, hd⟩]
    | succ d ih =>
      intro hd'
      rw [show j + 1 + (d + 1) = (j + 1 + d) + 1 by omega]
      simp only [slotAt]
      rw [if_neg, ih (by omega)]
      rintro ⟨e1, e2⟩
      rw [h2 (j + 1 + d) (by omega) (by omega) e2] at e1
      cases e1
  have := high (ops.size - (j + 1)) (by omega)
  rwa [show j + 1 + (ops.size - (j + 1)) = ops.size by omega] at this

def listedB (l : Array Bool) (i : Nat) : Bool := l.getD i false
theorem listedB_set {l : Array Bool} {j : Nat} (hj : j < l.size) (i : Nat) : listedB (l.setIfInBounds j true) i = if i = j then true else listedB l i := by
  unfold listedB
  rw [getD_set_array]
  by_cases h : j = i
  · subst h; rw [if_pos ⟨rfl, hj⟩, if_pos rfl]
  · rw [if_neg (fun e => h e.1), if_neg (Ne.symm h)]

/-- The state between two operations, whatever order they were drawn in. -/
structure Inv (ops : Array Oper) (S : Nat → St) (ro : Nat) (a0 : Act) (w0 : World) (μ0 : LMap) (l : Array Bool) (a : Act) (w : World) (m : Nat) (μ : LMap) : Prop where
  size : l.size = ops.size
  closed : ∀ i o, ops[i]? = some o → listedB l i = true → ∀ e, e ∈ o.after → Region.binds .any e = true → listedB l e.on = true
  mle : m ≤ ops.size
  done : ∀ i o, i < m → ops[i]? = some o → isW o.op = true → listedB l i = true
  next : ∀ o, ops[m]? = some o → isW o.op = true ∧ listedB l m = false
  late : ∀ i o, m ≤ i → ops[i]? = some o → listedB l i = true → isP o.op = true ∨ isQ o.op = true
  len : (S 0).t.length = a.tmps.size
  slots : ∀ s, VR (S m).h μ (slotAt ops S (listedB l) s ops.size) (a.tmps.getD s Go.undef)
  defers : a.defers = a0.defers
  heap : HR ro (S m).h μ w
  ext : Ext ro (S 0).h μ0 w0 (S m).h μ w
  abs : ∀ i, i < m → listedB l i = false → ∀ b : Key, (S i).h.length ≤ b.b → b.b < (S (i + 1)).h.length → μ b = .absent
  keep : ∀ i, i < m → listedB l i = false → ∀ b, (S i).h.length ≤ b → b < (S (i + 1)).h.length → (S m).h[b]? = (S (i + 1)).h[b]?

theorem isP_notW {op : Op} (h : isP op = true) : isW op = false := by cases op <;> simp_all [isP, isW]
theorem isQ_notW {op : Op} (h : isQ op = true) : isW op = false := by cases op <;> simp_all [isQ, isW]
theorem isL_notW {op : Op} (h : isL op = true) : isW op = false := by cases op <;> simp_all [isL, isW]
theorem isA_notW {op : Op} (h : isA op = true) : isW op = false := by cases op <;> simp_all [isA, isW]
theorem isS_W {op : Op} (h : isS op = true) : isW op = true := by cases op <;> simp_all [isS, isW]
theorem isQ_notP {op : Op} (h : isQ op = true) : isP op = false := by cases op <;> simp_all [isP, isQ]
theorem isL_not {op : Op} (h : isL op = true) : isP op = false ∧ isQ op = false := by cases op <;> simp_all [isP, isQ, isL]
theorem isA_not {op : Op} (h : isA op = true) : isP op = false ∧ isQ op = false := by cases op <;> simp_all [isP, isQ, isA]
theorem isF_not {op : Op} (h : isF op = true) : isP op = false ∧ isQ op = false ∧ isL op = false ∧ isA op = false ∧ isS op = false := by simpa [isF, and_assoc] using h

theorem reads_op {all : List Oper} {o : Oper} {s : Nat} (h : .tmp s ∈ o.op.operands) : s ∈ readsOf all o :=
  List.mem_append_left _ (List.mem_flatMap.2 ⟨.tmp s, by simpa using h, by simp [tmpOf]⟩)
theorem reads_guard {all : List Oper} {o : Oper} {j d : Nat} {want : Bool} (hg : o.guard = some (j, want)) (hd : (all[j]?).bind (·.dst) = some d) : d ∈ readsOf all o :=
  List.mem_append_right _ (by rw [hg]; simp [hd])

theorem next_W (ops : Array Oper) : ∀ k, k ≤ ops.size → ∃ m, k ≤ m ∧ m ≤ ops.size ∧ (∀ i o, k ≤ i → i < m → ops[i]? = some o → isW o.op = false) ∧ ∀ o, ops[m]? = some o → isW o.op = true := by
  intro k hk
  generalize hd : ops.size - k = d
  induction d generalizing k with
  | zero => exact ⟨k, Nat.le_refl _, hk, fun i o h1 h2 => by omega, fun o ho => by have := (Array.getElem?_eq_some_iff.1 ho).1; omega⟩
  | succ d ih =>
    have ho : ops[k]? = some ops[k] := by simp [show k < ops.size by omega]
    cases hw : isW ops[k].op with
    | true => exact ⟨k, Nat.le_refl _, hk, fun i o h1 h2 => by omega, fun o ho' => by rw [ho] at ho'; cases ho'; exact hw⟩
    | false =>
      obtain ⟨m, h1, h2, h3, h4⟩ := ih (k + 1) (by omega) (by omega)
      refine ⟨m, by omega, h2, fun i o g1 g2 g3 => ?_, h4⟩
      by_cases e : i = k
      · subst e; rw [ho] at g3; cases g3; exact hw
      · exact h3 i o (by omega) g2 g3

section step
variable {anc : Nat → Nat → Prop} {a0 a : Act} {w0 w : World} {μ0 μ : LMap} {l : Array Bool} {m j : Nat} {o : Oper}

/-- The operation that is next reads what it reads in the order of the text. -/
theorem Inv.read (T : Text P ro ops S) (hO : Ordered ops anc) (I : Inv ops S ro a0 w0 μ0 l a w m μ) (hj : ops[j]? = some o) (hl : listedB l j = false) (hd : ∀ e, e ∈ o.after → Region.binds .any e = true → listedB l e.on = true)
    {s : Nat} (hs : s ∈ readsOf ops.toList o) : VR (S m).h μ ((S j).t.getD s .undef) (a.tmps.getD s Go.undef) := by
  have hjlt : j < ops.size := (Array.getElem?_eq_some_iff.1 hj).1
  have hanc := closed_anc hO I.closed j o hj hd
  rw [← slotAt_read T (L := listedB l) (s := s) (j := j) (by omega)]
  · exact I.slots s
  · intro i hi hdst
    have ho : ops[i]? = some ops[i] := by simp [show i < ops.size by omega]
    refine hanc i (hO.pair i j _ _ hi ho hj ?_)
    simp only [pairB, Bool.or_eq_true]
    exact .inl (.inl (.inl (meetB_of (n := s) (by rw [ho] at hdst; simpa using hdst) hs)))
  · intro i hi hlt hdst
    have ho : ops[i]? = some ops[i] := by simp [hlt]
    rcases Nat.lt_or_eq_of_le hi with hi | rfl
    · cases hq : listedB l i with
      | false => rfl
      | true =>
        have : anc i j := hO.pair j i _ _ hi hj ho (by
          simp only [pairB, Bool.or_eq_true]
          exact .inl (.inl (.inr (meetB_of (n := s) (by rw [ho] at hdst; simpa using hdst) hs))))
        have := closed_anc hO I.closed i _ ho (I.closed i _ ho hq) j this
        rw [hl] at this
        cases this
    · exact hl

/-- The slots behind the operation. -/
theorem Inv.wrote (T : Text P ro ops S) (hO : Ordered ops anc) (I : Inv ops S ro a0 w0 μ0 l a w m μ) (hj : ops[j]? = some o) (hl : listedB l j = false)
    {h' : Heap} {μ' : LMap} (hle : Le (S m).h μ h' μ') {v : AV} {c : Value} (hv : VR h' μ' v c) (hst : (S (j + 1)).t = putO (S j).t o.dst v) (s : Nat) :
    VR h' μ' (slotAt ops S (listedB (l.setIfInBounds j true)) s ops.size) ((a.put o.dst c).tmps.getD s Go.undef) := by
  have hjlt : j < ops.size := (Array.getElem?_eq_some_iff.1 hj).1
  have hset := listedB_set (l := l) (j := j) (by rw [I.size]; exact hjlt)
  by_cases hdst : o.dst = some s
  · rw [slotAt_new (j := j) (by rw [hset, if_pos rfl]) (by rw [hj]; exact hdst) (fun i hi hlt hd => ?_) hjlt, hst, hdst, getD_putO]
    · by_cases hlen : s < (S j).t.length
      · rw [if_pos ⟨rfl, hlen⟩]
        have hsz : s < a.tmps.size := by
          have : ∀ k, k ≤ j → (S k).t.length = (S 0).t.length := by
            intro k
            induction k with
            | zero => exact fun _ => rfl
            | succ k ih =>
              intro hk
              have ho : ops[k]? = some ops[k] := by simp [show k < ops.size by omega]
              obtain ⟨v, hv⟩ := (T.steps _ _ ho).slots
              rw [hv, ← ih (by omega)]
              cases ops[k].dst <;> simp [putO]
          rw [this j (Nat.le_refl _), I.len] at hlen
          exact hlen
        have : (a.put (some s) c).tmps.getD s Go.undef = c := by
          simp only [Act.put]
          rw [getD_set_array, if_pos ⟨rfl, hsz⟩]
        rw [this]
        exact hv
      · rw [if_neg (fun e => hlen e.2), List.getD_eq_getElem?_getD, List.getElem?_eq_none (by omega)]
        exact .undef _
    · rw [hset, if_neg (by omega)]
      have ho : ops[i]? = some ops[i] := by simp [hlt]
      cases hq : listedB l i with
      | false => rfl
      | true =>
        have : anc i j := hO.pair j i _ _ hi hj ho (by
          simp only [pairB, Bool.or_eq_true]
          exact .inl (.inr (meetB_of (n := s) (by simpa using hdst) (by rw [ho] at hd; simpa using hd))))
        have := closed_anc hO I.closed i _ ho (I.closed i _ ho hq) j this
        rw [hl] at this
        cases this
  · rw [slotAt_same (L' := listedB l) ops.size fun i hi hd => ?_]
    · have e : (a.put o.dst c).tmps.getD s Go.undef = a.tmps.getD s Go.undef := by
        cases hq : o.dst with
        | none => rfl
        | some d =>
          simp only [Act.put]
          rw [getD_set_array, if_neg]
          rintro ⟨e, _⟩
          exact hdst (by rw [hq, e])
      rw [e]
      exact (I.slots s).mono hle
    · rw [hset, if_neg]
      rintro rfl
      rw [hj] at hd
      exact hdst hd

theorem Inv.closed' (I : Inv ops S ro a0 w0 μ0 l a w m μ) (hj : ops[j]? = some o) (hd : ∀ e, e ∈ o.after → Region.binds .any e = true → listedB l e.on = true) :
    ∀ i o', ops[i]? = some o' → listedB (l.setIfInBounds j true) i = true → ∀ e, e ∈ o'.after → Region.binds .any e = true → listedB (l.setIfInBounds j true) e.on = true := by
  have hjlt : j < ops.size := (Array.getElem?_eq_some_iff.1 hj).1
  have hset := listedB_set (l := l) (j := j) (by rw [I.size]; exact hjlt)
  intro i o' hi hli e he hb
  rw [hset] at hli ⊢
  split
  · rfl
  · by_cases hij : i = j
    · subst hij
      rw [hj] at hi
      cases hi
      exact hd e he hb
    · rw [if_neg hij] at hli
      exact I.closed i o' hi hli e he hb
end step
end
end Go.AM
