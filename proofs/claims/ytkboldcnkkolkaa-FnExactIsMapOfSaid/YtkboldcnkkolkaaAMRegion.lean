/- A part of a proof about the given program: an abstract machine, what the given functions come to, and plain laws. -/
import Derived.Test.YtkboldcnkkolkaaAMLate
namespace Go.AM
section
variable {α : Type} {P : Program} {r : α} {ro : Nat}

theorem forceL_eq {β γ : Type} (l : List β) (k : List β → γ) : forceL l k = k l := by
  induction l generalizing k with
  | nil => rfl
  | cons x xs ih => simp only [forceL, ih]
mutual
theorem forceV_eq {γ : Type} : ∀ (v : AV) (k : AV → γ), forceV v k = k v
  | .vals vs, k => by rw [forceV, forceVs_eq vs]
  | .agg vs, k => by rw [forceV, forceVs_eq vs]
  | .tuple vs, k => by rw [forceV, forceVs_eq vs]
  | .func f vs, k => by rw [forceV, forceVs_eq vs]
  | .undef, k => by rw [forceV]
  | .bool b, k => by rw [forceV]
  | .int i n, k => by rw [forceV]
  | .str s, k => by rw [forceV]
  | .ptr p, k => by rw [forceV]
  | .slice p l c es ex, k => by rw [forceV]
  | .nils, k => by rw [forceV]
  | .ints i n f, k => by rw [forceV]
  | .vec i xs, k => by rw [forceV]
  | .recs ks xs, k => by rw [forceV]
  | .rptr p c, k => by rw [forceV]
  | .pool i rows, k => by rw [forceV]
  | .hdr b ids, k => by rw [forceV]
  | .strs xs, k => by rw [forceV]
  | .bools n f, k => by rw [forceV]
theorem forceVs_eq {γ : Type} : ∀ (vs : List AV) (k : List AV → γ), forceVs vs k = k vs
  | [], k => by rw [forceVs]
  | v :: vs, k => by rw [forceVs, forceV_eq v, forceVs_eq vs]
end
theorem forceH_eq {γ : Type} (h : Heap) (k : Heap → γ) : forceH h k = k h := by
  induction h generalizing k with
  | nil => rfl
  | cons b bs ih => simp only [forceH, forceVs_eq, ih]

theorem ofValue_VR (h : Heap) (μ : LMap) (c : Value) (hc : ∀ a l k, c ≠ .slice a l k) (hf : ∀ f x y, c ≠ .func f x y) : VR h μ (ofValue c) c := by
  cases c <;> simp only [ofValue] <;> try exact .undef _
  · exact .bool _
  · rename_i k n
    cases hq : fits k n with
    | true => rw [cond_true]; exact .int _ _ hq
    | false => rw [cond_false]; exact .undef _
  · exact .str _
  · rename_i a l k; exact absurd rfl (hc _ _ _)
  · rename_i f x y; exact absurd rfl (hf _ _ _)

theorem evalO_const (h : Heap) (μ : LMap) (t : List AV) (c : Value) : VR h μ (evalO t (.const c)) c := by
  simp only [evalO]
  split
  · exact .nils
  · exact .undef _
  · exact .undef _
  · rename_i h1 h2 h3
    exact ofValue_VR h μ c (fun a l k e => h2 a l k e) (fun f x y e => h3 f x y e)

theorem TR.eval {h : Heap} {μ : LMap} {t : List AV} {a : Act} (ht : TR h μ t a.tmps) (x : Operand) : VR h μ (evalO t x) (a.eval x) := by
  cases x with
  | tmp i => exact ht.2 i
  | const c => exact evalO_const h μ t c
  | global g => exact .undef _
  | func f => exact .func f [] #[] rfl fun i => by simpa using VR.undef _

theorem VR.void (h : Heap) (μ : LMap) : VR h μ (.tuple []) Go.undef := .tuple [] #[] rfl fun i => by simpa using VR.undef _

/-- Does the guard let the operation run? -/
inductive GuardVal (all : List Oper) (t : List AV) (o : Oper) : Bool → Prop where
  | free : o.guard = none → GuardVal all t o true
  | told (j : Nat) (want : Bool) (d : Nat) (b : Bool) : o.guard = some (j, want) → (all[j]?).bind (·.dst) = some d → t.getD d .undef = .bool b → GuardVal all t o (b == want)
  | void (j : Nat) (want : Bool) (d : Nat) : o.guard = some (j, want) → (all[j]?).bind (·.dst) = some d → t.getD d .undef = .tuple [] → GuardVal all t o false

/-- An operation of which nothing more is known. -/
def isF (op : Op) : Bool := !(isP op || isQ op || isL op || isA op || isS op)
theorem SameAt.refl (h : Heap) (v : AV) : SameAt h h v := fun _ _ ss e => ⟨ss, e, rfl⟩
theorem SameBlk.refl (h : Heap) (v : AV) : SameBlk h h v := fun _ _ _ e => e

/-- One operation of a region, in the order of the text. -/
inductive StepOk (P : Program) (draw : Bool) (ro : Nat) (all : List Oper) (o : Oper) (s s' : St) : Prop where
  | skip : GuardVal all s.t o false → s' = ⟨putO s.t o.dst (.tuple []), s.h⟩ → StepOk P draw ro all o s s'
  | pure (v : AV) : GuardVal all s.t o true → isP o.op = true → s' = ⟨putO s.t o.dst v, s.h⟩ → (∀ (ro' : Nat) (h2 : Heap), OpSem P ro' o.op s.t h2 v h2) → StepOk P draw ro all o s s'
  | look (v : AV) : GuardVal all s.t o true → isQ o.op = true → s' = ⟨putO s.t o.dst v, s.h⟩ → (∀ (ro' : Nat) (h2 : Heap), (∀ x, x ∈ o.op.operands → SameAt s.h h2 (evalO s.t x)) → OpSem P ro' o.op s.t h2 v h2) → StepOk P draw ro all o s s'
  | load (v : AV) : GuardVal all s.t o true → isL o.op = true → s' = ⟨putO s.t o.dst v, s.h⟩ → (∀ (ro' : Nat) (h2 : Heap), (∀ x, x ∈ o.op.operands → SameBlk s.h h2 (evalO s.t x)) → OpSem P ro' o.op s.t h2 v h2) → StepOk P draw ro all o s s'
  | new (v : AV) (bs : List Blk) : GuardVal all s.t o true → isA o.op = true → s' = ⟨putO s.t o.dst v, s.h ++ bs⟩ → (∀ (ro' : Nat) (h2 : Heap), h2.length = s.h.length → OpSem P ro' o.op s.t h2 v (h2 ++ bs)) → StepOk P draw ro all o s s'
  | store (ty : TypeId) (x y : Operand) (b : Key) (old new : Blk) : GuardVal all s.t o true → o.op = .store ty x y → s' = ⟨putO s.t o.dst .undef, setB s.h b new⟩ → blkOf (evalO s.t x) = some b → blk? s.h b = some old → fitB b old new → shapeB new = shapeB old →
      PutSem P ro o.op s.t s.h b (setB s.h b new) → StepOk P draw ro all o s s'
  | run (v : AV) (h' : Heap) : GuardVal all s.t o true → (isF o.op = true ∨ draw = false) → s' = ⟨putO s.t o.dst v, h'⟩ → OpSem P (cond (draw && !isW o.op) s.h.length ro) o.op s.t s.h v h' → StepOk P draw ro all o s s'

theorem PutSem.sem {op : Op} {t : List AV} {h h' : Heap} {b : Key} (hp : PutSem P ro op t h b h') : OpSem P ro op t h .undef h' :=
  fun o a w μ next Q ho hop H hn => (hp o a w μ next Q ho hop H).2 fun w' c v1 v2 v3 => hn μ w' c v1 v2 v3

theorem StepOk.sem {draw : Bool} {all : List Oper} {o : Oper} {s s' : St} (hs : StepOk P draw ro all o s s') :
    (GuardVal all s.t o false ∧ s' = ⟨putO s.t o.dst (.tuple []), s.h⟩) ∨ ∃ v, GuardVal all s.t o true ∧ s' = ⟨putO s.t o.dst v, s'.h⟩ ∧ OpSem P (cond (draw && !isW o.op) s.h.length ro) o.op s.t s.h v s'.h := by
  cases hs with
  | skip hg e => exact .inl ⟨hg, e⟩
  | pure v hg _ e hop => subst e; exact .inr ⟨v, hg, rfl, hop _ _⟩
  | look v hg _ e hop => subst e; exact .inr ⟨v, hg, rfl, hop _ _ fun _ _ => .refl _ _⟩
  | load v hg _ e hop => subst e; exact .inr ⟨v, hg, rfl, hop _ _ fun _ _ => .refl _ _⟩
  | new v ss hg _ e hop => subst e; exact .inr ⟨v, hg, rfl, hop _ _ rfl⟩
  | store ty x y b old new hg ho e _ _ _ _ hop =>
    subst e
    refine .inr ⟨.undef, hg, rfl, ?_⟩
    rw [show isW o.op = true from by rw [ho]; rfl, Bool.not_true, Bool.and_false, cond_false]
    exact hop.sem
  | run v h' hg _ e hop => subst e; exact .inr ⟨v, hg, rfl, hop⟩

theorem set_same {t : List AV} {d : Nat} {b : Bool} (h : t.getD d .undef = .bool b) : t.set d (.bool b) = t := by
  apply List.ext_getElem?
  intro i
  rw [List.getElem?_set]
  split
  · rename_i e
    subst e
    split
    · rename_i hlt
      rw [List.getD_eq_getElem?_getD, List.getElem?_eq_getElem hlt] at h
      rw [List.getElem?_eq_getElem hlt]
      simpa using h.symm
    · rename_i hlt
      rw [List.getElem?_eq_none (by omega)]
  · rfl

theorem opsK_trace {call : FuncId → Sum α} (hcall : CallsOk P call) {draw : Bool} {all : List Oper} : ∀ (rest : List Oper) (st : St) (K : St → Option α), opsK P draw ro call all rest st K = some r →
    ∃ S : Nat → St, S 0 = st ∧ K (S rest.length) = some r ∧ ∀ i o, rest[i]? = some o → StepOk P draw ro all o (S i) (S (i + 1)) := by
  intro rest
  induction rest with
  | nil => exact fun st K he => ⟨fun _ => st, rfl, he, fun i o hi => by simp at hi⟩
  | cons o rest ih =>
    intro st K he
    have key : ∀ st1, StepOk P draw ro all o st st1 → opsK P draw ro call all rest st1 K = some r → ∃ S : Nat → St, S 0 = st ∧ K (S (o :: rest).length) = some r ∧ ∀ i o', (o :: rest)[i]? = some o' → StepOk P draw ro all o' (S i) (S (i + 1)) := by
      intro st1 hs hk
      obtain ⟨S, e1, e2, e3⟩ := ih st1 K hk
      refine ⟨fun i => match i with | 0 => st | i + 1 => S i, rfl, e2, fun i o' hi => ?_⟩
      cases i with
      | zero =>
        simp only [List.getElem?_cons_zero, Option.some.injEq] at hi
        subst hi
        simp only [e1]
        exact hs
      | succ i => exact e3 i o' (by simpa using hi)
    have hrun : GuardVal all st.t o true → opK P (!draw) (cond (draw && !isW o.op) st.h.length ro) call o.op st.t st.h (fun v h => forceV v fun v => forceL (putO st.t o.dst v) fun t => forceH h fun h => opsK P draw ro call all rest ⟨t, h⟩ K) = some r →
        ∃ S : Nat → St, S 0 = st ∧ K (S (o :: rest).length) = some r ∧ ∀ i o', (o :: rest)[i]? = some o' → StepOk P draw ro all o' (S i) (S (i + 1)) := by
      intro hg hr
      by_cases hp : isP o.op = true
      · obtain ⟨v, hk, hs⟩ := opP_sound hp hr
        simp only [forceV_eq, forceL_eq, forceH_eq] at hk
        exact key _ (.pure v hg hp rfl hs) hk
      by_cases hq : isQ o.op = true
      · obtain ⟨v, hk, hs⟩ := opQ_sound hq hr
        simp only [forceV_eq, forceL_eq, forceH_eq] at hk
        exact key _ (.look v hg hq rfl hs) hk
      by_cases hl : isL o.op = true
      · obtain ⟨v, hk, hs⟩ := opL_sound hl hr
        simp only [forceV_eq, forceL_eq, forceH_eq] at hk
        exact key _ (.load v hg hl rfl hs) hk
      by_cases ha : isA o.op = true
      · obtain ⟨v, ss, hk, hs⟩ := opA_sound ha hr
        simp only [forceV_eq, forceL_eq, forceH_eq] at hk
        exact key _ (.new v ss hg ha rfl hs) hk
      cases draw with
      | false =>
        obtain ⟨v, h', hk, hs⟩ := opK_sound hcall hr
        simp only [forceV_eq, forceL_eq, forceH_eq] at hk
        exact key _ (.run v h' hg (.inr rfl) rfl hs) hk
      | true =>
        by_cases hst : isS o.op = true
        · have hw : isW o.op = true := by revert hst; cases o.op <;> simp [isS, isW]
          rw [hw, Bool.not_true, Bool.and_false, cond_false] at hr
          have : ∃ ty x y, o.op = .store ty x y := by
            revert hst; cases o.op <;> simp [isS]
          obtain ⟨ty, x, y, ho⟩ := this
          rw [ho] at hr
          obtain ⟨b, old, new, hk, h1, h2, h3, h4, h5⟩ := opS_sound hr
          simp only [forceV_eq, forceL_eq, forceH_eq] at hk
          exact key _ (.store ty x y b old new hg ho rfl h1 h2 h3 h4 (by rw [ho]; exact h5)) hk
        · obtain ⟨v, h', hk, hs⟩ := opK_sound hcall hr
          simp only [forceV_eq, forceL_eq, forceH_eq] at hk
          exact key _ (.run v h' hg (.inl (by simp [isF, hp, hq, hl, ha, hst])) rfl hs) hk
    have hskip : GuardVal all st.t o false → (forceL (putO st.t o.dst (.tuple [])) fun t => opsK P draw ro call all rest ⟨t, st.h⟩ K) = some r →
        ∃ S : Nat → St, S 0 = st ∧ K (S (o :: rest).length) = some r ∧ ∀ i o', (o :: rest)[i]? = some o' → StepOk P draw ro all o' (S i) (S (i + 1)) := by
      intro hg hr
      simp only [forceL_eq] at hr
      exact key _ (.skip hg rfl) hr
    simp only [opsK] at he
    split at he
    · rename_i hg
      exact hrun (.free hg) he
    · rename_i j want hg
      split at he
      · rename_i d hd
        split at he
        · rename_i b hb
          rcases br_some he with ⟨rfl, hk⟩ | ⟨rfl, hk⟩
          · rw [set_same hb] at hk
            cases want with
            | true => exact hrun (.told j true d true hg hd hb) hk
            | false => exact hskip (.told j false d true hg hd hb) hk
          · rw [set_same hb] at hk
            cases want with
            | true => exact hskip (.told j true d false hg hd hb) hk
            | false => exact hrun (.told j false d false hg hd hb) hk
        · rename_i vs hb
          split at he
          · exact hskip (.void j want d hg hd hb) he
          · cases he
        · cases he
      · cases he

/-- What a region does. -/
def RegSem (ro : Nat) (st st' : St) (W : (Exit → Act → World → Prop) → Act → World → Prop) : Prop :=
  ∀ (a : Act) (w : World) (μ : LMap) (Q : Exit → Act → World → Prop), TR st.h μ st.t a.tmps → HR ro st.h μ w →
    (∀ a' w' μ', TR st'.h μ' st'.t a'.tmps → a'.defers = a.defers → HR ro st'.h μ' w' → Ext ro st.h μ w st'.h μ' w' → Q .normal a' w') → W Q a w

theorem put_defers (a : Act) (d : Option Tmp) (v : Value) : (a.put d v).defers = a.defers := by cases d <;> rfl

theorem GuardVal.wanted {ops : Array Oper} {t : List AV} {o : Oper} {b : Bool} (hg : GuardVal ops.toList t o b) {h : Heap} {μ : LMap} {a : Act} (ht : ∀ j want d, o.guard = some (j, want) → (ops.toList[j]?).bind (·.dst) = some d → VR h μ (t.getD d .undef) (a.tmps.getD d Go.undef)) :
    Region.wanted o (yielded ops a.tmps) = b := by
  unfold Region.wanted
  cases hg with
  | free hn => rw [hn]
  | told j want d b hn hd hb =>
    rw [hn]
    have h1 := ht j want d hn hd
    rw [hb] at h1
    have h2 : a.tmps[d]? = some (.bool b) := by
      rw [Array.getD_eq_getD_getElem?] at h1
      generalize a.tmps[d]? = q at *
      cases q with
      | none =>
        simp only [Option.getD_none] at h1
        generalize hu : Go.undef = u at h1
        cases h1
        cases hu
      | some c => cases h1; rfl
    have h3 : ((ops[j]?).bind (·.dst)) = some d := by simpa using hd
    simp only [yielded, h3, Option.bind_some, h2]
    cases b <;> cases want <;> rfl
  | void j want d hn hd hb =>
    rw [hn]
    have h1 := ht j want d hn hd
    rw [hb] at h1
    have h3 : ((ops[j]?).bind (·.dst)) = some d := by simpa using hd
    have h4 : yielded ops a.tmps j = none := by
      simp only [yielded, h3, Option.bind_some]
      rw [Array.getD_eq_getD_getElem?] at h1
      generalize a.tmps[d]? = q at *
      cases q with
      | none => rfl
      | some c => cases h1; rfl
    simp only [h4]
    rfl

/-- A region that does not draw. -/
theorem region_sound {call : FuncId → Sum α} (hcall : CallsOk P call) {ops : Array Oper} {st : St} {K : St → Option α} {id : Nat} (he : opsK P false ro call ops.toList ops.toList st K = some r) :
    ∃ st', K st' = some r ∧ RegSem ro st st' ((Code.region id ops false).wp P) := by
  obtain ⟨S, e1, e2, e3⟩ := opsK_trace hcall _ _ _ he
  refine ⟨_, e2, fun a w μ Q ht H hq => wp_region ?_⟩
  have key : ∀ m k, k + m = ops.size → ∀ (a : Act) (w : World) (μ : LMap), TR (S k).h μ (S k).t a.tmps → HR ro (S k).h μ w →
      (∀ a' w' μ', TR (S ops.size).h μ' (S ops.size).t a'.tmps → a'.defers = a.defers → HR ro (S ops.size).h μ' w' → Ext ro (S k).h μ w (S ops.size).h μ' w' → Q .normal a' w') → wpOps P ops Q (List.range' k m) a w := by
    intro m
    induction m with
    | zero =>
      intro k hk a w μ ht H hq
      have : k = ops.size := by omega
      subst this
      exact hq a w μ ht rfl H (.refl _ _ _ _)
    | succ m ih =>
      intro k hk a w μ ht H hq
      have hlt : k < ops.size := by omega
      have ho : ops[k]? = some ops[k] := by simp [hlt]
      simp only [List.range'_succ, wpOps, ho]
      have hstep := e3 k ops[k] (by simp [hlt])
      have hw : ∀ b, GuardVal ops.toList (S k).t ops[k] b → Region.wanted ops[k] (yielded ops a.tmps) = b := fun b hg => hg.wanted (h := (S k).h) (μ := μ) fun _ _ d _ _ => ht.2 d
      rcases hstep.sem with ⟨hg, hs⟩ | ⟨v, hg, hs, hop⟩
      · rw [hw _ hg, if_neg (by simp)]
        refine ih (k + 1) (by omega) (a.put ops[k].dst Go.undef) w μ ?_ ?_ fun a' w' μ' q1 q2 q3 q4 => ?_
        · rw [hs]; exact ht.put _ (VR.void _ _)
        · rw [hs]; exact H
        · rw [hs] at q4; exact hq a' w' μ' q1 (by rw [q2, put_defers]) q3 q4
      · rw [hw _ hg, if_pos rfl]
        simp only [Bool.false_and, cond_false] at hop
        refine .inl (hop _ a w μ _ Q rfl (fun x _ => ht.eval x) H fun μ' w' c v1 v2 v3 => ?_)
        refine ih (k + 1) (by omega) (a.put ops[k].dst c) w' μ' ?_ v2 fun a' w'' μ'' q1 q2 q3 q4 => ?_
        · have e : (S (k + 1)).t = putO (S k).t ops[k].dst v := by rw [hs]
          rw [e]
          exact TR.put (ht.mono v3.le) _ v1
        · exact hq a' w'' μ'' q1 (by rw [q2, put_defers]) q3 (v3.trans q4)
  have := key ops.size 0 (by omega) a w μ (by rw [e1]; exact ht) (by rw [e1]; exact H) (fun a' w' μ' q1 q2 q3 q4 => by
    rw [e1] at q4
    exact hq a' w' μ' (by simpa using q1) q2 (by simpa using q3) (by simpa using q4))
  rw [List.range_eq_range']
  exact this
end
end Go.AM
