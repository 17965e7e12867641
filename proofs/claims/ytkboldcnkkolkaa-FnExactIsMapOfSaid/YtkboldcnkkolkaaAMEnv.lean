/- A part of a proof about the given program: an abstract machine, what the given functions come to, and plain laws. -/
import Derived.Test.YtkboldcnkkolkaaAMCall
import Derived.Test.YtkboldcnkkolkaaAMPat
namespace Go.AM
section
variable {α : Type} {P : Program}

theorem loopsIn_trans {c c' : Code} : ∀ {x : Code}, c ∈ loopsIn x → c' ∈ loopsIn c → c' ∈ loopsIn x := by
  intro x
  induction x with
  | seq a b iha ihb => exact fun h1 h2 => (List.mem_append.1 h1).elim (fun h => List.mem_append_left _ (iha h h2)) (fun h => List.mem_append_right _ (ihb h h2))
  | cond _ a b iha ihb => exact fun h1 h2 => (List.mem_append.1 h1).elim (fun h => List.mem_append_left _ (iha h h2)) (fun h => List.mem_append_right _ (ihb h h2))
  | block _ a ih => exact fun h1 h2 => ih h1 h2
  | scope a ih => exact fun h1 h2 => ih h1 h2
  | loop a ih =>
    intro h1 h2
    rcases List.mem_cons.1 h1 with rfl | h
    · exact List.mem_cons_of_mem _ h2
    · exact List.mem_cons_of_mem _ (ih h h2)
  | _ => intro h1; simp [loopsIn] at h1

theorem EnvOk.base {ann : FuncId → Nat → LoopAnn} {lf : Nat} : EnvOk P (Env.base (α := α) ann lf) :=
  ⟨fun _ _ _ h => by simp [Env.base] at h, fun _ _ _ _ _ _ h => by simp [Env.base] at h⟩

theorem EnvOk.addSum {E : Env α} (hE : EnvOk P E) {f : FuncId} {q : Bool} {s : Sum α} (hs : ∀ (ro : Nat) (args : List AV) (h : Heap) (K : AV → Heap → Option α) (r : α), s ro args h K = some r → ∃ v h', K v h' = some r ∧ CallSem P ro f args h v h') :
    EnvOk P (E.addSum f q s) := by
  refine ⟨fun g q' s' he => ?_, hE.ls⟩
  simp only [Env.addSum] at he
  cases hb : Nat.beq g f with
  | true =>
    rw [hb] at he
    simp only [cond_true, Option.some.injEq, Prod.mk.injEq] at he
    obtain ⟨rfl, rfl⟩ := he
    rw [Nat.eq_of_beq_eq_true hb]
    exact hs
  | false => rw [hb] at he; exact hE.sums g q' s' he

theorem EnvOk.addLoop {E : Env α} (hE : EnvOk P E) {f : FuncId} {fn : Func} (hf : P.funcs[f]? = some fn) {i : Nat} (hi : (loopsOf fn).filter (fun c => Nat.beq (firstRegion c) i) = [loopOf fn i]) {s : LSum α} (hs : LoopOk P s (loopOf fn i)) :
    EnvOk P (E.addLoop f i s) := by
  refine ⟨hE.sums, fun g fn' hg c hc s' he => ?_⟩
  simp only [Env.addLoop] at he
  cases hb : (Nat.beq g f && Nat.beq (firstRegion c) i) with
  | true =>
    rw [hb] at he
    simp only [cond_true, Option.some.injEq] at he
    subst he
    simp only [Bool.and_eq_true] at hb
    have := Nat.eq_of_beq_eq_true hb.1
    subst this
    rw [hf] at hg
    cases hg
    have : c ∈ (loopsOf fn).filter (fun c => Nat.beq (firstRegion c) i) := List.mem_filter.2 ⟨hc, hb.2⟩
    rw [hi] at this
    rw [List.mem_singleton.1 this]
    exact hs
  | false => rw [hb] at he; exact hE.ls g fn' hg c hc s' he

theorem buildH_len (l : List Var) (ps : List (List Pat)) : (buildH ps l).1.length = ps.length := by
  induction ps generalizing l with
  | nil => rfl
  | cons p ps ih => simp only [buildH, List.length_cons, ih]

/-- A loop's summary from what its rounds come to. -/
theorem loopSum_ok (hm : P.follows .mixedOrders = true) (hnames : NamesOk P) {E : Env α} (hE : EnvOk P E) {f : FuncId} {fn : Func} (hf : P.funcs[f]? = some fn) {i : Nat}
    (hi : (loopsOf fn).filter (fun c => Nat.beq (firstRegion c) i) = [loopOf fn i]) {d ro : Nat} {p : SPat} {L : List Var → (AExit → St → Option α) → Option α}
    (hL : ∀ l K r, L l K = some r → loopN (trimSt (E.ann f i).head (E.ann f i).grow p.h.length) (bodyK P E d ro f fn i) E.lf (buildS p l) (leaveLoop (E.ann f i) p.h.length K) = some r) :
    LoopOk P (loopSum (E.ann f i) ro p L) (loopOf fn i) := by
  intro ro' st K r he
  unfold loopSum at he
  cases hb : Nat.beq ro ro' with
  | false => rw [hb] at he; cases he
  | true =>
    rw [hb] at he
    have := Nat.eq_of_beq_eq_true hb
    subst this
    simp only [cond_true] at he
    split at he
    · rename_i s hs
      split at he
      · rename_i l hl
        have hbs := buildS_of hl
        have hlen : st.h.length = p.h.length := by
          have h1 : s.h.length = p.h.length := by
            rw [← hbs]
            unfold buildS
            simp only
            exact buildH_len _ _
          have h2 : s.h.length = st.h.length := by
            unfold trimSt at hs
            simp only [forceL_eq, forceH_eq, List.take_length] at hs
            cases hq : (Nat.beq st.h.length st.h.length || (allB (refsBelow st.h.length) (keepT (E.ann f i).head (E.ann f i).grow 0 st.t) && allB (fun b => allB (refsBelow st.h.length) b) st.h)) with
            | false => rw [hq] at hs; cases hs
            | true => rw [hq] at hs; simp only [cond_true, Option.some.injEq] at hs; rw [← hs]
          omega
        have h3 := hL l K r he
        rw [hbs, ← hlen] at h3
        have hmem : loopOf fn i ∈ loopsOf fn := by
          have : loopOf fn i ∈ (loopsOf fn).filter (fun c => Nat.beq (firstRegion c) i) := by rw [hi]; simp
          exact (List.mem_filter.1 this).1
        refine loop_sound (fun st K => codeK_sound (callE_sound hE (callK_sound hm hnames hE d)) hm _ (fun c' hc' s hs => hE.ls f fn hf c' ?_ s hs) st K) hs h3
        unfold loopsOf at hmem ⊢
        split at hmem
        · exact loopsIn_trans hmem hc'
        · simp at hmem
      · cases he
    · cases he

/-- A function's summary from what going through its body comes to. -/
theorem funSum_ok (hm : P.follows .mixedOrders = true) (hnames : NamesOk P) {E : Env α} (hE : EnvOk P E) {f : FuncId} {d ro : Nat} {p : SPat} {F : List Var → (AV → Heap → Option α) → Option α}
    (hF : ∀ l K r, F l K = some r → callK P E d f ro (buildS p l).t (buildS p l).h K = some r) :
    ∀ (ro' : Nat) (args : List AV) (h : Heap) (K : AV → Heap → Option α) (r : α), funSum ro p F ro' args h K = some r → ∃ v h', K v h' = some r ∧ CallSem P ro' f args h v h' := by
  intro ro' args h K r he
  unfold funSum at he
  cases hb : Nat.beq ro ro' with
  | false => rw [hb] at he; cases he
  | true =>
    rw [hb] at he
    have := Nat.eq_of_beq_eq_true hb
    subst this
    simp only [cond_true] at he
    split at he
    · rename_i l hl
      have hbs := buildS_of hl
      have h1 := hF l K r he
      rw [hbs] at h1
      exact callK_sound hm hnames hE d f ro args h K r h1
    · cases he

/-- The rounds of a loop, one after the other. -/
theorem loopN_round {a : LoopAnn} {body : St → (AExit → St → Option α) → Option α} {n m : Nat} {st : St} {K : AExit → St → Option α} :
    loopN (trimSt a.head a.grow n) body (m + 1) st (leaveLoop a n K) = body st (fin a n (fun s => loopN (trimSt a.head a.grow n) body m s (leaveLoop a n K)) K) := by
  rw [loopN]
  refine congrArg (body st) (funext fun e => funext fun st' => ?_)
  cases e <;> rfl
end
end Go.AM
