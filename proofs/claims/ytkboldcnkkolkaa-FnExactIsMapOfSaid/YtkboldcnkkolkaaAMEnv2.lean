/- A part of a proof about the given program: an abstract machine, what the given functions come to, and plain laws. -/
import Derived.Test.YtkboldcnkkolkaaAMEnv
namespace Go.AM
section
variable {α : Type} {P : Program}

/-- What is kept of a loop's state, told beside. -/
def Env.addAnn (E : Env α) (f : FuncId) (i : Nat) (a : LoopAnn) : Env α := { E with ann := fun g j => cond (Nat.beq g f && Nat.beq j i) a (E.ann g j) }
theorem EnvOk.addAnn {E : Env α} (hE : EnvOk P E) {f : FuncId} {i : Nat} {a : LoopAnn} : EnvOk P (E.addAnn f i a) := ⟨hE.sums, hE.ls⟩

/-- A function's summary for arguments that look as told; for others an older one. -/
def funOr (ro : Nat) (p : SPat) (F : List Var → (AV → Heap → Option α) → Option α) (old : Option (Bool × Sum α)) : Sum α := fun ro' args h K =>
  match cond (Nat.beq ro ro') (matchS p ⟨args, h⟩) none with
  | some l => F l K
  | none => match old with
    | some (_, s) => s ro' args h K
    | none => none
def Env.addFun (E : Env α) (f : FuncId) (quiet : Bool) (ro : Nat) (p : SPat) (F : List Var → (AV → Heap → Option α) → Option α) : Env α :=
  E.addSum f quiet (funOr ro p F (E.sums f))

theorem EnvOk.addFun {E : Env α} (hE : EnvOk P E) (hm : P.follows .mixedOrders = true) (hnames : NamesOk P) {f : FuncId} {quiet : Bool} {d ro : Nat} {p : SPat} {F : List Var → (AV → Heap → Option α) → Option α}
    (hF : ∀ l K r, F l K = some r → callK P E d f ro (buildS p l).t (buildS p l).h K = some r) : EnvOk P (E.addFun f quiet ro p F) := by
  refine hE.addSum fun ro' args h K r he => ?_
  unfold funOr at he
  split at he
  · rename_i l hl
    cases hb : Nat.beq ro ro' with
    | false => rw [hb] at hl; cases hl
    | true =>
      rw [hb] at hl
      simp only [cond_true] at hl
      refine funSum_ok hm hnames hE hF ro' args h K r ?_
      unfold funSum
      rw [hb, hl]
      exact he
  · split at he
    · rename_i q s hs
      exact hE.sums f q s hs ro' args h K r he
    · cases he

/-- A loop's summary for states that look as told; for others an older one. -/
def loopSum2 (a : LoopAnn) (ro : Nat) (p : SPat) (L : List Var → (AExit → St → Option α) → Option α) (old : Option (LSum α)) : LSum α := fun ro' st K =>
  match (cond (Nat.beq ro ro') (match trimSt a.head a.grow st.h.length st with
    | some s => matchS p s
    | none => none) none) with
  | some l => L l K
  | none => match old with
    | some s => s ro' st K
    | none => none
def Env.addLoop2 (E : Env α) (f : FuncId) (i : Nat) (s : LSum α) : Env α := E.addLoop f i s

theorem EnvOk.addLoop2 {E : Env α} (hE : EnvOk P E) {f : FuncId} {fn : Func} (hf : P.funcs[f]? = some fn) {i : Nat} (hi : (loopsOf fn).filter (fun c => Nat.beq (firstRegion c) i) = [loopOf fn i]) {a : LoopAnn} {ro : Nat} {p : SPat} {L : List Var → (AExit → St → Option α) → Option α}
    (hs : LoopOk P (loopSum a ro p L) (loopOf fn i)) (hi2 : firstRegion (loopOf fn i) = i := by kernel_rfl) : EnvOk P (E.addLoop2 f i (loopSum2 a ro p L (E.ls f i))) := by
  refine hE.addLoop hf hi fun ro' st K r he => ?_
  unfold loopSum2 at he
  split at he
  · rename_i l hl
    refine hs ro' st K r ?_
    unfold loopSum
    cases hb : Nat.beq ro ro' with
    | false => rw [hb] at hl; cases hl
    | true =>
      rw [hb] at hl
      simp only [cond_true] at hl ⊢
      cases ht : trimSt a.head a.grow st.h.length st with
      | none => rw [ht] at hl; cases hl
      | some s =>
        rw [ht] at hl
        simp only at hl ⊢
        rw [hl]
        exact he
  · split at he
    · rename_i s hs'
      have hmem : loopOf fn i ∈ loopsOf fn := by
        have : loopOf fn i ∈ (loopsOf fn).filter (fun c => Nat.beq (firstRegion c) i) := by rw [hi]; simp
        exact (List.mem_filter.1 this).1
      exact hE.ls f fn hf (loopOf fn i) hmem s (by rw [hi2]; exact hs') ro' st K r he
    · cases he
end
end Go.AM
