/- A part of a proof about the given program: an abstract machine, what the given functions come to, and plain laws. -/
import Derived.Test.YtkboldcnkkolkaaAMRen
namespace Go.AM
section run
variable {α : Type} (P : Program)
structure Env (α : Type) where
  ann : FuncId → Nat → LoopAnn
  lf : Nat
  sums : FuncId → Option (Bool × Sum α)
  ls : FuncId → Nat → Option (LSum α)

/-- A call as its summary tells, or as 'd' goes through it; in a heap of its own. -/
def callE (E : Env α) (c : FuncId → Sum α) (g : FuncId) : Sum α := match E.sums g with
  | some (q, s) => canonCall q s
  | none => canonCall false (c g)

/-- A call: its body is gone through. -/
def callK (E : Env α) : Nat → FuncId → Sum α
  | 0, _, _, _, _, _ => none
  | d + 1, f, ro, args, h, K => match P.funcs[f]? with
    | some fn => match fn.body with
      | some c => br (Nat.ble args.length fn.ntmps) (codeK P ro (callE E (callK E d)) (E.ls f) (E.ann f) E.lf c (forceL (args ++ List.replicate (fn.ntmps - args.length) .undef) fun t => ⟨t, h⟩) fun e st => match e with
        | .exit _ => none
        | _ => resultsK P fn.results.toList st.t st.h fun vs => leaveCall h.length (oneOf vs) st.h (fun v h' => packK ro h.length v h' K)) none
      | none => none
    | none => none

/-- What follows on a round. -/
def fin (a : LoopAnn) (n : Nat) (kn : St → Option α) (K : AExit → St → Option α) : AExit → St → Option α := fun e st => match e with
  | .normal => match trimSt a.head a.grow n st with
    | some s => kn s
    | none => none
  | e => leaveLoop a n K e st

/-- The body of a loop. -/
def bodyK (E : Env α) (d ro : Nat) (f : FuncId) (fn : Func) (i : Nat) : St → (AExit → St → Option α) → Option α :=
  codeK P ro (callE E (callK P E d)) (E.ls f) (E.ann f) E.lf (loopOf fn i)
/-- One round of a loop. -/
def roundK (E : Env α) (d ro : Nat) (f : FuncId) (fn : Func) (i n : Nat) (st : St) (kn : St → Option α) (K : AExit → St → Option α) : Option α :=
  bodyK P E d ro f fn i st (fin (E.ann f i) n kn K)
/-- Nothing is known yet. -/
def Env.base (ann : FuncId → Nat → LoopAnn) (lf : Nat) : Env α := { ann, lf, sums := fun _ => none, ls := fun _ _ => none }
def Env.addLoop (E : Env α) (f : FuncId) (i : Nat) (s : LSum α) : Env α := { E with ls := fun g j => cond (Nat.beq g f && Nat.beq j i) (some s) (E.ls g j) }
def Env.addSum (E : Env α) (f : FuncId) (quiet : Bool) (s : Sum α) : Env α := { E with sums := fun g => cond (Nat.beq g f) (some (quiet, s)) (E.sums g) }

end run
end Go.AM
