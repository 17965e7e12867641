/- A part of a proof about the given program: an abstract machine, what the given functions come to, and plain laws. -/
import Derived.Test.YtoginabccpjeoaaSLawExchangesA
import Derived.Test.YtoginabccpjeoaaPallLawExchanges2
set_option linter.unusedVariables false
set_option linter.unusedSimpArgs false
set_option maxRecDepth 100000
namespace Go.AM
open Go.Proofs
noncomputable def E_xf_i_ExchangeColumns (α : Type) (N : Nat) : Env α := (E_i_TransposeOf α N).addSum 35 true (funOr 0 i_ExchangeColumns_a (fun l K => match l with
    | [.i g_0, .f g_1, .f g_2, .i i] => xf_i_ExchangeColumns none N g_0 g_1 g_2 i (retK (buildS i_ExchangeColumns_r0 [.i 0, .f (fun (x : Nat) => (0 : Int)), .f (fun (x : Nat) => (0 : Int)), .i 5]) K)
    | _ => none) none)
theorem E_xf_i_ExchangeColumns_ok {α : Type} (N : Nat) : EnvOk Try.prog (E_xf_i_ExchangeColumns α N) := (E_i_TransposeOf_ok N).override (F := (fun l K => match l with
    | [.i g_0, .f g_1, .f g_2, .i i] => i_ExchangeColumns none N g_0 g_1 g_2 i (fun r_0_0_ r_0_1_ r_0_2_ r_1_ => retK (buildS i_ExchangeColumns_r0 [.i r_0_0_, .f r_0_1_, .f r_0_2_, .i r_1_]) K)
    | _ => none)) (rest := (E_i_Grid_swapColumns α N).sums 35) (by kernel_rfl) fun l K r he => by
  split at he
  · exact xf_i_ExchangeColumns_mono he
  · cases he

noncomputable def E_xf_s_ExchangeColumns (α : Type) (N : Nat) : Env α := (E_xf_i_ExchangeColumns α N).addSum 36 true (funOr 0 s_ExchangeColumns_a (fun l K => match l with
    | [.i g_0, .f g_1, .f g_2, .i i] => xf_s_ExchangeColumns none N g_0 g_1 g_2 i (retK (buildS s_ExchangeColumns_r0 [.i 0, .f (fun (x : Nat) => (0 : Int)), .f (fun (x : Nat) => (0 : Int)), .i 5]) K)
    | _ => none) none)
theorem E_xf_s_ExchangeColumns_ok {α : Type} (N : Nat) : EnvOk Try.prog (E_xf_s_ExchangeColumns α N) := (E_xf_i_ExchangeColumns_ok N).override (F := (fun l K => match l with
    | [.i g_0, .f g_1, .f g_2, .i i] => s_ExchangeColumns none N g_0 g_1 g_2 i (fun r_0_0_ r_0_1_ r_0_2_ r_1_ => retK (buildS s_ExchangeColumns_r0 [.i r_0_0_, .f r_0_1_, .f r_0_2_, .i r_1_]) K)
    | _ => none)) (rest := (E_s_l02SwapColumns α N).sums 36) (by kernel_rfl) fun l K r he => by
  split at he
  · exact xf_s_ExchangeColumns_mono he
  · cases he

noncomputable def E_xf_i_CanExchangeColumns (α : Type) (N : Nat) : Env α := (E_xf_s_ExchangeColumns α N).addSum 37 true (funOr 0 i_CanExchangeColumns_a (fun l K => match l with
    | [.i g_0, .f g_1, .f g_2, .i i] => xf_i_CanExchangeColumns none N g_0 g_1 g_2 i (retK (buildS i_CanExchangeColumns_r0 [.b false, .i 0]) K)
    | _ => none) none)
theorem E_xf_i_CanExchangeColumns_ok {α : Type} (N : Nat) : EnvOk Try.prog (E_xf_i_CanExchangeColumns α N) := (E_xf_s_ExchangeColumns_ok N).override (F := (fun l K => match l with
    | [.i g_0, .f g_1, .f g_2, .i i] => i_CanExchangeColumns none N g_0 g_1 g_2 i (fun r_0_ r_1_ => retK (buildS i_CanExchangeColumns_r0 [.b r_0_, .i r_1_]) K)
    | _ => none)) (rest := (E_i_Grid_canColumns α N).sums 37) (by kernel_rfl) fun l K r he => by
  split at he
  · exact xf_i_CanExchangeColumns_mono he
  · cases he

noncomputable def E_xf_s_CanExchangeColumns (α : Type) (N : Nat) : Env α := (E_xf_i_CanExchangeColumns α N).addSum 38 true (funOr 0 s_CanExchangeColumns_a (fun l K => match l with
    | [.i g_0, .f g_1, .f g_2, .i i] => xf_s_CanExchangeColumns none N g_0 g_1 g_2 i (retK (buildS s_CanExchangeColumns_r0 [.b false, .i 0]) K)
    | _ => none) none)
theorem E_xf_s_CanExchangeColumns_ok {α : Type} (N : Nat) : EnvOk Try.prog (E_xf_s_CanExchangeColumns α N) := (E_xf_i_CanExchangeColumns_ok N).override (F := (fun l K => match l with
    | [.i g_0, .f g_1, .f g_2, .i i] => s_CanExchangeColumns none N g_0 g_1 g_2 i (fun r_0_ r_1_ => retK (buildS s_CanExchangeColumns_r0 [.b r_0_, .i r_1_]) K)
    | _ => none)) (rest := (E_s_ExchangeColumns α N).sums 38) (by kernel_rfl) fun l K r he => by
  split at he
  · exact xf_s_CanExchangeColumns_mono he
  · cases he

noncomputable def E_xf_i_ExchangeRows (α : Type) (N : Nat) : Env α := (E_xf_s_CanExchangeColumns α N).addSum 40 true (funOr 0 i_ExchangeRows_a (fun l K => match l with
    | [.i g_0, .f g_1, .f g_2, .i r_] => xf_i_ExchangeRows none N g_0 g_1 g_2 r_ (fun r_0_0_ r_0_1_ r_0_2_ => retK (buildS i_ExchangeRows_r0 [.i r_0_0_, .f r_0_1_, .f r_0_2_, .i 0]) K) (retK (buildS i_ExchangeRows_r0 [.i 0, .f (fun (x : Nat) => (0 : Int)), .f (fun (x : Nat) => (0 : Int)), .i 5]) K)
    | _ => none) none)
theorem E_xf_i_ExchangeRows_ok {α : Type} (N : Nat) : EnvOk Try.prog (E_xf_i_ExchangeRows α N) := (E_xf_s_CanExchangeColumns_ok N).override (F := (fun l K => match l with
    | [.i g_0, .f g_1, .f g_2, .i r_] => i_ExchangeRows none N g_0 g_1 g_2 r_ (fun r_0_0_ r_0_1_ r_0_2_ r_1_ => retK (buildS i_ExchangeRows_r0 [.i r_0_0_, .f r_0_1_, .f r_0_2_, .i r_1_]) K)
    | _ => none)) (rest := (E_i_Grid_swapRows α N).sums 40) (by kernel_rfl) fun l K r he => by
  split at he
  · exact xf_i_ExchangeRows_mono he
  · cases he

noncomputable def E_xf_s_ExchangeRows (α : Type) (N : Nat) : Env α := (E_xf_i_ExchangeRows α N).addSum 41 true (funOr 0 s_ExchangeRows_a (fun l K => match l with
    | [.i g_0, .f g_1, .f g_2, .i r_] => xf_s_ExchangeRows none N g_0 g_1 g_2 r_ (fun r_0_0_ r_0_1_ r_0_2_ => retK (buildS s_ExchangeRows_r0 [.i r_0_0_, .f r_0_1_, .f r_0_2_, .i 0]) K) (retK (buildS s_ExchangeRows_r0 [.i 0, .f (fun (x : Nat) => (0 : Int)), .f (fun (x : Nat) => (0 : Int)), .i 5]) K)
    | _ => none) none)
theorem E_xf_s_ExchangeRows_ok {α : Type} (N : Nat) : EnvOk Try.prog (E_xf_s_ExchangeRows α N) := (E_xf_i_ExchangeRows_ok N).override (F := (fun l K => match l with
    | [.i g_0, .f g_1, .f g_2, .i r_] => s_ExchangeRows none N g_0 g_1 g_2 r_ (fun r_0_0_ r_0_1_ r_0_2_ r_1_ => retK (buildS s_ExchangeRows_r0 [.i r_0_0_, .f r_0_1_, .f r_0_2_, .i r_1_]) K)
    | _ => none)) (rest := (E_s_l02SwapRows α N).sums 41) (by kernel_rfl) fun l K r he => by
  split at he
  · exact xf_s_ExchangeRows_mono he
  · cases he

noncomputable def E_xf_i_CanExchangeRows (α : Type) (N : Nat) : Env α := (E_xf_s_ExchangeRows α N).addSum 42 true (funOr 0 i_CanExchangeRows_a (fun l K => match l with
    | [.i g_0, .f g_1, .f g_2, .i r_] => xf_i_CanExchangeRows none N g_0 g_1 g_2 r_ (retK (buildS i_CanExchangeRows_r0 [.b true, .i 0]) K) (retK (buildS i_CanExchangeRows_r0 [.b false, .i 0]) K)
    | _ => none) none)
theorem E_xf_i_CanExchangeRows_ok {α : Type} (N : Nat) : EnvOk Try.prog (E_xf_i_CanExchangeRows α N) := (E_xf_s_ExchangeRows_ok N).override (F := (fun l K => match l with
    | [.i g_0, .f g_1, .f g_2, .i r_] => i_CanExchangeRows none N g_0 g_1 g_2 r_ (fun r_0_ r_1_ => retK (buildS i_CanExchangeRows_r0 [.b r_0_, .i r_1_]) K)
    | _ => none)) (rest := (E_i_Grid_canRows α N).sums 42) (by kernel_rfl) fun l K r he => by
  split at he
  · exact xf_i_CanExchangeRows_mono he
  · cases he

noncomputable def E_xf_s_CanExchangeRows (α : Type) (N : Nat) : Env α := (E_xf_i_CanExchangeRows α N).addSum 43 true (funOr 0 s_CanExchangeRows_a (fun l K => match l with
    | [.i g_0, .f g_1, .f g_2, .i r_] => xf_s_CanExchangeRows none N g_0 g_1 g_2 r_ (retK (buildS s_CanExchangeRows_r0 [.b true, .i 0]) K) (retK (buildS s_CanExchangeRows_r0 [.b false, .i 0]) K)
    | _ => none) none)
theorem E_xf_s_CanExchangeRows_ok {α : Type} (N : Nat) : EnvOk Try.prog (E_xf_s_CanExchangeRows α N) := (E_xf_i_CanExchangeRows_ok N).override (F := (fun l K => match l with
    | [.i g_0, .f g_1, .f g_2, .i r_] => s_CanExchangeRows none N g_0 g_1 g_2 r_ (fun r_0_ r_1_ => retK (buildS s_CanExchangeRows_r0 [.b r_0_, .i r_1_]) K)
    | _ => none)) (rest := (E_s_ExchangeRows α N).sums 43) (by kernel_rfl) fun l K r he => by
  split at he
  · exact xf_s_CanExchangeRows_mono he
  · cases he

noncomputable def E_xf_i_TransposeOf (α : Type) (N : Nat) : Env α := (E_xf_s_CanExchangeRows α N).addSum 44 true (funOr 0 i_TransposeOf_a (fun l K => match l with
    | [.i g_0, .f g_1, .f g_2] => xf_i_TransposeOf none N g_0 g_1 g_2 (fun r_0_0_ r_0_1_ r_0_2_ => retK (buildS i_TransposeOf_r0 [.i r_0_0_, .f r_0_1_, .f r_0_2_, .i 0]) K)
    | _ => none) none)
theorem E_xf_i_TransposeOf_ok {α : Type} (N : Nat) : EnvOk Try.prog (E_xf_i_TransposeOf α N) := (E_xf_s_CanExchangeRows_ok N).override (F := (fun l K => match l with
    | [.i g_0, .f g_1, .f g_2] => i_TransposeOf none N g_0 g_1 g_2 (fun r_0_0_ r_0_1_ r_0_2_ r_1_ => retK (buildS i_TransposeOf_r0 [.i r_0_0_, .f r_0_1_, .f r_0_2_, .i r_1_]) K)
    | _ => none)) (rest := (E_i_whole_i_Grid α N).sums 44) (by kernel_rfl) fun l K r he => by
  split at he
  · exact xf_i_TransposeOf_mono he
  · cases he

/-- laws.FnExchanges -/
def xf_w_FnExchanges_a : SPat := ⟨[.sliceV 0 0 0 1 false], [[.intsV .u8]]⟩
def xf_w_FnExchanges_r0 : SPat := ⟨[.bool], [[.intsV .u8]]⟩
theorem xf_w_FnExchanges_run {α : Type} (N : Nat) (code_n : Nat) (code_l : Nat) (code_c : Nat) (h0_n : Nat) (h0 : Nat → Int) (K : AV → Heap → Option α) :
    callK Try.prog (E_xf_i_TransposeOf α N) 1 5 1 (buildS xf_w_FnExchanges_a [.n code_n, .n code_l, .n code_c, .n h0_n, .f h0]).t (buildS xf_w_FnExchanges_a [.n code_n, .n code_l, .n code_c, .n h0_n, .f h0]).h K = xf_w_FnExchanges none N code_n code_l code_c h0_n h0 (fun r__ => retK (buildS xf_w_FnExchanges_r0 [.b r__, .n h0_n, .f h0]) K) := by kernel_rfl
end Go.AM
