/- A part of a proof about the given program: an abstract machine, what the given functions come to, and plain laws. -/
import Derived.Test.YtoginabccpjeoaaSLawFrontsA2
import Derived.Test.YtoginabccpjeoaaPallLawFronts1
set_option linter.unusedVariables false
set_option linter.unusedSimpArgs false
set_option maxRecDepth 100000
namespace Go.AM
open Go.Proofs
noncomputable def E_gn_i_ThurstonBennequin (α : Type) (N : Nat) : Env α := (E_i_MaslovOf α N).addSum 46 true (funOr 0 i_ThurstonBennequin_a (fun l K => match l with
    | [.i g_0, .f g_1, .f g_2] => gn_i_ThurstonBennequin none N g_0 g_1 g_2 (retK (buildS i_ThurstonBennequin_r0 [.i 0, .i 1]) K)
    | _ => none) none)
theorem E_gn_i_ThurstonBennequin_ok {α : Type} (N : Nat) : EnvOk Try.prog (E_gn_i_ThurstonBennequin α N) := (E_i_MaslovOf_ok N).override (F := (fun l K => match l with
    | [.i g_0, .f g_1, .f g_2] => i_ThurstonBennequin none N g_0 g_1 g_2 (fun r_0_ r_1_ => retK (buildS i_ThurstonBennequin_r0 [.i r_0_, .i r_1_]) K)
    | _ => none)) (rest := (E_i_whole_int64_v1_s3 α N).sums 46) (by kernel_rfl) fun l K r he => by
  split at he
  · exact gn_i_ThurstonBennequin_mono he
  · cases he

noncomputable def E_gn_s_ThurstonBennequin (α : Type) (N : Nat) : Env α := (E_gn_i_ThurstonBennequin α N).addSum 47 true (funOr 0 s_ThurstonBennequin_a (fun l K => match l with
    | [.i g_0, .f g_1, .f g_2] => gn_s_ThurstonBennequin none N g_0 g_1 g_2 (retK (buildS s_ThurstonBennequin_r0 [.i 0, .i 1]) K)
    | _ => none) none)
theorem E_gn_s_ThurstonBennequin_ok {α : Type} (N : Nat) : EnvOk Try.prog (E_gn_s_ThurstonBennequin α N) := (E_gn_i_ThurstonBennequin_ok N).override (F := (fun l K => match l with
    | [.i g_0, .f g_1, .f g_2] => s_ThurstonBennequin none N g_0 g_1 g_2 (fun r_0_ r_1_ => retK (buildS s_ThurstonBennequin_r0 [.i r_0_, .i r_1_]) K)
    | _ => none)) (rest := (E_i_ThurstonBennequin α N).sums 47) (by kernel_rfl) fun l K r he => by
  split at he
  · exact gn_s_ThurstonBennequin_mono he
  · cases he

noncomputable def E_gn_i_RotationOf (α : Type) (N : Nat) : Env α := (E_gn_s_ThurstonBennequin α N).addSum 48 true (funOr 0 i_RotationOf_a (fun l K => match l with
    | [.i g_0, .f g_1, .f g_2] => gn_i_RotationOf none N g_0 g_1 g_2 (retK (buildS i_RotationOf_r0 [.i 0, .i 1]) K)
    | _ => none) none)
theorem E_gn_i_RotationOf_ok {α : Type} (N : Nat) : EnvOk Try.prog (E_gn_i_RotationOf α N) := (E_gn_s_ThurstonBennequin_ok N).override (F := (fun l K => match l with
    | [.i g_0, .f g_1, .f g_2] => i_RotationOf none N g_0 g_1 g_2 (fun r_0_ r_1_ => retK (buildS i_RotationOf_r0 [.i r_0_, .i r_1_]) K)
    | _ => none)) (rest := (E_i_whole_int64_v1_s2 α N).sums 48) (by kernel_rfl) fun l K r he => by
  split at he
  · exact gn_i_RotationOf_mono he
  · cases he

noncomputable def E_gn_s_RotationOf (α : Type) (N : Nat) : Env α := (E_gn_i_RotationOf α N).addSum 49 true (funOr 0 s_RotationOf_a (fun l K => match l with
    | [.i g_0, .f g_1, .f g_2] => gn_s_RotationOf none N g_0 g_1 g_2 (retK (buildS s_RotationOf_r0 [.i 0, .i 1]) K)
    | _ => none) none)
theorem E_gn_s_RotationOf_ok {α : Type} (N : Nat) : EnvOk Try.prog (E_gn_s_RotationOf α N) := (E_gn_i_RotationOf_ok N).override (F := (fun l K => match l with
    | [.i g_0, .f g_1, .f g_2] => s_RotationOf none N g_0 g_1 g_2 (fun r_0_ r_1_ => retK (buildS s_RotationOf_r0 [.i r_0_, .i r_1_]) K)
    | _ => none)) (rest := (E_s_ThurstonBennequin α N).sums 49) (by kernel_rfl) fun l K r he => by
  split at he
  · exact gn_s_RotationOf_mono he
  · cases he

noncomputable def E_gn_i_CountCusps (α : Type) (N : Nat) : Env α := (E_gn_s_RotationOf α N).addSum 50 true (funOr 0 i_CountCusps_a (fun l K => match l with
    | [.i g_0, .f g_1, .f g_2] => gn_i_CountCusps none N g_0 g_1 g_2 (retK (buildS i_CountCusps_r0 [.i 0, .i 1]) K)
    | _ => none) none)
theorem E_gn_i_CountCusps_ok {α : Type} (N : Nat) : EnvOk Try.prog (E_gn_i_CountCusps α N) := (E_gn_s_RotationOf_ok N).override (F := (fun l K => match l with
    | [.i g_0, .f g_1, .f g_2] => i_CountCusps none N g_0 g_1 g_2 (fun r_0_ r_1_ => retK (buildS i_CountCusps_r0 [.i r_0_, .i r_1_]) K)
    | _ => none)) (rest := (E_i_whole_int64_v1 α N).sums 50) (by kernel_rfl) fun l K r he => by
  split at he
  · exact gn_i_CountCusps_mono he
  · cases he

noncomputable def E_gn_s_CountCusps (α : Type) (N : Nat) : Env α := (E_gn_i_CountCusps α N).addSum 51 true (funOr 0 s_CountCusps_a (fun l K => match l with
    | [.i g_0, .f g_1, .f g_2] => gn_s_CountCusps none N g_0 g_1 g_2 (retK (buildS s_CountCusps_r0 [.i 0, .i 1]) K)
    | _ => none) none)
theorem E_gn_s_CountCusps_ok {α : Type} (N : Nat) : EnvOk Try.prog (E_gn_s_CountCusps α N) := (E_gn_i_CountCusps_ok N).override (F := (fun l K => match l with
    | [.i g_0, .f g_1, .f g_2] => s_CountCusps none N g_0 g_1 g_2 (fun r_0_ r_1_ => retK (buildS s_CountCusps_r0 [.i r_0_, .i r_1_]) K)
    | _ => none)) (rest := (E_s_RotationOf α N).sums 51) (by kernel_rfl) fun l K r he => by
  split at he
  · exact gn_s_CountCusps_mono he
  · cases he

noncomputable def E_gn_i_UpperState (α : Type) (N : Nat) : Env α := (E_gn_s_CountCusps α N).addSum 52 true (funOr 0 i_UpperState_a (fun l K => match l with
    | [.i g_0, .f g_1, .f g_2] => gn_i_UpperState none N g_0 g_1 g_2 (retK (buildS i_UpperState_r0 [.f (fun (x : Nat) => (0 : Int)), .i 1]) K)
    | _ => none) none)
theorem E_gn_i_UpperState_ok {α : Type} (N : Nat) : EnvOk Try.prog (E_gn_i_UpperState α N) := (E_gn_s_CountCusps_ok N).override (F := (fun l K => match l with
    | [.i g_0, .f g_1, .f g_2] => i_UpperState none N g_0 g_1 g_2 (fun r_0_ r_1_ => retK (buildS i_UpperState_r0 [.f r_0_, .i r_1_]) K)
    | _ => none)) (rest := (E_i_whole_i_State_s2 α N).sums 52) (by kernel_rfl) fun l K r he => by
  split at he
  · exact gn_i_UpperState_mono he
  · cases he

noncomputable def E_gn_s_UpperState (α : Type) (N : Nat) : Env α := (E_gn_i_UpperState α N).addSum 53 true (funOr 0 s_UpperState_a (fun l K => match l with
    | [.i g_0, .f g_1, .f g_2] => gn_s_UpperState none N g_0 g_1 g_2 (retK (buildS s_UpperState_r0 [.f (fun (x : Nat) => (0 : Int)), .i 1]) K)
    | _ => none) none)
theorem E_gn_s_UpperState_ok {α : Type} (N : Nat) : EnvOk Try.prog (E_gn_s_UpperState α N) := (E_gn_i_UpperState_ok N).override (F := (fun l K => match l with
    | [.i g_0, .f g_1, .f g_2] => s_UpperState none N g_0 g_1 g_2 (fun r_0_ r_1_ => retK (buildS s_UpperState_r0 [.f r_0_, .i r_1_]) K)
    | _ => none)) (rest := (E_s_l07Upper α N).sums 53) (by kernel_rfl) fun l K r he => by
  split at he
  · exact gn_s_UpperState_mono he
  · cases he

noncomputable def E_gn_i_LowerState (α : Type) (N : Nat) : Env α := (E_gn_s_UpperState α N).addSum 54 true (funOr 0 i_LowerState_a (fun l K => match l with
    | [.i g_0, .f g_1, .f g_2] => gn_i_LowerState none N g_0 g_1 g_2 (retK (buildS i_LowerState_r0 [.f (fun (x : Nat) => (0 : Int)), .i 1]) K)
    | _ => none) none)
theorem E_gn_i_LowerState_ok {α : Type} (N : Nat) : EnvOk Try.prog (E_gn_i_LowerState α N) := (E_gn_s_UpperState_ok N).override (F := (fun l K => match l with
    | [.i g_0, .f g_1, .f g_2] => i_LowerState none N g_0 g_1 g_2 (fun r_0_ r_1_ => retK (buildS i_LowerState_r0 [.f r_0_, .i r_1_]) K)
    | _ => none)) (rest := (E_i_whole_i_State α N).sums 54) (by kernel_rfl) fun l K r he => by
  split at he
  · exact gn_i_LowerState_mono he
  · cases he

noncomputable def E_gn_s_LowerState (α : Type) (N : Nat) : Env α := (E_gn_i_LowerState α N).addSum 55 true (funOr 0 s_LowerState_a (fun l K => match l with
    | [.i g_0, .f g_1, .f g_2] => gn_s_LowerState none N g_0 g_1 g_2 (retK (buildS s_LowerState_r0 [.f (fun (x : Nat) => (0 : Int)), .i 1]) K)
    | _ => none) none)
theorem E_gn_s_LowerState_ok {α : Type} (N : Nat) : EnvOk Try.prog (E_gn_s_LowerState α N) := (E_gn_i_LowerState_ok N).override (F := (fun l K => match l with
    | [.i g_0, .f g_1, .f g_2] => s_LowerState none N g_0 g_1 g_2 (fun r_0_ r_1_ => retK (buildS s_LowerState_r0 [.f r_0_, .i r_1_]) K)
    | _ => none)) (rest := (E_i_LowerState α N).sums 55) (by kernel_rfl) fun l K r he => by
  split at he
  · exact gn_s_LowerState_mono he
  · cases he

/-- laws.FnFronts -/
def gn_w_FnFronts_a : SPat := ⟨[.sliceV 0 0 0 1 false], [[.intsV .u8]]⟩
def gn_w_FnFronts_r0 : SPat := ⟨[.bool], [[.intsV .u8]]⟩
theorem gn_w_FnFronts_run {α : Type} (N : Nat) (code_n : Nat) (code_l : Nat) (code_c : Nat) (h0_n : Nat) (h0 : Nat → Int) (K : AV → Heap → Option α) :
    callK Try.prog (E_gn_s_LowerState α N) 1 6 1 (buildS gn_w_FnFronts_a [.n code_n, .n code_l, .n code_c, .n h0_n, .f h0]).t (buildS gn_w_FnFronts_a [.n code_n, .n code_l, .n code_c, .n h0_n, .f h0]).h K = gn_w_FnFronts none N code_n code_l code_c h0_n h0 (fun r__ => retK (buildS gn_w_FnFronts_r0 [.b r__, .n h0_n, .f h0]) K) := by kernel_rfl
end Go.AM
