/- A part of a proof about the given program: an abstract machine, what the given functions come to, and plain laws. -/
import Derived.Test.YtoginabccpjeoaaSLawFrontsA2
import Derived.Test.YtoginabccpjeoaaPallLawFronts1
set_option linter.unusedVariables false
set_option linter.unusedSimpArgs false
set_option maxRecDepth 100000
namespace Go.AM
open Go.Proofs
noncomputable def E_gk_i_ThurstonBennequin (α : Type) (N : Nat) : Env α := (E_i_MaslovOf α N).addSum 46 true (funOr 0 i_ThurstonBennequin_a (fun l K => match l with
    | [.i g_0, .f g_1, .f g_2] => gk_i_ThurstonBennequin none N g_0 g_1 g_2 (fun r_0_ => retK (buildS i_ThurstonBennequin_r0 [.i r_0_, .i 0]) K)
    | _ => none) none)
theorem E_gk_i_ThurstonBennequin_ok {α : Type} (N : Nat) : EnvOk Try.prog (E_gk_i_ThurstonBennequin α N) := (E_i_MaslovOf_ok N).override (F := (fun l K => match l with
    | [.i g_0, .f g_1, .f g_2] => i_ThurstonBennequin none N g_0 g_1 g_2 (fun r_0_ r_1_ => retK (buildS i_ThurstonBennequin_r0 [.i r_0_, .i r_1_]) K)
    | _ => none)) (rest := (E_i_whole_int64_v1_s3 α N).sums 46) (by kernel_rfl) fun l K r he => by
  split at he
  · exact gk_i_ThurstonBennequin_mono he
  · cases he

noncomputable def E_gk_s_ThurstonBennequin (α : Type) (N : Nat) : Env α := (E_gk_i_ThurstonBennequin α N).addSum 47 true (funOr 0 s_ThurstonBennequin_a (fun l K => match l with
    | [.i g_0, .f g_1, .f g_2] => gk_s_ThurstonBennequin none N g_0 g_1 g_2 (fun r_0_ => retK (buildS s_ThurstonBennequin_r0 [.i r_0_, .i 0]) K)
    | _ => none) none)
theorem E_gk_s_ThurstonBennequin_ok {α : Type} (N : Nat) : EnvOk Try.prog (E_gk_s_ThurstonBennequin α N) := (E_gk_i_ThurstonBennequin_ok N).override (F := (fun l K => match l with
    | [.i g_0, .f g_1, .f g_2] => s_ThurstonBennequin none N g_0 g_1 g_2 (fun r_0_ r_1_ => retK (buildS s_ThurstonBennequin_r0 [.i r_0_, .i r_1_]) K)
    | _ => none)) (rest := (E_i_ThurstonBennequin α N).sums 47) (by kernel_rfl) fun l K r he => by
  split at he
  · exact gk_s_ThurstonBennequin_mono he
  · cases he

noncomputable def E_gk_i_RotationOf (α : Type) (N : Nat) : Env α := (E_gk_s_ThurstonBennequin α N).addSum 48 true (funOr 0 i_RotationOf_a (fun l K => match l with
    | [.i g_0, .f g_1, .f g_2] => gk_i_RotationOf none N g_0 g_1 g_2 (fun r_0_ => retK (buildS i_RotationOf_r0 [.i r_0_, .i 0]) K)
    | _ => none) none)
theorem E_gk_i_RotationOf_ok {α : Type} (N : Nat) : EnvOk Try.prog (E_gk_i_RotationOf α N) := (E_gk_s_ThurstonBennequin_ok N).override (F := (fun l K => match l with
    | [.i g_0, .f g_1, .f g_2] => i_RotationOf none N g_0 g_1 g_2 (fun r_0_ r_1_ => retK (buildS i_RotationOf_r0 [.i r_0_, .i r_1_]) K)
    | _ => none)) (rest := (E_i_whole_int64_v1_s2 α N).sums 48) (by kernel_rfl) fun l K r he => by
  split at he
  · exact gk_i_RotationOf_mono he
  · cases he

noncomputable def E_gk_s_RotationOf (α : Type) (N : Nat) : Env α := (E_gk_i_RotationOf α N).addSum 49 true (funOr 0 s_RotationOf_a (fun l K => match l with
    | [.i g_0, .f g_1, .f g_2] => gk_s_RotationOf none N g_0 g_1 g_2 (fun r_0_ => retK (buildS s_RotationOf_r0 [.i r_0_, .i 0]) K)
    | _ => none) none)
theorem E_gk_s_RotationOf_ok {α : Type} (N : Nat) : EnvOk Try.prog (E_gk_s_RotationOf α N) := (E_gk_i_RotationOf_ok N).override (F := (fun l K => match l with
    | [.i g_0, .f g_1, .f g_2] => s_RotationOf none N g_0 g_1 g_2 (fun r_0_ r_1_ => retK (buildS s_RotationOf_r0 [.i r_0_, .i r_1_]) K)
    | _ => none)) (rest := (E_s_ThurstonBennequin α N).sums 49) (by kernel_rfl) fun l K r he => by
  split at he
  · exact gk_s_RotationOf_mono he
  · cases he

noncomputable def E_gk_i_CountCusps (α : Type) (N : Nat) : Env α := (E_gk_s_RotationOf α N).addSum 50 true (funOr 0 i_CountCusps_a (fun l K => match l with
    | [.i g_0, .f g_1, .f g_2] => gk_i_CountCusps none N g_0 g_1 g_2 (fun r_0_ => retK (buildS i_CountCusps_r0 [.i r_0_, .i 0]) K)
    | _ => none) none)
theorem E_gk_i_CountCusps_ok {α : Type} (N : Nat) : EnvOk Try.prog (E_gk_i_CountCusps α N) := (E_gk_s_RotationOf_ok N).override (F := (fun l K => match l with
    | [.i g_0, .f g_1, .f g_2] => i_CountCusps none N g_0 g_1 g_2 (fun r_0_ r_1_ => retK (buildS i_CountCusps_r0 [.i r_0_, .i r_1_]) K)
    | _ => none)) (rest := (E_i_whole_int64_v1 α N).sums 50) (by kernel_rfl) fun l K r he => by
  split at he
  · exact gk_i_CountCusps_mono he
  · cases he

noncomputable def E_gk_s_CountCusps (α : Type) (N : Nat) : Env α := (E_gk_i_CountCusps α N).addSum 51 true (funOr 0 s_CountCusps_a (fun l K => match l with
    | [.i g_0, .f g_1, .f g_2] => gk_s_CountCusps none N g_0 g_1 g_2 (fun r_0_ => retK (buildS s_CountCusps_r0 [.i r_0_, .i 0]) K)
    | _ => none) none)
theorem E_gk_s_CountCusps_ok {α : Type} (N : Nat) : EnvOk Try.prog (E_gk_s_CountCusps α N) := (E_gk_i_CountCusps_ok N).override (F := (fun l K => match l with
    | [.i g_0, .f g_1, .f g_2] => s_CountCusps none N g_0 g_1 g_2 (fun r_0_ r_1_ => retK (buildS s_CountCusps_r0 [.i r_0_, .i r_1_]) K)
    | _ => none)) (rest := (E_s_RotationOf α N).sums 51) (by kernel_rfl) fun l K r he => by
  split at he
  · exact gk_s_CountCusps_mono he
  · cases he

noncomputable def E_gk_i_UpperState (α : Type) (N : Nat) : Env α := (E_gk_s_CountCusps α N).addSum 52 true (funOr 0 i_UpperState_a (fun l K => match l with
    | [.i g_0, .f g_1, .f g_2] => gk_i_UpperState none N g_0 g_1 g_2 (fun r_0_ => retK (buildS i_UpperState_r0 [.f r_0_, .i 0]) K)
    | _ => none) none)
theorem E_gk_i_UpperState_ok {α : Type} (N : Nat) : EnvOk Try.prog (E_gk_i_UpperState α N) := (E_gk_s_CountCusps_ok N).override (F := (fun l K => match l with
    | [.i g_0, .f g_1, .f g_2] => i_UpperState none N g_0 g_1 g_2 (fun r_0_ r_1_ => retK (buildS i_UpperState_r0 [.f r_0_, .i r_1_]) K)
    | _ => none)) (rest := (E_i_whole_i_State_s2 α N).sums 52) (by kernel_rfl) fun l K r he => by
  split at he
  · exact gk_i_UpperState_mono he
  · cases he

noncomputable def E_gk_s_UpperState (α : Type) (N : Nat) : Env α := (E_gk_i_UpperState α N).addSum 53 true (funOr 0 s_UpperState_a (fun l K => match l with
    | [.i g_0, .f g_1, .f g_2] => gk_s_UpperState none N g_0 g_1 g_2 (fun r_0_ => retK (buildS s_UpperState_r0 [.f r_0_, .i 0]) K)
    | _ => none) none)
theorem E_gk_s_UpperState_ok {α : Type} (N : Nat) : EnvOk Try.prog (E_gk_s_UpperState α N) := (E_gk_i_UpperState_ok N).override (F := (fun l K => match l with
    | [.i g_0, .f g_1, .f g_2] => s_UpperState none N g_0 g_1 g_2 (fun r_0_ r_1_ => retK (buildS s_UpperState_r0 [.f r_0_, .i r_1_]) K)
    | _ => none)) (rest := (E_s_l07Upper α N).sums 53) (by kernel_rfl) fun l K r he => by
  split at he
  · exact gk_s_UpperState_mono he
  · cases he

noncomputable def E_gk_i_LowerState (α : Type) (N : Nat) : Env α := (E_gk_s_UpperState α N).addSum 54 true (funOr 0 i_LowerState_a (fun l K => match l with
    | [.i g_0, .f g_1, .f g_2] => gk_i_LowerState none N g_0 g_1 g_2 (fun r_0_ => retK (buildS i_LowerState_r0 [.f r_0_, .i 0]) K)
    | _ => none) none)
theorem E_gk_i_LowerState_ok {α : Type} (N : Nat) : EnvOk Try.prog (E_gk_i_LowerState α N) := (E_gk_s_UpperState_ok N).override (F := (fun l K => match l with
    | [.i g_0, .f g_1, .f g_2] => i_LowerState none N g_0 g_1 g_2 (fun r_0_ r_1_ => retK (buildS i_LowerState_r0 [.f r_0_, .i r_1_]) K)
    | _ => none)) (rest := (E_i_whole_i_State α N).sums 54) (by kernel_rfl) fun l K r he => by
  split at he
  · exact gk_i_LowerState_mono he
  · cases he

noncomputable def E_gk_s_LowerState (α : Type) (N : Nat) : Env α := (E_gk_i_LowerState α N).addSum 55 true (funOr 0 s_LowerState_a (fun l K => match l with
    | [.i g_0, .f g_1, .f g_2] => gk_s_LowerState none N g_0 g_1 g_2 (fun r_0_ => retK (buildS s_LowerState_r0 [.f r_0_, .i 0]) K)
    | _ => none) none)
theorem E_gk_s_LowerState_ok {α : Type} (N : Nat) : EnvOk Try.prog (E_gk_s_LowerState α N) := (E_gk_i_LowerState_ok N).override (F := (fun l K => match l with
    | [.i g_0, .f g_1, .f g_2] => s_LowerState none N g_0 g_1 g_2 (fun r_0_ r_1_ => retK (buildS s_LowerState_r0 [.f r_0_, .i r_1_]) K)
    | _ => none)) (rest := (E_i_LowerState α N).sums 55) (by kernel_rfl) fun l K r he => by
  split at he
  · exact gk_s_LowerState_mono he
  · cases he

noncomputable def E_gk_i_ExchangeOf (α : Type) (N : Nat) : Env α := (E_gk_s_LowerState α N).addSum 24 true (funOr 0 i_ExchangeOf_a (fun l K => match l with
    | [.i g_0, .f g_1, .f g_2] => gk_i_ExchangeOf none N g_0 g_1 g_2 (fun r_0_0_ r_0_1_ r_0_2_ => retK (buildS i_ExchangeOf_r0 [.i r_0_0_, .f r_0_1_, .f r_0_2_, .i 0]) K)
    | _ => none) none)
theorem E_gk_i_ExchangeOf_ok {α : Type} (N : Nat) : EnvOk Try.prog (E_gk_i_ExchangeOf α N) := (E_gk_s_LowerState_ok N).override (F := (fun l K => match l with
    | [.i g_0, .f g_1, .f g_2] => i_ExchangeOf none N g_0 g_1 g_2 (fun r_0_0_ r_0_1_ r_0_2_ r_1_ => retK (buildS i_ExchangeOf_r0 [.i r_0_0_, .f r_0_1_, .f r_0_2_, .i r_1_]) K)
    | _ => none)) (rest := (E_i_whole_i_Grid_s2 α N).sums 24) (by kernel_rfl) fun l K r he => by
  split at he
  · exact gk_i_ExchangeOf_mono he
  · cases he

noncomputable def E_gk_i_WritheOf (α : Type) (N : Nat) : Env α := (E_gk_i_ExchangeOf α N).addSum 56 true (funOr 0 i_WritheOf_a (fun l K => match l with
    | [.i g_0, .f g_1, .f g_2] => gk_i_WritheOf none N g_0 g_1 g_2 (fun r_0_ => retK (buildS i_WritheOf_r0 [.i r_0_, .i 0]) K)
    | _ => none) none)
theorem E_gk_i_WritheOf_ok {α : Type} (N : Nat) : EnvOk Try.prog (E_gk_i_WritheOf α N) := (E_gk_i_ExchangeOf_ok N).override (F := (fun l K => match l with
    | [.i g_0, .f g_1, .f g_2] => i_WritheOf none N g_0 g_1 g_2 (fun r_0_ r_1_ => retK (buildS i_WritheOf_r0 [.i r_0_, .i r_1_]) K)
    | _ => none)) (rest := (E_i_whole_int64_v1_s4 α N).sums 56) (by kernel_rfl) fun l K r he => by
  split at he
  · exact gk_i_WritheOf_mono he
  · cases he

noncomputable def E_gk_i_IsKnot (α : Type) (N : Nat) : Env α := (E_gk_i_WritheOf α N).addSum 20 true (funOr 0 i_IsKnot_a (fun l K => match l with
    | [.i g_0, .f g_1, .f g_2] => gk_i_IsKnot none N g_0 g_1 g_2 (retK (buildS i_IsKnot_r0 [.b true, .i 0]) K)
    | _ => none) none)
theorem E_gk_i_IsKnot_ok {α : Type} (N : Nat) : EnvOk Try.prog (E_gk_i_IsKnot α N) := (E_gk_i_WritheOf_ok N).override (F := (fun l K => match l with
    | [.i g_0, .f g_1, .f g_2] => i_IsKnot none N g_0 g_1 g_2 (fun r_0_ r_1_ => retK (buildS i_IsKnot_r0 [.b r_0_, .i r_1_]) K)
    | _ => none)) (rest := (E_i_whole_bool α N).sums 20) (by kernel_rfl) fun l K r he => by
  split at he
  · exact gk_i_IsKnot_mono he
  · cases he

noncomputable def E_gk_i_MaslovOf (α : Type) (N : Nat) : Env α := (E_gk_i_IsKnot α N).addSum 57 true (funOr 0 i_MaslovOf_a (fun l K => match l with
    | [.i g_0, .f g_1, .f g_2, .f x, .b xs] => gk_i_MaslovOf none N g_0 g_1 g_2 x xs (fun r_0_ => retK (buildS i_MaslovOf_r0 [.i r_0_, .i 0]) K)
    | _ => none) none)
theorem E_gk_i_MaslovOf_ok {α : Type} (N : Nat) : EnvOk Try.prog (E_gk_i_MaslovOf α N) := (E_gk_i_IsKnot_ok N).override (F := (fun l K => match l with
    | [.i g_0, .f g_1, .f g_2, .f x, .b xs] => i_MaslovOf none N g_0 g_1 g_2 x xs (fun r_0_ r_1_ => retK (buildS i_MaslovOf_r0 [.i r_0_, .i r_1_]) K)
    | _ => none)) (rest := (E_i_stated_int64_s2 α N).sums 57) (by kernel_rfl) fun l K r he => by
  split at he
  · exact gk_i_MaslovOf_mono he
  · cases he

noncomputable def E_gk_i_SelfLinkings (α : Type) (N : Nat) : Env α := (E_gk_i_MaslovOf α N).addSum 58 true (funOr 0 i_SelfLinkings_a (fun l K => match l with
    | [.i g_0, .f g_1, .f g_2] => gk_i_SelfLinkings none N g_0 g_1 g_2 (fun sa_ sb_ => retK (buildS i_SelfLinkings_r1 [.i 0, .l [sa_, sb_]]) K)
    | _ => none) none)
theorem E_gk_i_SelfLinkings_ok {α : Type} (N : Nat) : EnvOk Try.prog (E_gk_i_SelfLinkings α N) := (E_gk_i_MaslovOf_ok N).override (F := (fun l K => match l with
    | [.i g_0, .f g_1, .f g_2] => i_SelfLinkings none N g_0 g_1 g_2 (fun r_1_ => retK (buildS i_SelfLinkings_r0 [.i r_1_]) K) (fun r_1_ h0_ => retK (buildS i_SelfLinkings_r1 [.i r_1_, .l h0_]) K)
    | _ => none)) (rest := (E_i_knotted_int64 α N).sums 58) (by kernel_rfl) fun l K r he => by
  split at he
  · exact gk_i_SelfLinkings_mono he
  · cases he

/-- laws.FnFronts -/
def gk_w_FnFronts_a : SPat := ⟨[.sliceV 0 0 0 1 false], [[.intsV .u8]]⟩
def gk_w_FnFronts_r0 : SPat := ⟨[.bool], [[.intsV .u8]]⟩
theorem gk_w_FnFronts_run {α : Type} (N : Nat) (code_n : Nat) (code_l : Nat) (code_c : Nat) (h0_n : Nat) (h0 : Nat → Int) (K : AV → Heap → Option α) :
    callK Try.prog (E_gk_i_SelfLinkings α N) 1 6 1 (buildS gk_w_FnFronts_a [.n code_n, .n code_l, .n code_c, .n h0_n, .f h0]).t (buildS gk_w_FnFronts_a [.n code_n, .n code_l, .n code_c, .n h0_n, .f h0]).h K = gk_w_FnFronts none N code_n code_l code_c h0_n h0 (fun r__ => retK (buildS gk_w_FnFronts_r0 [.b r__, .n h0_n, .f h0]) K) := by kernel_rfl
end Go.AM
