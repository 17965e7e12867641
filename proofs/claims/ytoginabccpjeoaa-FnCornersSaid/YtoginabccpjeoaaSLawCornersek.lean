/- A part of a proof about the given program: an abstract machine, what the given functions come to, and plain laws. -/
import Derived.Test.YtoginabccpjeoaaSLawCornersA3
import Derived.Test.YtoginabccpjeoaaPallLawCorners2
set_option linter.unusedVariables false
set_option linter.unusedSimpArgs false
set_option maxRecDepth 100000
namespace Go.AM
open Go.Proofs
noncomputable def E_ek_i_CornersOf (α : Type) (N : Nat) : Env α := (E_w_FnCorners_l2_s4 α N).addSum 69 true (funOr 0 i_CornersOf_a (fun l K => match l with
    | [.i g_0, .f g_1, .f g_2] => ek_i_CornersOf none N g_0 g_1 g_2 (fun r_0_n_ r_0_l_ r_0_c_ h0_ => retK (buildS i_CornersOf_r1 [.n r_0_n_, .n r_0_l_, .n r_0_c_, .i 0, .l h0_]) K)
    | _ => none) none)
theorem E_ek_i_CornersOf_ok {α : Type} (N : Nat) : EnvOk Try.prog (E_ek_i_CornersOf α N) := (E_w_FnCorners_l2_s4_ok N).override (F := (fun l K => match l with
    | [.i g_0, .f g_1, .f g_2] => i_CornersOf none N g_0 g_1 g_2 (fun r_1_ => retK (buildS i_CornersOf_r0 [.i r_1_]) K) (fun r_0_n_ r_0_l_ r_0_c_ r_1_ h0_ => retK (buildS i_CornersOf_r1 [.n r_0_n_, .n r_0_l_, .n r_0_c_, .i r_1_, .l h0_]) K)
    | _ => none)) (rest := (E_i_whole_i_Corner α N).sums 69) (by kernel_rfl) fun l K r he => by
  split at he
  · exact ek_i_CornersOf_mono he
  · cases he
noncomputable def E_ek_s_CornersOf (α : Type) (N : Nat) : Env α := (E_ek_i_CornersOf α N).addSum 70 true (funOr 0 s_CornersOf_a (fun l K => match l with
    | [.i g_0, .f g_1, .f g_2] => ek_s_CornersOf none N g_0 g_1 g_2 (fun r_0_n_ r_0_l_ r_0_c_ h0_ => retK (buildS s_CornersOf_r1 [.n r_0_n_, .n r_0_l_, .n r_0_c_, .i 0, .l h0_]) K)
    | _ => none) none)
theorem E_ek_s_CornersOf_ok {α : Type} (N : Nat) : EnvOk Try.prog (E_ek_s_CornersOf α N) := (E_ek_i_CornersOf_ok N).override (F := (fun l K => match l with
    | [.i g_0, .f g_1, .f g_2] => s_CornersOf none N g_0 g_1 g_2 (fun r_1_ => retK (buildS s_CornersOf_r0 [.i r_1_]) K) (fun r_0_n_ r_0_l_ r_0_c_ r_1_ h0_ => retK (buildS s_CornersOf_r1 [.n r_0_n_, .n r_0_l_, .n r_0_c_, .i r_1_, .l h0_]) K)
    | _ => none)) (rest := (E_i_CornersOf α N).sums 70) (by kernel_rfl) fun l K r he => by
  split at he
  · exact ek_s_CornersOf_mono he
  · cases he
noncomputable def E_ek_i_ComponentNumbers (α : Type) (N : Nat) : Env α := (E_ek_s_CornersOf α N).addSum 12 true (funOr 0 i_ComponentNumbers_a (fun l K => match l with
    | [.i g_0, .f g_1, .f g_2] => ek_i_ComponentNumbers none N g_0 g_1 g_2 (fun r_0_n_ r_0_l_ r_0_c_ h0_ h1_ => retK (buildS i_ComponentNumbers_r1 [.n r_0_n_, .n r_0_l_, .n r_0_c_, .i 0, .p h0_, .r h1_]) K)
    | _ => none) none)
theorem E_ek_i_ComponentNumbers_ok {α : Type} (N : Nat) : EnvOk Try.prog (E_ek_i_ComponentNumbers α N) := (E_ek_s_CornersOf_ok N).override (F := (fun l K => match l with
    | [.i g_0, .f g_1, .f g_2] => i_ComponentNumbers none N g_0 g_1 g_2 (fun r_1_ => retK (buildS i_ComponentNumbers_r0 [.i r_1_]) K) (fun r_0_n_ r_0_l_ r_0_c_ r_1_ h0_ h1_ => retK (buildS i_ComponentNumbers_r1 [.n r_0_n_, .n r_0_l_, .n r_0_c_, .i r_1_, .p h0_, .r h1_]) K)
    | _ => none)) (rest := (E_i_whole_int64_s5 α N).sums 12) (by kernel_rfl) fun l K r he => by
  split at he
  · exact ek_i_ComponentNumbers_mono he
  · cases he
noncomputable def E_ek_s_ComponentNumbers (α : Type) (N : Nat) : Env α := (E_ek_i_ComponentNumbers α N).addSum 10 true (funOr 0 s_ComponentNumbers_a (fun l K => match l with
    | [.i g_0, .f g_1, .f g_2] => ek_s_ComponentNumbers none N g_0 g_1 g_2 (fun r_0_n_ r_0_l_ r_0_c_ h0_ h1_ => retK (buildS s_ComponentNumbers_r2 [.n r_0_n_, .n r_0_l_, .n r_0_c_, .i 0, .p h0_, .r h1_]) K)
    | _ => none) none)
theorem E_ek_s_ComponentNumbers_ok {α : Type} (N : Nat) : EnvOk Try.prog (E_ek_s_ComponentNumbers α N) := (E_ek_i_ComponentNumbers_ok N).override (F := (fun l K => match l with
    | [.i g_0, .f g_1, .f g_2] => s_ComponentNumbers none N g_0 g_1 g_2 (fun r_1_ => retK (buildS s_ComponentNumbers_r0 [.i r_1_]) K) (fun r_1_ h0_ h1_ => retK (buildS s_ComponentNumbers_r1 [.i r_1_, .p h0_, .r h1_]) K) (fun r_0_n_ r_0_l_ r_0_c_ r_1_ h0_ h1_ => retK (buildS s_ComponentNumbers_r2 [.n r_0_n_, .n r_0_l_, .n r_0_c_, .i r_1_, .p h0_, .r h1_]) K)
    | _ => none)) (rest := (E_s_ComponentNumbers_l0_s2 α N).sums 10) (by kernel_rfl) fun l K r he => by
  split at he
  · exact ek_s_ComponentNumbers_mono he
  · cases he
noncomputable def E_ek_i_CuspWords (α : Type) (N : Nat) : Env α := (E_ek_s_ComponentNumbers α N).addSum 71 true (funOr 0 i_CuspWords_a (fun l K => match l with
    | [.i g_0, .f g_1, .f g_2] => ek_i_CuspWords none N g_0 g_1 g_2 (fun r_0_n_ r_0_l_ r_0_c_ h0_ => retK (buildS i_CuspWords_r1 [.n r_0_n_, .n r_0_l_, .n r_0_c_, .i 0, .t h0_]) K)
    | _ => none) none)
theorem E_ek_i_CuspWords_ok {α : Type} (N : Nat) : EnvOk Try.prog (E_ek_i_CuspWords α N) := (E_ek_s_ComponentNumbers_ok N).override (F := (fun l K => match l with
    | [.i g_0, .f g_1, .f g_2] => i_CuspWords none N g_0 g_1 g_2 (fun r_1_ => retK (buildS i_CuspWords_r0 [.i r_1_]) K) (fun r_0_n_ r_0_l_ r_0_c_ r_1_ h0_ => retK (buildS i_CuspWords_r1 [.n r_0_n_, .n r_0_l_, .n r_0_c_, .i r_1_, .t h0_]) K)
    | _ => none)) (rest := (E_i_whole_string α N).sums 71) (by kernel_rfl) fun l K r he => by
  split at he
  · exact ek_i_CuspWords_mono he
  · cases he
noncomputable def E_ek_s_CuspWords (α : Type) (N : Nat) : Env α := (E_ek_i_CuspWords α N).addSum 72 true (funOr 0 s_CuspWords_a (fun l K => match l with
    | [.i g_0, .f g_1, .f g_2] => ek_s_CuspWords none N g_0 g_1 g_2 (fun r_0_n_ r_0_l_ r_0_c_ h0_ => retK (buildS s_CuspWords_r1 [.n r_0_n_, .n r_0_l_, .n r_0_c_, .i 0, .t h0_]) K)
    | _ => none) none)
theorem E_ek_s_CuspWords_ok {α : Type} (N : Nat) : EnvOk Try.prog (E_ek_s_CuspWords α N) := (E_ek_i_CuspWords_ok N).override (F := (fun l K => match l with
    | [.i g_0, .f g_1, .f g_2] => s_CuspWords none N g_0 g_1 g_2 (fun r_1_ => retK (buildS s_CuspWords_r0 [.i r_1_]) K) (fun r_0_n_ r_0_l_ r_0_c_ r_1_ h0_ => retK (buildS s_CuspWords_r1 [.n r_0_n_, .n r_0_l_, .n r_0_c_, .i r_1_, .t h0_]) K)
    | _ => none)) (rest := (E_s_CuspWords_l0 α N).sums 72) (by kernel_rfl) fun l K r he => by
  split at he
  · exact ek_s_CuspWords_mono he
  · cases he
noncomputable def E_ek_i_TurnNumbers (α : Type) (N : Nat) : Env α := (E_ek_s_CuspWords α N).addSum 73 true (funOr 0 i_TurnNumbers_a (fun l K => match l with
    | [.i g_0, .f g_1, .f g_2] => ek_i_TurnNumbers none N g_0 g_1 g_2 (fun r_0_n_ r_0_l_ r_0_c_ h0_ h1_ => retK (buildS i_TurnNumbers_r1 [.n r_0_n_, .n r_0_l_, .n r_0_c_, .i 0, .p h0_, .r h1_]) K)
    | _ => none) none)
theorem E_ek_i_TurnNumbers_ok {α : Type} (N : Nat) : EnvOk Try.prog (E_ek_i_TurnNumbers α N) := (E_ek_s_CuspWords_ok N).override (F := (fun l K => match l with
    | [.i g_0, .f g_1, .f g_2] => i_TurnNumbers none N g_0 g_1 g_2 (fun r_1_ => retK (buildS i_TurnNumbers_r0 [.i r_1_]) K) (fun r_0_n_ r_0_l_ r_0_c_ r_1_ h0_ h1_ => retK (buildS i_TurnNumbers_r1 [.n r_0_n_, .n r_0_l_, .n r_0_c_, .i r_1_, .p h0_, .r h1_]) K)
    | _ => none)) (rest := (E_i_whole_int64_s4 α N).sums 73) (by kernel_rfl) fun l K r he => by
  split at he
  · exact ek_i_TurnNumbers_mono he
  · cases he
noncomputable def E_ek_s_TurnNumbers (α : Type) (N : Nat) : Env α := (E_ek_i_TurnNumbers α N).addSum 74 true (funOr 0 s_TurnNumbers_a (fun l K => match l with
    | [.i g_0, .f g_1, .f g_2] => ek_s_TurnNumbers none N g_0 g_1 g_2 (fun r_0_n_ r_0_l_ r_0_c_ h0_ h1_ => retK (buildS s_TurnNumbers_r1 [.n r_0_n_, .n r_0_l_, .n r_0_c_, .i 0, .p h0_, .r h1_]) K)
    | _ => none) none)
theorem E_ek_s_TurnNumbers_ok {α : Type} (N : Nat) : EnvOk Try.prog (E_ek_s_TurnNumbers α N) := (E_ek_i_TurnNumbers_ok N).override (F := (fun l K => match l with
    | [.i g_0, .f g_1, .f g_2] => s_TurnNumbers none N g_0 g_1 g_2 (fun r_1_ => retK (buildS s_TurnNumbers_r0 [.i r_1_]) K) (fun r_0_n_ r_0_l_ r_0_c_ r_1_ h0_ h1_ => retK (buildS s_TurnNumbers_r1 [.n r_0_n_, .n r_0_l_, .n r_0_c_, .i r_1_, .p h0_, .r h1_]) K)
    | _ => none)) (rest := (E_s_TurnNumbers_l0 α N).sums 74) (by kernel_rfl) fun l K r he => by
  split at he
  · exact ek_s_TurnNumbers_mono he
  · cases he
noncomputable def E_ek_i_SelfLinkings (α : Type) (N : Nat) : Env α := (E_ek_s_TurnNumbers α N).addSum 58 true (funOr 0 i_SelfLinkings_a (fun l K => match l with
    | [.i g_0, .f g_1, .f g_2] => ek_i_SelfLinkings none N g_0 g_1 g_2 (fun h0_ => retK (buildS i_SelfLinkings_r1 [.i 0, .l h0_]) K)
    | _ => none) none)
theorem E_ek_i_SelfLinkings_ok {α : Type} (N : Nat) : EnvOk Try.prog (E_ek_i_SelfLinkings α N) := (E_ek_s_TurnNumbers_ok N).override (F := (fun l K => match l with
    | [.i g_0, .f g_1, .f g_2] => i_SelfLinkings none N g_0 g_1 g_2 (fun r_1_ => retK (buildS i_SelfLinkings_r0 [.i r_1_]) K) (fun r_1_ h0_ => retK (buildS i_SelfLinkings_r1 [.i r_1_, .l h0_]) K)
    | _ => none)) (rest := (E_i_knotted_int64 α N).sums 58) (by kernel_rfl) fun l K r he => by
  split at he
  · exact ek_i_SelfLinkings_mono he
  · cases he
noncomputable def E_ek_s_SelfLinkings (α : Type) (N : Nat) : Env α := (E_ek_i_SelfLinkings α N).addSum 75 true (funOr 0 s_SelfLinkings_a (fun l K => match l with
    | [.i g_0, .f g_1, .f g_2] => ek_s_SelfLinkings none N g_0 g_1 g_2 (fun h0_ => retK (buildS s_SelfLinkings_r1 [.i 0, .l h0_]) K)
    | _ => none) none)
theorem E_ek_s_SelfLinkings_ok {α : Type} (N : Nat) : EnvOk Try.prog (E_ek_s_SelfLinkings α N) := (E_ek_i_SelfLinkings_ok N).override (F := (fun l K => match l with
    | [.i g_0, .f g_1, .f g_2] => s_SelfLinkings none N g_0 g_1 g_2 (fun r_1_ => retK (buildS s_SelfLinkings_r0 [.i r_1_]) K) (fun r_1_ h0_ => retK (buildS s_SelfLinkings_r1 [.i r_1_, .l h0_]) K)
    | _ => none)) (rest := (E_i_SelfLinkings α N).sums 75) (by kernel_rfl) fun l K r he => by
  split at he
  · exact ek_s_SelfLinkings_mono he
  · cases he
noncomputable def E_ek_i_CountCusps (α : Type) (N : Nat) : Env α := (E_ek_s_SelfLinkings α N).addSum 50 true (funOr 0 i_CountCusps_a (fun l K => match l with
    | [.i g_0, .f g_1, .f g_2] => ek_i_CountCusps none N g_0 g_1 g_2 (fun r_0_ => retK (buildS i_CountCusps_r0 [.i r_0_, .i 0]) K)
    | _ => none) none)
theorem E_ek_i_CountCusps_ok {α : Type} (N : Nat) : EnvOk Try.prog (E_ek_i_CountCusps α N) := (E_ek_s_SelfLinkings_ok N).override (F := (fun l K => match l with
    | [.i g_0, .f g_1, .f g_2] => i_CountCusps none N g_0 g_1 g_2 (fun r_0_ r_1_ => retK (buildS i_CountCusps_r0 [.i r_0_, .i r_1_]) K)
    | _ => none)) (rest := (E_i_whole_int64_v1 α N).sums 50) (by kernel_rfl) fun l K r he => by
  split at he
  · exact ek_i_CountCusps_mono he
  · cases he
noncomputable def E_ek_i_RotationOf (α : Type) (N : Nat) : Env α := (E_ek_i_CountCusps α N).addSum 48 true (funOr 0 i_RotationOf_a (fun l K => match l with
    | [.i g_0, .f g_1, .f g_2] => ek_i_RotationOf none N g_0 g_1 g_2 (fun r_0_ => retK (buildS i_RotationOf_r0 [.i r_0_, .i 0]) K)
    | _ => none) none)
theorem E_ek_i_RotationOf_ok {α : Type} (N : Nat) : EnvOk Try.prog (E_ek_i_RotationOf α N) := (E_ek_i_CountCusps_ok N).override (F := (fun l K => match l with
    | [.i g_0, .f g_1, .f g_2] => i_RotationOf none N g_0 g_1 g_2 (fun r_0_ r_1_ => retK (buildS i_RotationOf_r0 [.i r_0_, .i r_1_]) K)
    | _ => none)) (rest := (E_i_whole_int64_v1_s2 α N).sums 48) (by kernel_rfl) fun l K r he => by
  split at he
  · exact ek_i_RotationOf_mono he
  · cases he
def ek_w_FnCorners_a : SPat := ⟨[.sliceV 0 0 0 1 false], [[.intsV .u8]]⟩
def ek_w_FnCorners_r0 : SPat := ⟨[.bool], [[.intsV .u8]]⟩
theorem ek_w_FnCorners_run {α : Type} (N : Nat) (code_n : Nat) (code_l : Nat) (code_c : Nat) (h0_n : Nat) (h0 : NI) (K : AV -> Heap -> Option α) :
    callK Try.prog (E_ek_i_RotationOf α N) 1 8 1 (buildS ek_w_FnCorners_a [.n code_n, .n code_l, .n code_c, .n h0_n, .f h0]).t (buildS ek_w_FnCorners_a [.n code_n, .n code_l, .n code_c, .n h0_n, .f h0]).h K = ek_w_FnCorners none N code_n code_l code_c h0_n h0 (fun r__ => retK (buildS ek_w_FnCorners_r0 [.b r__, .n h0_n, .f h0]) K) := by kernel_rfl
end Go.AM
