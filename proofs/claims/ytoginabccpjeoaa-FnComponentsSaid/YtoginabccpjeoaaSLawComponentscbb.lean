/- A part of a proof about the given program: an abstract machine, what the given functions come to, and plain laws. -/
import Derived.Test.YtoginabccpjeoaaSLawComponentsA2
import Derived.Test.YtoginabccpjeoaaPallLawComponents2
set_option linter.unusedVariables false
set_option linter.unusedSimpArgs false
set_option maxRecDepth 100000
set_option maxHeartbeats 4000000
namespace Go.AM
open Go.Proofs
noncomputable def q0kr (α : Type) (N : Nat) : Env α := (q0kp α N).addSum 18 true (funOr 0 q0b5 (fun l K => match l with
    | [.i g_0, .f g_1, .f g_2] => cbb_i_ComponentsOf none N g_0 g_1 g_2 (retK (buildS q0b6 [.i 1]) K) (fun r_0_n_ r_0_l_ r_0_c_ h0_ h1_ => retK (buildS q0b7 [.n r_0_n_, .n r_0_l_, .n r_0_c_, .i 0, .p h0_, .r h1_]) K)
    | _ => none) none)
theorem q0ks {α : Type} (N : Nat) : EnvOk Try.prog (q0kr α N) := (q0kq N).override (F := (fun l K => match l with
    | [.i g_0, .f g_1, .f g_2] => q02r none N g_0 g_1 g_2 (fun r_1_ => retK (buildS q0b6 [.i r_1_]) K) (fun r_0_n_ r_0_l_ r_0_c_ r_1_ h0_ h1_ => retK (buildS q0b7 [.n r_0_n_, .n r_0_l_, .n r_0_c_, .i r_1_, .p h0_, .r h1_]) K)
    | _ => none)) (rest := (q0b3 α N).sums 18) (by kernel_rfl) fun l K r he => by
  split at he
  · exact cbb_i_ComponentsOf_mono he
  · cases he
noncomputable def q0kt (α : Type) (N : Nat) : Env α := (q0kr α N).addSum 19 true (funOr 0 q0d3 (fun l K => match l with
    | [.i g_0, .f g_1, .f g_2] => cbb_s_ComponentsOf none N g_0 g_1 g_2 (retK (buildS q0d4 [.i 1]) K)
    | _ => none) none)
theorem q0ku {α : Type} (N : Nat) : EnvOk Try.prog (q0kt α N) := (q0ks N).override (F := (fun l K => match l with
    | [.i g_0, .f g_1, .f g_2] => q02w none N g_0 g_1 g_2 (fun r_1_ => retK (buildS q0d4 [.i r_1_]) K) (fun r_0_n_ r_0_l_ r_0_c_ r_1_ h0_ h1_ => retK (buildS q0d5 [.n r_0_n_, .n r_0_l_, .n r_0_c_, .i r_1_, .p h0_, .r h1_]) K)
    | _ => none)) (rest := (q0d1 α N).sums 19) (by kernel_rfl) fun l K r he => by
  split at he
  · exact cbb_s_ComponentsOf_mono he
  · cases he
noncomputable def q0kv (α : Type) (N : Nat) : Env α := (q0kt α N).addSum 20 true (funOr 0 q0dj (fun l K => match l with
    | [.i g_0, .f g_1, .f g_2] => cbb_i_IsKnot none N g_0 g_1 g_2 (retK (buildS q0dk [.b false, .i 1]) K)
    | _ => none) none)
theorem q0kw {α : Type} (N : Nat) : EnvOk Try.prog (q0kv α N) := (q0ku N).override (F := (fun l K => match l with
    | [.i g_0, .f g_1, .f g_2] => q02m none N g_0 g_1 g_2 (fun r_0_ r_1_ => retK (buildS q0dk [.b r_0_, .i r_1_]) K)
    | _ => none)) (rest := (q0dh α N).sums 20) (by kernel_rfl) fun l K r he => by
  split at he
  · exact cbb_i_IsKnot_mono he
  · cases he
noncomputable def q0kx (α : Type) (N : Nat) : Env α := (q0kv α N).addSum 21 true (funOr 0 q0do (fun l K => match l with
    | [.i g_0, .f g_1, .f g_2] => cbb_s_IsKnot none N g_0 g_1 g_2 (retK (buildS q0dp [.b false, .i 1]) K)
    | _ => none) none)
theorem q0ky {α : Type} (N : Nat) : EnvOk Try.prog (q0kx α N) := (q0kw N).override (F := (fun l K => match l with
    | [.i g_0, .f g_1, .f g_2] => q02x none N g_0 g_1 g_2 (fun r_0_ r_1_ => retK (buildS q0dp [.b r_0_, .i r_1_]) K)
    | _ => none)) (rest := (q0dm α N).sums 21) (by kernel_rfl) fun l K r he => by
  split at he
  · exact cbb_s_IsKnot_mono he
  · cases he
noncomputable def q0kz (α : Type) (N : Nat) : Env α := (q0kx α N).addSum 26 true (funOr 0 q0f9 (fun l K => match l with
    | [.i g_0, .f g_1, .f g_2, .i v, .i u] => cbb_i_ShiftGrid none N g_0 g_1 g_2 v u (fun ka_ => retK (buildS q0fa [.i 0, .f (fun (x : Nat) => (0 : Int)), .f (fun (x : Nat) => (0 : Int)), .i (Int.ofNat (Nat.succ ka_))]) K)
    | _ => none) none)
theorem q0l0 {α : Type} (N : Nat) : EnvOk Try.prog (q0kz α N) := (q0ky N).override (F := (fun l K => match l with
    | [.i g_0, .f g_1, .f g_2, .i v, .i u] => q00t none N g_0 g_1 g_2 v u (fun r_0_0_ r_0_1_ r_0_2_ r_1_ => retK (buildS q0fa [.i r_0_0_, .f r_0_1_, .f r_0_2_, .i r_1_]) K)
    | _ => none)) (rest := (q0f7 α N).sums 26) (by kernel_rfl) fun l K r he => by
  split at he
  · exact cbb_i_ShiftGrid_mono he
  · cases he
noncomputable def q0l1 (α : Type) (N : Nat) : Env α := (q0kz α N).addSum 29 true (funOr 0 q0fw (fun l K => match l with
    | [.i g_0, .f g_1, .f g_2, .i a1_0, .f a1_1, .f a1_2] => cbb_i_UnionOf none N g_0 g_1 g_2 a1_0 a1_1 a1_2 (fun ka_ => retK (buildS q0fx [.i 0, .f (fun (x : Nat) => (0 : Int)), .f (fun (x : Nat) => (0 : Int)), .i (Int.ofNat (Nat.succ ka_))]) K) (fun r_0_0_ r_0_1_ r_0_2_ => retK (buildS q0fx [.i r_0_0_, .f r_0_1_, .f r_0_2_, .i 0]) K)
    | _ => none) none)
theorem q0l2 {α : Type} (N : Nat) : EnvOk Try.prog (q0l1 α N) := (q0l0 N).override (F := (fun l K => match l with
    | [.i g_0, .f g_1, .f g_2, .i a1_0, .f a1_1, .f a1_2] => q035 none N g_0 g_1 g_2 a1_0 a1_1 a1_2 (fun r_0_0_ r_0_1_ r_0_2_ r_1_ => retK (buildS q0fx [.i r_0_0_, .f r_0_1_, .f r_0_2_, .i r_1_]) K)
    | _ => none)) (rest := (q0fu α N).sums 29) (by kernel_rfl) fun l K r he => by
  split at he
  · exact cbb_i_UnionOf_mono he
  · cases he
noncomputable def q0l3 (α : Type) (N : Nat) : Env α := (q0l1 α N).addSum 32 true (funOr 0 q0h1 (fun l K => match l with
    | [.i p, .i q] => cbb_i_TorusGrid none N p q (retK (buildS q0h2 [.i 0, .f (fun (x : Nat) => (0 : Int)), .f (fun (x : Nat) => (0 : Int)), .i 2]) K) (fun r_0_0_ r_0_1_ r_0_2_ => retK (buildS q0h2 [.i r_0_0_, .f r_0_1_, .f r_0_2_, .i 0]) K)
    | _ => none) none)
theorem q0l4 {α : Type} (N : Nat) : EnvOk Try.prog (q0l3 α N) := (q0l2 N).override (F := (fun l K => match l with
    | [.i p, .i q] => q03b none N p q (fun r_0_0_ r_0_1_ r_0_2_ r_1_ => retK (buildS q0h2 [.i r_0_0_, .f r_0_1_, .f r_0_2_, .i r_1_]) K)
    | _ => none)) (rest := (q0gz α N).sums 32) (by kernel_rfl) fun l K r he => by
  split at he
  · exact cbb_i_TorusGrid_mono he
  · cases he
noncomputable def q0l5 (α : Type) (N : Nat) : Env α := (q0l3 α N).addSum 27 true (funOr 0 q0fe (fun l K => match l with
    | [.i g_0, .f g_1, .f g_2, .i v, .i u] => cbb_s_ShiftGrid none N g_0 g_1 g_2 v u (fun ka_ => retK (buildS q0ff [.i 0, .f (fun (x : Nat) => (0 : Int)), .f (fun (x : Nat) => (0 : Int)), .i (Int.ofNat (Nat.succ ka_))]) K)
    | _ => none) none)
theorem q0l6 {α : Type} (N : Nat) : EnvOk Try.prog (q0l5 α N) := (q0l4 N).override (F := (fun l K => match l with
    | [.i g_0, .f g_1, .f g_2, .i v, .i u] => q00l none N g_0 g_1 g_2 v u (fun r_0_0_ r_0_1_ r_0_2_ r_1_ => retK (buildS q0ff [.i r_0_0_, .f r_0_1_, .f r_0_2_, .i r_1_]) K)
    | _ => none)) (rest := (q0fc α N).sums 27) (by kernel_rfl) fun l K r he => by
  split at he
  · exact cbb_s_ShiftGrid_mono he
  · cases he
noncomputable def q0l7 (α : Type) (N : Nat) : Env α := (q0l5 α N).addSum 30 true (funOr 0 q0g9 (fun l K => match l with
    | [.i g_0, .f g_1, .f g_2, .i h_0, .f h_1, .f h_2] => cbb_s_UnionOf none N g_0 g_1 g_2 h_0 h_1 h_2 (fun ka_ => retK (buildS q0ga [.i 0, .f (fun (x : Nat) => (0 : Int)), .f (fun (x : Nat) => (0 : Int)), .i (Int.ofNat (Nat.succ ka_))]) K) (fun r_0_0_ r_0_1_ r_0_2_ => retK (buildS q0ga [.i r_0_0_, .f r_0_1_, .f r_0_2_, .i 0]) K)
    | _ => none) none)
theorem q0l8 {α : Type} (N : Nat) : EnvOk Try.prog (q0l7 α N) := (q0l6 N).override (F := (fun l K => match l with
    | [.i g_0, .f g_1, .f g_2, .i h_0, .f h_1, .f h_2] => q032 none N g_0 g_1 g_2 h_0 h_1 h_2 (fun r_0_0_ r_0_1_ r_0_2_ r_1_ => retK (buildS q0ga [.i r_0_0_, .f r_0_1_, .f r_0_2_, .i r_1_]) K)
    | _ => none)) (rest := (q0g7 α N).sums 30) (by kernel_rfl) fun l K r he => by
  split at he
  · exact cbb_s_UnionOf_mono he
  · cases he
noncomputable def q0l9 (α : Type) (N : Nat) : Env α := (q0l7 α N).addSum 33 true (funOr 0 q0he (fun l K => match l with
    | [.i p, .i q] => cbb_s_TorusGrid none N p q (retK (buildS q0hf [.i 0, .f (fun (x : Nat) => (0 : Int)), .f (fun (x : Nat) => (0 : Int)), .i 2]) K) (fun r_0_0_ r_0_1_ r_0_2_ => retK (buildS q0hf [.i r_0_0_, .f r_0_1_, .f r_0_2_, .i 0]) K)
    | _ => none) none)
theorem q0la {α : Type} (N : Nat) : EnvOk Try.prog (q0l9 α N) := (q0l8 N).override (F := (fun l K => match l with
    | [.i p, .i q] => q038 none N p q (fun r_0_0_ r_0_1_ r_0_2_ r_1_ => retK (buildS q0hf [.i r_0_0_, .f r_0_1_, .f r_0_2_, .i r_1_]) K)
    | _ => none)) (rest := (q0hc α N).sums 33) (by kernel_rfl) fun l K r he => by
  split at he
  · exact cbb_s_TorusGrid_mono he
  · cases he
def q0lb : SPat := ⟨[.sliceV 0 0 0 1 false] ++ List.replicate 387 .undef, [[.intsV .u8]]⟩
def q0lc : SPat := ⟨[.undef, .undef, .bool] ++ List.replicate 385 .undef, [[.intsV .u8]]⟩
theorem q0ld {α : Type} (N code_n code_l code_c h0_n : Nat) (h0 : NI) (K : St -> Option α) :
    tailK Try.prog (q0l9 α N) 1 1 4 Try.f4 51 1 [2] (buildS q0lb [.n code_n, .n code_l, .n code_c, .n h0_n, .f h0]) K = cbb_w_FnComponents_c51 none N code_n code_l code_c h0_n h0 (fun r2_ => K (buildS q0lc [.b r2_, .n h0_n, .f h0])) := by kernel_rfl
noncomputable def q0le (α : Type) (N : Nat) : Env α := (q0l9 α N).addLoop 4 1000051 (cutSum 1 [0] 1 q0lb (fun l K => match l with
    | [.n code_n, .n code_l, .n code_c, .n h0_n, .f h0] => cbb_w_FnComponents_c51 none N code_n code_l code_c h0_n h0 (fun r2_ => K (buildS q0lc [.b r2_, .n h0_n, .f h0]))
    | _ => none))
theorem q0lf {α : Type} (N : Nat) : EnvOk Try.prog (q0le α N) := (q0la N).addCut q03v q03w Try.func4 (by kernel_rfl) (by kernel_rfl) (ret := [2]) (d := 1) fun l K r h => by
  split at h
  · exact (q0ld N _ _ _ _ _ K).trans h
  · cases h
def q0lg : SPat := ⟨[.sliceV 0 0 0 1 false] ++ List.replicate 387 .undef, [[.intsV .u8]]⟩
def q0lh : SPat := ⟨[.undef, .undef, .bool] ++ List.replicate 385 .undef, [[.intsV .u8]]⟩
theorem q0li {α : Type} (N code_n code_l code_c h0_n : Nat) (h0 : NI) (K : St -> Option α) :
    tailK Try.prog (q0le α N) 1 1 4 Try.f4 40 1 [2] (buildS q0lg [.n code_n, .n code_l, .n code_c, .n h0_n, .f h0]) K = cbb_w_FnComponents_c40 none N code_n code_l code_c h0_n h0 (fun r2_ => K (buildS q0lh [.b r2_, .n h0_n, .f h0])) := by kernel_rfl
noncomputable def q0lj (α : Type) (N : Nat) : Env α := (q0le α N).addLoop 4 1000040 (cutSum 1 [0] 1 q0lg (fun l K => match l with
    | [.n code_n, .n code_l, .n code_c, .n h0_n, .f h0] => cbb_w_FnComponents_c40 none N code_n code_l code_c h0_n h0 (fun r2_ => K (buildS q0lh [.b r2_, .n h0_n, .f h0]))
    | _ => none))
theorem q0lk {α : Type} (N : Nat) : EnvOk Try.prog (q0lj α N) := (q0lf N).addCut q03v q03w Try.func4 (by kernel_rfl) (by kernel_rfl) (ret := [2]) (d := 1) fun l K r h => by
  split at h
  · exact (q0li N _ _ _ _ _ K).trans h
  · cases h
def q0ll : SPat := ⟨[.sliceV 0 0 0 1 false] ++ List.replicate 387 .undef, [[.intsV .u8]]⟩
def q0lm : SPat := ⟨[.undef, .undef, .bool] ++ List.replicate 385 .undef, [[.intsV .u8]]⟩
theorem q0ln {α : Type} (N code_n code_l code_c h0_n : Nat) (h0 : NI) (K : St -> Option α) :
    tailK Try.prog (q0lj α N) 1 1 4 Try.f4 29 1 [2] (buildS q0ll [.n code_n, .n code_l, .n code_c, .n h0_n, .f h0]) K = cbb_w_FnComponents_c29 none N code_n code_l code_c h0_n h0 (fun r2_ => K (buildS q0lm [.b r2_, .n h0_n, .f h0])) := by kernel_rfl
noncomputable def q0lo (α : Type) (N : Nat) : Env α := (q0lj α N).addLoop 4 1000029 (cutSum 1 [0] 1 q0ll (fun l K => match l with
    | [.n code_n, .n code_l, .n code_c, .n h0_n, .f h0] => cbb_w_FnComponents_c29 none N code_n code_l code_c h0_n h0 (fun r2_ => K (buildS q0lm [.b r2_, .n h0_n, .f h0]))
    | _ => none))
theorem q0lp {α : Type} (N : Nat) : EnvOk Try.prog (q0lo α N) := (q0lk N).addCut q03v q03w Try.func4 (by kernel_rfl) (by kernel_rfl) (ret := [2]) (d := 1) fun l K r h => by
  split at h
  · exact (q0ln N _ _ _ _ _ K).trans h
  · cases h
def q0lq : SPat := ⟨[.sliceV 0 0 0 1 false], [[.intsV .u8]]⟩
def q0lr : SPat := ⟨[.bool], [[.intsV .u8]]⟩
theorem q0ls {α : Type} (N code_n code_l code_c h0_n : Nat) (h0 : NI) (K : AV -> Heap -> Option α) :
    callK Try.prog (q0lo α N) 1 4 1 (buildS q0lq [.n code_n, .n code_l, .n code_c, .n h0_n, .f h0]).t (buildS q0lq [.n code_n, .n code_l, .n code_c, .n h0_n, .f h0]).h K = cbb_w_FnComponents none N code_n code_l code_c h0_n h0 (fun r__ => retK (buildS q0lr [.b r__, .n h0_n, .f h0]) K) := by kernel_rfl
end Go.AM
