/- A part of a proof about the given program: an abstract machine, what the given functions come to, and plain laws. -/
import Derived.Test.YtoginabccpjeoaaSLawComponentsA2
import Derived.Test.YtoginabccpjeoaaPallLawComponents2
set_option linter.unusedVariables false
set_option linter.unusedSimpArgs false
set_option maxRecDepth 100000
set_option maxHeartbeats 4000000
namespace Go.AM
open Go.Proofs
noncomputable def q0mz (α : Type) (N : Nat) : Env α := (q0kp α N).addSum 18 true (funOr 0 q0b5 (fun l K => match l with
    | [.i g_0, .f g_1, .f g_2] => cbg_i_ComponentsOf none N g_0 g_1 g_2 (retK (buildS q0b6 [.i 1]) K) (fun r_0_n_ r_0_l_ r_0_c_ h0_ h1_ => retK (buildS q0b7 [.n r_0_n_, .n r_0_l_, .n r_0_c_, .i 0, .p h0_, .r h1_]) K)
    | _ => none) none)
theorem q0n0 {α : Type} (N : Nat) : EnvOk Try.prog (q0mz α N) := (q0kq N).override (F := (fun l K => match l with
    | [.i g_0, .f g_1, .f g_2] => q02r none N g_0 g_1 g_2 (fun r_1_ => retK (buildS q0b6 [.i r_1_]) K) (fun r_0_n_ r_0_l_ r_0_c_ r_1_ h0_ h1_ => retK (buildS q0b7 [.n r_0_n_, .n r_0_l_, .n r_0_c_, .i r_1_, .p h0_, .r h1_]) K)
    | _ => none)) (rest := (q0b3 α N).sums 18) (by kernel_rfl) fun l K r he => by
  split at he
  · exact cbg_i_ComponentsOf_mono he
  · cases he
noncomputable def q0n1 (α : Type) (N : Nat) : Env α := (q0mz α N).addSum 19 true (funOr 0 q0d3 (fun l K => match l with
    | [.i g_0, .f g_1, .f g_2] => cbg_s_ComponentsOf none N g_0 g_1 g_2 (retK (buildS q0d4 [.i 1]) K)
    | _ => none) none)
theorem q0n2 {α : Type} (N : Nat) : EnvOk Try.prog (q0n1 α N) := (q0n0 N).override (F := (fun l K => match l with
    | [.i g_0, .f g_1, .f g_2] => q02w none N g_0 g_1 g_2 (fun r_1_ => retK (buildS q0d4 [.i r_1_]) K) (fun r_0_n_ r_0_l_ r_0_c_ r_1_ h0_ h1_ => retK (buildS q0d5 [.n r_0_n_, .n r_0_l_, .n r_0_c_, .i r_1_, .p h0_, .r h1_]) K)
    | _ => none)) (rest := (q0d1 α N).sums 19) (by kernel_rfl) fun l K r he => by
  split at he
  · exact cbg_s_ComponentsOf_mono he
  · cases he
noncomputable def q0n3 (α : Type) (N : Nat) : Env α := (q0n1 α N).addSum 20 true (funOr 0 q0dj (fun l K => match l with
    | [.i g_0, .f g_1, .f g_2] => cbg_i_IsKnot none N g_0 g_1 g_2 (retK (buildS q0dk [.b false, .i 1]) K)
    | _ => none) none)
theorem q0n4 {α : Type} (N : Nat) : EnvOk Try.prog (q0n3 α N) := (q0n2 N).override (F := (fun l K => match l with
    | [.i g_0, .f g_1, .f g_2] => q02m none N g_0 g_1 g_2 (fun r_0_ r_1_ => retK (buildS q0dk [.b r_0_, .i r_1_]) K)
    | _ => none)) (rest := (q0dh α N).sums 20) (by kernel_rfl) fun l K r he => by
  split at he
  · exact cbg_i_IsKnot_mono he
  · cases he
noncomputable def q0n5 (α : Type) (N : Nat) : Env α := (q0n3 α N).addSum 21 true (funOr 0 q0do (fun l K => match l with
    | [.i g_0, .f g_1, .f g_2] => cbg_s_IsKnot none N g_0 g_1 g_2 (retK (buildS q0dp [.b false, .i 1]) K)
    | _ => none) none)
theorem q0n6 {α : Type} (N : Nat) : EnvOk Try.prog (q0n5 α N) := (q0n4 N).override (F := (fun l K => match l with
    | [.i g_0, .f g_1, .f g_2] => q02x none N g_0 g_1 g_2 (fun r_0_ r_1_ => retK (buildS q0dp [.b r_0_, .i r_1_]) K)
    | _ => none)) (rest := (q0dm α N).sums 21) (by kernel_rfl) fun l K r he => by
  split at he
  · exact cbg_s_IsKnot_mono he
  · cases he
noncomputable def q0n7 (α : Type) (N : Nat) : Env α := (q0n5 α N).addSum 26 true (funOr 0 q0f9 (fun l K => match l with
    | [.i g_0, .f g_1, .f g_2, .i v, .i u] => cbg_i_ShiftGrid none N g_0 g_1 g_2 v u (fun r_0_0_ r_0_1_ r_0_2_ => retK (buildS q0fa [.i r_0_0_, .f r_0_1_, .f r_0_2_, .i 0]) K)
    | _ => none) none)
theorem q0n8 {α : Type} (N : Nat) : EnvOk Try.prog (q0n7 α N) := (q0n6 N).override (F := (fun l K => match l with
    | [.i g_0, .f g_1, .f g_2, .i v, .i u] => q00t none N g_0 g_1 g_2 v u (fun r_0_0_ r_0_1_ r_0_2_ r_1_ => retK (buildS q0fa [.i r_0_0_, .f r_0_1_, .f r_0_2_, .i r_1_]) K)
    | _ => none)) (rest := (q0f7 α N).sums 26) (by kernel_rfl) fun l K r he => by
  split at he
  · exact cbg_i_ShiftGrid_mono he
  · cases he
noncomputable def q0n9 (α : Type) (N : Nat) : Env α := (q0n7 α N).addSum 29 true (funOr 0 q0fw (fun l K => match l with
    | [.i g_0, .f g_1, .f g_2, .i a1_0, .f a1_1, .f a1_2] => cbg_i_UnionOf none N g_0 g_1 g_2 a1_0 a1_1 a1_2 (fun ka_ => retK (buildS q0fx [.i 0, .f (fun (x : Nat) => (0 : Int)), .f (fun (x : Nat) => (0 : Int)), .i (Int.ofNat (Nat.succ ka_))]) K) (fun r_0_0_ r_0_1_ r_0_2_ => retK (buildS q0fx [.i r_0_0_, .f r_0_1_, .f r_0_2_, .i 0]) K)
    | _ => none) none)
theorem q0na {α : Type} (N : Nat) : EnvOk Try.prog (q0n9 α N) := (q0n8 N).override (F := (fun l K => match l with
    | [.i g_0, .f g_1, .f g_2, .i a1_0, .f a1_1, .f a1_2] => q035 none N g_0 g_1 g_2 a1_0 a1_1 a1_2 (fun r_0_0_ r_0_1_ r_0_2_ r_1_ => retK (buildS q0fx [.i r_0_0_, .f r_0_1_, .f r_0_2_, .i r_1_]) K)
    | _ => none)) (rest := (q0fu α N).sums 29) (by kernel_rfl) fun l K r he => by
  split at he
  · exact cbg_i_UnionOf_mono he
  · cases he
noncomputable def q0nb (α : Type) (N : Nat) : Env α := (q0n9 α N).addSum 32 true (funOr 0 q0h1 (fun l K => match l with
    | [.i p, .i q] => cbg_i_TorusGrid none N p q (retK (buildS q0h2 [.i 0, .f (fun (x : Nat) => (0 : Int)), .f (fun (x : Nat) => (0 : Int)), .i 2]) K) (fun r_0_0_ r_0_1_ r_0_2_ => retK (buildS q0h2 [.i r_0_0_, .f r_0_1_, .f r_0_2_, .i 0]) K)
    | _ => none) none)
theorem q0nc {α : Type} (N : Nat) : EnvOk Try.prog (q0nb α N) := (q0na N).override (F := (fun l K => match l with
    | [.i p, .i q] => q03b none N p q (fun r_0_0_ r_0_1_ r_0_2_ r_1_ => retK (buildS q0h2 [.i r_0_0_, .f r_0_1_, .f r_0_2_, .i r_1_]) K)
    | _ => none)) (rest := (q0gz α N).sums 32) (by kernel_rfl) fun l K r he => by
  split at he
  · exact cbg_i_TorusGrid_mono he
  · cases he
noncomputable def q0nd (α : Type) (N : Nat) : Env α := (q0nb α N).addSum 27 true (funOr 0 q0fe (fun l K => match l with
    | [.i g_0, .f g_1, .f g_2, .i v, .i u] => cbg_s_ShiftGrid none N g_0 g_1 g_2 v u (fun r_0_0_ r_0_1_ r_0_2_ => retK (buildS q0ff [.i r_0_0_, .f r_0_1_, .f r_0_2_, .i 0]) K)
    | _ => none) none)
theorem q0ne {α : Type} (N : Nat) : EnvOk Try.prog (q0nd α N) := (q0nc N).override (F := (fun l K => match l with
    | [.i g_0, .f g_1, .f g_2, .i v, .i u] => q00l none N g_0 g_1 g_2 v u (fun r_0_0_ r_0_1_ r_0_2_ r_1_ => retK (buildS q0ff [.i r_0_0_, .f r_0_1_, .f r_0_2_, .i r_1_]) K)
    | _ => none)) (rest := (q0fc α N).sums 27) (by kernel_rfl) fun l K r he => by
  split at he
  · exact cbg_s_ShiftGrid_mono he
  · cases he
noncomputable def q0nf (α : Type) (N : Nat) : Env α := (q0nd α N).addSum 30 true (funOr 0 q0g9 (fun l K => match l with
    | [.i g_0, .f g_1, .f g_2, .i h_0, .f h_1, .f h_2] => cbg_s_UnionOf none N g_0 g_1 g_2 h_0 h_1 h_2 (fun ka_ => retK (buildS q0ga [.i 0, .f (fun (x : Nat) => (0 : Int)), .f (fun (x : Nat) => (0 : Int)), .i (Int.ofNat (Nat.succ ka_))]) K) (fun r_0_0_ r_0_1_ r_0_2_ => retK (buildS q0ga [.i r_0_0_, .f r_0_1_, .f r_0_2_, .i 0]) K)
    | _ => none) none)
theorem q0ng {α : Type} (N : Nat) : EnvOk Try.prog (q0nf α N) := (q0ne N).override (F := (fun l K => match l with
    | [.i g_0, .f g_1, .f g_2, .i h_0, .f h_1, .f h_2] => q032 none N g_0 g_1 g_2 h_0 h_1 h_2 (fun r_0_0_ r_0_1_ r_0_2_ r_1_ => retK (buildS q0ga [.i r_0_0_, .f r_0_1_, .f r_0_2_, .i r_1_]) K)
    | _ => none)) (rest := (q0g7 α N).sums 30) (by kernel_rfl) fun l K r he => by
  split at he
  · exact cbg_s_UnionOf_mono he
  · cases he
noncomputable def q0nh (α : Type) (N : Nat) : Env α := (q0nf α N).addSum 33 true (funOr 0 q0he (fun l K => match l with
    | [.i p, .i q] => cbg_s_TorusGrid none N p q (retK (buildS q0hf [.i 0, .f (fun (x : Nat) => (0 : Int)), .f (fun (x : Nat) => (0 : Int)), .i 2]) K) (fun r_0_0_ r_0_1_ r_0_2_ => retK (buildS q0hf [.i r_0_0_, .f r_0_1_, .f r_0_2_, .i 0]) K)
    | _ => none) none)
theorem q0ni {α : Type} (N : Nat) : EnvOk Try.prog (q0nh α N) := (q0ng N).override (F := (fun l K => match l with
    | [.i p, .i q] => q038 none N p q (fun r_0_0_ r_0_1_ r_0_2_ r_1_ => retK (buildS q0hf [.i r_0_0_, .f r_0_1_, .f r_0_2_, .i r_1_]) K)
    | _ => none)) (rest := (q0hc α N).sums 33) (by kernel_rfl) fun l K r he => by
  split at he
  · exact cbg_s_TorusGrid_mono he
  · cases he
def q0nj : SPat := ⟨[.sliceV 0 0 0 1 false] ++ List.replicate 387 .undef, [[.intsV .u8]]⟩
def q0nk : SPat := ⟨[.undef, .undef, .bool] ++ List.replicate 385 .undef, [[.intsV .u8]]⟩
theorem q0nl {α : Type} (N code_n code_l code_c h0_n : Nat) (h0 : NI) (K : St -> Option α) :
    tailK Try.prog (q0nh α N) 1 1 4 Try.f4 51 1 [2] (buildS q0nj [.n code_n, .n code_l, .n code_c, .n h0_n, .f h0]) K = cbg_w_FnComponents_c51 none N code_n code_l code_c h0_n h0 (fun r2_ => K (buildS q0nk [.b r2_, .n h0_n, .f h0])) := by kernel_rfl
noncomputable def q0nm (α : Type) (N : Nat) : Env α := (q0nh α N).addLoop 4 1000051 (cutSum 1 [0] 1 q0nj (fun l K => match l with
    | [.n code_n, .n code_l, .n code_c, .n h0_n, .f h0] => cbg_w_FnComponents_c51 none N code_n code_l code_c h0_n h0 (fun r2_ => K (buildS q0nk [.b r2_, .n h0_n, .f h0]))
    | _ => none))
theorem q0nn {α : Type} (N : Nat) : EnvOk Try.prog (q0nm α N) := (q0ni N).addCut q03v q03w Try.func4 (by kernel_rfl) (by kernel_rfl) (ret := [2]) (d := 1) fun l K r h => by
  split at h
  · exact (q0nl N _ _ _ _ _ K).trans h
  · cases h
def q0no : SPat := ⟨[.sliceV 0 0 0 1 false] ++ List.replicate 387 .undef, [[.intsV .u8]]⟩
def q0np : SPat := ⟨[.undef, .undef, .bool] ++ List.replicate 385 .undef, [[.intsV .u8]]⟩
theorem q0nq {α : Type} (N code_n code_l code_c h0_n : Nat) (h0 : NI) (K : St -> Option α) :
    tailK Try.prog (q0nm α N) 1 1 4 Try.f4 40 1 [2] (buildS q0no [.n code_n, .n code_l, .n code_c, .n h0_n, .f h0]) K = cbg_w_FnComponents_c40 none N code_n code_l code_c h0_n h0 (fun r2_ => K (buildS q0np [.b r2_, .n h0_n, .f h0])) := by kernel_rfl
noncomputable def q0nr (α : Type) (N : Nat) : Env α := (q0nm α N).addLoop 4 1000040 (cutSum 1 [0] 1 q0no (fun l K => match l with
    | [.n code_n, .n code_l, .n code_c, .n h0_n, .f h0] => cbg_w_FnComponents_c40 none N code_n code_l code_c h0_n h0 (fun r2_ => K (buildS q0np [.b r2_, .n h0_n, .f h0]))
    | _ => none))
theorem q0ns {α : Type} (N : Nat) : EnvOk Try.prog (q0nr α N) := (q0nn N).addCut q03v q03w Try.func4 (by kernel_rfl) (by kernel_rfl) (ret := [2]) (d := 1) fun l K r h => by
  split at h
  · exact (q0nq N _ _ _ _ _ K).trans h
  · cases h
def q0nt : SPat := ⟨[.sliceV 0 0 0 1 false] ++ List.replicate 387 .undef, [[.intsV .u8]]⟩
def q0nu : SPat := ⟨[.undef, .undef, .bool] ++ List.replicate 385 .undef, [[.intsV .u8]]⟩
theorem q0nv {α : Type} (N code_n code_l code_c h0_n : Nat) (h0 : NI) (K : St -> Option α) :
    tailK Try.prog (q0nr α N) 1 1 4 Try.f4 29 1 [2] (buildS q0nt [.n code_n, .n code_l, .n code_c, .n h0_n, .f h0]) K = cbg_w_FnComponents_c29 none N code_n code_l code_c h0_n h0 (fun r2_ => K (buildS q0nu [.b r2_, .n h0_n, .f h0])) := by kernel_rfl
noncomputable def q0nw (α : Type) (N : Nat) : Env α := (q0nr α N).addLoop 4 1000029 (cutSum 1 [0] 1 q0nt (fun l K => match l with
    | [.n code_n, .n code_l, .n code_c, .n h0_n, .f h0] => cbg_w_FnComponents_c29 none N code_n code_l code_c h0_n h0 (fun r2_ => K (buildS q0nu [.b r2_, .n h0_n, .f h0]))
    | _ => none))
theorem q0nx {α : Type} (N : Nat) : EnvOk Try.prog (q0nw α N) := (q0ns N).addCut q03v q03w Try.func4 (by kernel_rfl) (by kernel_rfl) (ret := [2]) (d := 1) fun l K r h => by
  split at h
  · exact (q0nv N _ _ _ _ _ K).trans h
  · cases h
def q0ny : SPat := ⟨[.sliceV 0 0 0 1 false], [[.intsV .u8]]⟩
def q0nz : SPat := ⟨[.bool], [[.intsV .u8]]⟩
theorem q0o0 {α : Type} (N code_n code_l code_c h0_n : Nat) (h0 : NI) (K : AV -> Heap -> Option α) :
    callK Try.prog (q0nw α N) 1 4 1 (buildS q0ny [.n code_n, .n code_l, .n code_c, .n h0_n, .f h0]).t (buildS q0ny [.n code_n, .n code_l, .n code_c, .n h0_n, .f h0]).h K = cbg_w_FnComponents none N code_n code_l code_c h0_n h0 (fun r__ => retK (buildS q0nz [.b r__, .n h0_n, .f h0]) K) := by kernel_rfl
end Go.AM
