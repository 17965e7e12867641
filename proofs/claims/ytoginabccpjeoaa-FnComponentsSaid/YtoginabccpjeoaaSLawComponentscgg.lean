/- A part of a proof about the given program: an abstract machine, what the given functions come to, and plain laws. -/
import Derived.Test.YtoginabccpjeoaaSLawComponentsA2
import Derived.Test.YtoginabccpjeoaaPallLawComponents2
set_option linter.unusedVariables false
set_option linter.unusedSimpArgs false
set_option maxRecDepth 100000
set_option maxHeartbeats 4000000
namespace Go.AM
open Go.Proofs
noncomputable def q0lt (α : Type) (N : Nat) : Env α := (q0kp α N).addSum 18 true (funOr 0 q0b5 (fun l K => match l with
    | [.i g_0, .f g_1, .f g_2] => cgg_i_ComponentsOf none N g_0 g_1 g_2 (fun r_0_n_ r_0_l_ r_0_c_ h0_ h1_ => retK (buildS q0b7 [.n r_0_n_, .n r_0_l_, .n r_0_c_, .i 0, .p h0_, .r h1_]) K)
    | _ => none) none)
theorem q0lu {α : Type} (N : Nat) : EnvOk Try.prog (q0lt α N) := (q0kq N).override (F := (fun l K => match l with
    | [.i g_0, .f g_1, .f g_2] => q02r none N g_0 g_1 g_2 (fun r_1_ => retK (buildS q0b6 [.i r_1_]) K) (fun r_0_n_ r_0_l_ r_0_c_ r_1_ h0_ h1_ => retK (buildS q0b7 [.n r_0_n_, .n r_0_l_, .n r_0_c_, .i r_1_, .p h0_, .r h1_]) K)
    | _ => none)) (rest := (q0b3 α N).sums 18) (by kernel_rfl) fun l K r he => by
  split at he
  · exact cgg_i_ComponentsOf_mono he
  · cases he
noncomputable def q0lv (α : Type) (N : Nat) : Env α := (q0lt α N).addSum 19 true (funOr 0 q0d3 (fun l K => match l with
    | [.i g_0, .f g_1, .f g_2] => cgg_s_ComponentsOf none N g_0 g_1 g_2 (fun r_0_n_ r_0_l_ r_0_c_ h0_ h1_ => retK (buildS q0d5 [.n r_0_n_, .n r_0_l_, .n r_0_c_, .i 0, .p h0_, .r h1_]) K)
    | _ => none) none)
theorem q0lw {α : Type} (N : Nat) : EnvOk Try.prog (q0lv α N) := (q0lu N).override (F := (fun l K => match l with
    | [.i g_0, .f g_1, .f g_2] => q02w none N g_0 g_1 g_2 (fun r_1_ => retK (buildS q0d4 [.i r_1_]) K) (fun r_0_n_ r_0_l_ r_0_c_ r_1_ h0_ h1_ => retK (buildS q0d5 [.n r_0_n_, .n r_0_l_, .n r_0_c_, .i r_1_, .p h0_, .r h1_]) K)
    | _ => none)) (rest := (q0d1 α N).sums 19) (by kernel_rfl) fun l K r he => by
  split at he
  · exact cgg_s_ComponentsOf_mono he
  · cases he
noncomputable def q0lx (α : Type) (N : Nat) : Env α := (q0lv α N).addSum 20 true (funOr 0 q0dj (fun l K => match l with
    | [.i g_0, .f g_1, .f g_2] => cgg_i_IsKnot none N g_0 g_1 g_2 (fun r_0_ => retK (buildS q0dk [.b r_0_, .i 0]) K)
    | _ => none) none)
theorem q0ly {α : Type} (N : Nat) : EnvOk Try.prog (q0lx α N) := (q0lw N).override (F := (fun l K => match l with
    | [.i g_0, .f g_1, .f g_2] => q02m none N g_0 g_1 g_2 (fun r_0_ r_1_ => retK (buildS q0dk [.b r_0_, .i r_1_]) K)
    | _ => none)) (rest := (q0dh α N).sums 20) (by kernel_rfl) fun l K r he => by
  split at he
  · exact cgg_i_IsKnot_mono he
  · cases he
noncomputable def q0lz (α : Type) (N : Nat) : Env α := (q0lx α N).addSum 21 true (funOr 0 q0do (fun l K => match l with
    | [.i g_0, .f g_1, .f g_2] => cgg_s_IsKnot none N g_0 g_1 g_2 (fun r_0_ => retK (buildS q0dp [.b r_0_, .i 0]) K)
    | _ => none) none)
theorem q0m0 {α : Type} (N : Nat) : EnvOk Try.prog (q0lz α N) := (q0ly N).override (F := (fun l K => match l with
    | [.i g_0, .f g_1, .f g_2] => q02x none N g_0 g_1 g_2 (fun r_0_ r_1_ => retK (buildS q0dp [.b r_0_, .i r_1_]) K)
    | _ => none)) (rest := (q0dm α N).sums 21) (by kernel_rfl) fun l K r he => by
  split at he
  · exact cgg_s_IsKnot_mono he
  · cases he
noncomputable def q0m1 (α : Type) (N : Nat) : Env α := (q0lz α N).addSum 23 true (funOr 0 q0jp (fun l K => match l with
    | [.i g_0, .f g_1, .f g_2] => cgg_i_QuarterTurn none N g_0 g_1 g_2 (fun r_0_0_ r_0_1_ r_0_2_ => retK (buildS q0jq [.i r_0_0_, .f r_0_1_, .f r_0_2_, .i 0]) K)
    | _ => none) none)
theorem q0m2 {α : Type} (N : Nat) : EnvOk Try.prog (q0m1 α N) := (q0m0 N).override (F := (fun l K => match l with
    | [.i g_0, .f g_1, .f g_2] => q02z none N g_0 g_1 g_2 (fun r_0_0_ r_0_1_ r_0_2_ r_1_ => retK (buildS q0jq [.i r_0_0_, .f r_0_1_, .f r_0_2_, .i r_1_]) K)
    | _ => none)) (rest := (q0jn α N).sums 23) (by kernel_rfl) fun l K r he => by
  split at he
  · exact cgg_i_QuarterTurn_mono he
  · cases he
noncomputable def q0m3 (α : Type) (N : Nat) : Env α := (q0m1 α N).addSum 24 true (funOr 0 q0k4 (fun l K => match l with
    | [.i g_0, .f g_1, .f g_2] => cgg_i_ExchangeOf none N g_0 g_1 g_2 (fun r_0_0_ r_0_1_ r_0_2_ => retK (buildS q0k5 [.i r_0_0_, .f r_0_1_, .f r_0_2_, .i 0]) K)
    | _ => none) none)
theorem q0m4 {α : Type} (N : Nat) : EnvOk Try.prog (q0m3 α N) := (q0m2 N).override (F := (fun l K => match l with
    | [.i g_0, .f g_1, .f g_2] => q02k none N g_0 g_1 g_2 (fun r_0_0_ r_0_1_ r_0_2_ r_1_ => retK (buildS q0k5 [.i r_0_0_, .f r_0_1_, .f r_0_2_, .i r_1_]) K)
    | _ => none)) (rest := (q0k2 α N).sums 24) (by kernel_rfl) fun l K r he => by
  split at he
  · exact cgg_i_ExchangeOf_mono he
  · cases he
noncomputable def q0m5 (α : Type) (N : Nat) : Env α := (q0m3 α N).addSum 26 true (funOr 0 q0f9 (fun l K => match l with
    | [.i g_0, .f g_1, .f g_2, .i v, .i u] => cgg_i_ShiftGrid none N g_0 g_1 g_2 v u (fun r_0_0_ r_0_1_ r_0_2_ => retK (buildS q0fa [.i r_0_0_, .f r_0_1_, .f r_0_2_, .i 0]) K)
    | _ => none) none)
theorem q0m6 {α : Type} (N : Nat) : EnvOk Try.prog (q0m5 α N) := (q0m4 N).override (F := (fun l K => match l with
    | [.i g_0, .f g_1, .f g_2, .i v, .i u] => q00t none N g_0 g_1 g_2 v u (fun r_0_0_ r_0_1_ r_0_2_ r_1_ => retK (buildS q0fa [.i r_0_0_, .f r_0_1_, .f r_0_2_, .i r_1_]) K)
    | _ => none)) (rest := (q0f7 α N).sums 26) (by kernel_rfl) fun l K r he => by
  split at he
  · exact cgg_i_ShiftGrid_mono he
  · cases he
noncomputable def q0m7 (α : Type) (N : Nat) : Env α := (q0m5 α N).addSum 29 true (funOr 0 q0fw (fun l K => match l with
    | [.i g_0, .f g_1, .f g_2, .i a1_0, .f a1_1, .f a1_2] => cgg_i_UnionOf none N g_0 g_1 g_2 a1_0 a1_1 a1_2 (fun ka_ => retK (buildS q0fx [.i 0, .f (fun (x : Nat) => (0 : Int)), .f (fun (x : Nat) => (0 : Int)), .i (Int.ofNat (Nat.succ ka_))]) K) (fun r_0_0_ r_0_1_ r_0_2_ => retK (buildS q0fx [.i r_0_0_, .f r_0_1_, .f r_0_2_, .i 0]) K)
    | _ => none) none)
theorem q0m8 {α : Type} (N : Nat) : EnvOk Try.prog (q0m7 α N) := (q0m6 N).override (F := (fun l K => match l with
    | [.i g_0, .f g_1, .f g_2, .i a1_0, .f a1_1, .f a1_2] => q035 none N g_0 g_1 g_2 a1_0 a1_1 a1_2 (fun r_0_0_ r_0_1_ r_0_2_ r_1_ => retK (buildS q0fx [.i r_0_0_, .f r_0_1_, .f r_0_2_, .i r_1_]) K)
    | _ => none)) (rest := (q0fu α N).sums 29) (by kernel_rfl) fun l K r he => by
  split at he
  · exact cgg_i_UnionOf_mono he
  · cases he
noncomputable def q0m9 (α : Type) (N : Nat) : Env α := (q0m7 α N).addSum 32 true (funOr 0 q0h1 (fun l K => match l with
    | [.i p, .i q] => cgg_i_TorusGrid none N p q (retK (buildS q0h2 [.i 0, .f (fun (x : Nat) => (0 : Int)), .f (fun (x : Nat) => (0 : Int)), .i 2]) K) (fun r_0_0_ r_0_1_ r_0_2_ => retK (buildS q0h2 [.i r_0_0_, .f r_0_1_, .f r_0_2_, .i 0]) K)
    | _ => none) none)
theorem q0ma {α : Type} (N : Nat) : EnvOk Try.prog (q0m9 α N) := (q0m8 N).override (F := (fun l K => match l with
    | [.i p, .i q] => q03b none N p q (fun r_0_0_ r_0_1_ r_0_2_ r_1_ => retK (buildS q0h2 [.i r_0_0_, .f r_0_1_, .f r_0_2_, .i r_1_]) K)
    | _ => none)) (rest := (q0gz α N).sums 32) (by kernel_rfl) fun l K r he => by
  split at he
  · exact cgg_i_TorusGrid_mono he
  · cases he
noncomputable def q0mb (α : Type) (N : Nat) : Env α := (q0m9 α N).addSum 27 true (funOr 0 q0fe (fun l K => match l with
    | [.i g_0, .f g_1, .f g_2, .i v, .i u] => cgg_s_ShiftGrid none N g_0 g_1 g_2 v u (fun r_0_0_ r_0_1_ r_0_2_ => retK (buildS q0ff [.i r_0_0_, .f r_0_1_, .f r_0_2_, .i 0]) K)
    | _ => none) none)
theorem q0mc {α : Type} (N : Nat) : EnvOk Try.prog (q0mb α N) := (q0ma N).override (F := (fun l K => match l with
    | [.i g_0, .f g_1, .f g_2, .i v, .i u] => q00l none N g_0 g_1 g_2 v u (fun r_0_0_ r_0_1_ r_0_2_ r_1_ => retK (buildS q0ff [.i r_0_0_, .f r_0_1_, .f r_0_2_, .i r_1_]) K)
    | _ => none)) (rest := (q0fc α N).sums 27) (by kernel_rfl) fun l K r he => by
  split at he
  · exact cgg_s_ShiftGrid_mono he
  · cases he
noncomputable def q0md (α : Type) (N : Nat) : Env α := (q0mb α N).addSum 30 true (funOr 0 q0g9 (fun l K => match l with
    | [.i g_0, .f g_1, .f g_2, .i h_0, .f h_1, .f h_2] => cgg_s_UnionOf none N g_0 g_1 g_2 h_0 h_1 h_2 (fun ka_ => retK (buildS q0ga [.i 0, .f (fun (x : Nat) => (0 : Int)), .f (fun (x : Nat) => (0 : Int)), .i (Int.ofNat (Nat.succ ka_))]) K) (fun r_0_0_ r_0_1_ r_0_2_ => retK (buildS q0ga [.i r_0_0_, .f r_0_1_, .f r_0_2_, .i 0]) K)
    | _ => none) none)
theorem q0me {α : Type} (N : Nat) : EnvOk Try.prog (q0md α N) := (q0mc N).override (F := (fun l K => match l with
    | [.i g_0, .f g_1, .f g_2, .i h_0, .f h_1, .f h_2] => q032 none N g_0 g_1 g_2 h_0 h_1 h_2 (fun r_0_0_ r_0_1_ r_0_2_ r_1_ => retK (buildS q0ga [.i r_0_0_, .f r_0_1_, .f r_0_2_, .i r_1_]) K)
    | _ => none)) (rest := (q0g7 α N).sums 30) (by kernel_rfl) fun l K r he => by
  split at he
  · exact cgg_s_UnionOf_mono he
  · cases he
noncomputable def q0mf (α : Type) (N : Nat) : Env α := (q0md α N).addSum 33 true (funOr 0 q0he (fun l K => match l with
    | [.i p, .i q] => cgg_s_TorusGrid none N p q (retK (buildS q0hf [.i 0, .f (fun (x : Nat) => (0 : Int)), .f (fun (x : Nat) => (0 : Int)), .i 2]) K) (fun r_0_0_ r_0_1_ r_0_2_ => retK (buildS q0hf [.i r_0_0_, .f r_0_1_, .f r_0_2_, .i 0]) K)
    | _ => none) none)
theorem q0mg {α : Type} (N : Nat) : EnvOk Try.prog (q0mf α N) := (q0me N).override (F := (fun l K => match l with
    | [.i p, .i q] => q038 none N p q (fun r_0_0_ r_0_1_ r_0_2_ r_1_ => retK (buildS q0hf [.i r_0_0_, .f r_0_1_, .f r_0_2_, .i r_1_]) K)
    | _ => none)) (rest := (q0hc α N).sums 33) (by kernel_rfl) fun l K r he => by
  split at he
  · exact cgg_s_TorusGrid_mono he
  · cases he
def q0mh : SPat := ⟨[.sliceV 0 0 0 1 false] ++ List.replicate 387 .undef, [[.intsV .u8]]⟩
def q0mi : SPat := ⟨[.undef, .undef, .bool] ++ List.replicate 385 .undef, [[.intsV .u8]]⟩
theorem q0mj {α : Type} (N code_n code_l code_c h0_n : Nat) (h0 : NI) (K : St -> Option α) :
    tailK Try.prog (q0mf α N) 1 1 4 Try.f4 51 1 [2] (buildS q0mh [.n code_n, .n code_l, .n code_c, .n h0_n, .f h0]) K = cgg_w_FnComponents_c51 none N code_n code_l code_c h0_n h0 (fun r2_ => K (buildS q0mi [.b r2_, .n h0_n, .f h0])) := by kernel_rfl
noncomputable def q0mk (α : Type) (N : Nat) : Env α := (q0mf α N).addLoop 4 1000051 (cutSum 1 [0] 1 q0mh (fun l K => match l with
    | [.n code_n, .n code_l, .n code_c, .n h0_n, .f h0] => cgg_w_FnComponents_c51 none N code_n code_l code_c h0_n h0 (fun r2_ => K (buildS q0mi [.b r2_, .n h0_n, .f h0]))
    | _ => none))
theorem q0ml {α : Type} (N : Nat) : EnvOk Try.prog (q0mk α N) := (q0mg N).addCut q03v q03w Try.func4 (by kernel_rfl) (by kernel_rfl) (ret := [2]) (d := 1) fun l K r h => by
  split at h
  · exact (q0mj N _ _ _ _ _ K).trans h
  · cases h
def q0mm : SPat := ⟨[.sliceV 0 0 0 1 false] ++ List.replicate 387 .undef, [[.intsV .u8]]⟩
def q0mn : SPat := ⟨[.undef, .undef, .bool] ++ List.replicate 385 .undef, [[.intsV .u8]]⟩
theorem q0mo {α : Type} (N code_n code_l code_c h0_n : Nat) (h0 : NI) (K : St -> Option α) :
    tailK Try.prog (q0mk α N) 1 1 4 Try.f4 40 1 [2] (buildS q0mm [.n code_n, .n code_l, .n code_c, .n h0_n, .f h0]) K = cgg_w_FnComponents_c40 none N code_n code_l code_c h0_n h0 (fun r2_ => K (buildS q0mn [.b r2_, .n h0_n, .f h0])) := by kernel_rfl
noncomputable def q0mp (α : Type) (N : Nat) : Env α := (q0mk α N).addLoop 4 1000040 (cutSum 1 [0] 1 q0mm (fun l K => match l with
    | [.n code_n, .n code_l, .n code_c, .n h0_n, .f h0] => cgg_w_FnComponents_c40 none N code_n code_l code_c h0_n h0 (fun r2_ => K (buildS q0mn [.b r2_, .n h0_n, .f h0]))
    | _ => none))
theorem q0mq {α : Type} (N : Nat) : EnvOk Try.prog (q0mp α N) := (q0ml N).addCut q03v q03w Try.func4 (by kernel_rfl) (by kernel_rfl) (ret := [2]) (d := 1) fun l K r h => by
  split at h
  · exact (q0mo N _ _ _ _ _ K).trans h
  · cases h
def q0mr : SPat := ⟨[.sliceV 0 0 0 1 false] ++ List.replicate 387 .undef, [[.intsV .u8]]⟩
def q0ms : SPat := ⟨[.undef, .undef, .bool] ++ List.replicate 385 .undef, [[.intsV .u8]]⟩
theorem q0mt {α : Type} (N code_n code_l code_c h0_n : Nat) (h0 : NI) (K : St -> Option α) :
    tailK Try.prog (q0mp α N) 1 1 4 Try.f4 29 1 [2] (buildS q0mr [.n code_n, .n code_l, .n code_c, .n h0_n, .f h0]) K = cgg_w_FnComponents_c29 none N code_n code_l code_c h0_n h0 (fun r2_ => K (buildS q0ms [.b r2_, .n h0_n, .f h0])) := by kernel_rfl
noncomputable def q0mu (α : Type) (N : Nat) : Env α := (q0mp α N).addLoop 4 1000029 (cutSum 1 [0] 1 q0mr (fun l K => match l with
    | [.n code_n, .n code_l, .n code_c, .n h0_n, .f h0] => cgg_w_FnComponents_c29 none N code_n code_l code_c h0_n h0 (fun r2_ => K (buildS q0ms [.b r2_, .n h0_n, .f h0]))
    | _ => none))
theorem q0mv {α : Type} (N : Nat) : EnvOk Try.prog (q0mu α N) := (q0mq N).addCut q03v q03w Try.func4 (by kernel_rfl) (by kernel_rfl) (ret := [2]) (d := 1) fun l K r h => by
  split at h
  · exact (q0mt N _ _ _ _ _ K).trans h
  · cases h
def q0mw : SPat := ⟨[.sliceV 0 0 0 1 false], [[.intsV .u8]]⟩
def q0mx : SPat := ⟨[.bool], [[.intsV .u8]]⟩
theorem q0my {α : Type} (N code_n code_l code_c h0_n : Nat) (h0 : NI) (K : AV -> Heap -> Option α) :
    callK Try.prog (q0mu α N) 1 4 1 (buildS q0mw [.n code_n, .n code_l, .n code_c, .n h0_n, .f h0]).t (buildS q0mw [.n code_n, .n code_l, .n code_c, .n h0_n, .f h0]).h K = cgg_w_FnComponents none N code_n code_l code_c h0_n h0 (fun r__ => retK (buildS q0mx [.b r__, .n h0_n, .f h0]) K) := by kernel_rfl
end Go.AM
