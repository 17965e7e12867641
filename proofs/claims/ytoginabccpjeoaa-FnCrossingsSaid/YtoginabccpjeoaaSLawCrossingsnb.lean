/- A part of a proof about the given program: an abstract machine, what the given functions come to, and plain laws. -/
import Derived.Test.YtoginabccpjeoaaSLawCrossingsA3
import Derived.Test.YtoginabccpjeoaaPallLawCrossings2
set_option linter.unusedVariables false
set_option linter.unusedSimpArgs false
set_option maxRecDepth 100000
set_option maxHeartbeats 4000000
namespace Go.AM
open Go.Proofs
noncomputable def q0sz (α : Type) (N : Nat) : Env α := (q0sx α N).addSum 60 true (funOr 0 q0fw (fun l K => match l with
    | [.i g_0, .f g_1, .f g_2] => nb_i_CrossingsOf none N g_0 g_1 g_2 (retK (buildS q0fx [.i 1]) K)
    | _ => none) none)
theorem q0t0 {α : Type} (N : Nat) : EnvOk Try.prog (q0sz α N) := (q0sy N).override (F := (fun l K => match l with
    | [.i g_0, .f g_1, .f g_2] => q04d none N g_0 g_1 g_2 (fun r_1_ => retK (buildS q0fx [.i r_1_]) K) (fun r_0_n_ r_0_l_ r_0_c_ r_1_ h0_ => retK (buildS q0fy [.n r_0_n_, .n r_0_l_, .n r_0_c_, .i r_1_, .l h0_]) K)
    | _ => none)) (rest := (q0fu α N).sums 60) (by kernel_rfl) fun l K r he => by
  split at he
  · exact nb_i_CrossingsOf_mono he
  · cases he
noncomputable def q0t1 (α : Type) (N : Nat) : Env α := (q0sz α N).addSum 61 true (funOr 0 q0g2 (fun l K => match l with
    | [.i g_0, .f g_1, .f g_2] => nb_s_CrossingsOf none N g_0 g_1 g_2 (retK (buildS q0g3 [.i 1]) K)
    | _ => none) none)
theorem q0t2 {α : Type} (N : Nat) : EnvOk Try.prog (q0t1 α N) := (q0t0 N).override (F := (fun l K => match l with
    | [.i g_0, .f g_1, .f g_2] => q04e none N g_0 g_1 g_2 (fun r_1_ => retK (buildS q0g3 [.i r_1_]) K) (fun r_0_n_ r_0_l_ r_0_c_ r_1_ h0_ => retK (buildS q0g4 [.n r_0_n_, .n r_0_l_, .n r_0_c_, .i r_1_, .l h0_]) K)
    | _ => none)) (rest := (q0g0 α N).sums 61) (by kernel_rfl) fun l K r he => by
  split at he
  · exact nb_s_CrossingsOf_mono he
  · cases he
noncomputable def q0t3 (α : Type) (N : Nat) : Env α := (q0t1 α N).addSum 56 true (funOr 0 q0gq (fun l K => match l with
    | [.i g_0, .f g_1, .f g_2] => nb_i_WritheOf none N g_0 g_1 g_2 (retK (buildS q0gr [.i 0, .i 1]) K)
    | _ => none) none)
theorem q0t4 {α : Type} (N : Nat) : EnvOk Try.prog (q0t3 α N) := (q0t2 N).override (F := (fun l K => match l with
    | [.i g_0, .f g_1, .f g_2] => q036 none N g_0 g_1 g_2 (fun r_0_ r_1_ => retK (buildS q0gr [.i r_0_, .i r_1_]) K)
    | _ => none)) (rest := (q0go α N).sums 56) (by kernel_rfl) fun l K r he => by
  split at he
  · exact nb_i_WritheOf_mono he
  · cases he
noncomputable def q0t5 (α : Type) (N : Nat) : Env α := (q0t3 α N).addSum 62 true (funOr 0 q0h8 (fun l K => match l with
    | [.i g_0, .f g_1, .f g_2] => nb_s_WritheOf none N g_0 g_1 g_2 (retK (buildS q0h9 [.i 0, .i 1]) K)
    | _ => none) none)
theorem q0t6 {α : Type} (N : Nat) : EnvOk Try.prog (q0t5 α N) := (q0t4 N).override (F := (fun l K => match l with
    | [.i g_0, .f g_1, .f g_2] => q04f none N g_0 g_1 g_2 (fun r_0_ r_1_ => retK (buildS q0h9 [.i r_0_, .i r_1_]) K)
    | _ => none)) (rest := (q0h6 α N).sums 62) (by kernel_rfl) fun l K r he => by
  split at he
  · exact nb_s_WritheOf_mono he
  · cases he
noncomputable def q0t7 (α : Type) (N : Nat) : Env α := (q0t5 α N).addSum 63 true (funOr 0 q0jd (fun l K => match l with
    | [.i g_0, .f g_1, .f g_2] => nb_i_LinkingTable none N g_0 g_1 g_2 (retK (buildS q0je [.i 1]) K)
    | _ => none) none)
theorem q0t8 {α : Type} (N : Nat) : EnvOk Try.prog (q0t7 α N) := (q0t6 N).override (F := (fun l K => match l with
    | [.i g_0, .f g_1, .f g_2] => q04h none N g_0 g_1 g_2 (fun r_1_ => retK (buildS q0je [.i r_1_]) K) (fun r_0_n_ r_0_l_ r_0_c_ r_1_ h0_ h1_ => retK (buildS q0jf [.n r_0_n_, .n r_0_l_, .n r_0_c_, .i r_1_, .p h0_, .r h1_]) K)
    | _ => none)) (rest := (q0jb α N).sums 63) (by kernel_rfl) fun l K r he => by
  split at he
  · exact nb_i_LinkingTable_mono he
  · cases he
noncomputable def q0t9 (α : Type) (N : Nat) : Env α := (q0t7 α N).addSum 64 true (funOr 0 q0k7 (fun l K => match l with
    | [.i g_0, .f g_1, .f g_2] => nb_s_LinkingTable none N g_0 g_1 g_2 (retK (buildS q0k8 [.i 1]) K)
    | _ => none) none)
theorem q0ta {α : Type} (N : Nat) : EnvOk Try.prog (q0t9 α N) := (q0t8 N).override (F := (fun l K => match l with
    | [.i g_0, .f g_1, .f g_2] => q01u none N g_0 g_1 g_2 (fun r_1_ => retK (buildS q0k8 [.i r_1_]) K) (fun r_0_n_ r_0_l_ r_0_c_ r_1_ h0_ h1_ => retK (buildS q0k9 [.n r_0_n_, .n r_0_l_, .n r_0_c_, .i r_1_, .p h0_, .r h1_]) K)
    | _ => none)) (rest := (q0k5 α N).sums 64) (by kernel_rfl) fun l K r he => by
  split at he
  · exact nb_s_LinkingTable_mono he
  · cases he
noncomputable def q0tb (α : Type) (N : Nat) : Env α := (q0t9 α N).addSum 65 true (funOr 0 q0bz (fun l K => match l with
    | [.i g_0, .f g_1, .f g_2] => nb_i_GaussCodes none N g_0 g_1 g_2 (retK (buildS q0c0 [.i 1]) K)
    | _ => none) none)
theorem q0tc {α : Type} (N : Nat) : EnvOk Try.prog (q0tb α N) := (q0ta N).override (F := (fun l K => match l with
    | [.i g_0, .f g_1, .f g_2] => q048 none N g_0 g_1 g_2 (fun r_1_ => retK (buildS q0c0 [.i r_1_]) K) (fun r_0_n_ r_0_l_ r_0_c_ r_1_ h0_ h1_ => retK (buildS q0c1 [.n r_0_n_, .n r_0_l_, .n r_0_c_, .i r_1_, .p h0_, .r h1_]) K)
    | _ => none)) (rest := (q0bx α N).sums 65) (by kernel_rfl) fun l K r he => by
  split at he
  · exact nb_i_GaussCodes_mono he
  · cases he
noncomputable def q0td (α : Type) (N : Nat) : Env α := (q0tb α N).addSum 66 true (funOr 0 q0mu (fun l K => match l with
    | [.i g_0, .f g_1, .f g_2] => nb_s_GaussCodes none N g_0 g_1 g_2 (retK (buildS q0mv [.i 1]) K)
    | _ => none) none)
theorem q0te {α : Type} (N : Nat) : EnvOk Try.prog (q0td α N) := (q0tc N).override (F := (fun l K => match l with
    | [.i g_0, .f g_1, .f g_2] => q052 none N g_0 g_1 g_2 (fun r_1_ => retK (buildS q0mv [.i r_1_]) K) (fun r_0_n_ r_0_l_ r_0_c_ r_1_ h0_ h1_ => retK (buildS q0mw [.n r_0_n_, .n r_0_l_, .n r_0_c_, .i r_1_, .p h0_, .r h1_]) K)
    | _ => none)) (rest := (q0ms α N).sums 66) (by kernel_rfl) fun l K r he => by
  split at he
  · exact nb_s_GaussCodes_mono he
  · cases he
def q0tf : SPat := ⟨[.sliceV 0 0 0 1 false], [[.intsV .u8]]⟩
def q0tg : SPat := ⟨[.bool], [[.intsV .u8]]⟩
theorem q0th {α : Type} (N code_n code_l code_c h0_n : Nat) (h0 : NI) (K : AV -> Heap -> Option α) :
    callK Try.prog (q0td α N) 1 7 1 (buildS q0tf [.n code_n, .n code_l, .n code_c, .n h0_n, .f h0]).t (buildS q0tf [.n code_n, .n code_l, .n code_c, .n h0_n, .f h0]).h K = nb_w_FnCrossings none N code_n code_l code_c h0_n h0 (fun r__ => retK (buildS q0tg [.b r__, .n h0_n, .f h0]) K) := by kernel_rfl
end Go.AM
