/- A part of a proof about the given program: an abstract machine, what the given functions come to, and plain laws. -/
import Derived.Test.YtoginabccpjeoaaSLawFrontsA
set_option linter.unusedVariables false
set_option linter.unusedSimpArgs false
set_option maxRecDepth 100000
namespace Go.AM
open Go.Proofs
/-- impl.ThurstonBennequin$1 -/
def i_ThurstonBennequin_1_a : SPat := ⟨[.agg [.vals [.int .i64], .ints .u8 8, .ints .u8 8]], []⟩
def i_ThurstonBennequin_1_r0 : SPat := ⟨[.int .i64], []⟩
theorem i_ThurstonBennequin_1_run {α : Type} (N : Nat) (g_0 : Int) (g_1 : Nat → Int) (g_2 : Nat → Int) (K : AV → Heap → Option α) :
    callK Try.prog (E_s_DrawThurstonBennequin α N) 1 137 0 (buildS i_ThurstonBennequin_1_a [.i g_0, .f g_1, .f g_2]).t (buildS i_ThurstonBennequin_1_a [.i g_0, .f g_1, .f g_2]).h K = i_ThurstonBennequin_1 none N g_0 g_1 g_2 (fun r__ => retK (buildS i_ThurstonBennequin_1_r0 [.i r__]) K) := by kernel_rfl
def E_i_ThurstonBennequin_1 (α : Type) (N : Nat) : Env α := (E_s_DrawThurstonBennequin α N).addFun 137 true 0 i_ThurstonBennequin_1_a (fun l K => match l with
    | [.i g_0, .f g_1, .f g_2] => i_ThurstonBennequin_1 none N g_0 g_1 g_2 (fun r__ => retK (buildS i_ThurstonBennequin_1_r0 [.i r__]) K)
    | _ => none)
theorem E_i_ThurstonBennequin_1_ok {α : Type} (N : Nat) : EnvOk Try.prog (E_i_ThurstonBennequin_1 α N) := (E_s_DrawThurstonBennequin_ok N).addFun prog_mixed prog_names (d := 1) fun l K r h => by
  split at h
  · exact (i_ThurstonBennequin_1_run N _ _ _ K).trans h
  · cases h

/-- impl.whole[int64] -/
def i_whole_int64_v1_s3_a : SPat := ⟨[.agg [.vals [.int .i64], .ints .u8 8, .ints .u8 8], .func 137 []], []⟩
def i_whole_int64_v1_s3_r0 : SPat := ⟨[.tuple [.int .i64, .int .i64]], []⟩
theorem i_whole_int64_v1_s3_run {α : Type} (N : Nat) (g_0 : Int) (g_1 : Nat → Int) (g_2 : Nat → Int) (K : AV → Heap → Option α) :
    callK Try.prog (E_i_ThurstonBennequin_1 α N) 1 136 0 (buildS i_whole_int64_v1_s3_a [.i g_0, .f g_1, .f g_2]).t (buildS i_whole_int64_v1_s3_a [.i g_0, .f g_1, .f g_2]).h K = i_whole_int64_v1_s3 none N g_0 g_1 g_2 (fun r_0_ r_1_ => retK (buildS i_whole_int64_v1_s3_r0 [.i r_0_, .i r_1_]) K) := by kernel_rfl
def E_i_whole_int64_v1_s3 (α : Type) (N : Nat) : Env α := (E_i_ThurstonBennequin_1 α N).addFun 136 true 0 i_whole_int64_v1_s3_a (fun l K => match l with
    | [.i g_0, .f g_1, .f g_2] => i_whole_int64_v1_s3 none N g_0 g_1 g_2 (fun r_0_ r_1_ => retK (buildS i_whole_int64_v1_s3_r0 [.i r_0_, .i r_1_]) K)
    | _ => none)
theorem E_i_whole_int64_v1_s3_ok {α : Type} (N : Nat) : EnvOk Try.prog (E_i_whole_int64_v1_s3 α N) := (E_i_ThurstonBennequin_1_ok N).addFun prog_mixed prog_names (d := 1) fun l K r h => by
  split at h
  · exact (i_whole_int64_v1_s3_run N _ _ _ K).trans h
  · cases h

/-- impl.ThurstonBennequin -/
def i_ThurstonBennequin_a : SPat := ⟨[.agg [.vals [.int .i64], .ints .u8 8, .ints .u8 8]], []⟩
def i_ThurstonBennequin_r0 : SPat := ⟨[.tuple [.int .i64, .int .i64]], []⟩
theorem i_ThurstonBennequin_run {α : Type} (N : Nat) (g_0 : Int) (g_1 : Nat → Int) (g_2 : Nat → Int) (K : AV → Heap → Option α) :
    callK Try.prog (E_i_whole_int64_v1_s3 α N) 1 46 0 (buildS i_ThurstonBennequin_a [.i g_0, .f g_1, .f g_2]).t (buildS i_ThurstonBennequin_a [.i g_0, .f g_1, .f g_2]).h K = i_ThurstonBennequin none N g_0 g_1 g_2 (fun r_0_ r_1_ => retK (buildS i_ThurstonBennequin_r0 [.i r_0_, .i r_1_]) K) := by kernel_rfl
def E_i_ThurstonBennequin (α : Type) (N : Nat) : Env α := (E_i_whole_int64_v1_s3 α N).addFun 46 true 0 i_ThurstonBennequin_a (fun l K => match l with
    | [.i g_0, .f g_1, .f g_2] => i_ThurstonBennequin none N g_0 g_1 g_2 (fun r_0_ r_1_ => retK (buildS i_ThurstonBennequin_r0 [.i r_0_, .i r_1_]) K)
    | _ => none)
theorem E_i_ThurstonBennequin_ok {α : Type} (N : Nat) : EnvOk Try.prog (E_i_ThurstonBennequin α N) := (E_i_whole_int64_v1_s3_ok N).addFun prog_mixed prog_names (d := 1) fun l K r h => by
  split at h
  · exact (i_ThurstonBennequin_run N _ _ _ K).trans h
  · cases h

/-- spec.ThurstonBennequin -/
def s_ThurstonBennequin_a : SPat := ⟨[.agg [.vals [.int .i64], .ints .u8 8, .ints .u8 8]], []⟩
def s_ThurstonBennequin_r0 : SPat := ⟨[.tuple [.int .i64, .int .i64]], []⟩
theorem s_ThurstonBennequin_run {α : Type} (N : Nat) (g_0 : Int) (g_1 : Nat → Int) (g_2 : Nat → Int) (K : AV → Heap → Option α) :
    callK Try.prog (E_i_ThurstonBennequin α N) 1 47 0 (buildS s_ThurstonBennequin_a [.i g_0, .f g_1, .f g_2]).t (buildS s_ThurstonBennequin_a [.i g_0, .f g_1, .f g_2]).h K = s_ThurstonBennequin none N g_0 g_1 g_2 (fun r_0_ r_1_ => retK (buildS s_ThurstonBennequin_r0 [.i r_0_, .i r_1_]) K) := by kernel_rfl
def E_s_ThurstonBennequin (α : Type) (N : Nat) : Env α := (E_i_ThurstonBennequin α N).addFun 47 true 0 s_ThurstonBennequin_a (fun l K => match l with
    | [.i g_0, .f g_1, .f g_2] => s_ThurstonBennequin none N g_0 g_1 g_2 (fun r_0_ r_1_ => retK (buildS s_ThurstonBennequin_r0 [.i r_0_, .i r_1_]) K)
    | _ => none)
theorem E_s_ThurstonBennequin_ok {α : Type} (N : Nat) : EnvOk Try.prog (E_s_ThurstonBennequin α N) := (E_i_ThurstonBennequin_ok N).addFun prog_mixed prog_names (d := 1) fun l K r h => by
  split at h
  · exact (s_ThurstonBennequin_run N _ _ _ K).trans h
  · cases h

/-- spec.RotationOf -/
def s_RotationOf_a : SPat := ⟨[.agg [.vals [.int .i64], .ints .u8 8, .ints .u8 8]], []⟩
def s_RotationOf_r0 : SPat := ⟨[.tuple [.int .i64, .int .i64]], []⟩
theorem s_RotationOf_run {α : Type} (N : Nat) (g_0 : Int) (g_1 : Nat → Int) (g_2 : Nat → Int) (K : AV → Heap → Option α) :
    callK Try.prog (E_s_ThurstonBennequin α N) 1 49 0 (buildS s_RotationOf_a [.i g_0, .f g_1, .f g_2]).t (buildS s_RotationOf_a [.i g_0, .f g_1, .f g_2]).h K = s_RotationOf none N g_0 g_1 g_2 (fun r_0_ r_1_ => retK (buildS s_RotationOf_r0 [.i r_0_, .i r_1_]) K) := by kernel_rfl
def E_s_RotationOf (α : Type) (N : Nat) : Env α := (E_s_ThurstonBennequin α N).addFun 49 true 0 s_RotationOf_a (fun l K => match l with
    | [.i g_0, .f g_1, .f g_2] => s_RotationOf none N g_0 g_1 g_2 (fun r_0_ r_1_ => retK (buildS s_RotationOf_r0 [.i r_0_, .i r_1_]) K)
    | _ => none)
theorem E_s_RotationOf_ok {α : Type} (N : Nat) : EnvOk Try.prog (E_s_RotationOf α N) := (E_s_ThurstonBennequin_ok N).addFun prog_mixed prog_names (d := 1) fun l K r h => by
  split at h
  · exact (s_RotationOf_run N _ _ _ K).trans h
  · cases h

/-- spec.CountCusps -/
def s_CountCusps_a : SPat := ⟨[.agg [.vals [.int .i64], .ints .u8 8, .ints .u8 8]], []⟩
def s_CountCusps_r0 : SPat := ⟨[.tuple [.int .i64, .int .i64]], []⟩
theorem s_CountCusps_run {α : Type} (N : Nat) (g_0 : Int) (g_1 : Nat → Int) (g_2 : Nat → Int) (K : AV → Heap → Option α) :
    callK Try.prog (E_s_RotationOf α N) 1 51 0 (buildS s_CountCusps_a [.i g_0, .f g_1, .f g_2]).t (buildS s_CountCusps_a [.i g_0, .f g_1, .f g_2]).h K = s_CountCusps none N g_0 g_1 g_2 (fun r_0_ r_1_ => retK (buildS s_CountCusps_r0 [.i r_0_, .i r_1_]) K) := by kernel_rfl
def E_s_CountCusps (α : Type) (N : Nat) : Env α := (E_s_RotationOf α N).addFun 51 true 0 s_CountCusps_a (fun l K => match l with
    | [.i g_0, .f g_1, .f g_2] => s_CountCusps none N g_0 g_1 g_2 (fun r_0_ r_1_ => retK (buildS s_CountCusps_r0 [.i r_0_, .i r_1_]) K)
    | _ => none)
theorem E_s_CountCusps_ok {α : Type} (N : Nat) : EnvOk Try.prog (E_s_CountCusps α N) := (E_s_RotationOf_ok N).addFun prog_mixed prog_names (d := 1) fun l K r h => by
  split at h
  · exact (s_CountCusps_run N _ _ _ K).trans h
  · cases h

def A_i_UpperState_1_l0 (α : Type) (N : Nat) : Env α := (E_s_CountCusps α N).addAnn 144 3 { head := [1, 2, 3, 4, 9, 10], grow := [], out := [2, 3], ret := [2] }
theorem A_i_UpperState_1_l0_ok {α : Type} (N : Nat) : EnvOk Try.prog (A_i_UpperState_1_l0 α N) := (E_s_CountCusps_ok N).addAnn

/-- impl.UpperState$1, loop -/
def i_UpperState_1_l0_p : SPat := ⟨[.undef, .ptr ⟨⟨0, 0⟩, 0, 0, 1⟩, .ptr ⟨⟨1, 0⟩, 0, 0, 8⟩, .ptr ⟨⟨2, 0⟩, 0, 0, 8⟩, .int .i64, .undef, .undef, .undef, .undef, .int .i64, .int .i64] ++ List.replicate 18 .undef, [[.vals [.int .i64], .ints .u8 8, .ints .u8 8], [.ints .u8 8], [.ints .u8 8]]⟩
def i_UpperState_1_l0_o0 : SPat := ⟨[.undef, .undef, .ptr ⟨⟨1, 0⟩, 0, 0, 8⟩, .ptr ⟨⟨2, 0⟩, 0, 0, 8⟩] ++ List.replicate 25 .undef, [[.vals [.int .i64], .ints .u8 8, .ints .u8 8], [.ints .u8 8], [.ints .u8 8]]⟩
theorem i_UpperState_1_l0_round {α : Type} (N : Nat) (n : Int) (t9 : Int) (t10 : Int) (h0_0 : Int) (h0_1 : Nat → Int) (h0_2 : Nat → Int) (h1 : Nat → Int) (h2 : Nat → Int) (kn : St → Option α) (K : AExit → St → Option α) :
    roundK Try.prog (A_i_UpperState_1_l0 α N) 1 0 144 Try.f144 3 3 (buildS i_UpperState_1_l0_p [.i n, .i t9, .i t10, .i h0_0, .f h0_1, .f h0_2, .f h1, .f h2]) kn K = i_UpperState_1_l0_s none n t9 h0_0 h0_1 h0_2 h1 t10 h2 (fun t10 h2 => kn (buildS i_UpperState_1_l0_p [.i n, .i t9, .i t10, .i h0_0, .f h0_1, .f h0_2, .f h1, .f h2])) (fun h2_ => K (.exit 0) (buildS i_UpperState_1_l0_o0 [.i h0_0, .f h0_1, .f h0_2, .f h1, .f h2_])) := by kernel_rfl
theorem i_UpperState_1_l0_loop {α : Type} (N : Nat) (n : Int) (t9 : Int) (h0_0 : Int) (h0_1 : Nat → Int) (h0_2 : Nat → Int) (h1 : Nat → Int) (K : AExit → St → Option α) : ∀ (m : Nat) (t10 : Int) (h2 : Nat → Int),
    loopN (trimSt ((A_i_UpperState_1_l0 α N).ann 144 3).head ((A_i_UpperState_1_l0 α N).ann 144 3).grow 3) (bodyK Try.prog (A_i_UpperState_1_l0 α N) 1 0 144 Try.f144 3) m (buildS i_UpperState_1_l0_p [.i n, .i t9, .i t10, .i h0_0, .f h0_1, .f h0_2, .f h1, .f h2]) (leaveLoop ((A_i_UpperState_1_l0 α N).ann 144 3) 3 K) = i_UpperState_1_l0 none n t9 h0_0 h0_1 h0_2 h1 m t10 h2 (fun h2_ => K (.exit 0) (buildS i_UpperState_1_l0_o0 [.i h0_0, .f h0_1, .f h0_2, .f h1, .f h2_])) := by
  intro m
  induction m with
  | zero => intros; rfl
  | succ m ih =>
    intro t10 h2
    rw [loopN_round]
    refine (i_UpperState_1_l0_round N n t9 t10 h0_0 h0_1 h0_2 h1 h2 _ K).trans ?_
    simp only [ih]
    rfl
def E_i_UpperState_1_l0 (α : Type) (N : Nat) : Env α := (A_i_UpperState_1_l0 α N).addLoop2 144 3 (loopSum2 ((A_i_UpperState_1_l0 α N).ann 144 3) 0 i_UpperState_1_l0_p (fun l K => match l with
    | [.i n, .i t9, .i t10, .i h0_0, .f h0_1, .f h0_2, .f h1, .f h2] => i_UpperState_1_l0 none n t9 h0_0 h0_1 h0_2 h1 N t10 h2 (fun h2_ => K (.exit 0) (buildS i_UpperState_1_l0_o0 [.i h0_0, .f h0_1, .f h0_2, .f h1, .f h2_]))
    | _ => none) ((A_i_UpperState_1_l0 α N).ls 144 3))
theorem E_i_UpperState_1_l0_ok {α : Type} (N : Nat) : EnvOk Try.prog (E_i_UpperState_1_l0 α N) := (A_i_UpperState_1_l0_ok N).addLoop2 Try.func144 (by kernel_rfl) (loopSum_ok prog_mixed prog_names (A_i_UpperState_1_l0_ok N) Try.func144 (by kernel_rfl) (d := 1) (ro := 0) fun l K r h => by
  split at h
  · exact (i_UpperState_1_l0_loop N _ _ _ _ _ _ K N _ _).trans h
  · cases h)

/-- impl.UpperState$1 -/
def i_UpperState_1_a : SPat := ⟨[.agg [.vals [.int .i64], .ints .u8 8, .ints .u8 8]], []⟩
def i_UpperState_1_r0 : SPat := ⟨[.agg [.ints .u8 8]], []⟩
theorem i_UpperState_1_run {α : Type} (N : Nat) (g_0 : Int) (g_1 : Nat → Int) (g_2 : Nat → Int) (K : AV → Heap → Option α) :
    callK Try.prog (E_i_UpperState_1_l0 α N) 1 144 0 (buildS i_UpperState_1_a [.i g_0, .f g_1, .f g_2]).t (buildS i_UpperState_1_a [.i g_0, .f g_1, .f g_2]).h K = i_UpperState_1 none N g_0 g_1 g_2 (fun r__ => retK (buildS i_UpperState_1_r0 [.f r__]) K) := by kernel_rfl
def E_i_UpperState_1 (α : Type) (N : Nat) : Env α := (E_i_UpperState_1_l0 α N).addFun 144 true 0 i_UpperState_1_a (fun l K => match l with
    | [.i g_0, .f g_1, .f g_2] => i_UpperState_1 none N g_0 g_1 g_2 (fun r__ => retK (buildS i_UpperState_1_r0 [.f r__]) K)
    | _ => none)
theorem E_i_UpperState_1_ok {α : Type} (N : Nat) : EnvOk Try.prog (E_i_UpperState_1 α N) := (E_i_UpperState_1_l0_ok N).addFun prog_mixed prog_names (d := 1) fun l K r h => by
  split at h
  · exact (i_UpperState_1_run N _ _ _ K).trans h
  · cases h

/-- impl.whole[impl.State] -/
def i_whole_i_State_s2_a : SPat := ⟨[.agg [.vals [.int .i64], .ints .u8 8, .ints .u8 8], .func 144 []], []⟩
def i_whole_i_State_s2_r0 : SPat := ⟨[.tuple [.agg [.ints .u8 8], .int .i64]], []⟩
theorem i_whole_i_State_s2_run {α : Type} (N : Nat) (g_0 : Int) (g_1 : Nat → Int) (g_2 : Nat → Int) (K : AV → Heap → Option α) :
    callK Try.prog (E_i_UpperState_1 α N) 1 143 0 (buildS i_whole_i_State_s2_a [.i g_0, .f g_1, .f g_2]).t (buildS i_whole_i_State_s2_a [.i g_0, .f g_1, .f g_2]).h K = i_whole_i_State_s2 none N g_0 g_1 g_2 (fun r_0_ r_1_ => retK (buildS i_whole_i_State_s2_r0 [.f r_0_, .i r_1_]) K) := by kernel_rfl
def E_i_whole_i_State_s2 (α : Type) (N : Nat) : Env α := (E_i_UpperState_1 α N).addFun 143 true 0 i_whole_i_State_s2_a (fun l K => match l with
    | [.i g_0, .f g_1, .f g_2] => i_whole_i_State_s2 none N g_0 g_1 g_2 (fun r_0_ r_1_ => retK (buildS i_whole_i_State_s2_r0 [.f r_0_, .i r_1_]) K)
    | _ => none)
theorem E_i_whole_i_State_s2_ok {α : Type} (N : Nat) : EnvOk Try.prog (E_i_whole_i_State_s2 α N) := (E_i_UpperState_1_ok N).addFun prog_mixed prog_names (d := 1) fun l K r h => by
  split at h
  · exact (i_whole_i_State_s2_run N _ _ _ K).trans h
  · cases h

/-- impl.UpperState -/
def i_UpperState_a : SPat := ⟨[.agg [.vals [.int .i64], .ints .u8 8, .ints .u8 8]], []⟩
def i_UpperState_r0 : SPat := ⟨[.tuple [.agg [.ints .u8 8], .int .i64]], []⟩
theorem i_UpperState_run {α : Type} (N : Nat) (g_0 : Int) (g_1 : Nat → Int) (g_2 : Nat → Int) (K : AV → Heap → Option α) :
    callK Try.prog (E_i_whole_i_State_s2 α N) 1 52 0 (buildS i_UpperState_a [.i g_0, .f g_1, .f g_2]).t (buildS i_UpperState_a [.i g_0, .f g_1, .f g_2]).h K = i_UpperState none N g_0 g_1 g_2 (fun r_0_ r_1_ => retK (buildS i_UpperState_r0 [.f r_0_, .i r_1_]) K) := by kernel_rfl
def E_i_UpperState (α : Type) (N : Nat) : Env α := (E_i_whole_i_State_s2 α N).addFun 52 true 0 i_UpperState_a (fun l K => match l with
    | [.i g_0, .f g_1, .f g_2] => i_UpperState none N g_0 g_1 g_2 (fun r_0_ r_1_ => retK (buildS i_UpperState_r0 [.f r_0_, .i r_1_]) K)
    | _ => none)
theorem E_i_UpperState_ok {α : Type} (N : Nat) : EnvOk Try.prog (E_i_UpperState α N) := (E_i_whole_i_State_s2_ok N).addFun prog_mixed prog_names (d := 1) fun l K r h => by
  split at h
  · exact (i_UpperState_run N _ _ _ K).trans h
  · cases h

def A_s_l07Upper_l0 (α : Type) (N : Nat) : Env α := (E_i_UpperState α N).addAnn 145 3 { head := [1, 2, 3, 4], grow := [], out := [2, 3], ret := [2] }
theorem A_s_l07Upper_l0_ok {α : Type} (N : Nat) : EnvOk Try.prog (A_s_l07Upper_l0 α N) := (E_i_UpperState_ok N).addAnn

/-- spec.l07Upper, loop -/
def s_l07Upper_l0_p : SPat := ⟨[.undef, .ptr ⟨⟨0, 0⟩, 0, 0, 1⟩, .ptr ⟨⟨1, 0⟩, 0, 0, 8⟩, .ptr ⟨⟨2, 0⟩, 0, 0, 8⟩, .int .i64] ++ List.replicate 24 .undef, [[.vals [.int .i64], .ints .u8 8, .ints .u8 8], [.ints .u8 8], [.ints .u8 8]]⟩
def s_l07Upper_l0_o0 : SPat := ⟨[.undef, .undef, .ptr ⟨⟨1, 0⟩, 0, 0, 8⟩, .ptr ⟨⟨2, 0⟩, 0, 0, 8⟩] ++ List.replicate 25 .undef, [[.vals [.int .i64], .ints .u8 8, .ints .u8 8], [.ints .u8 8], [.ints .u8 8]]⟩
theorem s_l07Upper_l0_round {α : Type} (N : Nat) (i : Int) (h0_0 : Int) (h0_1 : Nat → Int) (h0_2 : Nat → Int) (h1 : Nat → Int) (h2 : Nat → Int) (kn : St → Option α) (K : AExit → St → Option α) :
    roundK Try.prog (A_s_l07Upper_l0 α N) 1 0 145 Try.f145 3 3 (buildS s_l07Upper_l0_p [.i i, .i h0_0, .f h0_1, .f h0_2, .f h1, .f h2]) kn K = s_l07Upper_l0_s none h0_0 h0_1 h0_2 h1 i h2 (fun i h2 => kn (buildS s_l07Upper_l0_p [.i i, .i h0_0, .f h0_1, .f h0_2, .f h1, .f h2])) (fun h2_ => K (.exit 0) (buildS s_l07Upper_l0_o0 [.i h0_0, .f h0_1, .f h0_2, .f h1, .f h2_])) := by kernel_rfl
theorem s_l07Upper_l0_loop {α : Type} (N : Nat) (h0_0 : Int) (h0_1 : Nat → Int) (h0_2 : Nat → Int) (h1 : Nat → Int) (K : AExit → St → Option α) : ∀ (m : Nat) (i : Int) (h2 : Nat → Int),
    loopN (trimSt ((A_s_l07Upper_l0 α N).ann 145 3).head ((A_s_l07Upper_l0 α N).ann 145 3).grow 3) (bodyK Try.prog (A_s_l07Upper_l0 α N) 1 0 145 Try.f145 3) m (buildS s_l07Upper_l0_p [.i i, .i h0_0, .f h0_1, .f h0_2, .f h1, .f h2]) (leaveLoop ((A_s_l07Upper_l0 α N).ann 145 3) 3 K) = s_l07Upper_l0 none h0_0 h0_1 h0_2 h1 m i h2 (fun h2_ => K (.exit 0) (buildS s_l07Upper_l0_o0 [.i h0_0, .f h0_1, .f h0_2, .f h1, .f h2_])) := by
  intro m
  induction m with
  | zero => intros; rfl
  | succ m ih =>
    intro i h2
    rw [loopN_round]
    refine (s_l07Upper_l0_round N i h0_0 h0_1 h0_2 h1 h2 _ K).trans ?_
    simp only [ih]
    rfl
def E_s_l07Upper_l0 (α : Type) (N : Nat) : Env α := (A_s_l07Upper_l0 α N).addLoop2 145 3 (loopSum2 ((A_s_l07Upper_l0 α N).ann 145 3) 0 s_l07Upper_l0_p (fun l K => match l with
    | [.i i, .i h0_0, .f h0_1, .f h0_2, .f h1, .f h2] => s_l07Upper_l0 none h0_0 h0_1 h0_2 h1 N i h2 (fun h2_ => K (.exit 0) (buildS s_l07Upper_l0_o0 [.i h0_0, .f h0_1, .f h0_2, .f h1, .f h2_]))
    | _ => none) ((A_s_l07Upper_l0 α N).ls 145 3))
theorem E_s_l07Upper_l0_ok {α : Type} (N : Nat) : EnvOk Try.prog (E_s_l07Upper_l0 α N) := (A_s_l07Upper_l0_ok N).addLoop2 Try.func145 (by kernel_rfl) (loopSum_ok prog_mixed prog_names (A_s_l07Upper_l0_ok N) Try.func145 (by kernel_rfl) (d := 1) (ro := 0) fun l K r h => by
  split at h
  · exact (s_l07Upper_l0_loop N _ _ _ _ K N _ _).trans h
  · cases h)

/-- spec.l07Upper -/
def s_l07Upper_a : SPat := ⟨[.agg [.vals [.int .i64], .ints .u8 8, .ints .u8 8]], []⟩
def s_l07Upper_r0 : SPat := ⟨[.agg [.ints .u8 8]], []⟩
theorem s_l07Upper_run {α : Type} (N : Nat) (g_0 : Int) (g_1 : Nat → Int) (g_2 : Nat → Int) (K : AV → Heap → Option α) :
    callK Try.prog (E_s_l07Upper_l0 α N) 1 145 0 (buildS s_l07Upper_a [.i g_0, .f g_1, .f g_2]).t (buildS s_l07Upper_a [.i g_0, .f g_1, .f g_2]).h K = s_l07Upper none N g_0 g_1 g_2 (fun r__ => retK (buildS s_l07Upper_r0 [.f r__]) K) := by kernel_rfl
def E_s_l07Upper (α : Type) (N : Nat) : Env α := (E_s_l07Upper_l0 α N).addFun 145 true 0 s_l07Upper_a (fun l K => match l with
    | [.i g_0, .f g_1, .f g_2] => s_l07Upper none N g_0 g_1 g_2 (fun r__ => retK (buildS s_l07Upper_r0 [.f r__]) K)
    | _ => none)
theorem E_s_l07Upper_ok {α : Type} (N : Nat) : EnvOk Try.prog (E_s_l07Upper α N) := (E_s_l07Upper_l0_ok N).addFun prog_mixed prog_names (d := 1) fun l K r h => by
  split at h
  · exact (s_l07Upper_run N _ _ _ K).trans h
  · cases h

/-- spec.UpperState -/
def s_UpperState_a : SPat := ⟨[.agg [.vals [.int .i64], .ints .u8 8, .ints .u8 8]], []⟩
def s_UpperState_r0 : SPat := ⟨[.tuple [.agg [.ints .u8 8], .int .i64]], []⟩
theorem s_UpperState_run {α : Type} (N : Nat) (g_0 : Int) (g_1 : Nat → Int) (g_2 : Nat → Int) (K : AV → Heap → Option α) :
    callK Try.prog (E_s_l07Upper α N) 1 53 0 (buildS s_UpperState_a [.i g_0, .f g_1, .f g_2]).t (buildS s_UpperState_a [.i g_0, .f g_1, .f g_2]).h K = s_UpperState none N g_0 g_1 g_2 (fun r_0_ r_1_ => retK (buildS s_UpperState_r0 [.f r_0_, .i r_1_]) K) := by kernel_rfl
def E_s_UpperState (α : Type) (N : Nat) : Env α := (E_s_l07Upper α N).addFun 53 true 0 s_UpperState_a (fun l K => match l with
    | [.i g_0, .f g_1, .f g_2] => s_UpperState none N g_0 g_1 g_2 (fun r_0_ r_1_ => retK (buildS s_UpperState_r0 [.f r_0_, .i r_1_]) K)
    | _ => none)
theorem E_s_UpperState_ok {α : Type} (N : Nat) : EnvOk Try.prog (E_s_UpperState α N) := (E_s_l07Upper_ok N).addFun prog_mixed prog_names (d := 1) fun l K r h => by
  split at h
  · exact (s_UpperState_run N _ _ _ K).trans h
  · cases h

/-- impl.LowerState$1 -/
def i_LowerState_1_a : SPat := ⟨[.agg [.vals [.int .i64], .ints .u8 8, .ints .u8 8]], []⟩
def i_LowerState_1_r0 : SPat := ⟨[.agg [.ints .u8 8]], []⟩
theorem i_LowerState_1_run {α : Type} (N : Nat) (g_0 : Int) (g_1 : Nat → Int) (g_2 : Nat → Int) (K : AV → Heap → Option α) :
    callK Try.prog (E_s_UpperState α N) 1 146 0 (buildS i_LowerState_1_a [.i g_0, .f g_1, .f g_2]).t (buildS i_LowerState_1_a [.i g_0, .f g_1, .f g_2]).h K = i_LowerState_1 none N g_0 g_1 g_2 (retK (buildS i_LowerState_1_r0 [.f g_1]) K) := by kernel_rfl
def E_i_LowerState_1 (α : Type) (N : Nat) : Env α := (E_s_UpperState α N).addFun 146 true 0 i_LowerState_1_a (fun l K => match l with
    | [.i g_0, .f g_1, .f g_2] => i_LowerState_1 none N g_0 g_1 g_2 (retK (buildS i_LowerState_1_r0 [.f g_1]) K)
    | _ => none)
theorem E_i_LowerState_1_ok {α : Type} (N : Nat) : EnvOk Try.prog (E_i_LowerState_1 α N) := (E_s_UpperState_ok N).addFun prog_mixed prog_names (d := 1) fun l K r h => by
  split at h
  · exact (i_LowerState_1_run N _ _ _ K).trans h
  · cases h

/-- impl.whole[impl.State] -/
def i_whole_i_State_a : SPat := ⟨[.agg [.vals [.int .i64], .ints .u8 8, .ints .u8 8], .func 146 []], []⟩
def i_whole_i_State_r0 : SPat := ⟨[.tuple [.agg [.ints .u8 8], .int .i64]], []⟩
theorem i_whole_i_State_run {α : Type} (N : Nat) (g_0 : Int) (g_1 : Nat → Int) (g_2 : Nat → Int) (K : AV → Heap → Option α) :
    callK Try.prog (E_i_LowerState_1 α N) 1 143 0 (buildS i_whole_i_State_a [.i g_0, .f g_1, .f g_2]).t (buildS i_whole_i_State_a [.i g_0, .f g_1, .f g_2]).h K = i_whole_i_State none N g_0 g_1 g_2 (fun r_0_ r_1_ => retK (buildS i_whole_i_State_r0 [.f r_0_, .i r_1_]) K) := by kernel_rfl
def E_i_whole_i_State (α : Type) (N : Nat) : Env α := (E_i_LowerState_1 α N).addFun 143 true 0 i_whole_i_State_a (fun l K => match l with
    | [.i g_0, .f g_1, .f g_2] => i_whole_i_State none N g_0 g_1 g_2 (fun r_0_ r_1_ => retK (buildS i_whole_i_State_r0 [.f r_0_, .i r_1_]) K)
    | _ => none)
theorem E_i_whole_i_State_ok {α : Type} (N : Nat) : EnvOk Try.prog (E_i_whole_i_State α N) := (E_i_LowerState_1_ok N).addFun prog_mixed prog_names (d := 1) fun l K r h => by
  split at h
  · exact (i_whole_i_State_run N _ _ _ K).trans h
  · cases h

/-- impl.LowerState -/
def i_LowerState_a : SPat := ⟨[.agg [.vals [.int .i64], .ints .u8 8, .ints .u8 8]], []⟩
def i_LowerState_r0 : SPat := ⟨[.tuple [.agg [.ints .u8 8], .int .i64]], []⟩
theorem i_LowerState_run {α : Type} (N : Nat) (g_0 : Int) (g_1 : Nat → Int) (g_2 : Nat → Int) (K : AV → Heap → Option α) :
    callK Try.prog (E_i_whole_i_State α N) 1 54 0 (buildS i_LowerState_a [.i g_0, .f g_1, .f g_2]).t (buildS i_LowerState_a [.i g_0, .f g_1, .f g_2]).h K = i_LowerState none N g_0 g_1 g_2 (fun r_0_ r_1_ => retK (buildS i_LowerState_r0 [.f r_0_, .i r_1_]) K) := by kernel_rfl
def E_i_LowerState (α : Type) (N : Nat) : Env α := (E_i_whole_i_State α N).addFun 54 true 0 i_LowerState_a (fun l K => match l with
    | [.i g_0, .f g_1, .f g_2] => i_LowerState none N g_0 g_1 g_2 (fun r_0_ r_1_ => retK (buildS i_LowerState_r0 [.f r_0_, .i r_1_]) K)
    | _ => none)
theorem E_i_LowerState_ok {α : Type} (N : Nat) : EnvOk Try.prog (E_i_LowerState α N) := (E_i_whole_i_State_ok N).addFun prog_mixed prog_names (d := 1) fun l K r h => by
  split at h
  · exact (i_LowerState_run N _ _ _ K).trans h
  · cases h

/-- spec.LowerState -/
def s_LowerState_a : SPat := ⟨[.agg [.vals [.int .i64], .ints .u8 8, .ints .u8 8]], []⟩
def s_LowerState_r0 : SPat := ⟨[.tuple [.agg [.ints .u8 8], .int .i64]], []⟩
theorem s_LowerState_run {α : Type} (N : Nat) (g_0 : Int) (g_1 : Nat → Int) (g_2 : Nat → Int) (K : AV → Heap → Option α) :
    callK Try.prog (E_i_LowerState α N) 1 55 0 (buildS s_LowerState_a [.i g_0, .f g_1, .f g_2]).t (buildS s_LowerState_a [.i g_0, .f g_1, .f g_2]).h K = s_LowerState none N g_0 g_1 g_2 (fun r_0_ r_1_ => retK (buildS s_LowerState_r0 [.f r_0_, .i r_1_]) K) := by kernel_rfl
def E_s_LowerState (α : Type) (N : Nat) : Env α := (E_i_LowerState α N).addFun 55 true 0 s_LowerState_a (fun l K => match l with
    | [.i g_0, .f g_1, .f g_2] => s_LowerState none N g_0 g_1 g_2 (fun r_0_ r_1_ => retK (buildS s_LowerState_r0 [.f r_0_, .i r_1_]) K)
    | _ => none)
theorem E_s_LowerState_ok {α : Type} (N : Nat) : EnvOk Try.prog (E_s_LowerState α N) := (E_i_LowerState_ok N).addFun prog_mixed prog_names (d := 1) fun l K r h => by
  split at h
  · exact (s_LowerState_run N _ _ _ K).trans h
  · cases h

/-- impl.ExchangeOf$1 -/
def i_ExchangeOf_1_a : SPat := ⟨[.agg [.vals [.int .i64], .ints .u8 8, .ints .u8 8]], []⟩
def i_ExchangeOf_1_r0 : SPat := ⟨[.agg [.vals [.int .i64], .ints .u8 8, .ints .u8 8]], []⟩
theorem i_ExchangeOf_1_run {α : Type} (N : Nat) (g_0 : Int) (g_1 : Nat → Int) (g_2 : Nat → Int) (K : AV → Heap → Option α) :
    callK Try.prog (E_s_LowerState α N) 1 113 0 (buildS i_ExchangeOf_1_a [.i g_0, .f g_1, .f g_2]).t (buildS i_ExchangeOf_1_a [.i g_0, .f g_1, .f g_2]).h K = i_ExchangeOf_1 none N g_0 g_1 g_2 (retK (buildS i_ExchangeOf_1_r0 [.i g_0, .f g_2, .f g_1]) K) := by kernel_rfl
def E_i_ExchangeOf_1 (α : Type) (N : Nat) : Env α := (E_s_LowerState α N).addFun 113 true 0 i_ExchangeOf_1_a (fun l K => match l with
    | [.i g_0, .f g_1, .f g_2] => i_ExchangeOf_1 none N g_0 g_1 g_2 (retK (buildS i_ExchangeOf_1_r0 [.i g_0, .f g_2, .f g_1]) K)
    | _ => none)
theorem E_i_ExchangeOf_1_ok {α : Type} (N : Nat) : EnvOk Try.prog (E_i_ExchangeOf_1 α N) := (E_s_LowerState_ok N).addFun prog_mixed prog_names (d := 1) fun l K r h => by
  split at h
  · exact (i_ExchangeOf_1_run N _ _ _ K).trans h
  · cases h

/-- impl.whole[impl.Grid] -/
def i_whole_i_Grid_s2_a : SPat := ⟨[.agg [.vals [.int .i64], .ints .u8 8, .ints .u8 8], .func 113 []], []⟩
def i_whole_i_Grid_s2_r0 : SPat := ⟨[.tuple [.agg [.vals [.int .i64], .ints .u8 8, .ints .u8 8], .int .i64]], []⟩
theorem i_whole_i_Grid_s2_run {α : Type} (N : Nat) (g_0 : Int) (g_1 : Nat → Int) (g_2 : Nat → Int) (K : AV → Heap → Option α) :
    callK Try.prog (E_i_ExchangeOf_1 α N) 1 111 0 (buildS i_whole_i_Grid_s2_a [.i g_0, .f g_1, .f g_2]).t (buildS i_whole_i_Grid_s2_a [.i g_0, .f g_1, .f g_2]).h K = i_whole_i_Grid_s2 none N g_0 g_1 g_2 (fun r_0_0_ r_0_1_ r_0_2_ r_1_ => retK (buildS i_whole_i_Grid_s2_r0 [.i r_0_0_, .f r_0_1_, .f r_0_2_, .i r_1_]) K) := by kernel_rfl
def E_i_whole_i_Grid_s2 (α : Type) (N : Nat) : Env α := (E_i_ExchangeOf_1 α N).addFun 111 true 0 i_whole_i_Grid_s2_a (fun l K => match l with
    | [.i g_0, .f g_1, .f g_2] => i_whole_i_Grid_s2 none N g_0 g_1 g_2 (fun r_0_0_ r_0_1_ r_0_2_ r_1_ => retK (buildS i_whole_i_Grid_s2_r0 [.i r_0_0_, .f r_0_1_, .f r_0_2_, .i r_1_]) K)
    | _ => none)
theorem E_i_whole_i_Grid_s2_ok {α : Type} (N : Nat) : EnvOk Try.prog (E_i_whole_i_Grid_s2 α N) := (E_i_ExchangeOf_1_ok N).addFun prog_mixed prog_names (d := 1) fun l K r h => by
  split at h
  · exact (i_whole_i_Grid_s2_run N _ _ _ K).trans h
  · cases h

/-- impl.ExchangeOf -/
def i_ExchangeOf_a : SPat := ⟨[.agg [.vals [.int .i64], .ints .u8 8, .ints .u8 8]], []⟩
def i_ExchangeOf_r0 : SPat := ⟨[.tuple [.agg [.vals [.int .i64], .ints .u8 8, .ints .u8 8], .int .i64]], []⟩
theorem i_ExchangeOf_run {α : Type} (N : Nat) (g_0 : Int) (g_1 : Nat → Int) (g_2 : Nat → Int) (K : AV → Heap → Option α) :
    callK Try.prog (E_i_whole_i_Grid_s2 α N) 1 24 0 (buildS i_ExchangeOf_a [.i g_0, .f g_1, .f g_2]).t (buildS i_ExchangeOf_a [.i g_0, .f g_1, .f g_2]).h K = i_ExchangeOf none N g_0 g_1 g_2 (fun r_0_0_ r_0_1_ r_0_2_ r_1_ => retK (buildS i_ExchangeOf_r0 [.i r_0_0_, .f r_0_1_, .f r_0_2_, .i r_1_]) K) := by kernel_rfl
def E_i_ExchangeOf (α : Type) (N : Nat) : Env α := (E_i_whole_i_Grid_s2 α N).addFun 24 true 0 i_ExchangeOf_a (fun l K => match l with
    | [.i g_0, .f g_1, .f g_2] => i_ExchangeOf none N g_0 g_1 g_2 (fun r_0_0_ r_0_1_ r_0_2_ r_1_ => retK (buildS i_ExchangeOf_r0 [.i r_0_0_, .f r_0_1_, .f r_0_2_, .i r_1_]) K)
    | _ => none)
theorem E_i_ExchangeOf_ok {α : Type} (N : Nat) : EnvOk Try.prog (E_i_ExchangeOf α N) := (E_i_whole_i_Grid_s2_ok N).addFun prog_mixed prog_names (d := 1) fun l K r h => by
  split at h
  · exact (i_ExchangeOf_run N _ _ _ K).trans h
  · cases h

/-- impl.whole[bool] -/
def i_whole_bool_a : SPat := ⟨[.agg [.vals [.int .i64], .ints .u8 8, .ints .u8 8], .func 110 []], []⟩
def i_whole_bool_r0 : SPat := ⟨[.tuple [.bool, .int .i64]], []⟩
theorem i_whole_bool_run {α : Type} (N : Nat) (g_0 : Int) (g_1 : Nat → Int) (g_2 : Nat → Int) (K : AV → Heap → Option α) :
    callK Try.prog (E_i_ExchangeOf α N) 1 109 0 (buildS i_whole_bool_a [.i g_0, .f g_1, .f g_2]).t (buildS i_whole_bool_a [.i g_0, .f g_1, .f g_2]).h K = i_whole_bool none N g_0 g_1 g_2 (fun r_0_ r_1_ => retK (buildS i_whole_bool_r0 [.b r_0_, .i r_1_]) K) := by kernel_rfl
def E_i_whole_bool (α : Type) (N : Nat) : Env α := (E_i_ExchangeOf α N).addFun 109 true 0 i_whole_bool_a (fun l K => match l with
    | [.i g_0, .f g_1, .f g_2] => i_whole_bool none N g_0 g_1 g_2 (fun r_0_ r_1_ => retK (buildS i_whole_bool_r0 [.b r_0_, .i r_1_]) K)
    | _ => none)
theorem E_i_whole_bool_ok {α : Type} (N : Nat) : EnvOk Try.prog (E_i_whole_bool α N) := (E_i_ExchangeOf_ok N).addFun prog_mixed prog_names (d := 1) fun l K r h => by
  split at h
  · exact (i_whole_bool_run N _ _ _ K).trans h
  · cases h

/-- impl.IsKnot -/
def i_IsKnot_a : SPat := ⟨[.agg [.vals [.int .i64], .ints .u8 8, .ints .u8 8]], []⟩
def i_IsKnot_r0 : SPat := ⟨[.tuple [.bool, .int .i64]], []⟩
theorem i_IsKnot_run {α : Type} (N : Nat) (g_0 : Int) (g_1 : Nat → Int) (g_2 : Nat → Int) (K : AV → Heap → Option α) :
    callK Try.prog (E_i_whole_bool α N) 1 20 0 (buildS i_IsKnot_a [.i g_0, .f g_1, .f g_2]).t (buildS i_IsKnot_a [.i g_0, .f g_1, .f g_2]).h K = i_IsKnot none N g_0 g_1 g_2 (fun r_0_ r_1_ => retK (buildS i_IsKnot_r0 [.b r_0_, .i r_1_]) K) := by kernel_rfl
def E_i_IsKnot (α : Type) (N : Nat) : Env α := (E_i_whole_bool α N).addFun 20 true 0 i_IsKnot_a (fun l K => match l with
    | [.i g_0, .f g_1, .f g_2] => i_IsKnot none N g_0 g_1 g_2 (fun r_0_ r_1_ => retK (buildS i_IsKnot_r0 [.b r_0_, .i r_1_]) K)
    | _ => none)
theorem E_i_IsKnot_ok {α : Type} (N : Nat) : EnvOk Try.prog (E_i_IsKnot α N) := (E_i_whole_bool_ok N).addFun prog_mixed prog_names (d := 1) fun l K r h => by
  split at h
  · exact (i_IsKnot_run N _ _ _ K).trans h
  · cases h

/-- impl.whole[int64] -/
def i_whole_int64_v1_s4_a : SPat := ⟨[.agg [.vals [.int .i64], .ints .u8 8, .ints .u8 8], .func 147 []], []⟩
def i_whole_int64_v1_s4_r0 : SPat := ⟨[.tuple [.int .i64, .int .i64]], []⟩
theorem i_whole_int64_v1_s4_run {α : Type} (N : Nat) (g_0 : Int) (g_1 : Nat → Int) (g_2 : Nat → Int) (K : AV → Heap → Option α) :
    callK Try.prog (E_i_IsKnot α N) 1 136 0 (buildS i_whole_int64_v1_s4_a [.i g_0, .f g_1, .f g_2]).t (buildS i_whole_int64_v1_s4_a [.i g_0, .f g_1, .f g_2]).h K = i_whole_int64_v1_s4 none N g_0 g_1 g_2 (fun r_0_ r_1_ => retK (buildS i_whole_int64_v1_s4_r0 [.i r_0_, .i r_1_]) K) := by kernel_rfl
def E_i_whole_int64_v1_s4 (α : Type) (N : Nat) : Env α := (E_i_IsKnot α N).addFun 136 true 0 i_whole_int64_v1_s4_a (fun l K => match l with
    | [.i g_0, .f g_1, .f g_2] => i_whole_int64_v1_s4 none N g_0 g_1 g_2 (fun r_0_ r_1_ => retK (buildS i_whole_int64_v1_s4_r0 [.i r_0_, .i r_1_]) K)
    | _ => none)
theorem E_i_whole_int64_v1_s4_ok {α : Type} (N : Nat) : EnvOk Try.prog (E_i_whole_int64_v1_s4 α N) := (E_i_IsKnot_ok N).addFun prog_mixed prog_names (d := 1) fun l K r h => by
  split at h
  · exact (i_whole_int64_v1_s4_run N _ _ _ K).trans h
  · cases h

/-- impl.WritheOf -/
def i_WritheOf_a : SPat := ⟨[.agg [.vals [.int .i64], .ints .u8 8, .ints .u8 8]], []⟩
def i_WritheOf_r0 : SPat := ⟨[.tuple [.int .i64, .int .i64]], []⟩
theorem i_WritheOf_run {α : Type} (N : Nat) (g_0 : Int) (g_1 : Nat → Int) (g_2 : Nat → Int) (K : AV → Heap → Option α) :
    callK Try.prog (E_i_whole_int64_v1_s4 α N) 1 56 0 (buildS i_WritheOf_a [.i g_0, .f g_1, .f g_2]).t (buildS i_WritheOf_a [.i g_0, .f g_1, .f g_2]).h K = i_WritheOf none N g_0 g_1 g_2 (fun r_0_ r_1_ => retK (buildS i_WritheOf_r0 [.i r_0_, .i r_1_]) K) := by kernel_rfl
def E_i_WritheOf (α : Type) (N : Nat) : Env α := (E_i_whole_int64_v1_s4 α N).addFun 56 true 0 i_WritheOf_a (fun l K => match l with
    | [.i g_0, .f g_1, .f g_2] => i_WritheOf none N g_0 g_1 g_2 (fun r_0_ r_1_ => retK (buildS i_WritheOf_r0 [.i r_0_, .i r_1_]) K)
    | _ => none)
theorem E_i_WritheOf_ok {α : Type} (N : Nat) : EnvOk Try.prog (E_i_WritheOf α N) := (E_i_whole_int64_v1_s4_ok N).addFun prog_mixed prog_names (d := 1) fun l K r h => by
  split at h
  · exact (i_WritheOf_run N _ _ _ K).trans h
  · cases h

/-- impl.isOrder, loop -/
def i_isOrder_l0_s4_p : SPat := ⟨[.undef, .int .i64, .undef, .undef, .undef, .int .i64, .undef, .undef, .slice ⟨⟨0, 0⟩, 0, 0, 8⟩ 8 8 1 true, .intC .i64 8, .int .i64] ++ List.replicate 30 .undef, [[.ints .u8 8]]⟩
def i_isOrder_l0_s4_o0 : SPat := ⟨[.undef, .undef, .undef, .undef, .boolC false] ++ List.replicate 36 .undef, [[.ints .u8 8]]⟩
def i_isOrder_l0_s4_o1 : SPat := ⟨[.undef, .int .i64, .undef, .undef, .undef, .int .i64] ++ List.replicate 35 .undef, [[.ints .u8 8]]⟩
theorem i_isOrder_l0_s4_round {α : Type} (N : Nat) (n : Int) (seen : Int) (t10 : Int) (h0 : Nat → Int) (kn : St → Option α) (K : AExit → St → Option α) :
    roundK Try.prog (E_i_WritheOf α N) 1 1 195 Try.f195 3 1 (buildS i_isOrder_l0_s4_p [.i n, .i seen, .i t10, .f h0]) kn K = i_isOrder_l0_s4_s none n h0 seen t10 (fun seen t10 => kn (buildS i_isOrder_l0_s4_p [.i n, .i seen, .i t10, .f h0])) (K .ret (buildS i_isOrder_l0_s4_o0 [.f h0])) (fun seen_ => K (.exit 0) (buildS i_isOrder_l0_s4_o1 [.i n, .i seen_, .f h0])) := by kernel_rfl
theorem i_isOrder_l0_s4_loop {α : Type} (N : Nat) (n : Int) (h0 : Nat → Int) (K : AExit → St → Option α) : ∀ (m : Nat) (seen : Int) (t10 : Int),
    loopN (trimSt ((E_i_WritheOf α N).ann 195 3).head ((E_i_WritheOf α N).ann 195 3).grow 1) (bodyK Try.prog (E_i_WritheOf α N) 1 1 195 Try.f195 3) m (buildS i_isOrder_l0_s4_p [.i n, .i seen, .i t10, .f h0]) (leaveLoop ((E_i_WritheOf α N).ann 195 3) 1 K) = i_isOrder_l0_s4 none n h0 m seen t10 (K .ret (buildS i_isOrder_l0_s4_o0 [.f h0])) (fun seen_ => K (.exit 0) (buildS i_isOrder_l0_s4_o1 [.i n, .i seen_, .f h0])) := by
  intro m
  induction m with
  | zero => intros; rfl
  | succ m ih =>
    intro seen t10
    rw [loopN_round]
    refine (i_isOrder_l0_s4_round N n seen t10 h0 _ K).trans ?_
    simp only [ih]
    rfl
def E_i_isOrder_l0_s4 (α : Type) (N : Nat) : Env α := (E_i_WritheOf α N).addLoop2 195 3 (loopSum2 ((E_i_WritheOf α N).ann 195 3) 1 i_isOrder_l0_s4_p (fun l K => match l with
    | [.i n, .i seen, .i t10, .f h0] => i_isOrder_l0_s4 none n h0 N seen t10 (K .ret (buildS i_isOrder_l0_s4_o0 [.f h0])) (fun seen_ => K (.exit 0) (buildS i_isOrder_l0_s4_o1 [.i n, .i seen_, .f h0]))
    | _ => none) ((E_i_WritheOf α N).ls 195 3))
theorem E_i_isOrder_l0_s4_ok {α : Type} (N : Nat) : EnvOk Try.prog (E_i_isOrder_l0_s4 α N) := (E_i_WritheOf_ok N).addLoop2 Try.func195 (by kernel_rfl) (loopSum_ok prog_mixed prog_names (E_i_WritheOf_ok N) Try.func195 (by kernel_rfl) (d := 1) (ro := 1) fun l K r h => by
  split at h
  · exact (i_isOrder_l0_s4_loop N _ _ K N _ _).trans h
  · cases h)

/-- impl.isOrder -/
def i_isOrder_s4_a : SPat := ⟨[.slice ⟨⟨0, 0⟩, 0, 0, 8⟩ 8 8 1 true, .int .i64], [[.ints .u8 8]]⟩
def i_isOrder_s4_r0 : SPat := ⟨[.bool], [[.ints .u8 8]]⟩
theorem i_isOrder_s4_run {α : Type} (N : Nat) (n : Int) (h0 : Nat → Int) (K : AV → Heap → Option α) :
    callK Try.prog (E_i_isOrder_l0_s4 α N) 1 195 1 (buildS i_isOrder_s4_a [.i n, .f h0]).t (buildS i_isOrder_s4_a [.i n, .f h0]).h K = i_isOrder_s4 none N n h0 (fun r__ => retK (buildS i_isOrder_s4_r0 [.b r__, .f h0]) K) := by kernel_rfl
def E_i_isOrder_s4 (α : Type) (N : Nat) : Env α := (E_i_isOrder_l0_s4 α N).addFun 195 true 1 i_isOrder_s4_a (fun l K => match l with
    | [.i n, .f h0] => i_isOrder_s4 none N n h0 (fun r__ => retK (buildS i_isOrder_s4_r0 [.b r__, .f h0]) K)
    | _ => none)
theorem E_i_isOrder_s4_ok {α : Type} (N : Nat) : EnvOk Try.prog (E_i_isOrder_s4 α N) := (E_i_isOrder_l0_s4_ok N).addFun prog_mixed prog_names (d := 1) fun l K r h => by
  split at h
  · exact (i_isOrder_s4_run N _ _ K).trans h
  · cases h

/-- (impl.Grid).isState -/
def i_Grid_isState_a : SPat := ⟨[.agg [.vals [.int .i64], .ints .u8 8, .ints .u8 8], .agg [.ints .u8 8]], []⟩
def i_Grid_isState_r0 : SPat := ⟨[.bool], []⟩
theorem i_Grid_isState_run {α : Type} (N : Nat) (g_0 : Int) (g_1 : Nat → Int) (g_2 : Nat → Int) (x : Nat → Int) (K : AV → Heap → Option α) :
    callK Try.prog (E_i_isOrder_s4 α N) 1 218 0 (buildS i_Grid_isState_a [.i g_0, .f g_1, .f g_2, .f x]).t (buildS i_Grid_isState_a [.i g_0, .f g_1, .f g_2, .f x]).h K = i_Grid_isState none N g_0 g_1 g_2 x (fun r__ => retK (buildS i_Grid_isState_r0 [.b r__]) K) := by kernel_rfl
def E_i_Grid_isState (α : Type) (N : Nat) : Env α := (E_i_isOrder_s4 α N).addFun 218 true 0 i_Grid_isState_a (fun l K => match l with
    | [.i g_0, .f g_1, .f g_2, .f x] => i_Grid_isState none N g_0 g_1 g_2 x (fun r__ => retK (buildS i_Grid_isState_r0 [.b r__]) K)
    | _ => none)
theorem E_i_Grid_isState_ok {α : Type} (N : Nat) : EnvOk Try.prog (E_i_Grid_isState α N) := (E_i_isOrder_s4_ok N).addFun prog_mixed prog_names (d := 1) fun l K r h => by
  split at h
  · exact (i_Grid_isState_run N _ _ _ _ K).trans h
  · cases h

/-- impl.IsState -/
def i_IsState_a : SPat := ⟨[.agg [.vals [.int .i64], .ints .u8 8, .ints .u8 8], .agg [.ints .u8 8]], []⟩
def i_IsState_r0 : SPat := ⟨[.bool], []⟩
theorem i_IsState_run {α : Type} (N : Nat) (g_0 : Int) (g_1 : Nat → Int) (g_2 : Nat → Int) (x : Nat → Int) (K : AV → Heap → Option α) :
    callK Try.prog (E_i_Grid_isState α N) 1 202 0 (buildS i_IsState_a [.i g_0, .f g_1, .f g_2, .f x]).t (buildS i_IsState_a [.i g_0, .f g_1, .f g_2, .f x]).h K = i_IsState none N g_0 g_1 g_2 x (fun r__ => retK (buildS i_IsState_r0 [.b r__]) K) := by kernel_rfl
def E_i_IsState (α : Type) (N : Nat) : Env α := (E_i_Grid_isState α N).addFun 202 true 0 i_IsState_a (fun l K => match l with
    | [.i g_0, .f g_1, .f g_2, .f x] => i_IsState none N g_0 g_1 g_2 x (fun r__ => retK (buildS i_IsState_r0 [.b r__]) K)
    | _ => none)
theorem E_i_IsState_ok {α : Type} (N : Nat) : EnvOk Try.prog (E_i_IsState α N) := (E_i_Grid_isState_ok N).addFun prog_mixed prog_names (d := 1) fun l K r h => by
  split at h
  · exact (i_IsState_run N _ _ _ _ K).trans h
  · cases h

def A_i_pairsBelow_l0 (α : Type) (N : Nat) : Env α := (E_i_IsState α N).addAnn 203 4 { head := [0, 2, 4, 6, 8, 11, 12, 15, 16], grow := [], out := [12], ret := [10] }
theorem A_i_pairsBelow_l0_ok {α : Type} (N : Nat) : EnvOk Try.prog (A_i_pairsBelow_l0 α N) := (E_i_IsState_ok N).addAnn

def A_i_pairsBelow_l1 (α : Type) (N : Nat) : Env α := (A_i_pairsBelow_l0 α N).addAnn 203 7 { head := [0, 2, 4, 6, 8, 11, 12, 13, 15, 16, 19, 20], grow := [], out := [0, 2, 4, 6, 8, 11, 12, 15, 16], ret := [10] }
theorem A_i_pairsBelow_l1_ok {α : Type} (N : Nat) : EnvOk Try.prog (A_i_pairsBelow_l1 α N) := (A_i_pairsBelow_l0_ok N).addAnn

/-- impl.pairsBelow$1 -/
def i_pairsBelow_1_a : SPat := ⟨[.int .i64, .bool], []⟩
def i_pairsBelow_1_r0 : SPat := ⟨[.int .i64], []⟩
theorem i_pairsBelow_1_run {α : Type} (N : Nat) (k : Int) (half : Bool) (K : AV → Heap → Option α) :
    callK Try.prog (A_i_pairsBelow_l1 α N) 1 219 0 (buildS i_pairsBelow_1_a [.i k, .b half]).t (buildS i_pairsBelow_1_a [.i k, .b half]).h K = i_pairsBelow_1 none N k half (fun r__ => retK (buildS i_pairsBelow_1_r0 [.i r__]) K) := by kernel_rfl
def E_i_pairsBelow_1 (α : Type) (N : Nat) : Env α := (A_i_pairsBelow_l1 α N).addFun 219 true 0 i_pairsBelow_1_a (fun l K => match l with
    | [.i k, .b half] => i_pairsBelow_1 none N k half (fun r__ => retK (buildS i_pairsBelow_1_r0 [.i r__]) K)
    | _ => none)
theorem E_i_pairsBelow_1_ok {α : Type} (N : Nat) : EnvOk Try.prog (E_i_pairsBelow_1 α N) := (A_i_pairsBelow_l1_ok N).addFun prog_mixed prog_names (d := 1) fun l K r h => by
  split at h
  · exact (i_pairsBelow_1_run N _ _ K).trans h
  · cases h

/-- impl.pairsBelow, loop -/
def i_pairsBelow_l1_p : SPat := ⟨[.int .i64, .undef, .bool, .undef, .bool, .undef, .ptr ⟨⟨0, 0⟩, 0, 0, 8⟩, .undef, .ptr ⟨⟨1, 0⟩, 0, 0, 8⟩, .undef, .undef, .func 219 [], .int .i64, .int .i64, .undef, .int .i64, .int .i64, .undef, .undef, .int .i64, .int .i64] ++ List.replicate 33 .undef, [[.ints .u8 8], [.ints .u8 8]]⟩
def i_pairsBelow_l1_o0 : SPat := ⟨[.int .i64, .undef, .bool, .undef, .bool, .undef, .ptr ⟨⟨0, 0⟩, 0, 0, 8⟩, .undef, .ptr ⟨⟨1, 0⟩, 0, 0, 8⟩, .undef, .undef, .func 219 [], .int .i64, .undef, .undef, .int .i64, .int .i64] ++ List.replicate 37 .undef, [[.ints .u8 8], [.ints .u8 8]]⟩
theorem i_pairsBelow_l1_round {α : Type} (N : Nat) (n : Int) (shifted : Bool) (other : Bool) (many : Int) (i : Int) (t15 : Int) (t16 : Int) (t19 : Int) (t20 : Int) (h0 : Nat → Int) (h1 : Nat → Int) (kn : St → Option α) (K : AExit → St → Option α) :
    roundK Try.prog (E_i_pairsBelow_1 α N) 1 0 203 Try.f203 7 2 (buildS i_pairsBelow_l1_p [.i n, .b shifted, .b other, .i many, .i i, .i t15, .i t16, .i t19, .i t20, .f h0, .f h1]) kn K = i_pairsBelow_l1_s none N n shifted other i t15 t16 t19 h0 h1 many t20 (fun many t20 => kn (buildS i_pairsBelow_l1_p [.i n, .b shifted, .b other, .i many, .i i, .i t15, .i t16, .i t19, .i t20, .f h0, .f h1])) (fun many_ => K (.exit 2) (buildS i_pairsBelow_l1_o0 [.i n, .b shifted, .b other, .i many_, .i t15, .i t16, .f h0, .f h1])) := by kernel_rfl
theorem i_pairsBelow_l1_loop {α : Type} (N : Nat) (n : Int) (shifted : Bool) (other : Bool) (i : Int) (t15 : Int) (t16 : Int) (t19 : Int) (h0 : Nat → Int) (h1 : Nat → Int) (K : AExit → St → Option α) : ∀ (m : Nat) (many : Int) (t20 : Int),
    loopN (trimSt ((E_i_pairsBelow_1 α N).ann 203 7).head ((E_i_pairsBelow_1 α N).ann 203 7).grow 2) (bodyK Try.prog (E_i_pairsBelow_1 α N) 1 0 203 Try.f203 7) m (buildS i_pairsBelow_l1_p [.i n, .b shifted, .b other, .i many, .i i, .i t15, .i t16, .i t19, .i t20, .f h0, .f h1]) (leaveLoop ((E_i_pairsBelow_1 α N).ann 203 7) 2 K) = i_pairsBelow_l1 none N n shifted other i t15 t16 t19 h0 h1 m many t20 (fun many_ => K (.exit 2) (buildS i_pairsBelow_l1_o0 [.i n, .b shifted, .b other, .i many_, .i t15, .i t16, .f h0, .f h1])) := by
  intro m
  induction m with
  | zero => intros; rfl
  | succ m ih =>
    intro many t20
    rw [loopN_round]
    refine (i_pairsBelow_l1_round N n shifted other many i t15 t16 t19 t20 h0 h1 _ K).trans ?_
    simp only [ih]
    rfl
def E_i_pairsBelow_l1 (α : Type) (N : Nat) : Env α := (E_i_pairsBelow_1 α N).addLoop2 203 7 (loopSum2 ((E_i_pairsBelow_1 α N).ann 203 7) 0 i_pairsBelow_l1_p (fun l K => match l with
    | [.i n, .b shifted, .b other, .i many, .i i, .i t15, .i t16, .i t19, .i t20, .f h0, .f h1] => i_pairsBelow_l1 none N n shifted other i t15 t16 t19 h0 h1 N many t20 (fun many_ => K (.exit 2) (buildS i_pairsBelow_l1_o0 [.i n, .b shifted, .b other, .i many_, .i t15, .i t16, .f h0, .f h1]))
    | _ => none) ((E_i_pairsBelow_1 α N).ls 203 7))
theorem E_i_pairsBelow_l1_ok {α : Type} (N : Nat) : EnvOk Try.prog (E_i_pairsBelow_l1 α N) := (E_i_pairsBelow_1_ok N).addLoop2 Try.func203 (by kernel_rfl) (loopSum_ok prog_mixed prog_names (E_i_pairsBelow_1_ok N) Try.func203 (by kernel_rfl) (d := 1) (ro := 0) fun l K r h => by
  split at h
  · exact (i_pairsBelow_l1_loop N _ _ _ _ _ _ _ _ _ K N _ _).trans h
  · cases h)

/-- impl.pairsBelow, loop -/
def i_pairsBelow_l0_p : SPat := ⟨[.int .i64, .undef, .bool, .undef, .bool, .undef, .ptr ⟨⟨0, 0⟩, 0, 0, 8⟩, .undef, .ptr ⟨⟨1, 0⟩, 0, 0, 8⟩, .undef, .undef, .func 219 [], .int .i64, .undef, .undef, .int .i64, .int .i64] ++ List.replicate 37 .undef, [[.ints .u8 8], [.ints .u8 8]]⟩
def i_pairsBelow_l0_o0 : SPat := ⟨[.undef, .undef, .undef, .undef, .undef, .undef, .undef, .undef, .undef, .undef, .undef, .undef, .int .i64] ++ List.replicate 41 .undef, [[.ints .u8 8], [.ints .u8 8]]⟩
theorem i_pairsBelow_l0_round {α : Type} (N : Nat) (n : Int) (shifted : Bool) (other : Bool) (many : Int) (t15 : Int) (t16 : Int) (h0 : Nat → Int) (h1 : Nat → Int) (kn : St → Option α) (K : AExit → St → Option α) :
    roundK Try.prog (E_i_pairsBelow_l1 α N) 1 0 203 Try.f203 4 2 (buildS i_pairsBelow_l0_p [.i n, .b shifted, .b other, .i many, .i t15, .i t16, .f h0, .f h1]) kn K = i_pairsBelow_l0_s none N n shifted other t15 h0 h1 many t16 (fun many t16 => kn (buildS i_pairsBelow_l0_p [.i n, .b shifted, .b other, .i many, .i t15, .i t16, .f h0, .f h1])) (fun many_ => K (.exit 0) (buildS i_pairsBelow_l0_o0 [.i many_, .f h0, .f h1])) := by kernel_rfl
theorem i_pairsBelow_l0_loop {α : Type} (N : Nat) (n : Int) (shifted : Bool) (other : Bool) (t15 : Int) (h0 : Nat → Int) (h1 : Nat → Int) (K : AExit → St → Option α) : ∀ (m : Nat) (many : Int) (t16 : Int),
    loopN (trimSt ((E_i_pairsBelow_l1 α N).ann 203 4).head ((E_i_pairsBelow_l1 α N).ann 203 4).grow 2) (bodyK Try.prog (E_i_pairsBelow_l1 α N) 1 0 203 Try.f203 4) m (buildS i_pairsBelow_l0_p [.i n, .b shifted, .b other, .i many, .i t15, .i t16, .f h0, .f h1]) (leaveLoop ((E_i_pairsBelow_l1 α N).ann 203 4) 2 K) = i_pairsBelow_l0 none N n shifted other t15 h0 h1 m many t16 (fun many_ => K (.exit 0) (buildS i_pairsBelow_l0_o0 [.i many_, .f h0, .f h1])) := by
  intro m
  induction m with
  | zero => intros; rfl
  | succ m ih =>
    intro many t16
    rw [loopN_round]
    refine (i_pairsBelow_l0_round N n shifted other many t15 t16 h0 h1 _ K).trans ?_
    simp only [ih]
    rfl
def E_i_pairsBelow_l0 (α : Type) (N : Nat) : Env α := (E_i_pairsBelow_l1 α N).addLoop2 203 4 (loopSum2 ((E_i_pairsBelow_l1 α N).ann 203 4) 0 i_pairsBelow_l0_p (fun l K => match l with
    | [.i n, .b shifted, .b other, .i many, .i t15, .i t16, .f h0, .f h1] => i_pairsBelow_l0 none N n shifted other t15 h0 h1 N many t16 (fun many_ => K (.exit 0) (buildS i_pairsBelow_l0_o0 [.i many_, .f h0, .f h1]))
    | _ => none) ((E_i_pairsBelow_l1 α N).ls 203 4))
theorem E_i_pairsBelow_l0_ok {α : Type} (N : Nat) : EnvOk Try.prog (E_i_pairsBelow_l0 α N) := (E_i_pairsBelow_l1_ok N).addLoop2 Try.func203 (by kernel_rfl) (loopSum_ok prog_mixed prog_names (E_i_pairsBelow_l1_ok N) Try.func203 (by kernel_rfl) (d := 1) (ro := 0) fun l K r h => by
  split at h
  · exact (i_pairsBelow_l0_loop N _ _ _ _ _ _ K N _ _).trans h
  · cases h)

/-- impl.pairsBelow -/
def i_pairsBelow_a : SPat := ⟨[.int .i64, .agg [.ints .u8 8], .bool, .agg [.ints .u8 8], .bool], []⟩
def i_pairsBelow_r0 : SPat := ⟨[.int .i64], []⟩
theorem i_pairsBelow_run {α : Type} (N : Nat) (n : Int) (p : Nat → Int) (shifted : Bool) (q : Nat → Int) (other : Bool) (K : AV → Heap → Option α) :
    callK Try.prog (E_i_pairsBelow_l0 α N) 1 203 0 (buildS i_pairsBelow_a [.i n, .f p, .b shifted, .f q, .b other]).t (buildS i_pairsBelow_a [.i n, .f p, .b shifted, .f q, .b other]).h K = i_pairsBelow none N n p shifted q other (fun r__ => retK (buildS i_pairsBelow_r0 [.i r__]) K) := by kernel_rfl
def E_i_pairsBelow (α : Type) (N : Nat) : Env α := (E_i_pairsBelow_l0 α N).addFun 203 true 0 i_pairsBelow_a (fun l K => match l with
    | [.i n, .f p, .b shifted, .f q, .b other] => i_pairsBelow none N n p shifted q other (fun r__ => retK (buildS i_pairsBelow_r0 [.i r__]) K)
    | _ => none)
theorem E_i_pairsBelow_ok {α : Type} (N : Nat) : EnvOk Try.prog (E_i_pairsBelow α N) := (E_i_pairsBelow_l0_ok N).addFun prog_mixed prog_names (d := 1) fun l K r h => by
  split at h
  · exact (i_pairsBelow_run N _ _ _ _ _ K).trans h
  · cases h

/-- (impl.Grid).maslov -/
def i_Grid_maslov_a : SPat := ⟨[.agg [.vals [.int .i64], .ints .u8 8, .ints .u8 8], .agg [.ints .u8 8], .agg [.ints .u8 8]], []⟩
def i_Grid_maslov_r0 : SPat := ⟨[.int .i64], []⟩
theorem i_Grid_maslov_run {α : Type} (N : Nat) (g_0 : Int) (g_1 : Nat → Int) (g_2 : Nat → Int) (x : Nat → Int) (marks : Nat → Int) (K : AV → Heap → Option α) :
    callK Try.prog (E_i_pairsBelow α N) 1 150 0 (buildS i_Grid_maslov_a [.i g_0, .f g_1, .f g_2, .f x, .f marks]).t (buildS i_Grid_maslov_a [.i g_0, .f g_1, .f g_2, .f x, .f marks]).h K = i_Grid_maslov none N g_0 g_1 g_2 x marks (fun r__ => retK (buildS i_Grid_maslov_r0 [.i r__]) K) := by kernel_rfl
def E_i_Grid_maslov (α : Type) (N : Nat) : Env α := (E_i_pairsBelow α N).addFun 150 true 0 i_Grid_maslov_a (fun l K => match l with
    | [.i g_0, .f g_1, .f g_2, .f x, .f marks] => i_Grid_maslov none N g_0 g_1 g_2 x marks (fun r__ => retK (buildS i_Grid_maslov_r0 [.i r__]) K)
    | _ => none)
theorem E_i_Grid_maslov_ok {α : Type} (N : Nat) : EnvOk Try.prog (E_i_Grid_maslov α N) := (E_i_pairsBelow_ok N).addFun prog_mixed prog_names (d := 1) fun l K r h => by
  split at h
  · exact (i_Grid_maslov_run N _ _ _ _ _ K).trans h
  · cases h

/-- impl.MaslovOf$1 -/
def i_MaslovOf_1_a : SPat := ⟨[.agg [.vals [.int .i64], .ints .u8 8, .ints .u8 8], .agg [.ints .u8 8], .ptr ⟨⟨0, 0⟩, 0, 0, 1⟩], [[.vals [.bool]]]⟩
def i_MaslovOf_1_r0 : SPat := ⟨[.int .i64], [[.vals [.bool]]]⟩
theorem i_MaslovOf_1_run {α : Type} (N : Nat) (g_0 : Int) (g_1 : Nat → Int) (g_2 : Nat → Int) (x : Nat → Int) (h0 : Bool) (K : AV → Heap → Option α) :
    callK Try.prog (E_i_Grid_maslov α N) 1 149 1 (buildS i_MaslovOf_1_a [.i g_0, .f g_1, .f g_2, .f x, .b h0]).t (buildS i_MaslovOf_1_a [.i g_0, .f g_1, .f g_2, .f x, .b h0]).h K = i_MaslovOf_1 none N g_0 g_1 g_2 x h0 (fun r__ => retK (buildS i_MaslovOf_1_r0 [.i r__, .b h0]) K) := by kernel_rfl
def E_i_MaslovOf_1 (α : Type) (N : Nat) : Env α := (E_i_Grid_maslov α N).addFun 149 true 1 i_MaslovOf_1_a (fun l K => match l with
    | [.i g_0, .f g_1, .f g_2, .f x, .b h0] => i_MaslovOf_1 none N g_0 g_1 g_2 x h0 (fun r__ => retK (buildS i_MaslovOf_1_r0 [.i r__, .b h0]) K)
    | _ => none)
theorem E_i_MaslovOf_1_ok {α : Type} (N : Nat) : EnvOk Try.prog (E_i_MaslovOf_1 α N) := (E_i_Grid_maslov_ok N).addFun prog_mixed prog_names (d := 1) fun l K r h => by
  split at h
  · exact (i_MaslovOf_1_run N _ _ _ _ _ K).trans h
  · cases h

/-- impl.stated[int64] -/
def i_stated_int64_s2_a : SPat := ⟨[.agg [.vals [.int .i64], .ints .u8 8, .ints .u8 8], .agg [.ints .u8 8], .func 149 [.ptr ⟨⟨0, 0⟩, 0, 0, 1⟩]], [[.vals [.bool]]]⟩
def i_stated_int64_s2_r0 : SPat := ⟨[.tuple [.int .i64, .int .i64]], [[.vals [.bool]]]⟩
theorem i_stated_int64_s2_run {α : Type} (N : Nat) (g_0 : Int) (g_1 : Nat → Int) (g_2 : Nat → Int) (x : Nat → Int) (h0 : Bool) (K : AV → Heap → Option α) :
    callK Try.prog (E_i_MaslovOf_1 α N) 1 148 1 (buildS i_stated_int64_s2_a [.i g_0, .f g_1, .f g_2, .f x, .b h0]).t (buildS i_stated_int64_s2_a [.i g_0, .f g_1, .f g_2, .f x, .b h0]).h K = i_stated_int64_s2 none N g_0 g_1 g_2 x h0 (fun r_0_ r_1_ => retK (buildS i_stated_int64_s2_r0 [.i r_0_, .i r_1_, .b h0]) K) := by kernel_rfl
def E_i_stated_int64_s2 (α : Type) (N : Nat) : Env α := (E_i_MaslovOf_1 α N).addFun 148 true 1 i_stated_int64_s2_a (fun l K => match l with
    | [.i g_0, .f g_1, .f g_2, .f x, .b h0] => i_stated_int64_s2 none N g_0 g_1 g_2 x h0 (fun r_0_ r_1_ => retK (buildS i_stated_int64_s2_r0 [.i r_0_, .i r_1_, .b h0]) K)
    | _ => none)
theorem E_i_stated_int64_s2_ok {α : Type} (N : Nat) : EnvOk Try.prog (E_i_stated_int64_s2 α N) := (E_i_MaslovOf_1_ok N).addFun prog_mixed prog_names (d := 1) fun l K r h => by
  split at h
  · exact (i_stated_int64_s2_run N _ _ _ _ _ K).trans h
  · cases h

/-- impl.MaslovOf -/
def i_MaslovOf_a : SPat := ⟨[.agg [.vals [.int .i64], .ints .u8 8, .ints .u8 8], .agg [.ints .u8 8], .bool], []⟩
def i_MaslovOf_r0 : SPat := ⟨[.tuple [.int .i64, .int .i64]], []⟩
theorem i_MaslovOf_run {α : Type} (N : Nat) (g_0 : Int) (g_1 : Nat → Int) (g_2 : Nat → Int) (x : Nat → Int) (xs : Bool) (K : AV → Heap → Option α) :
    callK Try.prog (E_i_stated_int64_s2 α N) 1 57 0 (buildS i_MaslovOf_a [.i g_0, .f g_1, .f g_2, .f x, .b xs]).t (buildS i_MaslovOf_a [.i g_0, .f g_1, .f g_2, .f x, .b xs]).h K = i_MaslovOf none N g_0 g_1 g_2 x xs (fun r_0_ r_1_ => retK (buildS i_MaslovOf_r0 [.i r_0_, .i r_1_]) K) := by kernel_rfl
def E_i_MaslovOf (α : Type) (N : Nat) : Env α := (E_i_stated_int64_s2 α N).addFun 57 true 0 i_MaslovOf_a (fun l K => match l with
    | [.i g_0, .f g_1, .f g_2, .f x, .b xs] => i_MaslovOf none N g_0 g_1 g_2 x xs (fun r_0_ r_1_ => retK (buildS i_MaslovOf_r0 [.i r_0_, .i r_1_]) K)
    | _ => none)
theorem E_i_MaslovOf_ok {α : Type} (N : Nat) : EnvOk Try.prog (E_i_MaslovOf α N) := (E_i_stated_int64_s2_ok N).addFun prog_mixed prog_names (d := 1) fun l K r h => by
  split at h
  · exact (i_MaslovOf_run N _ _ _ _ _ K).trans h
  · cases h
end Go.AM
