/- A part of a proof about the given program: an abstract machine, what the given functions come to, and plain laws. -/
import Derived.Test.YtijijnfmcmeioaaAMEnv2
import Derived.Test.YtijijnfmcmeioaaDLowerState
import Derived.Test.YtijijnfmcmeioaaDAlexanderNumber
import Derived.Test.YtijijnfmcmeioaaDIsMosaic
import Derived.Test.YtijijnfmcmeioaaDMaslovOf
import Derived.Test.YtijijnfmcmeioaaProg
set_option maxRecDepth 100000
namespace Go.AM
open Go.Proofs

def E0 (α : Type) (N : Nat) : Env α := Env.base (fun _ _ => {}) N
theorem E0_ok {α : Type} (N : Nat) : EnvOk Try.prog (E0 α N) := .base
theorem prog_mixed : Try.prog.follows .mixedOrders = true := by kernel_rfl
theorem prog_names : NamesOk Try.prog := .of_all (by kernel_rfl)
def A_w_toByteA8_l0 (α : Type) (N : Nat) : Env α := (E0 α N).addAnn 62 3 { head := [1, 2, 3, 4], grow := [], out := [2, 3], ret := [2] }
theorem A_w_toByteA8_l0_ok {α : Type} (N : Nat) : EnvOk Try.prog (A_w_toByteA8_l0 α N) := (E0_ok N).addAnn

/-- laws.toByteA8, loop -/
def w_toByteA8_l0_p : SPat := ⟨[.undef, .ptr ⟨0, 0, 0, 8⟩, .ptr ⟨1, 0, 0, 8⟩, .ptr ⟨2, 0, 0, 8⟩, .int .i64] ++ List.replicate 10 .undef, [[.ints .u8 8], [.ints .u8 8], [.ints .u8 8]]⟩
def w_toByteA8_l0_o0 : SPat := ⟨[.undef, .undef, .ptr ⟨1, 0, 0, 8⟩, .ptr ⟨2, 0, 0, 8⟩] ++ List.replicate 11 .undef, [[.ints .u8 8], [.ints .u8 8], [.ints .u8 8]]⟩
theorem w_toByteA8_l0_round {α : Type} (N : Nat) (i : Int) (h0 : Nat → Int) (h1 : Nat → Int) (h2 : Nat → Int) (kn : St → Option α) (K : AExit → St → Option α) :
    roundK Try.prog (A_w_toByteA8_l0 α N) 1 0 62 Try.f62 3 3 (buildS w_toByteA8_l0_p [.i i, .f h0, .f h1, .f h2]) kn K = w_toByteA8_l0_s none h0 h1 i h2 (fun i h2 => kn (buildS w_toByteA8_l0_p [.i i, .f h0, .f h1, .f h2])) (fun h2_ => K (.exit 0) (buildS w_toByteA8_l0_o0 [.f h0, .f h1, .f h2_])) := by kernel_rfl
theorem w_toByteA8_l0_loop {α : Type} (N : Nat) (h0 : Nat → Int) (h1 : Nat → Int) (K : AExit → St → Option α) : ∀ (m : Nat) (i : Int) (h2 : Nat → Int),
    loopN (trimSt ((A_w_toByteA8_l0 α N).ann 62 3).head ((A_w_toByteA8_l0 α N).ann 62 3).grow 3) (bodyK Try.prog (A_w_toByteA8_l0 α N) 1 0 62 Try.f62 3) m (buildS w_toByteA8_l0_p [.i i, .f h0, .f h1, .f h2]) (leaveLoop ((A_w_toByteA8_l0 α N).ann 62 3) 3 K) = w_toByteA8_l0 none h0 h1 m i h2 (fun h2_ => K (.exit 0) (buildS w_toByteA8_l0_o0 [.f h0, .f h1, .f h2_])) := by
  intro m
  induction m with
  | zero => intros; rfl
  | succ m ih =>
    intro i h2
    rw [loopN_round]
    refine (w_toByteA8_l0_round N i h0 h1 h2 _ K).trans ?_
    simp only [ih]
    rfl
def E_w_toByteA8_l0 (α : Type) (N : Nat) : Env α := (A_w_toByteA8_l0 α N).addLoop2 62 3 (loopSum2 ((A_w_toByteA8_l0 α N).ann 62 3) 0 w_toByteA8_l0_p (fun l K => match l with
    | [.i i, .f h0, .f h1, .f h2] => w_toByteA8_l0 none h0 h1 N i h2 (fun h2_ => K (.exit 0) (buildS w_toByteA8_l0_o0 [.f h0, .f h1, .f h2_]))
    | _ => none) ((A_w_toByteA8_l0 α N).ls 62 3))
theorem E_w_toByteA8_l0_ok {α : Type} (N : Nat) : EnvOk Try.prog (E_w_toByteA8_l0 α N) := (A_w_toByteA8_l0_ok N).addLoop2 Try.func62 (by kernel_rfl) (loopSum_ok prog_mixed prog_names (A_w_toByteA8_l0_ok N) Try.func62 (by kernel_rfl) (d := 1) (ro := 0) fun l K r h => by
  split at h
  · exact (w_toByteA8_l0_loop N _ _ K N _ _).trans h
  · cases h)

/-- laws.toByteA8 -/
def w_toByteA8_a : SPat := ⟨[.agg [.ints .u8 8]], []⟩
def w_toByteA8_r0 : SPat := ⟨[.agg [.ints .u8 8]], []⟩
theorem w_toByteA8_run {α : Type} (N : Nat) (a : Nat → Int) (K : AV → Heap → Option α) :
    callK Try.prog (E_w_toByteA8_l0 α N) 1 62 0 (buildS w_toByteA8_a [.f a]).t (buildS w_toByteA8_a [.f a]).h K = w_toByteA8 none N a (fun r__ => retK (buildS w_toByteA8_r0 [.f r__]) K) := by kernel_rfl
def E_w_toByteA8 (α : Type) (N : Nat) : Env α := (E_w_toByteA8_l0 α N).addFun 62 true 0 w_toByteA8_a (fun l K => match l with
    | [.f a] => w_toByteA8 none N a (fun r__ => retK (buildS w_toByteA8_r0 [.f r__]) K)
    | _ => none)
theorem E_w_toByteA8_ok {α : Type} (N : Nat) : EnvOk Try.prog (E_w_toByteA8 α N) := (E_w_toByteA8_l0_ok N).addFun prog_mixed prog_names (d := 1) fun l K r h => by
  split at h
  · exact (w_toByteA8_run N _ K).trans h
  · cases h

/-- laws.toGrid -/
def w_toGrid_a : SPat := ⟨[.agg [.vals [.int .i64], .ints .u8 8, .ints .u8 8]], []⟩
def w_toGrid_r0 : SPat := ⟨[.agg [.vals [.int .i64], .ints .u8 8, .ints .u8 8]], []⟩
theorem w_toGrid_run {α : Type} (N : Nat) (a_0 : Int) (a_1 : Nat → Int) (a_2 : Nat → Int) (K : AV → Heap → Option α) :
    callK Try.prog (E_w_toByteA8 α N) 1 15 0 (buildS w_toGrid_a [.i a_0, .f a_1, .f a_2]).t (buildS w_toGrid_a [.i a_0, .f a_1, .f a_2]).h K = w_toGrid none N a_0 a_1 a_2 (fun r_1_ r_2_ => retK (buildS w_toGrid_r0 [.i a_0, .f r_1_, .f r_2_]) K) := by kernel_rfl
def E_w_toGrid (α : Type) (N : Nat) : Env α := (E_w_toByteA8 α N).addFun 15 true 0 w_toGrid_a (fun l K => match l with
    | [.i a_0, .f a_1, .f a_2] => w_toGrid none N a_0 a_1 a_2 (fun r_1_ r_2_ => retK (buildS w_toGrid_r0 [.i a_0, .f r_1_, .f r_2_]) K)
    | _ => none)
theorem E_w_toGrid_ok {α : Type} (N : Nat) : EnvOk Try.prog (E_w_toGrid α N) := (E_w_toByteA8_ok N).addFun prog_mixed prog_names (d := 1) fun l K r h => by
  split at h
  · exact (w_toGrid_run N _ _ _ K).trans h
  · cases h

def A_w_toState_l0 (α : Type) (N : Nat) : Env α := (E_w_toGrid α N).addAnn 16 3 { head := [1, 2, 3, 4], grow := [], out := [2, 3], ret := [2] }
theorem A_w_toState_l0_ok {α : Type} (N : Nat) : EnvOk Try.prog (A_w_toState_l0 α N) := (E_w_toGrid_ok N).addAnn

/-- laws.toState, loop -/
def w_toState_l0_p : SPat := ⟨[.undef, .ptr ⟨0, 0, 0, 8⟩, .ptr ⟨1, 0, 0, 8⟩, .ptr ⟨2, 0, 0, 8⟩, .int .i64] ++ List.replicate 10 .undef, [[.ints .u8 8], [.ints .u8 8], [.ints .u8 8]]⟩
def w_toState_l0_o0 : SPat := ⟨[.undef, .undef, .ptr ⟨1, 0, 0, 8⟩, .ptr ⟨2, 0, 0, 8⟩] ++ List.replicate 11 .undef, [[.ints .u8 8], [.ints .u8 8], [.ints .u8 8]]⟩
theorem w_toState_l0_round {α : Type} (N : Nat) (i : Int) (h0 : Nat → Int) (h1 : Nat → Int) (h2 : Nat → Int) (kn : St → Option α) (K : AExit → St → Option α) :
    roundK Try.prog (A_w_toState_l0 α N) 1 0 16 Try.f16 3 3 (buildS w_toState_l0_p [.i i, .f h0, .f h1, .f h2]) kn K = w_toState_l0_s none h0 h1 i h2 (fun i h2 => kn (buildS w_toState_l0_p [.i i, .f h0, .f h1, .f h2])) (fun h2_ => K (.exit 0) (buildS w_toState_l0_o0 [.f h0, .f h1, .f h2_])) := by kernel_rfl
theorem w_toState_l0_loop {α : Type} (N : Nat) (h0 : Nat → Int) (h1 : Nat → Int) (K : AExit → St → Option α) : ∀ (m : Nat) (i : Int) (h2 : Nat → Int),
    loopN (trimSt ((A_w_toState_l0 α N).ann 16 3).head ((A_w_toState_l0 α N).ann 16 3).grow 3) (bodyK Try.prog (A_w_toState_l0 α N) 1 0 16 Try.f16 3) m (buildS w_toState_l0_p [.i i, .f h0, .f h1, .f h2]) (leaveLoop ((A_w_toState_l0 α N).ann 16 3) 3 K) = w_toState_l0 none h0 h1 m i h2 (fun h2_ => K (.exit 0) (buildS w_toState_l0_o0 [.f h0, .f h1, .f h2_])) := by
  intro m
  induction m with
  | zero => intros; rfl
  | succ m ih =>
    intro i h2
    rw [loopN_round]
    refine (w_toState_l0_round N i h0 h1 h2 _ K).trans ?_
    simp only [ih]
    rfl
def E_w_toState_l0 (α : Type) (N : Nat) : Env α := (A_w_toState_l0 α N).addLoop2 16 3 (loopSum2 ((A_w_toState_l0 α N).ann 16 3) 0 w_toState_l0_p (fun l K => match l with
    | [.i i, .f h0, .f h1, .f h2] => w_toState_l0 none h0 h1 N i h2 (fun h2_ => K (.exit 0) (buildS w_toState_l0_o0 [.f h0, .f h1, .f h2_]))
    | _ => none) ((A_w_toState_l0 α N).ls 16 3))
theorem E_w_toState_l0_ok {α : Type} (N : Nat) : EnvOk Try.prog (E_w_toState_l0 α N) := (A_w_toState_l0_ok N).addLoop2 Try.func16 (by kernel_rfl) (loopSum_ok prog_mixed prog_names (A_w_toState_l0_ok N) Try.func16 (by kernel_rfl) (d := 1) (ro := 0) fun l K r h => by
  split at h
  · exact (w_toState_l0_loop N _ _ K N _ _).trans h
  · cases h)

/-- laws.toState -/
def w_toState_a : SPat := ⟨[.agg [.ints .u8 8]], []⟩
def w_toState_r0 : SPat := ⟨[.agg [.ints .u8 8]], []⟩
theorem w_toState_run {α : Type} (N : Nat) (a : Nat → Int) (K : AV → Heap → Option α) :
    callK Try.prog (E_w_toState_l0 α N) 1 16 0 (buildS w_toState_a [.f a]).t (buildS w_toState_a [.f a]).h K = w_toState none N a (fun r__ => retK (buildS w_toState_r0 [.f r__]) K) := by kernel_rfl
def E_w_toState (α : Type) (N : Nat) : Env α := (E_w_toState_l0 α N).addFun 16 true 0 w_toState_a (fun l K => match l with
    | [.f a] => w_toState none N a (fun r__ => retK (buildS w_toState_r0 [.f r__]) K)
    | _ => none)
theorem E_w_toState_ok {α : Type} (N : Nat) : EnvOk Try.prog (E_w_toState α N) := (E_w_toState_l0_ok N).addFun prog_mixed prog_names (d := 1) fun l K r h => by
  split at h
  · exact (w_toState_run N _ K).trans h
  · cases h

/-- spec.l01In -/
def s_l01In_a : SPat := ⟨[.int .i64, .int .i64, .int .i64], []⟩
def s_l01In_r0 : SPat := ⟨[.bool], []⟩
theorem s_l01In_run {α : Type} (N : Nat) (n : Int) (low : Int) (high : Int) (K : AV → Heap → Option α) :
    callK Try.prog (E_w_toState α N) 1 92 0 (buildS s_l01In_a [.i n, .i low, .i high]).t (buildS s_l01In_a [.i n, .i low, .i high]).h K = s_l01In none N n low high (fun r__ => retK (buildS s_l01In_r0 [.b r__]) K) := by kernel_rfl
def E_s_l01In (α : Type) (N : Nat) : Env α := (E_w_toState α N).addFun 92 true 0 s_l01In_a (fun l K => match l with
    | [.i n, .i low, .i high] => s_l01In none N n low high (fun r__ => retK (buildS s_l01In_r0 [.b r__]) K)
    | _ => none)
theorem E_s_l01In_ok {α : Type} (N : Nat) : EnvOk Try.prog (E_s_l01In α N) := (E_w_toState_ok N).addFun prog_mixed prog_names (d := 1) fun l K r h => by
  split at h
  · exact (s_l01In_run N _ _ _ K).trans h
  · cases h

def A_s_l01Perm_l0 (α : Type) (N : Nat) : Env α := (E_s_l01In α N).addAnn 122 3 { head := [1, 2, 5, 6], grow := [], out := [], ret := [4] }
theorem A_s_l01Perm_l0_ok {α : Type} (N : Nat) : EnvOk Try.prog (A_s_l01Perm_l0 α N) := (E_s_l01In_ok N).addAnn

/-- spec.l01Perm, loop -/
def s_l01Perm_l0_p : SPat := ⟨[.undef, .int .i64, .ptr ⟨0, 0, 0, 8⟩, .undef, .undef, .ptr ⟨1, 0, 0, 8⟩, .int .i64] ++ List.replicate 29 .undef, [[.ints .u8 8], [.bools 8]]⟩
def s_l01Perm_l0_o0 : SPat := ⟨[.undef, .undef, .undef, .undef, .boolC false] ++ List.replicate 31 .undef, [[.ints .u8 8], [.bools 8]]⟩
def s_l01Perm_l0_o1 : SPat := ⟨[] ++ List.replicate 36 .undef, [[.ints .u8 8], [.bools 8]]⟩
theorem s_l01Perm_l0_round {α : Type} (N : Nat) (n : Int) (i : Int) (h0 : Nat → Int) (h1 : Nat → Bool) (kn : St → Option α) (K : AExit → St → Option α) :
    roundK Try.prog (A_s_l01Perm_l0 α N) 1 0 122 Try.f122 3 2 (buildS s_l01Perm_l0_p [.i n, .i i, .f h0, .g h1]) kn K = s_l01Perm_l0_s none n h0 i h1 (fun i h1 => kn (buildS s_l01Perm_l0_p [.i n, .i i, .f h0, .g h1])) (fun h1_ => K .ret (buildS s_l01Perm_l0_o0 [.f h0, .g h1_])) (fun h1_ => K (.exit 0) (buildS s_l01Perm_l0_o1 [.f h0, .g h1_])) := by kernel_rfl
theorem s_l01Perm_l0_loop {α : Type} (N : Nat) (n : Int) (h0 : Nat → Int) (K : AExit → St → Option α) : ∀ (m : Nat) (i : Int) (h1 : Nat → Bool),
    loopN (trimSt ((A_s_l01Perm_l0 α N).ann 122 3).head ((A_s_l01Perm_l0 α N).ann 122 3).grow 2) (bodyK Try.prog (A_s_l01Perm_l0 α N) 1 0 122 Try.f122 3) m (buildS s_l01Perm_l0_p [.i n, .i i, .f h0, .g h1]) (leaveLoop ((A_s_l01Perm_l0 α N).ann 122 3) 2 K) = s_l01Perm_l0 none n h0 m i h1 (fun h1_ => K .ret (buildS s_l01Perm_l0_o0 [.f h0, .g h1_])) (fun h1_ => K (.exit 0) (buildS s_l01Perm_l0_o1 [.f h0, .g h1_])) := by
  intro m
  induction m with
  | zero => intros; rfl
  | succ m ih =>
    intro i h1
    rw [loopN_round]
    refine (s_l01Perm_l0_round N n i h0 h1 _ K).trans ?_
    simp only [ih]
    rfl
def E_s_l01Perm_l0 (α : Type) (N : Nat) : Env α := (A_s_l01Perm_l0 α N).addLoop2 122 3 (loopSum2 ((A_s_l01Perm_l0 α N).ann 122 3) 0 s_l01Perm_l0_p (fun l K => match l with
    | [.i n, .i i, .f h0, .g h1] => s_l01Perm_l0 none n h0 N i h1 (fun h1_ => K .ret (buildS s_l01Perm_l0_o0 [.f h0, .g h1_])) (fun h1_ => K (.exit 0) (buildS s_l01Perm_l0_o1 [.f h0, .g h1_]))
    | _ => none) ((A_s_l01Perm_l0 α N).ls 122 3))
theorem E_s_l01Perm_l0_ok {α : Type} (N : Nat) : EnvOk Try.prog (E_s_l01Perm_l0 α N) := (A_s_l01Perm_l0_ok N).addLoop2 Try.func122 (by kernel_rfl) (loopSum_ok prog_mixed prog_names (A_s_l01Perm_l0_ok N) Try.func122 (by kernel_rfl) (d := 1) (ro := 0) fun l K r h => by
  split at h
  · exact (s_l01Perm_l0_loop N _ _ K N _ _).trans h
  · cases h)

/-- spec.l01Perm -/
def s_l01Perm_a : SPat := ⟨[.agg [.ints .u8 8], .int .i64], []⟩
def s_l01Perm_r0 : SPat := ⟨[.bool], []⟩
theorem s_l01Perm_run {α : Type} (N : Nat) (list : Nat → Int) (n : Int) (K : AV → Heap → Option α) :
    callK Try.prog (E_s_l01Perm_l0 α N) 1 122 0 (buildS s_l01Perm_a [.f list, .i n]).t (buildS s_l01Perm_a [.f list, .i n]).h K = s_l01Perm none N list n (fun r__ => retK (buildS s_l01Perm_r0 [.b r__]) K) := by kernel_rfl
def E_s_l01Perm (α : Type) (N : Nat) : Env α := (E_s_l01Perm_l0 α N).addFun 122 true 0 s_l01Perm_a (fun l K => match l with
    | [.f list, .i n] => s_l01Perm none N list n (fun r__ => retK (buildS s_l01Perm_r0 [.b r__]) K)
    | _ => none)
theorem E_s_l01Perm_ok {α : Type} (N : Nat) : EnvOk Try.prog (E_s_l01Perm α N) := (E_s_l01Perm_l0_ok N).addFun prog_mixed prog_names (d := 1) fun l K r h => by
  split at h
  · exact (s_l01Perm_run N _ _ K).trans h
  · cases h

def A_s_l01Is_l0 (α : Type) (N : Nat) : Env α := (E_s_l01Perm α N).addAnn 66 4 { head := [1, 3], grow := [], out := [], ret := [2] }
theorem A_s_l01Is_l0_ok {α : Type} (N : Nat) : EnvOk Try.prog (A_s_l01Is_l0 α N) := (E_s_l01Perm_ok N).addAnn

/-- spec.l01Is, loop -/
def s_l01Is_l0_p : SPat := ⟨[.undef, .ptr ⟨0, 0, 0, 1⟩, .undef, .int .i64] ++ List.replicate 35 .undef, [[.vals [.int .i64], .ints .u8 8, .ints .u8 8]]⟩
def s_l01Is_l0_o0 : SPat := ⟨[.undef, .undef, .boolC false] ++ List.replicate 36 .undef, [[.vals [.int .i64], .ints .u8 8, .ints .u8 8]]⟩
def s_l01Is_l0_o1 : SPat := ⟨[] ++ List.replicate 39 .undef, [[.vals [.int .i64], .ints .u8 8, .ints .u8 8]]⟩
theorem s_l01Is_l0_round {α : Type} (N : Nat) (i : Int) (h0_0 : Int) (h0_1 : Nat → Int) (h0_2 : Nat → Int) (kn : St → Option α) (K : AExit → St → Option α) :
    roundK Try.prog (A_s_l01Is_l0 α N) 1 0 66 Try.f66 4 1 (buildS s_l01Is_l0_p [.i i, .i h0_0, .f h0_1, .f h0_2]) kn K = s_l01Is_l0_s none h0_0 h0_1 h0_2 i (fun i => kn (buildS s_l01Is_l0_p [.i i, .i h0_0, .f h0_1, .f h0_2])) (K .ret (buildS s_l01Is_l0_o0 [.i h0_0, .f h0_1, .f h0_2])) (K (.exit 0) (buildS s_l01Is_l0_o1 [.i h0_0, .f h0_1, .f h0_2])) := by kernel_rfl
theorem s_l01Is_l0_loop {α : Type} (N : Nat) (h0_0 : Int) (h0_1 : Nat → Int) (h0_2 : Nat → Int) (K : AExit → St → Option α) : ∀ (m : Nat) (i : Int),
    loopN (trimSt ((A_s_l01Is_l0 α N).ann 66 4).head ((A_s_l01Is_l0 α N).ann 66 4).grow 1) (bodyK Try.prog (A_s_l01Is_l0 α N) 1 0 66 Try.f66 4) m (buildS s_l01Is_l0_p [.i i, .i h0_0, .f h0_1, .f h0_2]) (leaveLoop ((A_s_l01Is_l0 α N).ann 66 4) 1 K) = s_l01Is_l0 none h0_0 h0_1 h0_2 m i (K .ret (buildS s_l01Is_l0_o0 [.i h0_0, .f h0_1, .f h0_2])) (K (.exit 0) (buildS s_l01Is_l0_o1 [.i h0_0, .f h0_1, .f h0_2])) := by
  intro m
  induction m with
  | zero => intros; rfl
  | succ m ih =>
    intro i
    rw [loopN_round]
    refine (s_l01Is_l0_round N i h0_0 h0_1 h0_2 _ K).trans ?_
    simp only [ih]
    rfl
def E_s_l01Is_l0 (α : Type) (N : Nat) : Env α := (A_s_l01Is_l0 α N).addLoop2 66 4 (loopSum2 ((A_s_l01Is_l0 α N).ann 66 4) 0 s_l01Is_l0_p (fun l K => match l with
    | [.i i, .i h0_0, .f h0_1, .f h0_2] => s_l01Is_l0 none h0_0 h0_1 h0_2 N i (K .ret (buildS s_l01Is_l0_o0 [.i h0_0, .f h0_1, .f h0_2])) (K (.exit 0) (buildS s_l01Is_l0_o1 [.i h0_0, .f h0_1, .f h0_2]))
    | _ => none) ((A_s_l01Is_l0 α N).ls 66 4))
theorem E_s_l01Is_l0_ok {α : Type} (N : Nat) : EnvOk Try.prog (E_s_l01Is_l0 α N) := (A_s_l01Is_l0_ok N).addLoop2 Try.func66 (by kernel_rfl) (loopSum_ok prog_mixed prog_names (A_s_l01Is_l0_ok N) Try.func66 (by kernel_rfl) (d := 1) (ro := 0) fun l K r h => by
  split at h
  · exact (s_l01Is_l0_loop N _ _ _ K N _).trans h
  · cases h)

/-- spec.l01Is -/
def s_l01Is_a : SPat := ⟨[.agg [.vals [.int .i64], .ints .u8 8, .ints .u8 8]], []⟩
def s_l01Is_r0 : SPat := ⟨[.bool], []⟩
theorem s_l01Is_run {α : Type} (N : Nat) (g_0 : Int) (g_1 : Nat → Int) (g_2 : Nat → Int) (K : AV → Heap → Option α) :
    callK Try.prog (E_s_l01Is_l0 α N) 1 66 0 (buildS s_l01Is_a [.i g_0, .f g_1, .f g_2]).t (buildS s_l01Is_a [.i g_0, .f g_1, .f g_2]).h K = s_l01Is none N g_0 g_1 g_2 (fun r__ => retK (buildS s_l01Is_r0 [.b r__]) K) := by kernel_rfl
def E_s_l01Is (α : Type) (N : Nat) : Env α := (E_s_l01Is_l0 α N).addFun 66 true 0 s_l01Is_a (fun l K => match l with
    | [.i g_0, .f g_1, .f g_2] => s_l01Is none N g_0 g_1 g_2 (fun r__ => retK (buildS s_l01Is_r0 [.b r__]) K)
    | _ => none)
theorem E_s_l01Is_ok {α : Type} (N : Nat) : EnvOk Try.prog (E_s_l01Is α N) := (E_s_l01Is_l0_ok N).addFun prog_mixed prog_names (d := 1) fun l K r h => by
  split at h
  · exact (s_l01Is_run N _ _ _ K).trans h
  · cases h

/-- spec.l05Is -/
def s_l05Is_a : SPat := ⟨[.agg [.vals [.int .i64], .ints .u8 8, .ints .u8 8], .agg [.ints .u8 8]], []⟩
def s_l05Is_r0 : SPat := ⟨[.bool], []⟩
theorem s_l05Is_run {α : Type} (N : Nat) (g_0 : Int) (g_1 : Nat → Int) (g_2 : Nat → Int) (x : Nat → Int) (K : AV → Heap → Option α) :
    callK Try.prog (E_s_l01Is α N) 1 60 0 (buildS s_l05Is_a [.i g_0, .f g_1, .f g_2, .f x]).t (buildS s_l05Is_a [.i g_0, .f g_1, .f g_2, .f x]).h K = s_l05Is none N g_0 g_1 g_2 x (fun r__ => retK (buildS s_l05Is_r0 [.b r__]) K) := by kernel_rfl
def E_s_l05Is (α : Type) (N : Nat) : Env α := (E_s_l01Is α N).addFun 60 true 0 s_l05Is_a (fun l K => match l with
    | [.i g_0, .f g_1, .f g_2, .f x] => s_l05Is none N g_0 g_1 g_2 x (fun r__ => retK (buildS s_l05Is_r0 [.b r__]) K)
    | _ => none)
theorem E_s_l05Is_ok {α : Type} (N : Nat) : EnvOk Try.prog (E_s_l05Is α N) := (E_s_l01Is_ok N).addFun prog_mixed prog_names (d := 1) fun l K r h => by
  split at h
  · exact (s_l05Is_run N _ _ _ _ K).trans h
  · cases h

def A_s_l05Below_l0 (α : Type) (N : Nat) : Env α := (E_s_l05Is α N).addAnn 123 3 { head := [0, 3, 4, 6, 7, 11, 12], grow := [], out := [11], ret := [10] }
theorem A_s_l05Below_l0_ok {α : Type} (N : Nat) : EnvOk Try.prog (A_s_l05Below_l0 α N) := (E_s_l05Is_ok N).addAnn

def A_s_l05Below_l1 (α : Type) (N : Nat) : Env α := (A_s_l05Below_l0 α N).addAnn 123 6 { head := [0, 3, 4, 6, 7, 11, 12, 13], grow := [], out := [0, 3, 4, 6, 7, 11, 12], ret := [10] }
theorem A_s_l05Below_l1_ok {α : Type} (N : Nat) : EnvOk Try.prog (A_s_l05Below_l1 α N) := (A_s_l05Below_l0_ok N).addAnn

/-- spec.l05Below, loop -/
def s_l05Below_l1_p : SPat := ⟨[.int .i64, .undef, .undef, .int .i64, .int .i64, .undef, .ptr ⟨0, 0, 0, 8⟩, .ptr ⟨1, 0, 0, 8⟩, .undef, .undef, .undef, .int .i64, .int .i64, .int .i64] ++ List.replicate 39 .undef, [[.ints .u8 8], [.ints .u8 8]]⟩
def s_l05Below_l1_o0 : SPat := ⟨[.int .i64, .undef, .undef, .int .i64, .int .i64, .undef, .ptr ⟨0, 0, 0, 8⟩, .ptr ⟨1, 0, 0, 8⟩, .undef, .undef, .undef, .int .i64, .int .i64] ++ List.replicate 40 .undef, [[.ints .u8 8], [.ints .u8 8]]⟩
theorem s_l05Below_l1_round {α : Type} (N : Nat) (n : Int) (more : Int) (other : Int) (count : Int) (i : Int) (k : Int) (h0 : Nat → Int) (h1 : Nat → Int) (kn : St → Option α) (K : AExit → St → Option α) :
    roundK Try.prog (A_s_l05Below_l1 α N) 1 0 123 Try.f123 6 2 (buildS s_l05Below_l1_p [.i n, .i more, .i other, .i count, .i i, .i k, .f h0, .f h1]) kn K = s_l05Below_l1_s none n more other i h0 h1 count k (fun count k => kn (buildS s_l05Below_l1_p [.i n, .i more, .i other, .i count, .i i, .i k, .f h0, .f h1])) (fun count_ => K (.exit 2) (buildS s_l05Below_l1_o0 [.i n, .i more, .i other, .i count_, .i i, .f h0, .f h1])) := by kernel_rfl
theorem s_l05Below_l1_loop {α : Type} (N : Nat) (n : Int) (more : Int) (other : Int) (i : Int) (h0 : Nat → Int) (h1 : Nat → Int) (K : AExit → St → Option α) : ∀ (m : Nat) (count : Int) (k : Int),
    loopN (trimSt ((A_s_l05Below_l1 α N).ann 123 6).head ((A_s_l05Below_l1 α N).ann 123 6).grow 2) (bodyK Try.prog (A_s_l05Below_l1 α N) 1 0 123 Try.f123 6) m (buildS s_l05Below_l1_p [.i n, .i more, .i other, .i count, .i i, .i k, .f h0, .f h1]) (leaveLoop ((A_s_l05Below_l1 α N).ann 123 6) 2 K) = s_l05Below_l1 none n more other i h0 h1 m count k (fun count_ => K (.exit 2) (buildS s_l05Below_l1_o0 [.i n, .i more, .i other, .i count_, .i i, .f h0, .f h1])) := by
  intro m
  induction m with
  | zero => intros; rfl
  | succ m ih =>
    intro count k
    rw [loopN_round]
    refine (s_l05Below_l1_round N n more other count i k h0 h1 _ K).trans ?_
    simp only [ih]
    rfl
def E_s_l05Below_l1 (α : Type) (N : Nat) : Env α := (A_s_l05Below_l1 α N).addLoop2 123 6 (loopSum2 ((A_s_l05Below_l1 α N).ann 123 6) 0 s_l05Below_l1_p (fun l K => match l with
    | [.i n, .i more, .i other, .i count, .i i, .i k, .f h0, .f h1] => s_l05Below_l1 none n more other i h0 h1 N count k (fun count_ => K (.exit 2) (buildS s_l05Below_l1_o0 [.i n, .i more, .i other, .i count_, .i i, .f h0, .f h1]))
    | _ => none) ((A_s_l05Below_l1 α N).ls 123 6))
theorem E_s_l05Below_l1_ok {α : Type} (N : Nat) : EnvOk Try.prog (E_s_l05Below_l1 α N) := (A_s_l05Below_l1_ok N).addLoop2 Try.func123 (by kernel_rfl) (loopSum_ok prog_mixed prog_names (A_s_l05Below_l1_ok N) Try.func123 (by kernel_rfl) (d := 1) (ro := 0) fun l K r h => by
  split at h
  · exact (s_l05Below_l1_loop N _ _ _ _ _ _ K N _ _).trans h
  · cases h)

/-- spec.l05Below, loop -/
def s_l05Below_l0_p : SPat := ⟨[.int .i64, .undef, .undef, .int .i64, .int .i64, .undef, .ptr ⟨0, 0, 0, 8⟩, .ptr ⟨1, 0, 0, 8⟩, .undef, .undef, .undef, .int .i64, .int .i64] ++ List.replicate 40 .undef, [[.ints .u8 8], [.ints .u8 8]]⟩
def s_l05Below_l0_o0 : SPat := ⟨[.undef, .undef, .undef, .undef, .undef, .undef, .undef, .undef, .undef, .undef, .undef, .int .i64] ++ List.replicate 41 .undef, [[.ints .u8 8], [.ints .u8 8]]⟩
theorem s_l05Below_l0_round {α : Type} (N : Nat) (n : Int) (more : Int) (other : Int) (count : Int) (i : Int) (h0 : Nat → Int) (h1 : Nat → Int) (kn : St → Option α) (K : AExit → St → Option α) :
    roundK Try.prog (E_s_l05Below_l1 α N) 1 0 123 Try.f123 3 2 (buildS s_l05Below_l0_p [.i n, .i more, .i other, .i count, .i i, .f h0, .f h1]) kn K = s_l05Below_l0_s none N n more other h0 h1 count i (fun count i => kn (buildS s_l05Below_l0_p [.i n, .i more, .i other, .i count, .i i, .f h0, .f h1])) (fun count_ => K (.exit 0) (buildS s_l05Below_l0_o0 [.i count_, .f h0, .f h1])) := by kernel_rfl
theorem s_l05Below_l0_loop {α : Type} (N : Nat) (n : Int) (more : Int) (other : Int) (h0 : Nat → Int) (h1 : Nat → Int) (K : AExit → St → Option α) : ∀ (m : Nat) (count : Int) (i : Int),
    loopN (trimSt ((E_s_l05Below_l1 α N).ann 123 3).head ((E_s_l05Below_l1 α N).ann 123 3).grow 2) (bodyK Try.prog (E_s_l05Below_l1 α N) 1 0 123 Try.f123 3) m (buildS s_l05Below_l0_p [.i n, .i more, .i other, .i count, .i i, .f h0, .f h1]) (leaveLoop ((E_s_l05Below_l1 α N).ann 123 3) 2 K) = s_l05Below_l0 none N n more other h0 h1 m count i (fun count_ => K (.exit 0) (buildS s_l05Below_l0_o0 [.i count_, .f h0, .f h1])) := by
  intro m
  induction m with
  | zero => intros; rfl
  | succ m ih =>
    intro count i
    rw [loopN_round]
    refine (s_l05Below_l0_round N n more other count i h0 h1 _ K).trans ?_
    simp only [ih]
    rfl
def E_s_l05Below_l0 (α : Type) (N : Nat) : Env α := (E_s_l05Below_l1 α N).addLoop2 123 3 (loopSum2 ((E_s_l05Below_l1 α N).ann 123 3) 0 s_l05Below_l0_p (fun l K => match l with
    | [.i n, .i more, .i other, .i count, .i i, .f h0, .f h1] => s_l05Below_l0 none N n more other h0 h1 N count i (fun count_ => K (.exit 0) (buildS s_l05Below_l0_o0 [.i count_, .f h0, .f h1]))
    | _ => none) ((E_s_l05Below_l1 α N).ls 123 3))
theorem E_s_l05Below_l0_ok {α : Type} (N : Nat) : EnvOk Try.prog (E_s_l05Below_l0 α N) := (E_s_l05Below_l1_ok N).addLoop2 Try.func123 (by kernel_rfl) (loopSum_ok prog_mixed prog_names (E_s_l05Below_l1_ok N) Try.func123 (by kernel_rfl) (d := 1) (ro := 0) fun l K r h => by
  split at h
  · exact (s_l05Below_l0_loop N _ _ _ _ _ K N _ _).trans h
  · cases h)

/-- spec.l05Below -/
def s_l05Below_a : SPat := ⟨[.int .i64, .agg [.ints .u8 8], .agg [.ints .u8 8], .int .i64, .int .i64], []⟩
def s_l05Below_r0 : SPat := ⟨[.int .i64], []⟩
theorem s_l05Below_run {α : Type} (N : Nat) (n : Int) (p : Nat → Int) (q : Nat → Int) (more : Int) (other : Int) (K : AV → Heap → Option α) :
    callK Try.prog (E_s_l05Below_l0 α N) 1 123 0 (buildS s_l05Below_a [.i n, .f p, .f q, .i more, .i other]).t (buildS s_l05Below_a [.i n, .f p, .f q, .i more, .i other]).h K = s_l05Below none N n p q more other (fun r__ => retK (buildS s_l05Below_r0 [.i r__]) K) := by kernel_rfl
def E_s_l05Below (α : Type) (N : Nat) : Env α := (E_s_l05Below_l0 α N).addFun 123 true 0 s_l05Below_a (fun l K => match l with
    | [.i n, .f p, .f q, .i more, .i other] => s_l05Below none N n p q more other (fun r__ => retK (buildS s_l05Below_r0 [.i r__]) K)
    | _ => none)
theorem E_s_l05Below_ok {α : Type} (N : Nat) : EnvOk Try.prog (E_s_l05Below α N) := (E_s_l05Below_l0_ok N).addFun prog_mixed prog_names (d := 1) fun l K r h => by
  split at h
  · exact (s_l05Below_run N _ _ _ _ _ K).trans h
  · cases h

/-- spec.l05Maslov -/
def s_l05Maslov_a : SPat := ⟨[.agg [.vals [.int .i64], .ints .u8 8, .ints .u8 8], .agg [.ints .u8 8], .agg [.ints .u8 8]], []⟩
def s_l05Maslov_r0 : SPat := ⟨[.int .i64], []⟩
theorem s_l05Maslov_run {α : Type} (N : Nat) (g_0 : Int) (g_1 : Nat → Int) (g_2 : Nat → Int) (x : Nat → Int) (marks : Nat → Int) (K : AV → Heap → Option α) :
    callK Try.prog (E_s_l05Below α N) 1 61 0 (buildS s_l05Maslov_a [.i g_0, .f g_1, .f g_2, .f x, .f marks]).t (buildS s_l05Maslov_a [.i g_0, .f g_1, .f g_2, .f x, .f marks]).h K = s_l05Maslov none N g_0 g_1 g_2 x marks (fun r__ => retK (buildS s_l05Maslov_r0 [.i r__]) K) := by kernel_rfl
def E_s_l05Maslov (α : Type) (N : Nat) : Env α := (E_s_l05Below α N).addFun 61 true 0 s_l05Maslov_a (fun l K => match l with
    | [.i g_0, .f g_1, .f g_2, .f x, .f marks] => s_l05Maslov none N g_0 g_1 g_2 x marks (fun r__ => retK (buildS s_l05Maslov_r0 [.i r__]) K)
    | _ => none)
theorem E_s_l05Maslov_ok {α : Type} (N : Nat) : EnvOk Try.prog (E_s_l05Maslov α N) := (E_s_l05Below_ok N).addFun prog_mixed prog_names (d := 1) fun l K r h => by
  split at h
  · exact (s_l05Maslov_run N _ _ _ _ _ K).trans h
  · cases h

/-- spec.MaslovOf -/
def s_MaslovOf_a : SPat := ⟨[.agg [.vals [.int .i64], .ints .u8 8, .ints .u8 8], .agg [.ints .u8 8], .bool], []⟩
def s_MaslovOf_r0 : SPat := ⟨[.tuple [.int .i64, .int .i64]], []⟩
theorem s_MaslovOf_run {α : Type} (N : Nat) (g_0 : Int) (g_1 : Nat → Int) (g_2 : Nat → Int) (x : Nat → Int) (xs : Bool) (K : AV → Heap → Option α) :
    callK Try.prog (E_s_l05Maslov α N) 1 14 0 (buildS s_MaslovOf_a [.i g_0, .f g_1, .f g_2, .f x, .b xs]).t (buildS s_MaslovOf_a [.i g_0, .f g_1, .f g_2, .f x, .b xs]).h K = s_MaslovOf none N g_0 g_1 g_2 x xs (fun r_0_ r_1_ => retK (buildS s_MaslovOf_r0 [.i r_0_, .i r_1_]) K) := by kernel_rfl
def E_s_MaslovOf (α : Type) (N : Nat) : Env α := (E_s_l05Maslov α N).addFun 14 true 0 s_MaslovOf_a (fun l K => match l with
    | [.i g_0, .f g_1, .f g_2, .f x, .b xs] => s_MaslovOf none N g_0 g_1 g_2 x xs (fun r_0_ r_1_ => retK (buildS s_MaslovOf_r0 [.i r_0_, .i r_1_]) K)
    | _ => none)
theorem E_s_MaslovOf_ok {α : Type} (N : Nat) : EnvOk Try.prog (E_s_MaslovOf α N) := (E_s_l05Maslov_ok N).addFun prog_mixed prog_names (d := 1) fun l K r h => by
  split at h
  · exact (s_MaslovOf_run N _ _ _ _ _ K).trans h
  · cases h

/-- impl.within -/
def i_within_a : SPat := ⟨[.int .i64, .int .i64, .int .i64], []⟩
def i_within_r0 : SPat := ⟨[.bool], []⟩
theorem i_within_run {α : Type} (N : Nat) (x : Int) (low : Int) (high : Int) (K : AV → Heap → Option α) :
    callK Try.prog (E_s_MaslovOf α N) 1 98 0 (buildS i_within_a [.i x, .i low, .i high]).t (buildS i_within_a [.i x, .i low, .i high]).h K = i_within none N x low high (fun r__ => retK (buildS i_within_r0 [.b r__]) K) := by kernel_rfl
def E_i_within (α : Type) (N : Nat) : Env α := (E_s_MaslovOf α N).addFun 98 true 0 i_within_a (fun l K => match l with
    | [.i x, .i low, .i high] => i_within none N x low high (fun r__ => retK (buildS i_within_r0 [.b r__]) K)
    | _ => none)
theorem E_i_within_ok {α : Type} (N : Nat) : EnvOk Try.prog (E_i_within α N) := (E_s_MaslovOf_ok N).addFun prog_mixed prog_names (d := 1) fun l K r h => by
  split at h
  · exact (i_within_run N _ _ _ K).trans h
  · cases h

/-- (impl.Grid).n -/
def i_Grid_n_a : SPat := ⟨[.agg [.vals [.int .i64], .ints .u8 8, .ints .u8 8]], []⟩
def i_Grid_n_r0 : SPat := ⟨[.int .i64], []⟩
theorem i_Grid_n_run {α : Type} (N : Nat) (g_0 : Int) (g_1 : Nat → Int) (g_2 : Nat → Int) (K : AV → Heap → Option α) :
    callK Try.prog (E_i_within α N) 1 95 0 (buildS i_Grid_n_a [.i g_0, .f g_1, .f g_2]).t (buildS i_Grid_n_a [.i g_0, .f g_1, .f g_2]).h K = i_Grid_n none N g_0 g_1 g_2 (retK (buildS i_Grid_n_r0 [.i g_0]) K) := by kernel_rfl
def E_i_Grid_n (α : Type) (N : Nat) : Env α := (E_i_within α N).addFun 95 true 0 i_Grid_n_a (fun l K => match l with
    | [.i g_0, .f g_1, .f g_2] => i_Grid_n none N g_0 g_1 g_2 (retK (buildS i_Grid_n_r0 [.i g_0]) K)
    | _ => none)
theorem E_i_Grid_n_ok {α : Type} (N : Nat) : EnvOk Try.prog (E_i_Grid_n α N) := (E_i_within_ok N).addFun prog_mixed prog_names (d := 1) fun l K r h => by
  split at h
  · exact (i_Grid_n_run N _ _ _ K).trans h
  · cases h

def A_i_isOrder_l0 (α : Type) (N : Nat) : Env α := (E_i_Grid_n α N).addAnn 126 3 { head := [1, 5, 8, 9, 10], grow := [], out := [1, 5], ret := [4] }
theorem A_i_isOrder_l0_ok {α : Type} (N : Nat) : EnvOk Try.prog (A_i_isOrder_l0 α N) := (E_i_Grid_n_ok N).addAnn

/-- impl.isOrder, loop -/
def i_isOrder_l0_s2_p : SPat := ⟨[.undef, .int .i64, .undef, .undef, .undef, .int .i64, .undef, .undef, .slice ⟨0, 1, 0, 8⟩ 8 8 1 true, .intC .i64 8, .int .i64] ++ List.replicate 30 .undef, [[.vals [.int .i64], .ints .u8 8, .ints .u8 8]]⟩
def i_isOrder_l0_s2_o0 : SPat := ⟨[.undef, .undef, .undef, .undef, .boolC false] ++ List.replicate 36 .undef, [[.vals [.int .i64], .ints .u8 8, .ints .u8 8]]⟩
def i_isOrder_l0_s2_o1 : SPat := ⟨[.undef, .int .i64, .undef, .undef, .undef, .int .i64] ++ List.replicate 35 .undef, [[.vals [.int .i64], .ints .u8 8, .ints .u8 8]]⟩
theorem i_isOrder_l0_s2_round {α : Type} (N : Nat) (n : Int) (seen : Int) (t10 : Int) (h0_0 : Int) (h0_1 : Nat → Int) (h0_2 : Nat → Int) (kn : St → Option α) (K : AExit → St → Option α) :
    roundK Try.prog (A_i_isOrder_l0 α N) 1 1 126 Try.f126 3 1 (buildS i_isOrder_l0_s2_p [.i n, .i seen, .i t10, .i h0_0, .f h0_1, .f h0_2]) kn K = i_isOrder_l0_s2_s none n h0_0 h0_1 h0_2 seen t10 (fun seen t10 => kn (buildS i_isOrder_l0_s2_p [.i n, .i seen, .i t10, .i h0_0, .f h0_1, .f h0_2])) (K .ret (buildS i_isOrder_l0_s2_o0 [.i h0_0, .f h0_1, .f h0_2])) (fun seen_ => K (.exit 0) (buildS i_isOrder_l0_s2_o1 [.i n, .i seen_, .i h0_0, .f h0_1, .f h0_2])) := by kernel_rfl
theorem i_isOrder_l0_s2_loop {α : Type} (N : Nat) (n : Int) (h0_0 : Int) (h0_1 : Nat → Int) (h0_2 : Nat → Int) (K : AExit → St → Option α) : ∀ (m : Nat) (seen : Int) (t10 : Int),
    loopN (trimSt ((A_i_isOrder_l0 α N).ann 126 3).head ((A_i_isOrder_l0 α N).ann 126 3).grow 1) (bodyK Try.prog (A_i_isOrder_l0 α N) 1 1 126 Try.f126 3) m (buildS i_isOrder_l0_s2_p [.i n, .i seen, .i t10, .i h0_0, .f h0_1, .f h0_2]) (leaveLoop ((A_i_isOrder_l0 α N).ann 126 3) 1 K) = i_isOrder_l0_s2 none n h0_0 h0_1 h0_2 m seen t10 (K .ret (buildS i_isOrder_l0_s2_o0 [.i h0_0, .f h0_1, .f h0_2])) (fun seen_ => K (.exit 0) (buildS i_isOrder_l0_s2_o1 [.i n, .i seen_, .i h0_0, .f h0_1, .f h0_2])) := by
  intro m
  induction m with
  | zero => intros; rfl
  | succ m ih =>
    intro seen t10
    rw [loopN_round]
    refine (i_isOrder_l0_s2_round N n seen t10 h0_0 h0_1 h0_2 _ K).trans ?_
    simp only [ih]
    rfl
def E_i_isOrder_l0_s2 (α : Type) (N : Nat) : Env α := (A_i_isOrder_l0 α N).addLoop2 126 3 (loopSum2 ((A_i_isOrder_l0 α N).ann 126 3) 1 i_isOrder_l0_s2_p (fun l K => match l with
    | [.i n, .i seen, .i t10, .i h0_0, .f h0_1, .f h0_2] => i_isOrder_l0_s2 none n h0_0 h0_1 h0_2 N seen t10 (K .ret (buildS i_isOrder_l0_s2_o0 [.i h0_0, .f h0_1, .f h0_2])) (fun seen_ => K (.exit 0) (buildS i_isOrder_l0_s2_o1 [.i n, .i seen_, .i h0_0, .f h0_1, .f h0_2]))
    | _ => none) ((A_i_isOrder_l0 α N).ls 126 3))
theorem E_i_isOrder_l0_s2_ok {α : Type} (N : Nat) : EnvOk Try.prog (E_i_isOrder_l0_s2 α N) := (A_i_isOrder_l0_ok N).addLoop2 Try.func126 (by kernel_rfl) (loopSum_ok prog_mixed prog_names (A_i_isOrder_l0_ok N) Try.func126 (by kernel_rfl) (d := 1) (ro := 1) fun l K r h => by
  split at h
  · exact (i_isOrder_l0_s2_loop N _ _ _ _ K N _ _).trans h
  · cases h)

/-- impl.isOrder -/
def i_isOrder_s2_a : SPat := ⟨[.slice ⟨0, 1, 0, 8⟩ 8 8 1 true, .int .i64], [[.vals [.int .i64], .ints .u8 8, .ints .u8 8]]⟩
def i_isOrder_s2_r0 : SPat := ⟨[.bool], [[.vals [.int .i64], .ints .u8 8, .ints .u8 8]]⟩
theorem i_isOrder_s2_run {α : Type} (N : Nat) (n : Int) (h0_0 : Int) (h0_1 : Nat → Int) (h0_2 : Nat → Int) (K : AV → Heap → Option α) :
    callK Try.prog (E_i_isOrder_l0_s2 α N) 1 126 1 (buildS i_isOrder_s2_a [.i n, .i h0_0, .f h0_1, .f h0_2]).t (buildS i_isOrder_s2_a [.i n, .i h0_0, .f h0_1, .f h0_2]).h K = i_isOrder_s2 none N n h0_0 h0_1 h0_2 (fun r__ => retK (buildS i_isOrder_s2_r0 [.b r__, .i h0_0, .f h0_1, .f h0_2]) K) := by kernel_rfl
def E_i_isOrder_s2 (α : Type) (N : Nat) : Env α := (E_i_isOrder_l0_s2 α N).addFun 126 true 1 i_isOrder_s2_a (fun l K => match l with
    | [.i n, .i h0_0, .f h0_1, .f h0_2] => i_isOrder_s2 none N n h0_0 h0_1 h0_2 (fun r__ => retK (buildS i_isOrder_s2_r0 [.b r__, .i h0_0, .f h0_1, .f h0_2]) K)
    | _ => none)
theorem E_i_isOrder_s2_ok {α : Type} (N : Nat) : EnvOk Try.prog (E_i_isOrder_s2 α N) := (E_i_isOrder_l0_s2_ok N).addFun prog_mixed prog_names (d := 1) fun l K r h => by
  split at h
  · exact (i_isOrder_s2_run N _ _ _ _ K).trans h
  · cases h

/-- impl.isOrder, loop -/
def i_isOrder_l0_s3_p : SPat := ⟨[.undef, .int .i64, .undef, .undef, .undef, .int .i64, .undef, .undef, .slice ⟨0, 2, 0, 8⟩ 8 8 1 true, .intC .i64 8, .int .i64] ++ List.replicate 30 .undef, [[.vals [.int .i64], .ints .u8 8, .ints .u8 8]]⟩
def i_isOrder_l0_s3_o0 : SPat := ⟨[.undef, .undef, .undef, .undef, .boolC false] ++ List.replicate 36 .undef, [[.vals [.int .i64], .ints .u8 8, .ints .u8 8]]⟩
def i_isOrder_l0_s3_o1 : SPat := ⟨[.undef, .int .i64, .undef, .undef, .undef, .int .i64] ++ List.replicate 35 .undef, [[.vals [.int .i64], .ints .u8 8, .ints .u8 8]]⟩
theorem i_isOrder_l0_s3_round {α : Type} (N : Nat) (n : Int) (seen : Int) (t10 : Int) (h0_0 : Int) (h0_1 : Nat → Int) (h0_2 : Nat → Int) (kn : St → Option α) (K : AExit → St → Option α) :
    roundK Try.prog (E_i_isOrder_s2 α N) 1 1 126 Try.f126 3 1 (buildS i_isOrder_l0_s3_p [.i n, .i seen, .i t10, .i h0_0, .f h0_1, .f h0_2]) kn K = i_isOrder_l0_s3_s none n h0_0 h0_1 h0_2 seen t10 (fun seen t10 => kn (buildS i_isOrder_l0_s3_p [.i n, .i seen, .i t10, .i h0_0, .f h0_1, .f h0_2])) (K .ret (buildS i_isOrder_l0_s3_o0 [.i h0_0, .f h0_1, .f h0_2])) (fun seen_ => K (.exit 0) (buildS i_isOrder_l0_s3_o1 [.i n, .i seen_, .i h0_0, .f h0_1, .f h0_2])) := by kernel_rfl
theorem i_isOrder_l0_s3_loop {α : Type} (N : Nat) (n : Int) (h0_0 : Int) (h0_1 : Nat → Int) (h0_2 : Nat → Int) (K : AExit → St → Option α) : ∀ (m : Nat) (seen : Int) (t10 : Int),
    loopN (trimSt ((E_i_isOrder_s2 α N).ann 126 3).head ((E_i_isOrder_s2 α N).ann 126 3).grow 1) (bodyK Try.prog (E_i_isOrder_s2 α N) 1 1 126 Try.f126 3) m (buildS i_isOrder_l0_s3_p [.i n, .i seen, .i t10, .i h0_0, .f h0_1, .f h0_2]) (leaveLoop ((E_i_isOrder_s2 α N).ann 126 3) 1 K) = i_isOrder_l0_s3 none n h0_0 h0_1 h0_2 m seen t10 (K .ret (buildS i_isOrder_l0_s3_o0 [.i h0_0, .f h0_1, .f h0_2])) (fun seen_ => K (.exit 0) (buildS i_isOrder_l0_s3_o1 [.i n, .i seen_, .i h0_0, .f h0_1, .f h0_2])) := by
  intro m
  induction m with
  | zero => intros; rfl
  | succ m ih =>
    intro seen t10
    rw [loopN_round]
    refine (i_isOrder_l0_s3_round N n seen t10 h0_0 h0_1 h0_2 _ K).trans ?_
    simp only [ih]
    rfl
def E_i_isOrder_l0_s3 (α : Type) (N : Nat) : Env α := (E_i_isOrder_s2 α N).addLoop2 126 3 (loopSum2 ((E_i_isOrder_s2 α N).ann 126 3) 1 i_isOrder_l0_s3_p (fun l K => match l with
    | [.i n, .i seen, .i t10, .i h0_0, .f h0_1, .f h0_2] => i_isOrder_l0_s3 none n h0_0 h0_1 h0_2 N seen t10 (K .ret (buildS i_isOrder_l0_s3_o0 [.i h0_0, .f h0_1, .f h0_2])) (fun seen_ => K (.exit 0) (buildS i_isOrder_l0_s3_o1 [.i n, .i seen_, .i h0_0, .f h0_1, .f h0_2]))
    | _ => none) ((E_i_isOrder_s2 α N).ls 126 3))
theorem E_i_isOrder_l0_s3_ok {α : Type} (N : Nat) : EnvOk Try.prog (E_i_isOrder_l0_s3 α N) := (E_i_isOrder_s2_ok N).addLoop2 Try.func126 (by kernel_rfl) (loopSum_ok prog_mixed prog_names (E_i_isOrder_s2_ok N) Try.func126 (by kernel_rfl) (d := 1) (ro := 1) fun l K r h => by
  split at h
  · exact (i_isOrder_l0_s3_loop N _ _ _ _ K N _ _).trans h
  · cases h)

/-- impl.isOrder -/
def i_isOrder_s3_a : SPat := ⟨[.slice ⟨0, 2, 0, 8⟩ 8 8 1 true, .int .i64], [[.vals [.int .i64], .ints .u8 8, .ints .u8 8]]⟩
def i_isOrder_s3_r0 : SPat := ⟨[.bool], [[.vals [.int .i64], .ints .u8 8, .ints .u8 8]]⟩
theorem i_isOrder_s3_run {α : Type} (N : Nat) (n : Int) (h0_0 : Int) (h0_1 : Nat → Int) (h0_2 : Nat → Int) (K : AV → Heap → Option α) :
    callK Try.prog (E_i_isOrder_l0_s3 α N) 1 126 1 (buildS i_isOrder_s3_a [.i n, .i h0_0, .f h0_1, .f h0_2]).t (buildS i_isOrder_s3_a [.i n, .i h0_0, .f h0_1, .f h0_2]).h K = i_isOrder_s3 none N n h0_0 h0_1 h0_2 (fun r__ => retK (buildS i_isOrder_s3_r0 [.b r__, .i h0_0, .f h0_1, .f h0_2]) K) := by kernel_rfl
def E_i_isOrder_s3 (α : Type) (N : Nat) : Env α := (E_i_isOrder_l0_s3 α N).addFun 126 true 1 i_isOrder_s3_a (fun l K => match l with
    | [.i n, .i h0_0, .f h0_1, .f h0_2] => i_isOrder_s3 none N n h0_0 h0_1 h0_2 (fun r__ => retK (buildS i_isOrder_s3_r0 [.b r__, .i h0_0, .f h0_1, .f h0_2]) K)
    | _ => none)
theorem E_i_isOrder_s3_ok {α : Type} (N : Nat) : EnvOk Try.prog (E_i_isOrder_s3 α N) := (E_i_isOrder_l0_s3_ok N).addFun prog_mixed prog_names (d := 1) fun l K r h => by
  split at h
  · exact (i_isOrder_s3_run N _ _ _ _ K).trans h
  · cases h

def A_i_IsGrid_l0 (α : Type) (N : Nat) : Env α := (E_i_isOrder_s3 α N).addAnn 74 4 { head := [1, 25, 26], grow := [], out := [], ret := [2] }
theorem A_i_IsGrid_l0_ok {α : Type} (N : Nat) : EnvOk Try.prog (A_i_IsGrid_l0 α N) := (E_i_isOrder_s3_ok N).addAnn

/-- impl.IsGrid, loop -/
def i_IsGrid_l0_p : SPat := ⟨[.undef, .ptr ⟨0, 0, 0, 1⟩, .undef, .undef, .undef, .undef, .undef, .undef, .undef, .undef, .undef, .undef, .undef, .undef, .undef, .undef, .undef, .undef, .undef, .undef, .undef, .undef, .undef, .undef, .undef, .int .i64, .int .i64] ++ List.replicate 12 .undef, [[.vals [.int .i64], .ints .u8 8, .ints .u8 8]]⟩
def i_IsGrid_l0_o0 : SPat := ⟨[.undef, .undef, .boolC false] ++ List.replicate 36 .undef, [[.vals [.int .i64], .ints .u8 8, .ints .u8 8]]⟩
def i_IsGrid_l0_o1 : SPat := ⟨[] ++ List.replicate 39 .undef, [[.vals [.int .i64], .ints .u8 8, .ints .u8 8]]⟩
theorem i_IsGrid_l0_round {α : Type} (N : Nat) (t25 : Int) (t26 : Int) (h0_0 : Int) (h0_1 : Nat → Int) (h0_2 : Nat → Int) (kn : St → Option α) (K : AExit → St → Option α) :
    roundK Try.prog (A_i_IsGrid_l0 α N) 1 0 74 Try.f74 4 1 (buildS i_IsGrid_l0_p [.i t25, .i t26, .i h0_0, .f h0_1, .f h0_2]) kn K = i_IsGrid_l0_s none t25 h0_0 h0_1 h0_2 t26 (fun t26 => kn (buildS i_IsGrid_l0_p [.i t25, .i t26, .i h0_0, .f h0_1, .f h0_2])) (K .ret (buildS i_IsGrid_l0_o0 [.i h0_0, .f h0_1, .f h0_2])) (K (.exit 0) (buildS i_IsGrid_l0_o1 [.i h0_0, .f h0_1, .f h0_2])) := by kernel_rfl
theorem i_IsGrid_l0_loop {α : Type} (N : Nat) (t25 : Int) (h0_0 : Int) (h0_1 : Nat → Int) (h0_2 : Nat → Int) (K : AExit → St → Option α) : ∀ (m : Nat) (t26 : Int),
    loopN (trimSt ((A_i_IsGrid_l0 α N).ann 74 4).head ((A_i_IsGrid_l0 α N).ann 74 4).grow 1) (bodyK Try.prog (A_i_IsGrid_l0 α N) 1 0 74 Try.f74 4) m (buildS i_IsGrid_l0_p [.i t25, .i t26, .i h0_0, .f h0_1, .f h0_2]) (leaveLoop ((A_i_IsGrid_l0 α N).ann 74 4) 1 K) = i_IsGrid_l0 none t25 h0_0 h0_1 h0_2 m t26 (K .ret (buildS i_IsGrid_l0_o0 [.i h0_0, .f h0_1, .f h0_2])) (K (.exit 0) (buildS i_IsGrid_l0_o1 [.i h0_0, .f h0_1, .f h0_2])) := by
  intro m
  induction m with
  | zero => intros; rfl
  | succ m ih =>
    intro t26
    rw [loopN_round]
    refine (i_IsGrid_l0_round N t25 t26 h0_0 h0_1 h0_2 _ K).trans ?_
    simp only [ih]
    rfl
def E_i_IsGrid_l0 (α : Type) (N : Nat) : Env α := (A_i_IsGrid_l0 α N).addLoop2 74 4 (loopSum2 ((A_i_IsGrid_l0 α N).ann 74 4) 0 i_IsGrid_l0_p (fun l K => match l with
    | [.i t25, .i t26, .i h0_0, .f h0_1, .f h0_2] => i_IsGrid_l0 none t25 h0_0 h0_1 h0_2 N t26 (K .ret (buildS i_IsGrid_l0_o0 [.i h0_0, .f h0_1, .f h0_2])) (K (.exit 0) (buildS i_IsGrid_l0_o1 [.i h0_0, .f h0_1, .f h0_2]))
    | _ => none) ((A_i_IsGrid_l0 α N).ls 74 4))
theorem E_i_IsGrid_l0_ok {α : Type} (N : Nat) : EnvOk Try.prog (E_i_IsGrid_l0 α N) := (A_i_IsGrid_l0_ok N).addLoop2 Try.func74 (by kernel_rfl) (loopSum_ok prog_mixed prog_names (A_i_IsGrid_l0_ok N) Try.func74 (by kernel_rfl) (d := 1) (ro := 0) fun l K r h => by
  split at h
  · exact (i_IsGrid_l0_loop N _ _ _ _ K N _).trans h
  · cases h)

/-- impl.IsGrid -/
def i_IsGrid_a : SPat := ⟨[.agg [.vals [.int .i64], .ints .u8 8, .ints .u8 8]], []⟩
def i_IsGrid_r0 : SPat := ⟨[.bool], []⟩
theorem i_IsGrid_run {α : Type} (N : Nat) (g_0 : Int) (g_1 : Nat → Int) (g_2 : Nat → Int) (K : AV → Heap → Option α) :
    callK Try.prog (E_i_IsGrid_l0 α N) 1 74 0 (buildS i_IsGrid_a [.i g_0, .f g_1, .f g_2]).t (buildS i_IsGrid_a [.i g_0, .f g_1, .f g_2]).h K = i_IsGrid none N g_0 g_1 g_2 (fun r__ => retK (buildS i_IsGrid_r0 [.b r__]) K) := by kernel_rfl
def E_i_IsGrid (α : Type) (N : Nat) : Env α := (E_i_IsGrid_l0 α N).addFun 74 true 0 i_IsGrid_a (fun l K => match l with
    | [.i g_0, .f g_1, .f g_2] => i_IsGrid none N g_0 g_1 g_2 (fun r__ => retK (buildS i_IsGrid_r0 [.b r__]) K)
    | _ => none)
theorem E_i_IsGrid_ok {α : Type} (N : Nat) : EnvOk Try.prog (E_i_IsGrid α N) := (E_i_IsGrid_l0_ok N).addFun prog_mixed prog_names (d := 1) fun l K r h => by
  split at h
  · exact (i_IsGrid_run N _ _ _ K).trans h
  · cases h

/-- impl.isOrder, loop -/
def i_isOrder_l0_s4_p : SPat := ⟨[.undef, .int .i64, .undef, .undef, .undef, .int .i64, .undef, .undef, .slice ⟨0, 0, 0, 8⟩ 8 8 1 true, .intC .i64 8, .int .i64] ++ List.replicate 30 .undef, [[.ints .u8 8]]⟩
def i_isOrder_l0_s4_o0 : SPat := ⟨[.undef, .undef, .undef, .undef, .boolC false] ++ List.replicate 36 .undef, [[.ints .u8 8]]⟩
def i_isOrder_l0_s4_o1 : SPat := ⟨[.undef, .int .i64, .undef, .undef, .undef, .int .i64] ++ List.replicate 35 .undef, [[.ints .u8 8]]⟩
theorem i_isOrder_l0_s4_round {α : Type} (N : Nat) (n : Int) (seen : Int) (t10 : Int) (h0 : Nat → Int) (kn : St → Option α) (K : AExit → St → Option α) :
    roundK Try.prog (E_i_IsGrid α N) 1 1 126 Try.f126 3 1 (buildS i_isOrder_l0_s4_p [.i n, .i seen, .i t10, .f h0]) kn K = i_isOrder_l0_s4_s none n h0 seen t10 (fun seen t10 => kn (buildS i_isOrder_l0_s4_p [.i n, .i seen, .i t10, .f h0])) (K .ret (buildS i_isOrder_l0_s4_o0 [.f h0])) (fun seen_ => K (.exit 0) (buildS i_isOrder_l0_s4_o1 [.i n, .i seen_, .f h0])) := by kernel_rfl
theorem i_isOrder_l0_s4_loop {α : Type} (N : Nat) (n : Int) (h0 : Nat → Int) (K : AExit → St → Option α) : ∀ (m : Nat) (seen : Int) (t10 : Int),
    loopN (trimSt ((E_i_IsGrid α N).ann 126 3).head ((E_i_IsGrid α N).ann 126 3).grow 1) (bodyK Try.prog (E_i_IsGrid α N) 1 1 126 Try.f126 3) m (buildS i_isOrder_l0_s4_p [.i n, .i seen, .i t10, .f h0]) (leaveLoop ((E_i_IsGrid α N).ann 126 3) 1 K) = i_isOrder_l0_s4 none n h0 m seen t10 (K .ret (buildS i_isOrder_l0_s4_o0 [.f h0])) (fun seen_ => K (.exit 0) (buildS i_isOrder_l0_s4_o1 [.i n, .i seen_, .f h0])) := by
  intro m
  induction m with
  | zero => intros; rfl
  | succ m ih =>
    intro seen t10
    rw [loopN_round]
    refine (i_isOrder_l0_s4_round N n seen t10 h0 _ K).trans ?_
    simp only [ih]
    rfl
def E_i_isOrder_l0_s4 (α : Type) (N : Nat) : Env α := (E_i_IsGrid α N).addLoop2 126 3 (loopSum2 ((E_i_IsGrid α N).ann 126 3) 1 i_isOrder_l0_s4_p (fun l K => match l with
    | [.i n, .i seen, .i t10, .f h0] => i_isOrder_l0_s4 none n h0 N seen t10 (K .ret (buildS i_isOrder_l0_s4_o0 [.f h0])) (fun seen_ => K (.exit 0) (buildS i_isOrder_l0_s4_o1 [.i n, .i seen_, .f h0]))
    | _ => none) ((E_i_IsGrid α N).ls 126 3))
theorem E_i_isOrder_l0_s4_ok {α : Type} (N : Nat) : EnvOk Try.prog (E_i_isOrder_l0_s4 α N) := (E_i_IsGrid_ok N).addLoop2 Try.func126 (by kernel_rfl) (loopSum_ok prog_mixed prog_names (E_i_IsGrid_ok N) Try.func126 (by kernel_rfl) (d := 1) (ro := 1) fun l K r h => by
  split at h
  · exact (i_isOrder_l0_s4_loop N _ _ K N _ _).trans h
  · cases h)

/-- impl.isOrder -/
def i_isOrder_s4_a : SPat := ⟨[.slice ⟨0, 0, 0, 8⟩ 8 8 1 true, .int .i64], [[.ints .u8 8]]⟩
def i_isOrder_s4_r0 : SPat := ⟨[.bool], [[.ints .u8 8]]⟩
theorem i_isOrder_s4_run {α : Type} (N : Nat) (n : Int) (h0 : Nat → Int) (K : AV → Heap → Option α) :
    callK Try.prog (E_i_isOrder_l0_s4 α N) 1 126 1 (buildS i_isOrder_s4_a [.i n, .f h0]).t (buildS i_isOrder_s4_a [.i n, .f h0]).h K = i_isOrder_s4 none N n h0 (fun r__ => retK (buildS i_isOrder_s4_r0 [.b r__, .f h0]) K) := by kernel_rfl
def E_i_isOrder_s4 (α : Type) (N : Nat) : Env α := (E_i_isOrder_l0_s4 α N).addFun 126 true 1 i_isOrder_s4_a (fun l K => match l with
    | [.i n, .f h0] => i_isOrder_s4 none N n h0 (fun r__ => retK (buildS i_isOrder_s4_r0 [.b r__, .f h0]) K)
    | _ => none)
theorem E_i_isOrder_s4_ok {α : Type} (N : Nat) : EnvOk Try.prog (E_i_isOrder_s4 α N) := (E_i_isOrder_l0_s4_ok N).addFun prog_mixed prog_names (d := 1) fun l K r h => by
  split at h
  · exact (i_isOrder_s4_run N _ _ K).trans h
  · cases h

/-- (impl.Grid).isState -/
def i_Grid_isState_a : SPat := ⟨[.agg [.vals [.int .i64], .ints .u8 8, .ints .u8 8], .agg [.ints .u8 8]], []⟩
def i_Grid_isState_r0 : SPat := ⟨[.bool], []⟩
theorem i_Grid_isState_run {α : Type} (N : Nat) (g_0 : Int) (g_1 : Nat → Int) (g_2 : Nat → Int) (x : Nat → Int) (K : AV → Heap → Option α) :
    callK Try.prog (E_i_isOrder_s4 α N) 1 75 0 (buildS i_Grid_isState_a [.i g_0, .f g_1, .f g_2, .f x]).t (buildS i_Grid_isState_a [.i g_0, .f g_1, .f g_2, .f x]).h K = i_Grid_isState none N g_0 g_1 g_2 x (fun r__ => retK (buildS i_Grid_isState_r0 [.b r__]) K) := by kernel_rfl
def E_i_Grid_isState (α : Type) (N : Nat) : Env α := (E_i_isOrder_s4 α N).addFun 75 true 0 i_Grid_isState_a (fun l K => match l with
    | [.i g_0, .f g_1, .f g_2, .f x] => i_Grid_isState none N g_0 g_1 g_2 x (fun r__ => retK (buildS i_Grid_isState_r0 [.b r__]) K)
    | _ => none)
theorem E_i_Grid_isState_ok {α : Type} (N : Nat) : EnvOk Try.prog (E_i_Grid_isState α N) := (E_i_isOrder_s4_ok N).addFun prog_mixed prog_names (d := 1) fun l K r h => by
  split at h
  · exact (i_Grid_isState_run N _ _ _ _ K).trans h
  · cases h

/-- impl.IsState -/
def i_IsState_a : SPat := ⟨[.agg [.vals [.int .i64], .ints .u8 8, .ints .u8 8], .agg [.ints .u8 8]], []⟩
def i_IsState_r0 : SPat := ⟨[.bool], []⟩
theorem i_IsState_run {α : Type} (N : Nat) (g_0 : Int) (g_1 : Nat → Int) (g_2 : Nat → Int) (x : Nat → Int) (K : AV → Heap → Option α) :
    callK Try.prog (E_i_Grid_isState α N) 1 79 0 (buildS i_IsState_a [.i g_0, .f g_1, .f g_2, .f x]).t (buildS i_IsState_a [.i g_0, .f g_1, .f g_2, .f x]).h K = i_IsState none N g_0 g_1 g_2 x (fun r__ => retK (buildS i_IsState_r0 [.b r__]) K) := by kernel_rfl
def E_i_IsState (α : Type) (N : Nat) : Env α := (E_i_Grid_isState α N).addFun 79 true 0 i_IsState_a (fun l K => match l with
    | [.i g_0, .f g_1, .f g_2, .f x] => i_IsState none N g_0 g_1 g_2 x (fun r__ => retK (buildS i_IsState_r0 [.b r__]) K)
    | _ => none)
theorem E_i_IsState_ok {α : Type} (N : Nat) : EnvOk Try.prog (E_i_IsState α N) := (E_i_Grid_isState_ok N).addFun prog_mixed prog_names (d := 1) fun l K r h => by
  split at h
  · exact (i_IsState_run N _ _ _ _ K).trans h
  · cases h

def A_i_pairsBelow_l0 (α : Type) (N : Nat) : Env α := (E_i_IsState α N).addAnn 124 4 { head := [0, 2, 4, 6, 8, 11, 12, 15, 16], grow := [], out := [12], ret := [10] }
theorem A_i_pairsBelow_l0_ok {α : Type} (N : Nat) : EnvOk Try.prog (A_i_pairsBelow_l0 α N) := (E_i_IsState_ok N).addAnn

def A_i_pairsBelow_l1 (α : Type) (N : Nat) : Env α := (A_i_pairsBelow_l0 α N).addAnn 124 7 { head := [0, 2, 4, 6, 8, 11, 12, 13, 15, 16, 19, 20], grow := [], out := [0, 2, 4, 6, 8, 11, 12, 15, 16], ret := [10] }
theorem A_i_pairsBelow_l1_ok {α : Type} (N : Nat) : EnvOk Try.prog (A_i_pairsBelow_l1 α N) := (A_i_pairsBelow_l0_ok N).addAnn

/-- impl.pairsBelow$1 -/
def i_pairsBelow_1_a : SPat := ⟨[.int .i64, .bool], []⟩
def i_pairsBelow_1_r0 : SPat := ⟨[.int .i64], []⟩
theorem i_pairsBelow_1_run {α : Type} (N : Nat) (k : Int) (half : Bool) (K : AV → Heap → Option α) :
    callK Try.prog (A_i_pairsBelow_l1 α N) 1 149 0 (buildS i_pairsBelow_1_a [.i k, .b half]).t (buildS i_pairsBelow_1_a [.i k, .b half]).h K = i_pairsBelow_1 none N k half (fun r__ => retK (buildS i_pairsBelow_1_r0 [.i r__]) K) := by kernel_rfl
def E_i_pairsBelow_1 (α : Type) (N : Nat) : Env α := (A_i_pairsBelow_l1 α N).addFun 149 true 0 i_pairsBelow_1_a (fun l K => match l with
    | [.i k, .b half] => i_pairsBelow_1 none N k half (fun r__ => retK (buildS i_pairsBelow_1_r0 [.i r__]) K)
    | _ => none)
theorem E_i_pairsBelow_1_ok {α : Type} (N : Nat) : EnvOk Try.prog (E_i_pairsBelow_1 α N) := (A_i_pairsBelow_l1_ok N).addFun prog_mixed prog_names (d := 1) fun l K r h => by
  split at h
  · exact (i_pairsBelow_1_run N _ _ K).trans h
  · cases h

/-- impl.pairsBelow, loop -/
def i_pairsBelow_l1_p : SPat := ⟨[.int .i64, .undef, .bool, .undef, .bool, .undef, .ptr ⟨0, 0, 0, 8⟩, .undef, .ptr ⟨1, 0, 0, 8⟩, .undef, .undef, .func 149 [], .int .i64, .int .i64, .undef, .int .i64, .int .i64, .undef, .undef, .int .i64, .int .i64] ++ List.replicate 33 .undef, [[.ints .u8 8], [.ints .u8 8]]⟩
def i_pairsBelow_l1_o0 : SPat := ⟨[.int .i64, .undef, .bool, .undef, .bool, .undef, .ptr ⟨0, 0, 0, 8⟩, .undef, .ptr ⟨1, 0, 0, 8⟩, .undef, .undef, .func 149 [], .int .i64, .undef, .undef, .int .i64, .int .i64] ++ List.replicate 37 .undef, [[.ints .u8 8], [.ints .u8 8]]⟩
theorem i_pairsBelow_l1_round {α : Type} (N : Nat) (n : Int) (shifted : Bool) (other : Bool) (many : Int) (i : Int) (t15 : Int) (t16 : Int) (t19 : Int) (t20 : Int) (h0 : Nat → Int) (h1 : Nat → Int) (kn : St → Option α) (K : AExit → St → Option α) :
    roundK Try.prog (E_i_pairsBelow_1 α N) 1 0 124 Try.f124 7 2 (buildS i_pairsBelow_l1_p [.i n, .b shifted, .b other, .i many, .i i, .i t15, .i t16, .i t19, .i t20, .f h0, .f h1]) kn K = i_pairsBelow_l1_s none N n shifted other i t15 t16 t19 h0 h1 many t20 (fun many t20 => kn (buildS i_pairsBelow_l1_p [.i n, .b shifted, .b other, .i many, .i i, .i t15, .i t16, .i t19, .i t20, .f h0, .f h1])) (fun many_ => K (.exit 2) (buildS i_pairsBelow_l1_o0 [.i n, .b shifted, .b other, .i many_, .i t15, .i t16, .f h0, .f h1])) := by kernel_rfl
theorem i_pairsBelow_l1_loop {α : Type} (N : Nat) (n : Int) (shifted : Bool) (other : Bool) (i : Int) (t15 : Int) (t16 : Int) (t19 : Int) (h0 : Nat → Int) (h1 : Nat → Int) (K : AExit → St → Option α) : ∀ (m : Nat) (many : Int) (t20 : Int),
    loopN (trimSt ((E_i_pairsBelow_1 α N).ann 124 7).head ((E_i_pairsBelow_1 α N).ann 124 7).grow 2) (bodyK Try.prog (E_i_pairsBelow_1 α N) 1 0 124 Try.f124 7) m (buildS i_pairsBelow_l1_p [.i n, .b shifted, .b other, .i many, .i i, .i t15, .i t16, .i t19, .i t20, .f h0, .f h1]) (leaveLoop ((E_i_pairsBelow_1 α N).ann 124 7) 2 K) = i_pairsBelow_l1 none N n shifted other i t15 t16 t19 h0 h1 m many t20 (fun many_ => K (.exit 2) (buildS i_pairsBelow_l1_o0 [.i n, .b shifted, .b other, .i many_, .i t15, .i t16, .f h0, .f h1])) := by
  intro m
  induction m with
  | zero => intros; rfl
  | succ m ih =>
    intro many t20
    rw [loopN_round]
    refine (i_pairsBelow_l1_round N n shifted other many i t15 t16 t19 t20 h0 h1 _ K).trans ?_
    simp only [ih]
    rfl
def E_i_pairsBelow_l1 (α : Type) (N : Nat) : Env α := (E_i_pairsBelow_1 α N).addLoop2 124 7 (loopSum2 ((E_i_pairsBelow_1 α N).ann 124 7) 0 i_pairsBelow_l1_p (fun l K => match l with
    | [.i n, .b shifted, .b other, .i many, .i i, .i t15, .i t16, .i t19, .i t20, .f h0, .f h1] => i_pairsBelow_l1 none N n shifted other i t15 t16 t19 h0 h1 N many t20 (fun many_ => K (.exit 2) (buildS i_pairsBelow_l1_o0 [.i n, .b shifted, .b other, .i many_, .i t15, .i t16, .f h0, .f h1]))
    | _ => none) ((E_i_pairsBelow_1 α N).ls 124 7))
theorem E_i_pairsBelow_l1_ok {α : Type} (N : Nat) : EnvOk Try.prog (E_i_pairsBelow_l1 α N) := (E_i_pairsBelow_1_ok N).addLoop2 Try.func124 (by kernel_rfl) (loopSum_ok prog_mixed prog_names (E_i_pairsBelow_1_ok N) Try.func124 (by kernel_rfl) (d := 1) (ro := 0) fun l K r h => by
  split at h
  · exact (i_pairsBelow_l1_loop N _ _ _ _ _ _ _ _ _ K N _ _).trans h
  · cases h)

/-- impl.pairsBelow, loop -/
def i_pairsBelow_l0_p : SPat := ⟨[.int .i64, .undef, .bool, .undef, .bool, .undef, .ptr ⟨0, 0, 0, 8⟩, .undef, .ptr ⟨1, 0, 0, 8⟩, .undef, .undef, .func 149 [], .int .i64, .undef, .undef, .int .i64, .int .i64] ++ List.replicate 37 .undef, [[.ints .u8 8], [.ints .u8 8]]⟩
def i_pairsBelow_l0_o0 : SPat := ⟨[.undef, .undef, .undef, .undef, .undef, .undef, .undef, .undef, .undef, .undef, .undef, .undef, .int .i64] ++ List.replicate 41 .undef, [[.ints .u8 8], [.ints .u8 8]]⟩
theorem i_pairsBelow_l0_round {α : Type} (N : Nat) (n : Int) (shifted : Bool) (other : Bool) (many : Int) (t15 : Int) (t16 : Int) (h0 : Nat → Int) (h1 : Nat → Int) (kn : St → Option α) (K : AExit → St → Option α) :
    roundK Try.prog (E_i_pairsBelow_l1 α N) 1 0 124 Try.f124 4 2 (buildS i_pairsBelow_l0_p [.i n, .b shifted, .b other, .i many, .i t15, .i t16, .f h0, .f h1]) kn K = i_pairsBelow_l0_s none N n shifted other t15 h0 h1 many t16 (fun many t16 => kn (buildS i_pairsBelow_l0_p [.i n, .b shifted, .b other, .i many, .i t15, .i t16, .f h0, .f h1])) (fun many_ => K (.exit 0) (buildS i_pairsBelow_l0_o0 [.i many_, .f h0, .f h1])) := by kernel_rfl
theorem i_pairsBelow_l0_loop {α : Type} (N : Nat) (n : Int) (shifted : Bool) (other : Bool) (t15 : Int) (h0 : Nat → Int) (h1 : Nat → Int) (K : AExit → St → Option α) : ∀ (m : Nat) (many : Int) (t16 : Int),
    loopN (trimSt ((E_i_pairsBelow_l1 α N).ann 124 4).head ((E_i_pairsBelow_l1 α N).ann 124 4).grow 2) (bodyK Try.prog (E_i_pairsBelow_l1 α N) 1 0 124 Try.f124 4) m (buildS i_pairsBelow_l0_p [.i n, .b shifted, .b other, .i many, .i t15, .i t16, .f h0, .f h1]) (leaveLoop ((E_i_pairsBelow_l1 α N).ann 124 4) 2 K) = i_pairsBelow_l0 none N n shifted other t15 h0 h1 m many t16 (fun many_ => K (.exit 0) (buildS i_pairsBelow_l0_o0 [.i many_, .f h0, .f h1])) := by
  intro m
  induction m with
  | zero => intros; rfl
  | succ m ih =>
    intro many t16
    rw [loopN_round]
    refine (i_pairsBelow_l0_round N n shifted other many t15 t16 h0 h1 _ K).trans ?_
    simp only [ih]
    rfl
def E_i_pairsBelow_l0 (α : Type) (N : Nat) : Env α := (E_i_pairsBelow_l1 α N).addLoop2 124 4 (loopSum2 ((E_i_pairsBelow_l1 α N).ann 124 4) 0 i_pairsBelow_l0_p (fun l K => match l with
    | [.i n, .b shifted, .b other, .i many, .i t15, .i t16, .f h0, .f h1] => i_pairsBelow_l0 none N n shifted other t15 h0 h1 N many t16 (fun many_ => K (.exit 0) (buildS i_pairsBelow_l0_o0 [.i many_, .f h0, .f h1]))
    | _ => none) ((E_i_pairsBelow_l1 α N).ls 124 4))
theorem E_i_pairsBelow_l0_ok {α : Type} (N : Nat) : EnvOk Try.prog (E_i_pairsBelow_l0 α N) := (E_i_pairsBelow_l1_ok N).addLoop2 Try.func124 (by kernel_rfl) (loopSum_ok prog_mixed prog_names (E_i_pairsBelow_l1_ok N) Try.func124 (by kernel_rfl) (d := 1) (ro := 0) fun l K r h => by
  split at h
  · exact (i_pairsBelow_l0_loop N _ _ _ _ _ _ K N _ _).trans h
  · cases h)

/-- impl.pairsBelow -/
def i_pairsBelow_a : SPat := ⟨[.int .i64, .agg [.ints .u8 8], .bool, .agg [.ints .u8 8], .bool], []⟩
def i_pairsBelow_r0 : SPat := ⟨[.int .i64], []⟩
theorem i_pairsBelow_run {α : Type} (N : Nat) (n : Int) (p : Nat → Int) (shifted : Bool) (q : Nat → Int) (other : Bool) (K : AV → Heap → Option α) :
    callK Try.prog (E_i_pairsBelow_l0 α N) 1 124 0 (buildS i_pairsBelow_a [.i n, .f p, .b shifted, .f q, .b other]).t (buildS i_pairsBelow_a [.i n, .f p, .b shifted, .f q, .b other]).h K = i_pairsBelow none N n p shifted q other (fun r__ => retK (buildS i_pairsBelow_r0 [.i r__]) K) := by kernel_rfl
def E_i_pairsBelow (α : Type) (N : Nat) : Env α := (E_i_pairsBelow_l0 α N).addFun 124 true 0 i_pairsBelow_a (fun l K => match l with
    | [.i n, .f p, .b shifted, .f q, .b other] => i_pairsBelow none N n p shifted q other (fun r__ => retK (buildS i_pairsBelow_r0 [.i r__]) K)
    | _ => none)
theorem E_i_pairsBelow_ok {α : Type} (N : Nat) : EnvOk Try.prog (E_i_pairsBelow α N) := (E_i_pairsBelow_l0_ok N).addFun prog_mixed prog_names (d := 1) fun l K r h => by
  split at h
  · exact (i_pairsBelow_run N _ _ _ _ _ K).trans h
  · cases h

/-- (impl.Grid).maslov -/
def i_Grid_maslov_a : SPat := ⟨[.agg [.vals [.int .i64], .ints .u8 8, .ints .u8 8], .agg [.ints .u8 8], .agg [.ints .u8 8]], []⟩
def i_Grid_maslov_r0 : SPat := ⟨[.int .i64], []⟩
theorem i_Grid_maslov_run {α : Type} (N : Nat) (g_0 : Int) (g_1 : Nat → Int) (g_2 : Nat → Int) (x : Nat → Int) (marks : Nat → Int) (K : AV → Heap → Option α) :
    callK Try.prog (E_i_pairsBelow α N) 1 65 0 (buildS i_Grid_maslov_a [.i g_0, .f g_1, .f g_2, .f x, .f marks]).t (buildS i_Grid_maslov_a [.i g_0, .f g_1, .f g_2, .f x, .f marks]).h K = i_Grid_maslov none N g_0 g_1 g_2 x marks (fun r__ => retK (buildS i_Grid_maslov_r0 [.i r__]) K) := by kernel_rfl
def E_i_Grid_maslov (α : Type) (N : Nat) : Env α := (E_i_pairsBelow α N).addFun 65 true 0 i_Grid_maslov_a (fun l K => match l with
    | [.i g_0, .f g_1, .f g_2, .f x, .f marks] => i_Grid_maslov none N g_0 g_1 g_2 x marks (fun r__ => retK (buildS i_Grid_maslov_r0 [.i r__]) K)
    | _ => none)
theorem E_i_Grid_maslov_ok {α : Type} (N : Nat) : EnvOk Try.prog (E_i_Grid_maslov α N) := (E_i_pairsBelow_ok N).addFun prog_mixed prog_names (d := 1) fun l K r h => by
  split at h
  · exact (i_Grid_maslov_run N _ _ _ _ _ K).trans h
  · cases h

/-- impl.MaslovOf$1 -/
def i_MaslovOf_1_a : SPat := ⟨[.agg [.vals [.int .i64], .ints .u8 8, .ints .u8 8], .agg [.ints .u8 8], .ptr ⟨0, 0, 0, 1⟩], [[.vals [.bool]]]⟩
def i_MaslovOf_1_r0 : SPat := ⟨[.int .i64], [[.vals [.bool]]]⟩
theorem i_MaslovOf_1_run {α : Type} (N : Nat) (g_0 : Int) (g_1 : Nat → Int) (g_2 : Nat → Int) (x : Nat → Int) (h0 : Bool) (K : AV → Heap → Option α) :
    callK Try.prog (E_i_Grid_maslov α N) 1 64 1 (buildS i_MaslovOf_1_a [.i g_0, .f g_1, .f g_2, .f x, .b h0]).t (buildS i_MaslovOf_1_a [.i g_0, .f g_1, .f g_2, .f x, .b h0]).h K = i_MaslovOf_1 none N g_0 g_1 g_2 x h0 (fun r__ => retK (buildS i_MaslovOf_1_r0 [.i r__, .b h0]) K) := by kernel_rfl
def E_i_MaslovOf_1 (α : Type) (N : Nat) : Env α := (E_i_Grid_maslov α N).addFun 64 true 1 i_MaslovOf_1_a (fun l K => match l with
    | [.i g_0, .f g_1, .f g_2, .f x, .b h0] => i_MaslovOf_1 none N g_0 g_1 g_2 x h0 (fun r__ => retK (buildS i_MaslovOf_1_r0 [.i r__, .b h0]) K)
    | _ => none)
theorem E_i_MaslovOf_1_ok {α : Type} (N : Nat) : EnvOk Try.prog (E_i_MaslovOf_1 α N) := (E_i_Grid_maslov_ok N).addFun prog_mixed prog_names (d := 1) fun l K r h => by
  split at h
  · exact (i_MaslovOf_1_run N _ _ _ _ _ K).trans h
  · cases h

/-- impl.stated[int64] -/
def i_stated_int64_s2_a : SPat := ⟨[.agg [.vals [.int .i64], .ints .u8 8, .ints .u8 8], .agg [.ints .u8 8], .func 64 [.ptr ⟨0, 0, 0, 1⟩]], [[.vals [.bool]]]⟩
def i_stated_int64_s2_r0 : SPat := ⟨[.tuple [.int .i64, .int .i64]], [[.vals [.bool]]]⟩
theorem i_stated_int64_s2_run {α : Type} (N : Nat) (g_0 : Int) (g_1 : Nat → Int) (g_2 : Nat → Int) (x : Nat → Int) (h0 : Bool) (K : AV → Heap → Option α) :
    callK Try.prog (E_i_MaslovOf_1 α N) 1 63 1 (buildS i_stated_int64_s2_a [.i g_0, .f g_1, .f g_2, .f x, .b h0]).t (buildS i_stated_int64_s2_a [.i g_0, .f g_1, .f g_2, .f x, .b h0]).h K = i_stated_int64_s2 none N g_0 g_1 g_2 x h0 (fun r_0_ r_1_ => retK (buildS i_stated_int64_s2_r0 [.i r_0_, .i r_1_, .b h0]) K) := by kernel_rfl
def E_i_stated_int64_s2 (α : Type) (N : Nat) : Env α := (E_i_MaslovOf_1 α N).addFun 63 true 1 i_stated_int64_s2_a (fun l K => match l with
    | [.i g_0, .f g_1, .f g_2, .f x, .b h0] => i_stated_int64_s2 none N g_0 g_1 g_2 x h0 (fun r_0_ r_1_ => retK (buildS i_stated_int64_s2_r0 [.i r_0_, .i r_1_, .b h0]) K)
    | _ => none)
theorem E_i_stated_int64_s2_ok {α : Type} (N : Nat) : EnvOk Try.prog (E_i_stated_int64_s2 α N) := (E_i_MaslovOf_1_ok N).addFun prog_mixed prog_names (d := 1) fun l K r h => by
  split at h
  · exact (i_stated_int64_s2_run N _ _ _ _ _ K).trans h
  · cases h

/-- impl.MaslovOf -/
def i_MaslovOf_a : SPat := ⟨[.agg [.vals [.int .i64], .ints .u8 8, .ints .u8 8], .agg [.ints .u8 8], .bool], []⟩
def i_MaslovOf_r0 : SPat := ⟨[.tuple [.int .i64, .int .i64]], []⟩
theorem i_MaslovOf_run {α : Type} (N : Nat) (g_0 : Int) (g_1 : Nat → Int) (g_2 : Nat → Int) (x : Nat → Int) (xs : Bool) (K : AV → Heap → Option α) :
    callK Try.prog (E_i_stated_int64_s2 α N) 1 17 0 (buildS i_MaslovOf_a [.i g_0, .f g_1, .f g_2, .f x, .b xs]).t (buildS i_MaslovOf_a [.i g_0, .f g_1, .f g_2, .f x, .b xs]).h K = i_MaslovOf none N g_0 g_1 g_2 x xs (fun r_0_ r_1_ => retK (buildS i_MaslovOf_r0 [.i r_0_, .i r_1_]) K) := by kernel_rfl
def E_i_MaslovOf (α : Type) (N : Nat) : Env α := (E_i_stated_int64_s2 α N).addFun 17 true 0 i_MaslovOf_a (fun l K => match l with
    | [.i g_0, .f g_1, .f g_2, .f x, .b xs] => i_MaslovOf none N g_0 g_1 g_2 x xs (fun r_0_ r_1_ => retK (buildS i_MaslovOf_r0 [.i r_0_, .i r_1_]) K)
    | _ => none)
theorem E_i_MaslovOf_ok {α : Type} (N : Nat) : EnvOk Try.prog (E_i_MaslovOf α N) := (E_i_stated_int64_s2_ok N).addFun prog_mixed prog_names (d := 1) fun l K r h => by
  split at h
  · exact (i_MaslovOf_run N _ _ _ _ _ K).trans h
  · cases h

/-- laws.FnExactMaslovOf -/
def w_FnExactMaslovOf_a : SPat := ⟨[.agg [.vals [.int .i64], .ints .u8 8, .ints .u8 8], .agg [.ints .u8 8], .bool], []⟩
def w_FnExactMaslovOf_r0 : SPat := ⟨[.bool], []⟩
theorem w_FnExactMaslovOf_run {α : Type} (N : Nat) (aG_0 : Int) (aG_1 : Nat → Int) (aG_2 : Nat → Int) (aX : Nat → Int) (aXs : Bool) (K : AV → Heap → Option α) :
    callK Try.prog (E_i_MaslovOf α N) 1 3 0 (buildS w_FnExactMaslovOf_a [.i aG_0, .f aG_1, .f aG_2, .f aX, .b aXs]).t (buildS w_FnExactMaslovOf_a [.i aG_0, .f aG_1, .f aG_2, .f aX, .b aXs]).h K = w_FnExactMaslovOf none N aG_0 aG_1 aG_2 aX aXs (fun r__ => retK (buildS w_FnExactMaslovOf_r0 [.b r__]) K) := by kernel_rfl
def E_w_FnExactMaslovOf (α : Type) (N : Nat) : Env α := (E_i_MaslovOf α N).addFun 3 true 0 w_FnExactMaslovOf_a (fun l K => match l with
    | [.i aG_0, .f aG_1, .f aG_2, .f aX, .b aXs] => w_FnExactMaslovOf none N aG_0 aG_1 aG_2 aX aXs (fun r__ => retK (buildS w_FnExactMaslovOf_r0 [.b r__]) K)
    | _ => none)
theorem E_w_FnExactMaslovOf_ok {α : Type} (N : Nat) : EnvOk Try.prog (E_w_FnExactMaslovOf α N) := (E_i_MaslovOf_ok N).addFun prog_mixed prog_names (d := 1) fun l K r h => by
  split at h
  · exact (w_FnExactMaslovOf_run N _ _ _ _ _ K).trans h
  · cases h
end Go.AM
