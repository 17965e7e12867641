/- A part of a proof about the given program: an abstract machine, what the given functions come to, and plain laws. -/
import Derived.Test.YtijijnfmcmeioaaAMEnv2
import Derived.Test.YtijijnfmcmeioaaDLowerState
import Derived.Test.YtijijnfmcmeioaaDAlexanderNumber
import Derived.Test.YtijijnfmcmeioaaDIsMosaic
import Derived.Test.YtijijnfmcmeioaaDRectanglesFrom
import Derived.Test.YtijijnfmcmeioaaDLedTo
import Derived.Test.YtijijnfmcmeioaaProg
set_option maxRecDepth 100000
namespace Go.AM
open Go.Proofs

def E0 (α : Type) (N : Nat) : Env α := Env.base (fun _ _ => {}) N
theorem E0_ok {α : Type} (N : Nat) : EnvOk Try.prog (E0 α N) := .base
theorem prog_mixed : Try.prog.follows .mixedOrders = true := by kernel_rfl
theorem prog_names : NamesOk Try.prog := .of_all (by kernel_rfl)
def A_w_toByteA8_l0 (α : Type) (N : Nat) : Env α := (E0 α N).addAnn 62 3 { head := [1, 2, 3, 4], grow := [], out := [2, 3], ret := [2] }
theorem A_w_toByteA8_l0_ok {α : Type} (N : Nat) : EnvOk Try.prog (A_w_toByteA8_l0 α N) := (E0_ok N).addAnn

/-- laws.toByteA8, loop -/
def w_toByteA8_l0_p : SPat := ⟨[.undef, .ptr ⟨0, 0, 0, 8⟩, .ptr ⟨1, 0, 0, 8⟩, .ptr ⟨2, 0, 0, 8⟩, .int .i64] ++ List.replicate 10 .undef, [[.ints .u8 8], [.ints .u8 8], [.ints .u8 8]]⟩
def w_toByteA8_l0_o0 : SPat := ⟨[.undef, .undef, .ptr ⟨1, 0, 0, 8⟩, .ptr ⟨2, 0, 0, 8⟩] ++ List.replicate 11 .undef, [[.ints .u8 8], [.ints .u8 8], [.ints .u8 8]]⟩
theorem w_toByteA8_l0_round {α : Type} (N : Nat) (i : Int) (h0 : Nat → Int) (h1 : Nat → Int) (h2 : Nat → Int) (kn : St → Option α) (K : AExit → St → Option α) :
    roundK Try.prog (A_w_toByteA8_l0 α N) 1 0 62 Try.f62 3 3 (buildS w_toByteA8_l0_p [.i i, .f h0, .f h1, .f h2]) kn K = w_toByteA8_l0_s none h0 h1 i h2 (fun i h2 => kn (buildS w_toByteA8_l0_p [.i i, .f h0, .f h1, .f h2])) (fun h2_ => K (.exit 0) (buildS w_toByteA8_l0_o0 [.f h0, .f h1, .f h2_])) := by kernel_rfl
theorem w_toByteA8_l0_loop {α : Type} (N : Nat) (h0 : Nat → Int) (h1 : Nat → Int) (K : AExit → St → Option α) : ∀ (m : Nat) (i : Int) (h2 : Nat → Int),
    loopN (trimSt ((A_w_toByteA8_l0 α N).ann 62 3).head ((A_w_toByteA8_l0 α N).ann 62 3).grow 3) (bodyK Try.prog (A_w_toByteA8_l0 α N) 1 0 62 Try.f62 3) m (buildS w_toByteA8_l0_p [.i i, .f h0, .f h1, .f h2]) (leaveLoop ((A_w_toByteA8_l0 α N).ann 62 3) 3 K) = w_toByteA8_l0 none h0 h1 m i h2 (fun h2_ => K (.exit 0) (buildS w_toByteA8_l0_o0 [.f h0, .f h1, .f h2_])) := by
  intro m
  induction m with
  | zero => intros; rfl
  | succ m ih =>
    intro i h2
    rw [loopN_round]
    refine (w_toByteA8_l0_round N i h0 h1 h2 _ K).trans ?_
    simp only [ih]
    rfl
def E_w_toByteA8_l0 (α : Type) (N : Nat) : Env α := (A_w_toByteA8_l0 α N).addLoop2 62 3 (loopSum2 ((A_w_toByteA8_l0 α N).ann 62 3) 0 w_toByteA8_l0_p (fun l K => match l with
    | [.i i, .f h0, .f h1, .f h2] => w_toByteA8_l0 none h0 h1 N i h2 (fun h2_ => K (.exit 0) (buildS w_toByteA8_l0_o0 [.f h0, .f h1, .f h2_]))
    | _ => none) ((A_w_toByteA8_l0 α N).ls 62 3))
theorem E_w_toByteA8_l0_ok {α : Type} (N : Nat) : EnvOk Try.prog (E_w_toByteA8_l0 α N) := (A_w_toByteA8_l0_ok N).addLoop2 Try.func62 (by kernel_rfl) (loopSum_ok prog_mixed prog_names (A_w_toByteA8_l0_ok N) Try.func62 (by kernel_rfl) (d := 1) (ro := 0) fun l K r h => by
  split at h
  · exact (w_toByteA8_l0_loop N _ _ K N _ _).trans h
  · cases h)

/-- laws.toByteA8 -/
def w_toByteA8_a : SPat := ⟨[.agg [.ints .u8 8]], []⟩
def w_toByteA8_r0 : SPat := ⟨[.agg [.ints .u8 8]], []⟩
theorem w_toByteA8_run {α : Type} (N : Nat) (a : Nat → Int) (K : AV → Heap → Option α) :
    callK Try.prog (E_w_toByteA8_l0 α N) 1 62 0 (buildS w_toByteA8_a [.f a]).t (buildS w_toByteA8_a [.f a]).h K = w_toByteA8 none N a (fun r__ => retK (buildS w_toByteA8_r0 [.f r__]) K) := by kernel_rfl
def E_w_toByteA8 (α : Type) (N : Nat) : Env α := (E_w_toByteA8_l0 α N).addFun 62 true 0 w_toByteA8_a (fun l K => match l with
    | [.f a] => w_toByteA8 none N a (fun r__ => retK (buildS w_toByteA8_r0 [.f r__]) K)
    | _ => none)
theorem E_w_toByteA8_ok {α : Type} (N : Nat) : EnvOk Try.prog (E_w_toByteA8 α N) := (E_w_toByteA8_l0_ok N).addFun prog_mixed prog_names (d := 1) fun l K r h => by
  split at h
  · exact (w_toByteA8_run N _ K).trans h
  · cases h

/-- laws.toGrid -/
def w_toGrid_a : SPat := ⟨[.agg [.vals [.int .i64], .ints .u8 8, .ints .u8 8]], []⟩
def w_toGrid_r0 : SPat := ⟨[.agg [.vals [.int .i64], .ints .u8 8, .ints .u8 8]], []⟩
theorem w_toGrid_run {α : Type} (N : Nat) (a_0 : Int) (a_1 : Nat → Int) (a_2 : Nat → Int) (K : AV → Heap → Option α) :
    callK Try.prog (E_w_toByteA8 α N) 1 15 0 (buildS w_toGrid_a [.i a_0, .f a_1, .f a_2]).t (buildS w_toGrid_a [.i a_0, .f a_1, .f a_2]).h K = w_toGrid none N a_0 a_1 a_2 (fun r_1_ r_2_ => retK (buildS w_toGrid_r0 [.i a_0, .f r_1_, .f r_2_]) K) := by kernel_rfl
def E_w_toGrid (α : Type) (N : Nat) : Env α := (E_w_toByteA8 α N).addFun 15 true 0 w_toGrid_a (fun l K => match l with
    | [.i a_0, .f a_1, .f a_2] => w_toGrid none N a_0 a_1 a_2 (fun r_1_ r_2_ => retK (buildS w_toGrid_r0 [.i a_0, .f r_1_, .f r_2_]) K)
    | _ => none)
theorem E_w_toGrid_ok {α : Type} (N : Nat) : EnvOk Try.prog (E_w_toGrid α N) := (E_w_toByteA8_ok N).addFun prog_mixed prog_names (d := 1) fun l K r h => by
  split at h
  · exact (w_toGrid_run N _ _ _ K).trans h
  · cases h

def A_w_toState_l0 (α : Type) (N : Nat) : Env α := (E_w_toGrid α N).addAnn 16 3 { head := [1, 2, 3, 4], grow := [], out := [2, 3], ret := [2] }
theorem A_w_toState_l0_ok {α : Type} (N : Nat) : EnvOk Try.prog (A_w_toState_l0 α N) := (E_w_toGrid_ok N).addAnn

/-- laws.toState, loop -/
def w_toState_l0_p : SPat := ⟨[.undef, .ptr ⟨0, 0, 0, 8⟩, .ptr ⟨1, 0, 0, 8⟩, .ptr ⟨2, 0, 0, 8⟩, .int .i64] ++ List.replicate 10 .undef, [[.ints .u8 8], [.ints .u8 8], [.ints .u8 8]]⟩
def w_toState_l0_o0 : SPat := ⟨[.undef, .undef, .ptr ⟨1, 0, 0, 8⟩, .ptr ⟨2, 0, 0, 8⟩] ++ List.replicate 11 .undef, [[.ints .u8 8], [.ints .u8 8], [.ints .u8 8]]⟩
theorem w_toState_l0_round {α : Type} (N : Nat) (i : Int) (h0 : Nat → Int) (h1 : Nat → Int) (h2 : Nat → Int) (kn : St → Option α) (K : AExit → St → Option α) :
    roundK Try.prog (A_w_toState_l0 α N) 1 0 16 Try.f16 3 3 (buildS w_toState_l0_p [.i i, .f h0, .f h1, .f h2]) kn K = w_toState_l0_s none h0 h1 i h2 (fun i h2 => kn (buildS w_toState_l0_p [.i i, .f h0, .f h1, .f h2])) (fun h2_ => K (.exit 0) (buildS w_toState_l0_o0 [.f h0, .f h1, .f h2_])) := by kernel_rfl
theorem w_toState_l0_loop {α : Type} (N : Nat) (h0 : Nat → Int) (h1 : Nat → Int) (K : AExit → St → Option α) : ∀ (m : Nat) (i : Int) (h2 : Nat → Int),
    loopN (trimSt ((A_w_toState_l0 α N).ann 16 3).head ((A_w_toState_l0 α N).ann 16 3).grow 3) (bodyK Try.prog (A_w_toState_l0 α N) 1 0 16 Try.f16 3) m (buildS w_toState_l0_p [.i i, .f h0, .f h1, .f h2]) (leaveLoop ((A_w_toState_l0 α N).ann 16 3) 3 K) = w_toState_l0 none h0 h1 m i h2 (fun h2_ => K (.exit 0) (buildS w_toState_l0_o0 [.f h0, .f h1, .f h2_])) := by
  intro m
  induction m with
  | zero => intros; rfl
  | succ m ih =>
    intro i h2
    rw [loopN_round]
    refine (w_toState_l0_round N i h0 h1 h2 _ K).trans ?_
    simp only [ih]
    rfl
def E_w_toState_l0 (α : Type) (N : Nat) : Env α := (A_w_toState_l0 α N).addLoop2 16 3 (loopSum2 ((A_w_toState_l0 α N).ann 16 3) 0 w_toState_l0_p (fun l K => match l with
    | [.i i, .f h0, .f h1, .f h2] => w_toState_l0 none h0 h1 N i h2 (fun h2_ => K (.exit 0) (buildS w_toState_l0_o0 [.f h0, .f h1, .f h2_]))
    | _ => none) ((A_w_toState_l0 α N).ls 16 3))
theorem E_w_toState_l0_ok {α : Type} (N : Nat) : EnvOk Try.prog (E_w_toState_l0 α N) := (A_w_toState_l0_ok N).addLoop2 Try.func16 (by kernel_rfl) (loopSum_ok prog_mixed prog_names (A_w_toState_l0_ok N) Try.func16 (by kernel_rfl) (d := 1) (ro := 0) fun l K r h => by
  split at h
  · exact (w_toState_l0_loop N _ _ K N _ _).trans h
  · cases h)

/-- laws.toState -/
def w_toState_a : SPat := ⟨[.agg [.ints .u8 8]], []⟩
def w_toState_r0 : SPat := ⟨[.agg [.ints .u8 8]], []⟩
theorem w_toState_run {α : Type} (N : Nat) (a : Nat → Int) (K : AV → Heap → Option α) :
    callK Try.prog (E_w_toState_l0 α N) 1 16 0 (buildS w_toState_a [.f a]).t (buildS w_toState_a [.f a]).h K = w_toState none N a (fun r__ => retK (buildS w_toState_r0 [.f r__]) K) := by kernel_rfl
def E_w_toState (α : Type) (N : Nat) : Env α := (E_w_toState_l0 α N).addFun 16 true 0 w_toState_a (fun l K => match l with
    | [.f a] => w_toState none N a (fun r__ => retK (buildS w_toState_r0 [.f r__]) K)
    | _ => none)
theorem E_w_toState_ok {α : Type} (N : Nat) : EnvOk Try.prog (E_w_toState α N) := (E_w_toState_l0_ok N).addFun prog_mixed prog_names (d := 1) fun l K r h => by
  split at h
  · exact (w_toState_run N _ K).trans h
  · cases h

/-- spec.l01In -/
def s_l01In_a : SPat := ⟨[.int .i64, .int .i64, .int .i64], []⟩
def s_l01In_r0 : SPat := ⟨[.bool], []⟩
theorem s_l01In_run {α : Type} (N : Nat) (n : Int) (low : Int) (high : Int) (K : AV → Heap → Option α) :
    callK Try.prog (E_w_toState α N) 1 92 0 (buildS s_l01In_a [.i n, .i low, .i high]).t (buildS s_l01In_a [.i n, .i low, .i high]).h K = s_l01In none N n low high (fun r__ => retK (buildS s_l01In_r0 [.b r__]) K) := by kernel_rfl
def E_s_l01In (α : Type) (N : Nat) : Env α := (E_w_toState α N).addFun 92 true 0 s_l01In_a (fun l K => match l with
    | [.i n, .i low, .i high] => s_l01In none N n low high (fun r__ => retK (buildS s_l01In_r0 [.b r__]) K)
    | _ => none)
theorem E_s_l01In_ok {α : Type} (N : Nat) : EnvOk Try.prog (E_s_l01In α N) := (E_w_toState_ok N).addFun prog_mixed prog_names (d := 1) fun l K r h => by
  split at h
  · exact (s_l01In_run N _ _ _ K).trans h
  · cases h

def A_s_l01Perm_l0 (α : Type) (N : Nat) : Env α := (E_s_l01In α N).addAnn 122 3 { head := [1, 2, 5, 6], grow := [], out := [], ret := [4] }
theorem A_s_l01Perm_l0_ok {α : Type} (N : Nat) : EnvOk Try.prog (A_s_l01Perm_l0 α N) := (E_s_l01In_ok N).addAnn

/-- spec.l01Perm, loop -/
def s_l01Perm_l0_p : SPat := ⟨[.undef, .int .i64, .ptr ⟨0, 0, 0, 8⟩, .undef, .undef, .ptr ⟨1, 0, 0, 8⟩, .int .i64] ++ List.replicate 29 .undef, [[.ints .u8 8], [.bools 8]]⟩
def s_l01Perm_l0_o0 : SPat := ⟨[.undef, .undef, .undef, .undef, .boolC false] ++ List.replicate 31 .undef, [[.ints .u8 8], [.bools 8]]⟩
def s_l01Perm_l0_o1 : SPat := ⟨[] ++ List.replicate 36 .undef, [[.ints .u8 8], [.bools 8]]⟩
theorem s_l01Perm_l0_round {α : Type} (N : Nat) (n : Int) (i : Int) (h0 : Nat → Int) (h1 : Nat → Bool) (kn : St → Option α) (K : AExit → St → Option α) :
    roundK Try.prog (A_s_l01Perm_l0 α N) 1 0 122 Try.f122 3 2 (buildS s_l01Perm_l0_p [.i n, .i i, .f h0, .g h1]) kn K = s_l01Perm_l0_s none n h0 i h1 (fun i h1 => kn (buildS s_l01Perm_l0_p [.i n, .i i, .f h0, .g h1])) (fun h1_ => K .ret (buildS s_l01Perm_l0_o0 [.f h0, .g h1_])) (fun h1_ => K (.exit 0) (buildS s_l01Perm_l0_o1 [.f h0, .g h1_])) := by kernel_rfl
theorem s_l01Perm_l0_loop {α : Type} (N : Nat) (n : Int) (h0 : Nat → Int) (K : AExit → St → Option α) : ∀ (m : Nat) (i : Int) (h1 : Nat → Bool),
    loopN (trimSt ((A_s_l01Perm_l0 α N).ann 122 3).head ((A_s_l01Perm_l0 α N).ann 122 3).grow 2) (bodyK Try.prog (A_s_l01Perm_l0 α N) 1 0 122 Try.f122 3) m (buildS s_l01Perm_l0_p [.i n, .i i, .f h0, .g h1]) (leaveLoop ((A_s_l01Perm_l0 α N).ann 122 3) 2 K) = s_l01Perm_l0 none n h0 m i h1 (fun h1_ => K .ret (buildS s_l01Perm_l0_o0 [.f h0, .g h1_])) (fun h1_ => K (.exit 0) (buildS s_l01Perm_l0_o1 [.f h0, .g h1_])) := by
  intro m
  induction m with
  | zero => intros; rfl
  | succ m ih =>
    intro i h1
    rw [loopN_round]
    refine (s_l01Perm_l0_round N n i h0 h1 _ K).trans ?_
    simp only [ih]
    rfl
def E_s_l01Perm_l0 (α : Type) (N : Nat) : Env α := (A_s_l01Perm_l0 α N).addLoop2 122 3 (loopSum2 ((A_s_l01Perm_l0 α N).ann 122 3) 0 s_l01Perm_l0_p (fun l K => match l with
    | [.i n, .i i, .f h0, .g h1] => s_l01Perm_l0 none n h0 N i h1 (fun h1_ => K .ret (buildS s_l01Perm_l0_o0 [.f h0, .g h1_])) (fun h1_ => K (.exit 0) (buildS s_l01Perm_l0_o1 [.f h0, .g h1_]))
    | _ => none) ((A_s_l01Perm_l0 α N).ls 122 3))
theorem E_s_l01Perm_l0_ok {α : Type} (N : Nat) : EnvOk Try.prog (E_s_l01Perm_l0 α N) := (A_s_l01Perm_l0_ok N).addLoop2 Try.func122 (by kernel_rfl) (loopSum_ok prog_mixed prog_names (A_s_l01Perm_l0_ok N) Try.func122 (by kernel_rfl) (d := 1) (ro := 0) fun l K r h => by
  split at h
  · exact (s_l01Perm_l0_loop N _ _ K N _ _).trans h
  · cases h)

/-- spec.l01Perm -/
def s_l01Perm_a : SPat := ⟨[.agg [.ints .u8 8], .int .i64], []⟩
def s_l01Perm_r0 : SPat := ⟨[.bool], []⟩
theorem s_l01Perm_run {α : Type} (N : Nat) (list : Nat → Int) (n : Int) (K : AV → Heap → Option α) :
    callK Try.prog (E_s_l01Perm_l0 α N) 1 122 0 (buildS s_l01Perm_a [.f list, .i n]).t (buildS s_l01Perm_a [.f list, .i n]).h K = s_l01Perm none N list n (fun r__ => retK (buildS s_l01Perm_r0 [.b r__]) K) := by kernel_rfl
def E_s_l01Perm (α : Type) (N : Nat) : Env α := (E_s_l01Perm_l0 α N).addFun 122 true 0 s_l01Perm_a (fun l K => match l with
    | [.f list, .i n] => s_l01Perm none N list n (fun r__ => retK (buildS s_l01Perm_r0 [.b r__]) K)
    | _ => none)
theorem E_s_l01Perm_ok {α : Type} (N : Nat) : EnvOk Try.prog (E_s_l01Perm α N) := (E_s_l01Perm_l0_ok N).addFun prog_mixed prog_names (d := 1) fun l K r h => by
  split at h
  · exact (s_l01Perm_run N _ _ K).trans h
  · cases h

def A_s_l01Is_l0 (α : Type) (N : Nat) : Env α := (E_s_l01Perm α N).addAnn 66 4 { head := [1, 3], grow := [], out := [], ret := [2] }
theorem A_s_l01Is_l0_ok {α : Type} (N : Nat) : EnvOk Try.prog (A_s_l01Is_l0 α N) := (E_s_l01Perm_ok N).addAnn

/-- spec.l01Is, loop -/
def s_l01Is_l0_p : SPat := ⟨[.undef, .ptr ⟨0, 0, 0, 1⟩, .undef, .int .i64] ++ List.replicate 35 .undef, [[.vals [.int .i64], .ints .u8 8, .ints .u8 8]]⟩
def s_l01Is_l0_o0 : SPat := ⟨[.undef, .undef, .boolC false] ++ List.replicate 36 .undef, [[.vals [.int .i64], .ints .u8 8, .ints .u8 8]]⟩
def s_l01Is_l0_o1 : SPat := ⟨[] ++ List.replicate 39 .undef, [[.vals [.int .i64], .ints .u8 8, .ints .u8 8]]⟩
theorem s_l01Is_l0_round {α : Type} (N : Nat) (i : Int) (h0_0 : Int) (h0_1 : Nat → Int) (h0_2 : Nat → Int) (kn : St → Option α) (K : AExit → St → Option α) :
    roundK Try.prog (A_s_l01Is_l0 α N) 1 0 66 Try.f66 4 1 (buildS s_l01Is_l0_p [.i i, .i h0_0, .f h0_1, .f h0_2]) kn K = s_l01Is_l0_s none h0_0 h0_1 h0_2 i (fun i => kn (buildS s_l01Is_l0_p [.i i, .i h0_0, .f h0_1, .f h0_2])) (K .ret (buildS s_l01Is_l0_o0 [.i h0_0, .f h0_1, .f h0_2])) (K (.exit 0) (buildS s_l01Is_l0_o1 [.i h0_0, .f h0_1, .f h0_2])) := by kernel_rfl
theorem s_l01Is_l0_loop {α : Type} (N : Nat) (h0_0 : Int) (h0_1 : Nat → Int) (h0_2 : Nat → Int) (K : AExit → St → Option α) : ∀ (m : Nat) (i : Int),
    loopN (trimSt ((A_s_l01Is_l0 α N).ann 66 4).head ((A_s_l01Is_l0 α N).ann 66 4).grow 1) (bodyK Try.prog (A_s_l01Is_l0 α N) 1 0 66 Try.f66 4) m (buildS s_l01Is_l0_p [.i i, .i h0_0, .f h0_1, .f h0_2]) (leaveLoop ((A_s_l01Is_l0 α N).ann 66 4) 1 K) = s_l01Is_l0 none h0_0 h0_1 h0_2 m i (K .ret (buildS s_l01Is_l0_o0 [.i h0_0, .f h0_1, .f h0_2])) (K (.exit 0) (buildS s_l01Is_l0_o1 [.i h0_0, .f h0_1, .f h0_2])) := by
  intro m
  induction m with
  | zero => intros; rfl
  | succ m ih =>
    intro i
    rw [loopN_round]
    refine (s_l01Is_l0_round N i h0_0 h0_1 h0_2 _ K).trans ?_
    simp only [ih]
    rfl
def E_s_l01Is_l0 (α : Type) (N : Nat) : Env α := (A_s_l01Is_l0 α N).addLoop2 66 4 (loopSum2 ((A_s_l01Is_l0 α N).ann 66 4) 0 s_l01Is_l0_p (fun l K => match l with
    | [.i i, .i h0_0, .f h0_1, .f h0_2] => s_l01Is_l0 none h0_0 h0_1 h0_2 N i (K .ret (buildS s_l01Is_l0_o0 [.i h0_0, .f h0_1, .f h0_2])) (K (.exit 0) (buildS s_l01Is_l0_o1 [.i h0_0, .f h0_1, .f h0_2]))
    | _ => none) ((A_s_l01Is_l0 α N).ls 66 4))
theorem E_s_l01Is_l0_ok {α : Type} (N : Nat) : EnvOk Try.prog (E_s_l01Is_l0 α N) := (A_s_l01Is_l0_ok N).addLoop2 Try.func66 (by kernel_rfl) (loopSum_ok prog_mixed prog_names (A_s_l01Is_l0_ok N) Try.func66 (by kernel_rfl) (d := 1) (ro := 0) fun l K r h => by
  split at h
  · exact (s_l01Is_l0_loop N _ _ _ K N _).trans h
  · cases h)

/-- spec.l01Is -/
def s_l01Is_a : SPat := ⟨[.agg [.vals [.int .i64], .ints .u8 8, .ints .u8 8]], []⟩
def s_l01Is_r0 : SPat := ⟨[.bool], []⟩
theorem s_l01Is_run {α : Type} (N : Nat) (g_0 : Int) (g_1 : Nat → Int) (g_2 : Nat → Int) (K : AV → Heap → Option α) :
    callK Try.prog (E_s_l01Is_l0 α N) 1 66 0 (buildS s_l01Is_a [.i g_0, .f g_1, .f g_2]).t (buildS s_l01Is_a [.i g_0, .f g_1, .f g_2]).h K = s_l01Is none N g_0 g_1 g_2 (fun r__ => retK (buildS s_l01Is_r0 [.b r__]) K) := by kernel_rfl
def E_s_l01Is (α : Type) (N : Nat) : Env α := (E_s_l01Is_l0 α N).addFun 66 true 0 s_l01Is_a (fun l K => match l with
    | [.i g_0, .f g_1, .f g_2] => s_l01Is none N g_0 g_1 g_2 (fun r__ => retK (buildS s_l01Is_r0 [.b r__]) K)
    | _ => none)
theorem E_s_l01Is_ok {α : Type} (N : Nat) : EnvOk Try.prog (E_s_l01Is α N) := (E_s_l01Is_l0_ok N).addFun prog_mixed prog_names (d := 1) fun l K r h => by
  split at h
  · exact (s_l01Is_run N _ _ _ K).trans h
  · cases h

/-- spec.l05Is -/
def s_l05Is_a : SPat := ⟨[.agg [.vals [.int .i64], .ints .u8 8, .ints .u8 8], .agg [.ints .u8 8]], []⟩
def s_l05Is_r0 : SPat := ⟨[.bool], []⟩
theorem s_l05Is_run {α : Type} (N : Nat) (g_0 : Int) (g_1 : Nat → Int) (g_2 : Nat → Int) (x : Nat → Int) (K : AV → Heap → Option α) :
    callK Try.prog (E_s_l01Is α N) 1 60 0 (buildS s_l05Is_a [.i g_0, .f g_1, .f g_2, .f x]).t (buildS s_l05Is_a [.i g_0, .f g_1, .f g_2, .f x]).h K = s_l05Is none N g_0 g_1 g_2 x (fun r__ => retK (buildS s_l05Is_r0 [.b r__]) K) := by kernel_rfl
def E_s_l05Is (α : Type) (N : Nat) : Env α := (E_s_l01Is α N).addFun 60 true 0 s_l05Is_a (fun l K => match l with
    | [.i g_0, .f g_1, .f g_2, .f x] => s_l05Is none N g_0 g_1 g_2 x (fun r__ => retK (buildS s_l05Is_r0 [.b r__]) K)
    | _ => none)
theorem E_s_l05Is_ok {α : Type} (N : Nat) : EnvOk Try.prog (E_s_l05Is α N) := (E_s_l01Is_ok N).addFun prog_mixed prog_names (d := 1) fun l K r h => by
  split at h
  · exact (s_l05Is_run N _ _ _ _ K).trans h
  · cases h

def A_s_l05Rects_l0 (α : Type) (N : Nat) : Env α := (E_s_l05Is α N).addAnn 77 3 { head := [2, 3, 5, 6, 7], grow := [6], out := [6], ret := [4] }
theorem A_s_l05Rects_l0_ok {α : Type} (N : Nat) : EnvOk Try.prog (A_s_l05Rects_l0 α N) := (E_s_l05Is_ok N).addAnn

def A_s_l05Rects_l1 (α : Type) (N : Nat) : Env α := (A_s_l05Rects_l0 α N).addAnn 77 6 { head := [2, 3, 5, 6, 7, 8], grow := [6], out := [2, 3, 5, 6, 7], ret := [4] }
theorem A_s_l05Rects_l1_ok {α : Type} (N : Nat) : EnvOk Try.prog (A_s_l05Rects_l1 α N) := (A_s_l05Rects_l0_ok N).addAnn

def A_s_l05Marks_l0 (α : Type) (N : Nat) : Env α := (A_s_l05Rects_l1 α N).addAnn 128 3 { head := [0, 2, 3, 4, 5, 7, 13, 14], grow := [], out := [13], ret := [12] }
theorem A_s_l05Marks_l0_ok {α : Type} (N : Nat) : EnvOk Try.prog (A_s_l05Marks_l0 α N) := (A_s_l05Rects_l1_ok N).addAnn

/-- spec.l05Marks, loop -/
def s_l05Marks_l0_p : SPat := ⟨[.int .i64, .undef, .int .i64, .int .i64, .int .i64, .int .i64, .undef, .ptr ⟨0, 0, 0, 8⟩, .undef, .undef, .undef, .undef, .undef, .int .i64, .int .i64] ++ List.replicate 24 .undef, [[.ints .u8 8]]⟩
def s_l05Marks_l0_o0 : SPat := ⟨[.undef, .undef, .undef, .undef, .undef, .undef, .undef, .undef, .undef, .undef, .undef, .undef, .undef, .int .i64] ++ List.replicate 25 .undef, [[.ints .u8 8]]⟩
theorem s_l05Marks_l0_round {α : Type} (N : Nat) (n : Int) (left : Int) (bottom : Int) (width : Int) (height : Int) (count : Int) (k : Int) (h0 : Nat → Int) (kn : St → Option α) (K : AExit → St → Option α) :
    roundK Try.prog (A_s_l05Marks_l0 α N) 1 0 128 Try.f128 3 1 (buildS s_l05Marks_l0_p [.i n, .i left, .i bottom, .i width, .i height, .i count, .i k, .f h0]) kn K = s_l05Marks_l0_s none n left bottom width height h0 count k (fun count k => kn (buildS s_l05Marks_l0_p [.i n, .i left, .i bottom, .i width, .i height, .i count, .i k, .f h0])) (fun count_ => K (.exit 0) (buildS s_l05Marks_l0_o0 [.i count_, .f h0])) := by kernel_rfl
theorem s_l05Marks_l0_loop {α : Type} (N : Nat) (n : Int) (left : Int) (bottom : Int) (width : Int) (height : Int) (h0 : Nat → Int) (K : AExit → St → Option α) : ∀ (m : Nat) (count : Int) (k : Int),
    loopN (trimSt ((A_s_l05Marks_l0 α N).ann 128 3).head ((A_s_l05Marks_l0 α N).ann 128 3).grow 1) (bodyK Try.prog (A_s_l05Marks_l0 α N) 1 0 128 Try.f128 3) m (buildS s_l05Marks_l0_p [.i n, .i left, .i bottom, .i width, .i height, .i count, .i k, .f h0]) (leaveLoop ((A_s_l05Marks_l0 α N).ann 128 3) 1 K) = s_l05Marks_l0 none n left bottom width height h0 m count k (fun count_ => K (.exit 0) (buildS s_l05Marks_l0_o0 [.i count_, .f h0])) := by
  intro m
  induction m with
  | zero => intros; rfl
  | succ m ih =>
    intro count k
    rw [loopN_round]
    refine (s_l05Marks_l0_round N n left bottom width height count k h0 _ K).trans ?_
    simp only [ih]
    rfl
def E_s_l05Marks_l0 (α : Type) (N : Nat) : Env α := (A_s_l05Marks_l0 α N).addLoop2 128 3 (loopSum2 ((A_s_l05Marks_l0 α N).ann 128 3) 0 s_l05Marks_l0_p (fun l K => match l with
    | [.i n, .i left, .i bottom, .i width, .i height, .i count, .i k, .f h0] => s_l05Marks_l0 none n left bottom width height h0 N count k (fun count_ => K (.exit 0) (buildS s_l05Marks_l0_o0 [.i count_, .f h0]))
    | _ => none) ((A_s_l05Marks_l0 α N).ls 128 3))
theorem E_s_l05Marks_l0_ok {α : Type} (N : Nat) : EnvOk Try.prog (E_s_l05Marks_l0 α N) := (A_s_l05Marks_l0_ok N).addLoop2 Try.func128 (by kernel_rfl) (loopSum_ok prog_mixed prog_names (A_s_l05Marks_l0_ok N) Try.func128 (by kernel_rfl) (d := 1) (ro := 0) fun l K r h => by
  split at h
  · exact (s_l05Marks_l0_loop N _ _ _ _ _ _ K N _ _).trans h
  · cases h)

/-- spec.l05Marks -/
def s_l05Marks_a : SPat := ⟨[.int .i64, .agg [.ints .u8 8], .int .i64, .int .i64, .int .i64, .int .i64], []⟩
def s_l05Marks_r0 : SPat := ⟨[.int .i64], []⟩
theorem s_l05Marks_run {α : Type} (N : Nat) (n : Int) (marks : Nat → Int) (left : Int) (bottom : Int) (width : Int) (height : Int) (K : AV → Heap → Option α) :
    callK Try.prog (E_s_l05Marks_l0 α N) 1 128 0 (buildS s_l05Marks_a [.i n, .f marks, .i left, .i bottom, .i width, .i height]).t (buildS s_l05Marks_a [.i n, .f marks, .i left, .i bottom, .i width, .i height]).h K = s_l05Marks none N n marks left bottom width height (fun r__ => retK (buildS s_l05Marks_r0 [.i r__]) K) := by kernel_rfl
def E_s_l05Marks (α : Type) (N : Nat) : Env α := (E_s_l05Marks_l0 α N).addFun 128 true 0 s_l05Marks_a (fun l K => match l with
    | [.i n, .f marks, .i left, .i bottom, .i width, .i height] => s_l05Marks none N n marks left bottom width height (fun r__ => retK (buildS s_l05Marks_r0 [.i r__]) K)
    | _ => none)
theorem E_s_l05Marks_ok {α : Type} (N : Nat) : EnvOk Try.prog (E_s_l05Marks α N) := (E_s_l05Marks_l0_ok N).addFun prog_mixed prog_names (d := 1) fun l K r h => by
  split at h
  · exact (s_l05Marks_run N _ _ _ _ _ _ K).trans h
  · cases h

/-- spec.l05Rects, loop -/
def s_l05Rects_l1_p : SPat := ⟨[.undef, .undef, .ptr ⟨0, 0, 0, 1⟩, .ptr ⟨1, 0, 0, 8⟩, .undef, .int .i64, .sliceV 2 0 0 6 false, .int .i64, .int .i64] ++ List.replicate 58 .undef, [[.vals [.int .i64], .ints .u8 8, .ints .u8 8], [.ints .u8 8], [.vec .i64]]⟩
def s_l05Rects_l1_o0 : SPat := ⟨[.undef, .undef, .ptr ⟨0, 0, 0, 1⟩, .ptr ⟨1, 0, 0, 8⟩, .undef, .int .i64, .sliceV 2 0 0 6 false, .int .i64] ++ List.replicate 59 .undef, [[.vals [.int .i64], .ints .u8 8, .ints .u8 8], [.ints .u8 8], [.vec .i64]]⟩
theorem s_l05Rects_l1_round {α : Type} (N : Nat) (t5 : Int) (t6_n : Nat) (t6_l : Nat) (t6_c : Nat) (t7 : Int) (t8 : Int) (h0_0 : Int) (h0_1 : Nat → Int) (h0_2 : Nat → Int) (h1 : Nat → Int) (h2 : List Int) (kn : St → Option α) (K : AExit → St → Option α) :
    roundK Try.prog (E_s_l05Marks α N) 1 0 77 Try.f77 6 3 (buildS s_l05Rects_l1_p [.i t5, .n t6_n, .n t6_l, .n t6_c, .i t7, .i t8, .i h0_0, .f h0_1, .f h0_2, .f h1, .l h2]) kn K = s_l05Rects_l1_s none N t5 t7 h0_0 h0_1 h0_2 h1 t6_n t6_l t6_c t8 h2 (fun t6_n t6_l t6_c t8 h2 => kn (buildS s_l05Rects_l1_p [.i t5, .n t6_n, .n t6_l, .n t6_c, .i t7, .i t8, .i h0_0, .f h0_1, .f h0_2, .f h1, .l h2])) (fun t6_n_ t6_l_ t6_c_ h2_ => K (.exit 2) (buildS s_l05Rects_l1_o0 [.i t5, .n t6_n_, .n t6_l_, .n t6_c_, .i t7, .i h0_0, .f h0_1, .f h0_2, .f h1, .l h2_])) := by kernel_rfl
theorem s_l05Rects_l1_loop {α : Type} (N : Nat) (t5 : Int) (t7 : Int) (h0_0 : Int) (h0_1 : Nat → Int) (h0_2 : Nat → Int) (h1 : Nat → Int) (K : AExit → St → Option α) : ∀ (m : Nat) (t6_n : Nat) (t6_l : Nat) (t6_c : Nat) (t8 : Int) (h2 : List Int),
    loopN (trimSt ((E_s_l05Marks α N).ann 77 6).head ((E_s_l05Marks α N).ann 77 6).grow 3) (bodyK Try.prog (E_s_l05Marks α N) 1 0 77 Try.f77 6) m (buildS s_l05Rects_l1_p [.i t5, .n t6_n, .n t6_l, .n t6_c, .i t7, .i t8, .i h0_0, .f h0_1, .f h0_2, .f h1, .l h2]) (leaveLoop ((E_s_l05Marks α N).ann 77 6) 3 K) = s_l05Rects_l1 none N t5 t7 h0_0 h0_1 h0_2 h1 m t6_n t6_l t6_c t8 h2 (fun t6_n_ t6_l_ t6_c_ h2_ => K (.exit 2) (buildS s_l05Rects_l1_o0 [.i t5, .n t6_n_, .n t6_l_, .n t6_c_, .i t7, .i h0_0, .f h0_1, .f h0_2, .f h1, .l h2_])) := by
  intro m
  induction m with
  | zero => intros; rfl
  | succ m ih =>
    intro t6_n t6_l t6_c t8 h2
    rw [loopN_round]
    refine (s_l05Rects_l1_round N t5 t6_n t6_l t6_c t7 t8 h0_0 h0_1 h0_2 h1 h2 _ K).trans ?_
    simp only [ih]
    rfl
def E_s_l05Rects_l1 (α : Type) (N : Nat) : Env α := (E_s_l05Marks α N).addLoop2 77 6 (loopSum2 ((E_s_l05Marks α N).ann 77 6) 0 s_l05Rects_l1_p (fun l K => match l with
    | [.i t5, .n t6_n, .n t6_l, .n t6_c, .i t7, .i t8, .i h0_0, .f h0_1, .f h0_2, .f h1, .l h2] => s_l05Rects_l1 none N t5 t7 h0_0 h0_1 h0_2 h1 N t6_n t6_l t6_c t8 h2 (fun t6_n_ t6_l_ t6_c_ h2_ => K (.exit 2) (buildS s_l05Rects_l1_o0 [.i t5, .n t6_n_, .n t6_l_, .n t6_c_, .i t7, .i h0_0, .f h0_1, .f h0_2, .f h1, .l h2_]))
    | _ => none) ((E_s_l05Marks α N).ls 77 6))
theorem E_s_l05Rects_l1_ok {α : Type} (N : Nat) : EnvOk Try.prog (E_s_l05Rects_l1 α N) := (E_s_l05Marks_ok N).addLoop2 Try.func77 (by kernel_rfl) (loopSum_ok prog_mixed prog_names (E_s_l05Marks_ok N) Try.func77 (by kernel_rfl) (d := 1) (ro := 0) fun l K r h => by
  split at h
  · exact (s_l05Rects_l1_loop N _ _ _ _ _ _ K N _ _ _ _ _).trans h
  · cases h)

/-- spec.l05Rects, loop -/
def s_l05Rects_l0_p : SPat := ⟨[.undef, .undef, .ptr ⟨0, 0, 0, 1⟩, .ptr ⟨1, 0, 0, 8⟩, .undef, .int .i64, .sliceV 2 0 0 6 false, .int .i64] ++ List.replicate 59 .undef, [[.vals [.int .i64], .ints .u8 8, .ints .u8 8], [.ints .u8 8], [.vec .i64]]⟩
def s_l05Rects_l0_o0 : SPat := ⟨[.undef, .undef, .undef, .undef, .undef, .undef, .sliceV 2 0 0 6 false] ++ List.replicate 60 .undef, [[.vals [.int .i64], .ints .u8 8, .ints .u8 8], [.ints .u8 8], [.vec .i64]]⟩
theorem s_l05Rects_l0_round {α : Type} (N : Nat) (t5 : Int) (t6_n : Nat) (t6_l : Nat) (t6_c : Nat) (t7 : Int) (h0_0 : Int) (h0_1 : Nat → Int) (h0_2 : Nat → Int) (h1 : Nat → Int) (h2 : List Int) (kn : St → Option α) (K : AExit → St → Option α) :
    roundK Try.prog (E_s_l05Rects_l1 α N) 1 0 77 Try.f77 3 3 (buildS s_l05Rects_l0_p [.i t5, .n t6_n, .n t6_l, .n t6_c, .i t7, .i h0_0, .f h0_1, .f h0_2, .f h1, .l h2]) kn K = s_l05Rects_l0_s none N t5 h0_0 h0_1 h0_2 h1 t6_n t6_l t6_c t7 h2 (fun t6_n t6_l t6_c t7 h2 => kn (buildS s_l05Rects_l0_p [.i t5, .n t6_n, .n t6_l, .n t6_c, .i t7, .i h0_0, .f h0_1, .f h0_2, .f h1, .l h2])) (fun t6_n_ t6_l_ t6_c_ h2_ => K (.exit 0) (buildS s_l05Rects_l0_o0 [.n t6_n_, .n t6_l_, .n t6_c_, .i h0_0, .f h0_1, .f h0_2, .f h1, .l h2_])) := by kernel_rfl
theorem s_l05Rects_l0_loop {α : Type} (N : Nat) (t5 : Int) (h0_0 : Int) (h0_1 : Nat → Int) (h0_2 : Nat → Int) (h1 : Nat → Int) (K : AExit → St → Option α) : ∀ (m : Nat) (t6_n : Nat) (t6_l : Nat) (t6_c : Nat) (t7 : Int) (h2 : List Int),
    loopN (trimSt ((E_s_l05Rects_l1 α N).ann 77 3).head ((E_s_l05Rects_l1 α N).ann 77 3).grow 3) (bodyK Try.prog (E_s_l05Rects_l1 α N) 1 0 77 Try.f77 3) m (buildS s_l05Rects_l0_p [.i t5, .n t6_n, .n t6_l, .n t6_c, .i t7, .i h0_0, .f h0_1, .f h0_2, .f h1, .l h2]) (leaveLoop ((E_s_l05Rects_l1 α N).ann 77 3) 3 K) = s_l05Rects_l0 none N t5 h0_0 h0_1 h0_2 h1 m t6_n t6_l t6_c t7 h2 (fun t6_n_ t6_l_ t6_c_ h2_ => K (.exit 0) (buildS s_l05Rects_l0_o0 [.n t6_n_, .n t6_l_, .n t6_c_, .i h0_0, .f h0_1, .f h0_2, .f h1, .l h2_])) := by
  intro m
  induction m with
  | zero => intros; rfl
  | succ m ih =>
    intro t6_n t6_l t6_c t7 h2
    rw [loopN_round]
    refine (s_l05Rects_l0_round N t5 t6_n t6_l t6_c t7 h0_0 h0_1 h0_2 h1 h2 _ K).trans ?_
    simp only [ih]
    rfl
def E_s_l05Rects_l0 (α : Type) (N : Nat) : Env α := (E_s_l05Rects_l1 α N).addLoop2 77 3 (loopSum2 ((E_s_l05Rects_l1 α N).ann 77 3) 0 s_l05Rects_l0_p (fun l K => match l with
    | [.i t5, .n t6_n, .n t6_l, .n t6_c, .i t7, .i h0_0, .f h0_1, .f h0_2, .f h1, .l h2] => s_l05Rects_l0 none N t5 h0_0 h0_1 h0_2 h1 N t6_n t6_l t6_c t7 h2 (fun t6_n_ t6_l_ t6_c_ h2_ => K (.exit 0) (buildS s_l05Rects_l0_o0 [.n t6_n_, .n t6_l_, .n t6_c_, .i h0_0, .f h0_1, .f h0_2, .f h1, .l h2_]))
    | _ => none) ((E_s_l05Rects_l1 α N).ls 77 3))
theorem E_s_l05Rects_l0_ok {α : Type} (N : Nat) : EnvOk Try.prog (E_s_l05Rects_l0 α N) := (E_s_l05Rects_l1_ok N).addLoop2 Try.func77 (by kernel_rfl) (loopSum_ok prog_mixed prog_names (E_s_l05Rects_l1_ok N) Try.func77 (by kernel_rfl) (d := 1) (ro := 0) fun l K r h => by
  split at h
  · exact (s_l05Rects_l0_loop N _ _ _ _ _ K N _ _ _ _ _).trans h
  · cases h)

/-- spec.l05Rects -/
def s_l05Rects_a : SPat := ⟨[.agg [.vals [.int .i64], .ints .u8 8, .ints .u8 8], .agg [.ints .u8 8]], []⟩
def s_l05Rects_r0 : SPat := ⟨[.sliceV 0 0 0 6 false], [[.vec .i64]]⟩
theorem s_l05Rects_run {α : Type} (N : Nat) (g_0 : Int) (g_1 : Nat → Int) (g_2 : Nat → Int) (a1 : Nat → Int) (K : AV → Heap → Option α) :
    callK Try.prog (E_s_l05Rects_l0 α N) 1 77 0 (buildS s_l05Rects_a [.i g_0, .f g_1, .f g_2, .f a1]).t (buildS s_l05Rects_a [.i g_0, .f g_1, .f g_2, .f a1]).h K = s_l05Rects none N g_0 g_1 g_2 a1 (fun r_n_ r_l_ r_c_ h0_ => retK (buildS s_l05Rects_r0 [.n r_n_, .n r_l_, .n r_c_, .l h0_]) K) := by kernel_rfl
def E_s_l05Rects (α : Type) (N : Nat) : Env α := (E_s_l05Rects_l0 α N).addFun 77 true 0 s_l05Rects_a (fun l K => match l with
    | [.i g_0, .f g_1, .f g_2, .f a1] => s_l05Rects none N g_0 g_1 g_2 a1 (fun r_n_ r_l_ r_c_ h0_ => retK (buildS s_l05Rects_r0 [.n r_n_, .n r_l_, .n r_c_, .l h0_]) K)
    | _ => none)
theorem E_s_l05Rects_ok {α : Type} (N : Nat) : EnvOk Try.prog (E_s_l05Rects α N) := (E_s_l05Rects_l0_ok N).addFun prog_mixed prog_names (d := 1) fun l K r h => by
  split at h
  · exact (s_l05Rects_run N _ _ _ _ K).trans h
  · cases h

/-- impl.within -/
def i_within_a : SPat := ⟨[.int .i64, .int .i64, .int .i64], []⟩
def i_within_r0 : SPat := ⟨[.bool], []⟩
theorem i_within_run {α : Type} (N : Nat) (x : Int) (low : Int) (high : Int) (K : AV → Heap → Option α) :
    callK Try.prog (E_s_l05Rects α N) 1 98 0 (buildS i_within_a [.i x, .i low, .i high]).t (buildS i_within_a [.i x, .i low, .i high]).h K = i_within none N x low high (fun r__ => retK (buildS i_within_r0 [.b r__]) K) := by kernel_rfl
def E_i_within (α : Type) (N : Nat) : Env α := (E_s_l05Rects α N).addFun 98 true 0 i_within_a (fun l K => match l with
    | [.i x, .i low, .i high] => i_within none N x low high (fun r__ => retK (buildS i_within_r0 [.b r__]) K)
    | _ => none)
theorem E_i_within_ok {α : Type} (N : Nat) : EnvOk Try.prog (E_i_within α N) := (E_s_l05Rects_ok N).addFun prog_mixed prog_names (d := 1) fun l K r h => by
  split at h
  · exact (i_within_run N _ _ _ K).trans h
  · cases h

/-- (impl.Grid).n -/
def i_Grid_n_a : SPat := ⟨[.agg [.vals [.int .i64], .ints .u8 8, .ints .u8 8]], []⟩
def i_Grid_n_r0 : SPat := ⟨[.int .i64], []⟩
theorem i_Grid_n_run {α : Type} (N : Nat) (g_0 : Int) (g_1 : Nat → Int) (g_2 : Nat → Int) (K : AV → Heap → Option α) :
    callK Try.prog (E_i_within α N) 1 95 0 (buildS i_Grid_n_a [.i g_0, .f g_1, .f g_2]).t (buildS i_Grid_n_a [.i g_0, .f g_1, .f g_2]).h K = i_Grid_n none N g_0 g_1 g_2 (retK (buildS i_Grid_n_r0 [.i g_0]) K) := by kernel_rfl
def E_i_Grid_n (α : Type) (N : Nat) : Env α := (E_i_within α N).addFun 95 true 0 i_Grid_n_a (fun l K => match l with
    | [.i g_0, .f g_1, .f g_2] => i_Grid_n none N g_0 g_1 g_2 (retK (buildS i_Grid_n_r0 [.i g_0]) K)
    | _ => none)
theorem E_i_Grid_n_ok {α : Type} (N : Nat) : EnvOk Try.prog (E_i_Grid_n α N) := (E_i_within_ok N).addFun prog_mixed prog_names (d := 1) fun l K r h => by
  split at h
  · exact (i_Grid_n_run N _ _ _ K).trans h
  · cases h

def A_i_isOrder_l0 (α : Type) (N : Nat) : Env α := (E_i_Grid_n α N).addAnn 126 3 { head := [1, 5, 8, 9, 10], grow := [], out := [1, 5], ret := [4] }
theorem A_i_isOrder_l0_ok {α : Type} (N : Nat) : EnvOk Try.prog (A_i_isOrder_l0 α N) := (E_i_Grid_n_ok N).addAnn

/-- impl.isOrder, loop -/
def i_isOrder_l0_s2_p : SPat := ⟨[.undef, .int .i64, .undef, .undef, .undef, .int .i64, .undef, .undef, .slice ⟨0, 1, 0, 8⟩ 8 8 1 true, .intC .i64 8, .int .i64] ++ List.replicate 30 .undef, [[.vals [.int .i64], .ints .u8 8, .ints .u8 8]]⟩
def i_isOrder_l0_s2_o0 : SPat := ⟨[.undef, .undef, .undef, .undef, .boolC false] ++ List.replicate 36 .undef, [[.vals [.int .i64], .ints .u8 8, .ints .u8 8]]⟩
def i_isOrder_l0_s2_o1 : SPat := ⟨[.undef, .int .i64, .undef, .undef, .undef, .int .i64] ++ List.replicate 35 .undef, [[.vals [.int .i64], .ints .u8 8, .ints .u8 8]]⟩
theorem i_isOrder_l0_s2_round {α : Type} (N : Nat) (n : Int) (seen : Int) (t10 : Int) (h0_0 : Int) (h0_1 : Nat → Int) (h0_2 : Nat → Int) (kn : St → Option α) (K : AExit → St → Option α) :
    roundK Try.prog (A_i_isOrder_l0 α N) 1 1 126 Try.f126 3 1 (buildS i_isOrder_l0_s2_p [.i n, .i seen, .i t10, .i h0_0, .f h0_1, .f h0_2]) kn K = i_isOrder_l0_s2_s none n h0_0 h0_1 h0_2 seen t10 (fun seen t10 => kn (buildS i_isOrder_l0_s2_p [.i n, .i seen, .i t10, .i h0_0, .f h0_1, .f h0_2])) (K .ret (buildS i_isOrder_l0_s2_o0 [.i h0_0, .f h0_1, .f h0_2])) (fun seen_ => K (.exit 0) (buildS i_isOrder_l0_s2_o1 [.i n, .i seen_, .i h0_0, .f h0_1, .f h0_2])) := by kernel_rfl
theorem i_isOrder_l0_s2_loop {α : Type} (N : Nat) (n : Int) (h0_0 : Int) (h0_1 : Nat → Int) (h0_2 : Nat → Int) (K : AExit → St → Option α) : ∀ (m : Nat) (seen : Int) (t10 : Int),
    loopN (trimSt ((A_i_isOrder_l0 α N).ann 126 3).head ((A_i_isOrder_l0 α N).ann 126 3).grow 1) (bodyK Try.prog (A_i_isOrder_l0 α N) 1 1 126 Try.f126 3) m (buildS i_isOrder_l0_s2_p [.i n, .i seen, .i t10, .i h0_0, .f h0_1, .f h0_2]) (leaveLoop ((A_i_isOrder_l0 α N).ann 126 3) 1 K) = i_isOrder_l0_s2 none n h0_0 h0_1 h0_2 m seen t10 (K .ret (buildS i_isOrder_l0_s2_o0 [.i h0_0, .f h0_1, .f h0_2])) (fun seen_ => K (.exit 0) (buildS i_isOrder_l0_s2_o1 [.i n, .i seen_, .i h0_0, .f h0_1, .f h0_2])) := by
  intro m
  induction m with
  | zero => intros; rfl
  | succ m ih =>
    intro seen t10
    rw [loopN_round]
    refine (i_isOrder_l0_s2_round N n seen t10 h0_0 h0_1 h0_2 _ K).trans ?_
    simp only [ih]
    rfl
def E_i_isOrder_l0_s2 (α : Type) (N : Nat) : Env α := (A_i_isOrder_l0 α N).addLoop2 126 3 (loopSum2 ((A_i_isOrder_l0 α N).ann 126 3) 1 i_isOrder_l0_s2_p (fun l K => match l with
    | [.i n, .i seen, .i t10, .i h0_0, .f h0_1, .f h0_2] => i_isOrder_l0_s2 none n h0_0 h0_1 h0_2 N seen t10 (K .ret (buildS i_isOrder_l0_s2_o0 [.i h0_0, .f h0_1, .f h0_2])) (fun seen_ => K (.exit 0) (buildS i_isOrder_l0_s2_o1 [.i n, .i seen_, .i h0_0, .f h0_1, .f h0_2]))
    | _ => none) ((A_i_isOrder_l0 α N).ls 126 3))
theorem E_i_isOrder_l0_s2_ok {α : Type} (N : Nat) : EnvOk Try.prog (E_i_isOrder_l0_s2 α N) := (A_i_isOrder_l0_ok N).addLoop2 Try.func126 (by kernel_rfl) (loopSum_ok prog_mixed prog_names (A_i_isOrder_l0_ok N) Try.func126 (by kernel_rfl) (d := 1) (ro := 1) fun l K r h => by
  split at h
  · exact (i_isOrder_l0_s2_loop N _ _ _ _ K N _ _).trans h
  · cases h)

/-- impl.isOrder -/
def i_isOrder_s2_a : SPat := ⟨[.slice ⟨0, 1, 0, 8⟩ 8 8 1 true, .int .i64], [[.vals [.int .i64], .ints .u8 8, .ints .u8 8]]⟩
def i_isOrder_s2_r0 : SPat := ⟨[.bool], [[.vals [.int .i64], .ints .u8 8, .ints .u8 8]]⟩
theorem i_isOrder_s2_run {α : Type} (N : Nat) (n : Int) (h0_0 : Int) (h0_1 : Nat → Int) (h0_2 : Nat → Int) (K : AV → Heap → Option α) :
    callK Try.prog (E_i_isOrder_l0_s2 α N) 1 126 1 (buildS i_isOrder_s2_a [.i n, .i h0_0, .f h0_1, .f h0_2]).t (buildS i_isOrder_s2_a [.i n, .i h0_0, .f h0_1, .f h0_2]).h K = i_isOrder_s2 none N n h0_0 h0_1 h0_2 (fun r__ => retK (buildS i_isOrder_s2_r0 [.b r__, .i h0_0, .f h0_1, .f h0_2]) K) := by kernel_rfl
def E_i_isOrder_s2 (α : Type) (N : Nat) : Env α := (E_i_isOrder_l0_s2 α N).addFun 126 true 1 i_isOrder_s2_a (fun l K => match l with
    | [.i n, .i h0_0, .f h0_1, .f h0_2] => i_isOrder_s2 none N n h0_0 h0_1 h0_2 (fun r__ => retK (buildS i_isOrder_s2_r0 [.b r__, .i h0_0, .f h0_1, .f h0_2]) K)
    | _ => none)
theorem E_i_isOrder_s2_ok {α : Type} (N : Nat) : EnvOk Try.prog (E_i_isOrder_s2 α N) := (E_i_isOrder_l0_s2_ok N).addFun prog_mixed prog_names (d := 1) fun l K r h => by
  split at h
  · exact (i_isOrder_s2_run N _ _ _ _ K).trans h
  · cases h

/-- impl.isOrder, loop -/
def i_isOrder_l0_s3_p : SPat := ⟨[.undef, .int .i64, .undef, .undef, .undef, .int .i64, .undef, .undef, .slice ⟨0, 2, 0, 8⟩ 8 8 1 true, .intC .i64 8, .int .i64] ++ List.replicate 30 .undef, [[.vals [.int .i64], .ints .u8 8, .ints .u8 8]]⟩
def i_isOrder_l0_s3_o0 : SPat := ⟨[.undef, .undef, .undef, .undef, .boolC false] ++ List.replicate 36 .undef, [[.vals [.int .i64], .ints .u8 8, .ints .u8 8]]⟩
def i_isOrder_l0_s3_o1 : SPat := ⟨[.undef, .int .i64, .undef, .undef, .undef, .int .i64] ++ List.replicate 35 .undef, [[.vals [.int .i64], .ints .u8 8, .ints .u8 8]]⟩
theorem i_isOrder_l0_s3_round {α : Type} (N : Nat) (n : Int) (seen : Int) (t10 : Int) (h0_0 : Int) (h0_1 : Nat → Int) (h0_2 : Nat → Int) (kn : St → Option α) (K : AExit → St → Option α) :
    roundK Try.prog (E_i_isOrder_s2 α N) 1 1 126 Try.f126 3 1 (buildS i_isOrder_l0_s3_p [.i n, .i seen, .i t10, .i h0_0, .f h0_1, .f h0_2]) kn K = i_isOrder_l0_s3_s none n h0_0 h0_1 h0_2 seen t10 (fun seen t10 => kn (buildS i_isOrder_l0_s3_p [.i n, .i seen, .i t10, .i h0_0, .f h0_1, .f h0_2])) (K .ret (buildS i_isOrder_l0_s3_o0 [.i h0_0, .f h0_1, .f h0_2])) (fun seen_ => K (.exit 0) (buildS i_isOrder_l0_s3_o1 [.i n, .i seen_, .i h0_0, .f h0_1, .f h0_2])) := by kernel_rfl
theorem i_isOrder_l0_s3_loop {α : Type} (N : Nat) (n : Int) (h0_0 : Int) (h0_1 : Nat → Int) (h0_2 : Nat → Int) (K : AExit → St → Option α) : ∀ (m : Nat) (seen : Int) (t10 : Int),
    loopN (trimSt ((E_i_isOrder_s2 α N).ann 126 3).head ((E_i_isOrder_s2 α N).ann 126 3).grow 1) (bodyK Try.prog (E_i_isOrder_s2 α N) 1 1 126 Try.f126 3) m (buildS i_isOrder_l0_s3_p [.i n, .i seen, .i t10, .i h0_0, .f h0_1, .f h0_2]) (leaveLoop ((E_i_isOrder_s2 α N).ann 126 3) 1 K) = i_isOrder_l0_s3 none n h0_0 h0_1 h0_2 m seen t10 (K .ret (buildS i_isOrder_l0_s3_o0 [.i h0_0, .f h0_1, .f h0_2])) (fun seen_ => K (.exit 0) (buildS i_isOrder_l0_s3_o1 [.i n, .i seen_, .i h0_0, .f h0_1, .f h0_2])) := by
  intro m
  induction m with
  | zero => intros; rfl
  | succ m ih =>
    intro seen t10
    rw [loopN_round]
    refine (i_isOrder_l0_s3_round N n seen t10 h0_0 h0_1 h0_2 _ K).trans ?_
    simp only [ih]
    rfl
def E_i_isOrder_l0_s3 (α : Type) (N : Nat) : Env α := (E_i_isOrder_s2 α N).addLoop2 126 3 (loopSum2 ((E_i_isOrder_s2 α N).ann 126 3) 1 i_isOrder_l0_s3_p (fun l K => match l with
    | [.i n, .i seen, .i t10, .i h0_0, .f h0_1, .f h0_2] => i_isOrder_l0_s3 none n h0_0 h0_1 h0_2 N seen t10 (K .ret (buildS i_isOrder_l0_s3_o0 [.i h0_0, .f h0_1, .f h0_2])) (fun seen_ => K (.exit 0) (buildS i_isOrder_l0_s3_o1 [.i n, .i seen_, .i h0_0, .f h0_1, .f h0_2]))
    | _ => none) ((E_i_isOrder_s2 α N).ls 126 3))
theorem E_i_isOrder_l0_s3_ok {α : Type} (N : Nat) : EnvOk Try.prog (E_i_isOrder_l0_s3 α N) := (E_i_isOrder_s2_ok N).addLoop2 Try.func126 (by kernel_rfl) (loopSum_ok prog_mixed prog_names (E_i_isOrder_s2_ok N) Try.func126 (by kernel_rfl) (d := 1) (ro := 1) fun l K r h => by
  split at h
  · exact (i_isOrder_l0_s3_loop N _ _ _ _ K N _ _).trans h
  · cases h)

/-- impl.isOrder -/
def i_isOrder_s3_a : SPat := ⟨[.slice ⟨0, 2, 0, 8⟩ 8 8 1 true, .int .i64], [[.vals [.int .i64], .ints .u8 8, .ints .u8 8]]⟩
def i_isOrder_s3_r0 : SPat := ⟨[.bool], [[.vals [.int .i64], .ints .u8 8, .ints .u8 8]]⟩
theorem i_isOrder_s3_run {α : Type} (N : Nat) (n : Int) (h0_0 : Int) (h0_1 : Nat → Int) (h0_2 : Nat → Int) (K : AV → Heap → Option α) :
    callK Try.prog (E_i_isOrder_l0_s3 α N) 1 126 1 (buildS i_isOrder_s3_a [.i n, .i h0_0, .f h0_1, .f h0_2]).t (buildS i_isOrder_s3_a [.i n, .i h0_0, .f h0_1, .f h0_2]).h K = i_isOrder_s3 none N n h0_0 h0_1 h0_2 (fun r__ => retK (buildS i_isOrder_s3_r0 [.b r__, .i h0_0, .f h0_1, .f h0_2]) K) := by kernel_rfl
def E_i_isOrder_s3 (α : Type) (N : Nat) : Env α := (E_i_isOrder_l0_s3 α N).addFun 126 true 1 i_isOrder_s3_a (fun l K => match l with
    | [.i n, .i h0_0, .f h0_1, .f h0_2] => i_isOrder_s3 none N n h0_0 h0_1 h0_2 (fun r__ => retK (buildS i_isOrder_s3_r0 [.b r__, .i h0_0, .f h0_1, .f h0_2]) K)
    | _ => none)
theorem E_i_isOrder_s3_ok {α : Type} (N : Nat) : EnvOk Try.prog (E_i_isOrder_s3 α N) := (E_i_isOrder_l0_s3_ok N).addFun prog_mixed prog_names (d := 1) fun l K r h => by
  split at h
  · exact (i_isOrder_s3_run N _ _ _ _ K).trans h
  · cases h

def A_i_IsGrid_l0 (α : Type) (N : Nat) : Env α := (E_i_isOrder_s3 α N).addAnn 74 4 { head := [1, 25, 26], grow := [], out := [], ret := [2] }
theorem A_i_IsGrid_l0_ok {α : Type} (N : Nat) : EnvOk Try.prog (A_i_IsGrid_l0 α N) := (E_i_isOrder_s3_ok N).addAnn

/-- impl.IsGrid, loop -/
def i_IsGrid_l0_p : SPat := ⟨[.undef, .ptr ⟨0, 0, 0, 1⟩, .undef, .undef, .undef, .undef, .undef, .undef, .undef, .undef, .undef, .undef, .undef, .undef, .undef, .undef, .undef, .undef, .undef, .undef, .undef, .undef, .undef, .undef, .undef, .int .i64, .int .i64] ++ List.replicate 12 .undef, [[.vals [.int .i64], .ints .u8 8, .ints .u8 8]]⟩
def i_IsGrid_l0_o0 : SPat := ⟨[.undef, .undef, .boolC false] ++ List.replicate 36 .undef, [[.vals [.int .i64], .ints .u8 8, .ints .u8 8]]⟩
def i_IsGrid_l0_o1 : SPat := ⟨[] ++ List.replicate 39 .undef, [[.vals [.int .i64], .ints .u8 8, .ints .u8 8]]⟩
theorem i_IsGrid_l0_round {α : Type} (N : Nat) (t25 : Int) (t26 : Int) (h0_0 : Int) (h0_1 : Nat → Int) (h0_2 : Nat → Int) (kn : St → Option α) (K : AExit → St → Option α) :
    roundK Try.prog (A_i_IsGrid_l0 α N) 1 0 74 Try.f74 4 1 (buildS i_IsGrid_l0_p [.i t25, .i t26, .i h0_0, .f h0_1, .f h0_2]) kn K = i_IsGrid_l0_s none t25 h0_0 h0_1 h0_2 t26 (fun t26 => kn (buildS i_IsGrid_l0_p [.i t25, .i t26, .i h0_0, .f h0_1, .f h0_2])) (K .ret (buildS i_IsGrid_l0_o0 [.i h0_0, .f h0_1, .f h0_2])) (K (.exit 0) (buildS i_IsGrid_l0_o1 [.i h0_0, .f h0_1, .f h0_2])) := by kernel_rfl
theorem i_IsGrid_l0_loop {α : Type} (N : Nat) (t25 : Int) (h0_0 : Int) (h0_1 : Nat → Int) (h0_2 : Nat → Int) (K : AExit → St → Option α) : ∀ (m : Nat) (t26 : Int),
    loopN (trimSt ((A_i_IsGrid_l0 α N).ann 74 4).head ((A_i_IsGrid_l0 α N).ann 74 4).grow 1) (bodyK Try.prog (A_i_IsGrid_l0 α N) 1 0 74 Try.f74 4) m (buildS i_IsGrid_l0_p [.i t25, .i t26, .i h0_0, .f h0_1, .f h0_2]) (leaveLoop ((A_i_IsGrid_l0 α N).ann 74 4) 1 K) = i_IsGrid_l0 none t25 h0_0 h0_1 h0_2 m t26 (K .ret (buildS i_IsGrid_l0_o0 [.i h0_0, .f h0_1, .f h0_2])) (K (.exit 0) (buildS i_IsGrid_l0_o1 [.i h0_0, .f h0_1, .f h0_2])) := by
  intro m
  induction m with
  | zero => intros; rfl
  | succ m ih =>
    intro t26
    rw [loopN_round]
    refine (i_IsGrid_l0_round N t25 t26 h0_0 h0_1 h0_2 _ K).trans ?_
    simp only [ih]
    rfl
def E_i_IsGrid_l0 (α : Type) (N : Nat) : Env α := (A_i_IsGrid_l0 α N).addLoop2 74 4 (loopSum2 ((A_i_IsGrid_l0 α N).ann 74 4) 0 i_IsGrid_l0_p (fun l K => match l with
    | [.i t25, .i t26, .i h0_0, .f h0_1, .f h0_2] => i_IsGrid_l0 none t25 h0_0 h0_1 h0_2 N t26 (K .ret (buildS i_IsGrid_l0_o0 [.i h0_0, .f h0_1, .f h0_2])) (K (.exit 0) (buildS i_IsGrid_l0_o1 [.i h0_0, .f h0_1, .f h0_2]))
    | _ => none) ((A_i_IsGrid_l0 α N).ls 74 4))
theorem E_i_IsGrid_l0_ok {α : Type} (N : Nat) : EnvOk Try.prog (E_i_IsGrid_l0 α N) := (A_i_IsGrid_l0_ok N).addLoop2 Try.func74 (by kernel_rfl) (loopSum_ok prog_mixed prog_names (A_i_IsGrid_l0_ok N) Try.func74 (by kernel_rfl) (d := 1) (ro := 0) fun l K r h => by
  split at h
  · exact (i_IsGrid_l0_loop N _ _ _ _ K N _).trans h
  · cases h)

/-- impl.IsGrid -/
def i_IsGrid_a : SPat := ⟨[.agg [.vals [.int .i64], .ints .u8 8, .ints .u8 8]], []⟩
def i_IsGrid_r0 : SPat := ⟨[.bool], []⟩
theorem i_IsGrid_run {α : Type} (N : Nat) (g_0 : Int) (g_1 : Nat → Int) (g_2 : Nat → Int) (K : AV → Heap → Option α) :
    callK Try.prog (E_i_IsGrid_l0 α N) 1 74 0 (buildS i_IsGrid_a [.i g_0, .f g_1, .f g_2]).t (buildS i_IsGrid_a [.i g_0, .f g_1, .f g_2]).h K = i_IsGrid none N g_0 g_1 g_2 (fun r__ => retK (buildS i_IsGrid_r0 [.b r__]) K) := by kernel_rfl
def E_i_IsGrid (α : Type) (N : Nat) : Env α := (E_i_IsGrid_l0 α N).addFun 74 true 0 i_IsGrid_a (fun l K => match l with
    | [.i g_0, .f g_1, .f g_2] => i_IsGrid none N g_0 g_1 g_2 (fun r__ => retK (buildS i_IsGrid_r0 [.b r__]) K)
    | _ => none)
theorem E_i_IsGrid_ok {α : Type} (N : Nat) : EnvOk Try.prog (E_i_IsGrid α N) := (E_i_IsGrid_l0_ok N).addFun prog_mixed prog_names (d := 1) fun l K r h => by
  split at h
  · exact (i_IsGrid_run N _ _ _ K).trans h
  · cases h

/-- impl.isOrder, loop -/
def i_isOrder_l0_s4_p : SPat := ⟨[.undef, .int .i64, .undef, .undef, .undef, .int .i64, .undef, .undef, .slice ⟨0, 0, 0, 8⟩ 8 8 1 true, .intC .i64 8, .int .i64] ++ List.replicate 30 .undef, [[.ints .u8 8]]⟩
def i_isOrder_l0_s4_o0 : SPat := ⟨[.undef, .undef, .undef, .undef, .boolC false] ++ List.replicate 36 .undef, [[.ints .u8 8]]⟩
def i_isOrder_l0_s4_o1 : SPat := ⟨[.undef, .int .i64, .undef, .undef, .undef, .int .i64] ++ List.replicate 35 .undef, [[.ints .u8 8]]⟩
theorem i_isOrder_l0_s4_round {α : Type} (N : Nat) (n : Int) (seen : Int) (t10 : Int) (h0 : Nat → Int) (kn : St → Option α) (K : AExit → St → Option α) :
    roundK Try.prog (E_i_IsGrid α N) 1 1 126 Try.f126 3 1 (buildS i_isOrder_l0_s4_p [.i n, .i seen, .i t10, .f h0]) kn K = i_isOrder_l0_s4_s none n h0 seen t10 (fun seen t10 => kn (buildS i_isOrder_l0_s4_p [.i n, .i seen, .i t10, .f h0])) (K .ret (buildS i_isOrder_l0_s4_o0 [.f h0])) (fun seen_ => K (.exit 0) (buildS i_isOrder_l0_s4_o1 [.i n, .i seen_, .f h0])) := by kernel_rfl
theorem i_isOrder_l0_s4_loop {α : Type} (N : Nat) (n : Int) (h0 : Nat → Int) (K : AExit → St → Option α) : ∀ (m : Nat) (seen : Int) (t10 : Int),
    loopN (trimSt ((E_i_IsGrid α N).ann 126 3).head ((E_i_IsGrid α N).ann 126 3).grow 1) (bodyK Try.prog (E_i_IsGrid α N) 1 1 126 Try.f126 3) m (buildS i_isOrder_l0_s4_p [.i n, .i seen, .i t10, .f h0]) (leaveLoop ((E_i_IsGrid α N).ann 126 3) 1 K) = i_isOrder_l0_s4 none n h0 m seen t10 (K .ret (buildS i_isOrder_l0_s4_o0 [.f h0])) (fun seen_ => K (.exit 0) (buildS i_isOrder_l0_s4_o1 [.i n, .i seen_, .f h0])) := by
  intro m
  induction m with
  | zero => intros; rfl
  | succ m ih =>
    intro seen t10
    rw [loopN_round]
    refine (i_isOrder_l0_s4_round N n seen t10 h0 _ K).trans ?_
    simp only [ih]
    rfl
def E_i_isOrder_l0_s4 (α : Type) (N : Nat) : Env α := (E_i_IsGrid α N).addLoop2 126 3 (loopSum2 ((E_i_IsGrid α N).ann 126 3) 1 i_isOrder_l0_s4_p (fun l K => match l with
    | [.i n, .i seen, .i t10, .f h0] => i_isOrder_l0_s4 none n h0 N seen t10 (K .ret (buildS i_isOrder_l0_s4_o0 [.f h0])) (fun seen_ => K (.exit 0) (buildS i_isOrder_l0_s4_o1 [.i n, .i seen_, .f h0]))
    | _ => none) ((E_i_IsGrid α N).ls 126 3))
theorem E_i_isOrder_l0_s4_ok {α : Type} (N : Nat) : EnvOk Try.prog (E_i_isOrder_l0_s4 α N) := (E_i_IsGrid_ok N).addLoop2 Try.func126 (by kernel_rfl) (loopSum_ok prog_mixed prog_names (E_i_IsGrid_ok N) Try.func126 (by kernel_rfl) (d := 1) (ro := 1) fun l K r h => by
  split at h
  · exact (i_isOrder_l0_s4_loop N _ _ K N _ _).trans h
  · cases h)

/-- impl.isOrder -/
def i_isOrder_s4_a : SPat := ⟨[.slice ⟨0, 0, 0, 8⟩ 8 8 1 true, .int .i64], [[.ints .u8 8]]⟩
def i_isOrder_s4_r0 : SPat := ⟨[.bool], [[.ints .u8 8]]⟩
theorem i_isOrder_s4_run {α : Type} (N : Nat) (n : Int) (h0 : Nat → Int) (K : AV → Heap → Option α) :
    callK Try.prog (E_i_isOrder_l0_s4 α N) 1 126 1 (buildS i_isOrder_s4_a [.i n, .f h0]).t (buildS i_isOrder_s4_a [.i n, .f h0]).h K = i_isOrder_s4 none N n h0 (fun r__ => retK (buildS i_isOrder_s4_r0 [.b r__, .f h0]) K) := by kernel_rfl
def E_i_isOrder_s4 (α : Type) (N : Nat) : Env α := (E_i_isOrder_l0_s4 α N).addFun 126 true 1 i_isOrder_s4_a (fun l K => match l with
    | [.i n, .f h0] => i_isOrder_s4 none N n h0 (fun r__ => retK (buildS i_isOrder_s4_r0 [.b r__, .f h0]) K)
    | _ => none)
theorem E_i_isOrder_s4_ok {α : Type} (N : Nat) : EnvOk Try.prog (E_i_isOrder_s4 α N) := (E_i_isOrder_l0_s4_ok N).addFun prog_mixed prog_names (d := 1) fun l K r h => by
  split at h
  · exact (i_isOrder_s4_run N _ _ K).trans h
  · cases h

/-- (impl.Grid).isState -/
def i_Grid_isState_a : SPat := ⟨[.agg [.vals [.int .i64], .ints .u8 8, .ints .u8 8], .agg [.ints .u8 8]], []⟩
def i_Grid_isState_r0 : SPat := ⟨[.bool], []⟩
theorem i_Grid_isState_run {α : Type} (N : Nat) (g_0 : Int) (g_1 : Nat → Int) (g_2 : Nat → Int) (x : Nat → Int) (K : AV → Heap → Option α) :
    callK Try.prog (E_i_isOrder_s4 α N) 1 75 0 (buildS i_Grid_isState_a [.i g_0, .f g_1, .f g_2, .f x]).t (buildS i_Grid_isState_a [.i g_0, .f g_1, .f g_2, .f x]).h K = i_Grid_isState none N g_0 g_1 g_2 x (fun r__ => retK (buildS i_Grid_isState_r0 [.b r__]) K) := by kernel_rfl
def E_i_Grid_isState (α : Type) (N : Nat) : Env α := (E_i_isOrder_s4 α N).addFun 75 true 0 i_Grid_isState_a (fun l K => match l with
    | [.i g_0, .f g_1, .f g_2, .f x] => i_Grid_isState none N g_0 g_1 g_2 x (fun r__ => retK (buildS i_Grid_isState_r0 [.b r__]) K)
    | _ => none)
theorem E_i_Grid_isState_ok {α : Type} (N : Nat) : EnvOk Try.prog (E_i_Grid_isState α N) := (E_i_isOrder_s4_ok N).addFun prog_mixed prog_names (d := 1) fun l K r h => by
  split at h
  · exact (i_Grid_isState_run N _ _ _ _ K).trans h
  · cases h

/-- impl.IsState -/
def i_IsState_a : SPat := ⟨[.agg [.vals [.int .i64], .ints .u8 8, .ints .u8 8], .agg [.ints .u8 8]], []⟩
def i_IsState_r0 : SPat := ⟨[.bool], []⟩
theorem i_IsState_run {α : Type} (N : Nat) (g_0 : Int) (g_1 : Nat → Int) (g_2 : Nat → Int) (x : Nat → Int) (K : AV → Heap → Option α) :
    callK Try.prog (E_i_Grid_isState α N) 1 79 0 (buildS i_IsState_a [.i g_0, .f g_1, .f g_2, .f x]).t (buildS i_IsState_a [.i g_0, .f g_1, .f g_2, .f x]).h K = i_IsState none N g_0 g_1 g_2 x (fun r__ => retK (buildS i_IsState_r0 [.b r__]) K) := by kernel_rfl
def E_i_IsState (α : Type) (N : Nat) : Env α := (E_i_Grid_isState α N).addFun 79 true 0 i_IsState_a (fun l K => match l with
    | [.i g_0, .f g_1, .f g_2, .f x] => i_IsState none N g_0 g_1 g_2 x (fun r__ => retK (buildS i_IsState_r0 [.b r__]) K)
    | _ => none)
theorem E_i_IsState_ok {α : Type} (N : Nat) : EnvOk Try.prog (E_i_IsState α N) := (E_i_Grid_isState_ok N).addFun prog_mixed prog_names (d := 1) fun l K r h => by
  split at h
  · exact (i_IsState_run N _ _ _ _ K).trans h
  · cases h

def A_i_Grid_rectangles_l0 (α : Type) (N : Nat) : Env α := (E_i_IsState α N).addAnn 81 3 { head := [2, 3, 4, 7, 14, 15], grow := [7], out := [7], ret := [6] }
theorem A_i_Grid_rectangles_l0_ok {α : Type} (N : Nat) : EnvOk Try.prog (A_i_Grid_rectangles_l0 α N) := (E_i_IsState_ok N).addAnn

def A_i_Grid_rectangles_l1 (α : Type) (N : Nat) : Env α := (A_i_Grid_rectangles_l0 α N).addAnn 81 6 { head := [2, 3, 4, 7, 8, 9, 14, 15], grow := [7], out := [2, 3, 4, 7, 14, 15], ret := [6] }
theorem A_i_Grid_rectangles_l1_ok {α : Type} (N : Nat) : EnvOk Try.prog (A_i_Grid_rectangles_l1 α N) := (A_i_Grid_rectangles_l0_ok N).addAnn

/-- (impl.Grid).rectangle$1 -/
def i_Grid_rectangle_1_a : SPat := ⟨[.agg [.ints .u8 8], .int .i64, .ptr ⟨0, 0, 0, 1⟩, .ptr ⟨1, 0, 0, 1⟩, .ptr ⟨2, 0, 0, 1⟩], [[.vals [.int .i64]], [.vals [.int .i64]], [.vals [.int .i64]]]⟩
def i_Grid_rectangle_1_r0 : SPat := ⟨[.int .i64], [[.vals [.int .i64]], [.vals [.int .i64]], [.vals [.int .i64]]]⟩
theorem i_Grid_rectangle_1_run {α : Type} (N : Nat) (rows : Nat → Int) (k : Int) (h0 : Int) (h1 : Int) (h2 : Int) (K : AV → Heap → Option α) :
    callK Try.prog (A_i_Grid_rectangles_l1 α N) 1 151 3 (buildS i_Grid_rectangle_1_a [.f rows, .i k, .i h0, .i h1, .i h2]).t (buildS i_Grid_rectangle_1_a [.f rows, .i k, .i h0, .i h1, .i h2]).h K = i_Grid_rectangle_1 none N rows k h0 h1 h2 (fun r__ => retK (buildS i_Grid_rectangle_1_r0 [.i r__, .i h0, .i h1, .i h2]) K) := by kernel_rfl
def E_i_Grid_rectangle_1 (α : Type) (N : Nat) : Env α := (A_i_Grid_rectangles_l1 α N).addFun 151 true 3 i_Grid_rectangle_1_a (fun l K => match l with
    | [.f rows, .i k, .i h0, .i h1, .i h2] => i_Grid_rectangle_1 none N rows k h0 h1 h2 (fun r__ => retK (buildS i_Grid_rectangle_1_r0 [.i r__, .i h0, .i h1, .i h2]) K)
    | _ => none)
theorem E_i_Grid_rectangle_1_ok {α : Type} (N : Nat) : EnvOk Try.prog (E_i_Grid_rectangle_1 α N) := (A_i_Grid_rectangles_l1_ok N).addFun prog_mixed prog_names (d := 1) fun l K r h => by
  split at h
  · exact (i_Grid_rectangle_1_run N _ _ _ _ _ K).trans h
  · cases h

def A_i_Grid_rectangle_l0 (α : Type) (N : Nat) : Env α := (E_i_Grid_rectangle_1 α N).addAnn 130 7 { head := [4, 5, 8, 12, 13, 14, 15, 33, 34], grow := [], out := [8, 14, 15], ret := [8, 9] }
theorem A_i_Grid_rectangle_l0_ok {α : Type} (N : Nat) : EnvOk Try.prog (A_i_Grid_rectangle_l0 α N) := (E_i_Grid_rectangle_1_ok N).addAnn

/-- (impl.Grid).rectangle, loop -/
def i_Grid_rectangle_l0_p : SPat := ⟨[.undef, .undef, .undef, .undef, .ptr ⟨0, 0, 0, 1⟩, .ptr ⟨1, 0, 0, 8⟩, .undef, .undef, .ptr ⟨3, 0, 0, 6⟩, .undef, .undef, .undef, .func 151 [.ptr ⟨2, 0, 0, 1⟩, .ptr ⟨4, 0, 0, 1⟩, .ptr ⟨5, 0, 0, 1⟩], .int .i64, .ptr ⟨6, 0, 0, 6⟩, .bool, .undef, .undef, .undef, .undef, .undef, .undef, .undef, .undef, .undef, .undef, .undef, .undef, .undef, .undef, .undef, .undef, .undef, .int .i64, .int .i64] ++ List.replicate 37 .undef, [[.vals [.int .i64], .ints .u8 8, .ints .u8 8], [.ints .u8 8], [.vals [.int .i64]], [.ints .i64 6], [.vals [.int .i64]], [.vals [.int .i64]], [.ints .i64 6]]⟩
def i_Grid_rectangle_l0_o0 : SPat := ⟨[.undef, .undef, .undef, .undef, .undef, .undef, .undef, .undef, .ptr ⟨3, 0, 0, 6⟩, .undef, .undef, .undef, .undef, .undef, .ptr ⟨6, 0, 0, 6⟩, .bool] ++ List.replicate 56 .undef, [[.vals [.int .i64], .ints .u8 8, .ints .u8 8], [.ints .u8 8], [.vals [.int .i64]], [.ints .i64 6], [.vals [.int .i64]], [.vals [.int .i64]], [.ints .i64 6]]⟩
theorem i_Grid_rectangle_l0_round {α : Type} (N : Nat) (t13 : Int) (t15 : Bool) (t33 : Int) (t34 : Int) (h0_0 : Int) (h0_1 : Nat → Int) (h0_2 : Nat → Int) (h1 : Nat → Int) (h2 : Int) (h3 : Nat → Int) (h4 : Int) (h5 : Int) (h6 : Nat → Int) (kn : St → Option α) (K : AExit → St → Option α) :
    roundK Try.prog (A_i_Grid_rectangle_l0 α N) 1 0 130 Try.f130 7 7 (buildS i_Grid_rectangle_l0_p [.i t13, .b t15, .i t33, .i t34, .i h0_0, .f h0_1, .f h0_2, .f h1, .i h2, .f h3, .i h4, .i h5, .f h6]) kn K = i_Grid_rectangle_l0_s none N t13 t33 h0_0 h0_1 h0_2 h1 h2 h3 h4 h5 t15 t34 h6 (fun t15 t34 h6 => kn (buildS i_Grid_rectangle_l0_p [.i t13, .b t15, .i t33, .i t34, .i h0_0, .f h0_1, .f h0_2, .f h1, .i h2, .f h3, .i h4, .i h5, .f h6])) (fun t15_ h6_ => K (.exit 0) (buildS i_Grid_rectangle_l0_o0 [.b t15_, .i h0_0, .f h0_1, .f h0_2, .f h1, .i h2, .f h3, .i h4, .i h5, .f h6_])) := by kernel_rfl
theorem i_Grid_rectangle_l0_loop {α : Type} (N : Nat) (t13 : Int) (t33 : Int) (h0_0 : Int) (h0_1 : Nat → Int) (h0_2 : Nat → Int) (h1 : Nat → Int) (h2 : Int) (h3 : Nat → Int) (h4 : Int) (h5 : Int) (K : AExit → St → Option α) : ∀ (m : Nat) (t15 : Bool) (t34 : Int) (h6 : Nat → Int),
    loopN (trimSt ((A_i_Grid_rectangle_l0 α N).ann 130 7).head ((A_i_Grid_rectangle_l0 α N).ann 130 7).grow 7) (bodyK Try.prog (A_i_Grid_rectangle_l0 α N) 1 0 130 Try.f130 7) m (buildS i_Grid_rectangle_l0_p [.i t13, .b t15, .i t33, .i t34, .i h0_0, .f h0_1, .f h0_2, .f h1, .i h2, .f h3, .i h4, .i h5, .f h6]) (leaveLoop ((A_i_Grid_rectangle_l0 α N).ann 130 7) 7 K) = i_Grid_rectangle_l0 none N t13 t33 h0_0 h0_1 h0_2 h1 h2 h3 h4 h5 m t15 t34 h6 (fun t15_ h6_ => K (.exit 0) (buildS i_Grid_rectangle_l0_o0 [.b t15_, .i h0_0, .f h0_1, .f h0_2, .f h1, .i h2, .f h3, .i h4, .i h5, .f h6_])) := by
  intro m
  induction m with
  | zero => intros; rfl
  | succ m ih =>
    intro t15 t34 h6
    rw [loopN_round]
    refine (i_Grid_rectangle_l0_round N t13 t15 t33 t34 h0_0 h0_1 h0_2 h1 h2 h3 h4 h5 h6 _ K).trans ?_
    simp only [ih]
    rfl
def E_i_Grid_rectangle_l0 (α : Type) (N : Nat) : Env α := (A_i_Grid_rectangle_l0 α N).addLoop2 130 7 (loopSum2 ((A_i_Grid_rectangle_l0 α N).ann 130 7) 0 i_Grid_rectangle_l0_p (fun l K => match l with
    | [.i t13, .b t15, .i t33, .i t34, .i h0_0, .f h0_1, .f h0_2, .f h1, .i h2, .f h3, .i h4, .i h5, .f h6] => i_Grid_rectangle_l0 none N t13 t33 h0_0 h0_1 h0_2 h1 h2 h3 h4 h5 N t15 t34 h6 (fun t15_ h6_ => K (.exit 0) (buildS i_Grid_rectangle_l0_o0 [.b t15_, .i h0_0, .f h0_1, .f h0_2, .f h1, .i h2, .f h3, .i h4, .i h5, .f h6_]))
    | _ => none) ((A_i_Grid_rectangle_l0 α N).ls 130 7))
theorem E_i_Grid_rectangle_l0_ok {α : Type} (N : Nat) : EnvOk Try.prog (E_i_Grid_rectangle_l0 α N) := (A_i_Grid_rectangle_l0_ok N).addLoop2 Try.func130 (by kernel_rfl) (loopSum_ok prog_mixed prog_names (A_i_Grid_rectangle_l0_ok N) Try.func130 (by kernel_rfl) (d := 1) (ro := 0) fun l K r h => by
  split at h
  · exact (i_Grid_rectangle_l0_loop N _ _ _ _ _ _ _ _ _ _ K N _ _ _).trans h
  · cases h)

/-- (impl.Grid).rectangle -/
def i_Grid_rectangle_a : SPat := ⟨[.agg [.vals [.int .i64], .ints .u8 8, .ints .u8 8], .agg [.ints .u8 8], .int .i64, .int .i64], []⟩
def i_Grid_rectangle_r0 : SPat := ⟨[.tuple [.agg [.ints .i64 6], .bool]], []⟩
theorem i_Grid_rectangle_run {α : Type} (N : Nat) (g_0 : Int) (g_1 : Nat → Int) (g_2 : Nat → Int) (a1 : Nat → Int) (a2 : Int) (a3 : Int) (K : AV → Heap → Option α) :
    callK Try.prog (E_i_Grid_rectangle_l0 α N) 1 130 0 (buildS i_Grid_rectangle_a [.i g_0, .f g_1, .f g_2, .f a1, .i a2, .i a3]).t (buildS i_Grid_rectangle_a [.i g_0, .f g_1, .f g_2, .f a1, .i a2, .i a3]).h K = i_Grid_rectangle none N g_0 g_1 g_2 a1 a2 a3 (fun r_0_ r_1_ => retK (buildS i_Grid_rectangle_r0 [.f r_0_, .b r_1_]) K) := by kernel_rfl
def E_i_Grid_rectangle (α : Type) (N : Nat) : Env α := (E_i_Grid_rectangle_l0 α N).addFun 130 true 0 i_Grid_rectangle_a (fun l K => match l with
    | [.i g_0, .f g_1, .f g_2, .f a1, .i a2, .i a3] => i_Grid_rectangle none N g_0 g_1 g_2 a1 a2 a3 (fun r_0_ r_1_ => retK (buildS i_Grid_rectangle_r0 [.f r_0_, .b r_1_]) K)
    | _ => none)
theorem E_i_Grid_rectangle_ok {α : Type} (N : Nat) : EnvOk Try.prog (E_i_Grid_rectangle α N) := (E_i_Grid_rectangle_l0_ok N).addFun prog_mixed prog_names (d := 1) fun l K r h => by
  split at h
  · exact (i_Grid_rectangle_run N _ _ _ _ _ _ K).trans h
  · cases h

/-- (impl.Grid).rectangles, loop -/
def i_Grid_rectangles_l1_p : SPat := ⟨[.undef, .undef, .bool, .ptr ⟨0, 0, 0, 1⟩, .ptr ⟨1, 0, 0, 8⟩, .undef, .undef, .sliceV 2 0 0 6 false, .int .i64, .int .i64, .undef, .undef, .undef, .undef, .int .i64, .int .i64] ++ List.replicate 27 .undef, [[.vals [.int .i64], .ints .u8 8, .ints .u8 8], [.ints .u8 8], [.vec .i64]]⟩
def i_Grid_rectangles_l1_o0 : SPat := ⟨[.undef, .undef, .bool, .ptr ⟨0, 0, 0, 1⟩, .ptr ⟨1, 0, 0, 8⟩, .undef, .undef, .sliceV 2 0 0 6 false, .undef, .undef, .undef, .undef, .undef, .undef, .int .i64, .int .i64] ++ List.replicate 27 .undef, [[.vals [.int .i64], .ints .u8 8, .ints .u8 8], [.ints .u8 8], [.vec .i64]]⟩
theorem i_Grid_rectangles_l1_round {α : Type} (N : Nat) (emptyAlone : Bool) (out_n : Nat) (out_l : Nat) (out_c : Nat) (left : Int) (width : Int) (t14 : Int) (t15 : Int) (h0_0 : Int) (h0_1 : Nat → Int) (h0_2 : Nat → Int) (h1 : Nat → Int) (h2 : List Int) (kn : St → Option α) (K : AExit → St → Option α) :
    roundK Try.prog (E_i_Grid_rectangle α N) 1 0 81 Try.f81 6 3 (buildS i_Grid_rectangles_l1_p [.b emptyAlone, .n out_n, .n out_l, .n out_c, .i left, .i width, .i t14, .i t15, .i h0_0, .f h0_1, .f h0_2, .f h1, .l h2]) kn K = i_Grid_rectangles_l1_s none N emptyAlone left t14 t15 h0_0 h0_1 h0_2 h1 out_n out_l out_c width h2 (fun out_n out_l out_c width h2 => kn (buildS i_Grid_rectangles_l1_p [.b emptyAlone, .n out_n, .n out_l, .n out_c, .i left, .i width, .i t14, .i t15, .i h0_0, .f h0_1, .f h0_2, .f h1, .l h2])) (fun out_n_ out_l_ out_c_ h2_ => K (.exit 2) (buildS i_Grid_rectangles_l1_o0 [.b emptyAlone, .n out_n_, .n out_l_, .n out_c_, .i t14, .i t15, .i h0_0, .f h0_1, .f h0_2, .f h1, .l h2_])) := by kernel_rfl
theorem i_Grid_rectangles_l1_loop {α : Type} (N : Nat) (emptyAlone : Bool) (left : Int) (t14 : Int) (t15 : Int) (h0_0 : Int) (h0_1 : Nat → Int) (h0_2 : Nat → Int) (h1 : Nat → Int) (K : AExit → St → Option α) : ∀ (m : Nat) (out_n : Nat) (out_l : Nat) (out_c : Nat) (width : Int) (h2 : List Int),
    loopN (trimSt ((E_i_Grid_rectangle α N).ann 81 6).head ((E_i_Grid_rectangle α N).ann 81 6).grow 3) (bodyK Try.prog (E_i_Grid_rectangle α N) 1 0 81 Try.f81 6) m (buildS i_Grid_rectangles_l1_p [.b emptyAlone, .n out_n, .n out_l, .n out_c, .i left, .i width, .i t14, .i t15, .i h0_0, .f h0_1, .f h0_2, .f h1, .l h2]) (leaveLoop ((E_i_Grid_rectangle α N).ann 81 6) 3 K) = i_Grid_rectangles_l1 none N emptyAlone left t14 t15 h0_0 h0_1 h0_2 h1 m out_n out_l out_c width h2 (fun out_n_ out_l_ out_c_ h2_ => K (.exit 2) (buildS i_Grid_rectangles_l1_o0 [.b emptyAlone, .n out_n_, .n out_l_, .n out_c_, .i t14, .i t15, .i h0_0, .f h0_1, .f h0_2, .f h1, .l h2_])) := by
  intro m
  induction m with
  | zero => intros; rfl
  | succ m ih =>
    intro out_n out_l out_c width h2
    rw [loopN_round]
    refine (i_Grid_rectangles_l1_round N emptyAlone out_n out_l out_c left width t14 t15 h0_0 h0_1 h0_2 h1 h2 _ K).trans ?_
    simp only [ih]
    rfl
def E_i_Grid_rectangles_l1 (α : Type) (N : Nat) : Env α := (E_i_Grid_rectangle α N).addLoop2 81 6 (loopSum2 ((E_i_Grid_rectangle α N).ann 81 6) 0 i_Grid_rectangles_l1_p (fun l K => match l with
    | [.b emptyAlone, .n out_n, .n out_l, .n out_c, .i left, .i width, .i t14, .i t15, .i h0_0, .f h0_1, .f h0_2, .f h1, .l h2] => i_Grid_rectangles_l1 none N emptyAlone left t14 t15 h0_0 h0_1 h0_2 h1 N out_n out_l out_c width h2 (fun out_n_ out_l_ out_c_ h2_ => K (.exit 2) (buildS i_Grid_rectangles_l1_o0 [.b emptyAlone, .n out_n_, .n out_l_, .n out_c_, .i t14, .i t15, .i h0_0, .f h0_1, .f h0_2, .f h1, .l h2_]))
    | _ => none) ((E_i_Grid_rectangle α N).ls 81 6))
theorem E_i_Grid_rectangles_l1_ok {α : Type} (N : Nat) : EnvOk Try.prog (E_i_Grid_rectangles_l1 α N) := (E_i_Grid_rectangle_ok N).addLoop2 Try.func81 (by kernel_rfl) (loopSum_ok prog_mixed prog_names (E_i_Grid_rectangle_ok N) Try.func81 (by kernel_rfl) (d := 1) (ro := 0) fun l K r h => by
  split at h
  · exact (i_Grid_rectangles_l1_loop N _ _ _ _ _ _ _ _ K N _ _ _ _ _).trans h
  · cases h)

/-- (impl.Grid).rectangles, loop -/
def i_Grid_rectangles_l0_p : SPat := ⟨[.undef, .undef, .bool, .ptr ⟨0, 0, 0, 1⟩, .ptr ⟨1, 0, 0, 8⟩, .undef, .undef, .sliceV 2 0 0 6 false, .undef, .undef, .undef, .undef, .undef, .undef, .int .i64, .int .i64] ++ List.replicate 27 .undef, [[.vals [.int .i64], .ints .u8 8, .ints .u8 8], [.ints .u8 8], [.vec .i64]]⟩
def i_Grid_rectangles_l0_o0 : SPat := ⟨[.undef, .undef, .undef, .undef, .undef, .undef, .undef, .sliceV 2 0 0 6 false] ++ List.replicate 35 .undef, [[.vals [.int .i64], .ints .u8 8, .ints .u8 8], [.ints .u8 8], [.vec .i64]]⟩
theorem i_Grid_rectangles_l0_round {α : Type} (N : Nat) (emptyAlone : Bool) (out_n : Nat) (out_l : Nat) (out_c : Nat) (t14 : Int) (t15 : Int) (h0_0 : Int) (h0_1 : Nat → Int) (h0_2 : Nat → Int) (h1 : Nat → Int) (h2 : List Int) (kn : St → Option α) (K : AExit → St → Option α) :
    roundK Try.prog (E_i_Grid_rectangles_l1 α N) 1 0 81 Try.f81 3 3 (buildS i_Grid_rectangles_l0_p [.b emptyAlone, .n out_n, .n out_l, .n out_c, .i t14, .i t15, .i h0_0, .f h0_1, .f h0_2, .f h1, .l h2]) kn K = i_Grid_rectangles_l0_s none N emptyAlone t14 h0_0 h0_1 h0_2 h1 out_n out_l out_c t15 h2 (fun out_n out_l out_c t15 h2 => kn (buildS i_Grid_rectangles_l0_p [.b emptyAlone, .n out_n, .n out_l, .n out_c, .i t14, .i t15, .i h0_0, .f h0_1, .f h0_2, .f h1, .l h2])) (fun out_n_ out_l_ out_c_ h2_ => K (.exit 0) (buildS i_Grid_rectangles_l0_o0 [.n out_n_, .n out_l_, .n out_c_, .i h0_0, .f h0_1, .f h0_2, .f h1, .l h2_])) := by kernel_rfl
theorem i_Grid_rectangles_l0_loop {α : Type} (N : Nat) (emptyAlone : Bool) (t14 : Int) (h0_0 : Int) (h0_1 : Nat → Int) (h0_2 : Nat → Int) (h1 : Nat → Int) (K : AExit → St → Option α) : ∀ (m : Nat) (out_n : Nat) (out_l : Nat) (out_c : Nat) (t15 : Int) (h2 : List Int),
    loopN (trimSt ((E_i_Grid_rectangles_l1 α N).ann 81 3).head ((E_i_Grid_rectangles_l1 α N).ann 81 3).grow 3) (bodyK Try.prog (E_i_Grid_rectangles_l1 α N) 1 0 81 Try.f81 3) m (buildS i_Grid_rectangles_l0_p [.b emptyAlone, .n out_n, .n out_l, .n out_c, .i t14, .i t15, .i h0_0, .f h0_1, .f h0_2, .f h1, .l h2]) (leaveLoop ((E_i_Grid_rectangles_l1 α N).ann 81 3) 3 K) = i_Grid_rectangles_l0 none N emptyAlone t14 h0_0 h0_1 h0_2 h1 m out_n out_l out_c t15 h2 (fun out_n_ out_l_ out_c_ h2_ => K (.exit 0) (buildS i_Grid_rectangles_l0_o0 [.n out_n_, .n out_l_, .n out_c_, .i h0_0, .f h0_1, .f h0_2, .f h1, .l h2_])) := by
  intro m
  induction m with
  | zero => intros; rfl
  | succ m ih =>
    intro out_n out_l out_c t15 h2
    rw [loopN_round]
    refine (i_Grid_rectangles_l0_round N emptyAlone out_n out_l out_c t14 t15 h0_0 h0_1 h0_2 h1 h2 _ K).trans ?_
    simp only [ih]
    rfl
def E_i_Grid_rectangles_l0 (α : Type) (N : Nat) : Env α := (E_i_Grid_rectangles_l1 α N).addLoop2 81 3 (loopSum2 ((E_i_Grid_rectangles_l1 α N).ann 81 3) 0 i_Grid_rectangles_l0_p (fun l K => match l with
    | [.b emptyAlone, .n out_n, .n out_l, .n out_c, .i t14, .i t15, .i h0_0, .f h0_1, .f h0_2, .f h1, .l h2] => i_Grid_rectangles_l0 none N emptyAlone t14 h0_0 h0_1 h0_2 h1 N out_n out_l out_c t15 h2 (fun out_n_ out_l_ out_c_ h2_ => K (.exit 0) (buildS i_Grid_rectangles_l0_o0 [.n out_n_, .n out_l_, .n out_c_, .i h0_0, .f h0_1, .f h0_2, .f h1, .l h2_]))
    | _ => none) ((E_i_Grid_rectangles_l1 α N).ls 81 3))
theorem E_i_Grid_rectangles_l0_ok {α : Type} (N : Nat) : EnvOk Try.prog (E_i_Grid_rectangles_l0 α N) := (E_i_Grid_rectangles_l1_ok N).addLoop2 Try.func81 (by kernel_rfl) (loopSum_ok prog_mixed prog_names (E_i_Grid_rectangles_l1_ok N) Try.func81 (by kernel_rfl) (d := 1) (ro := 0) fun l K r h => by
  split at h
  · exact (i_Grid_rectangles_l0_loop N _ _ _ _ _ _ K N _ _ _ _ _).trans h
  · cases h)

/-- (impl.Grid).rectangles -/
def i_Grid_rectangles_a : SPat := ⟨[.agg [.vals [.int .i64], .ints .u8 8, .ints .u8 8], .agg [.ints .u8 8], .bool], []⟩
def i_Grid_rectangles_r0 : SPat := ⟨[.sliceV 0 0 0 6 false], [[.vec .i64]]⟩
theorem i_Grid_rectangles_run {α : Type} (N : Nat) (g_0 : Int) (g_1 : Nat → Int) (g_2 : Nat → Int) (x : Nat → Int) (emptyAlone : Bool) (K : AV → Heap → Option α) :
    callK Try.prog (E_i_Grid_rectangles_l0 α N) 1 81 0 (buildS i_Grid_rectangles_a [.i g_0, .f g_1, .f g_2, .f x, .b emptyAlone]).t (buildS i_Grid_rectangles_a [.i g_0, .f g_1, .f g_2, .f x, .b emptyAlone]).h K = i_Grid_rectangles none N g_0 g_1 g_2 x emptyAlone (fun r_n_ r_l_ r_c_ h0_ => retK (buildS i_Grid_rectangles_r0 [.n r_n_, .n r_l_, .n r_c_, .l h0_]) K) := by kernel_rfl
def E_i_Grid_rectangles (α : Type) (N : Nat) : Env α := (E_i_Grid_rectangles_l0 α N).addFun 81 true 0 i_Grid_rectangles_a (fun l K => match l with
    | [.i g_0, .f g_1, .f g_2, .f x, .b emptyAlone] => i_Grid_rectangles none N g_0 g_1 g_2 x emptyAlone (fun r_n_ r_l_ r_c_ h0_ => retK (buildS i_Grid_rectangles_r0 [.n r_n_, .n r_l_, .n r_c_, .l h0_]) K)
    | _ => none)
theorem E_i_Grid_rectangles_ok {α : Type} (N : Nat) : EnvOk Try.prog (E_i_Grid_rectangles α N) := (E_i_Grid_rectangles_l0_ok N).addFun prog_mixed prog_names (d := 1) fun l K r h => by
  split at h
  · exact (i_Grid_rectangles_run N _ _ _ _ _ K).trans h
  · cases h

/-- laws.toRectangle -/
def w_toRectangle_a : SPat := ⟨[.agg [.ints .i64 6]], []⟩
def w_toRectangle_r0 : SPat := ⟨[.agg [.ints .i64 6]], []⟩
theorem w_toRectangle_run {α : Type} (N : Nat) (a : Nat → Int) (K : AV → Heap → Option α) :
    callK Try.prog (E_i_Grid_rectangles α N) 1 29 0 (buildS w_toRectangle_a [.f a]).t (buildS w_toRectangle_a [.f a]).h K = w_toRectangle none N a (fun r__ => retK (buildS w_toRectangle_r0 [.f r__]) K) := by kernel_rfl
def E_w_toRectangle (α : Type) (N : Nat) : Env α := (E_i_Grid_rectangles α N).addFun 29 true 0 w_toRectangle_a (fun l K => match l with
    | [.f a] => w_toRectangle none N a (fun r__ => retK (buildS w_toRectangle_r0 [.f r__]) K)
    | _ => none)
theorem E_w_toRectangle_ok {α : Type} (N : Nat) : EnvOk Try.prog (E_w_toRectangle α N) := (E_i_Grid_rectangles_ok N).addFun prog_mixed prog_names (d := 1) fun l K r h => by
  split at h
  · exact (w_toRectangle_run N _ K).trans h
  · cases h

def A_s_LedTo_l0 (α : Type) (N : Nat) : Env α := (E_w_toRectangle α N).addAnn 28 5 { head := [3, 4, 5, 6, 8, 9], grow := [], out := [6], ret := [6, 7] }
theorem A_s_LedTo_l0_ok {α : Type} (N : Nat) : EnvOk Try.prog (A_s_LedTo_l0 α N) := (E_w_toRectangle_ok N).addAnn

/-- spec.l05Led -/
def s_l05Led_a : SPat := ⟨[.int .i64, .agg [.ints .u8 8], .agg [.ints .i64 6]], []⟩
def s_l05Led_r0 : SPat := ⟨[.agg [.ints .u8 8]], []⟩
theorem s_l05Led_run {α : Type} (N : Nat) (n : Int) (x : Nat → Int) (r_ : Nat → Int) (K : AV → Heap → Option α) :
    callK Try.prog (A_s_LedTo_l0 α N) 1 78 0 (buildS s_l05Led_a [.i n, .f x, .f r_]).t (buildS s_l05Led_a [.i n, .f x, .f r_]).h K = s_l05Led none N n x r_ (fun r__ => retK (buildS s_l05Led_r0 [.f r__]) K) := by kernel_rfl
def E_s_l05Led (α : Type) (N : Nat) : Env α := (A_s_LedTo_l0 α N).addFun 78 true 0 s_l05Led_a (fun l K => match l with
    | [.i n, .f x, .f r_] => s_l05Led none N n x r_ (fun r__ => retK (buildS s_l05Led_r0 [.f r__]) K)
    | _ => none)
theorem E_s_l05Led_ok {α : Type} (N : Nat) : EnvOk Try.prog (E_s_l05Led α N) := (A_s_LedTo_l0_ok N).addFun prog_mixed prog_names (d := 1) fun l K r h => by
  split at h
  · exact (s_l05Led_run N _ _ _ K).trans h
  · cases h

/-- spec.LedTo, loop -/
def s_LedTo_l0_p : SPat := ⟨[.undef, .undef, .undef, .ptr ⟨0, 0, 0, 1⟩, .ptr ⟨1, 0, 0, 8⟩, .ptr ⟨2, 0, 0, 6⟩, .ptr ⟨3, 0, 0, 8⟩, .undef, .sliceV 4 0 0 6 false, .int .i64] ++ List.replicate 26 .undef, [[.vals [.int .i64], .ints .u8 8, .ints .u8 8], [.ints .u8 8], [.ints .i64 6], [.ints .u8 8], [.vec .i64]]⟩
def s_LedTo_l0_o0 : SPat := ⟨[.undef, .undef, .undef, .undef, .undef, .undef, .ptr ⟨3, 0, 0, 8⟩, .intC .i64 0] ++ List.replicate 28 .undef, [[.vals [.int .i64], .ints .u8 8, .ints .u8 8], [.ints .u8 8], [.ints .i64 6], [.ints .u8 8], [.vec .i64]]⟩
def s_LedTo_l0_o1 : SPat := ⟨[.undef, .undef, .undef, .undef, .undef, .undef, .ptr ⟨3, 0, 0, 8⟩] ++ List.replicate 29 .undef, [[.vals [.int .i64], .ints .u8 8, .ints .u8 8], [.ints .u8 8], [.ints .i64 6], [.ints .u8 8], [.vec .i64]]⟩
theorem s_LedTo_l0_round {α : Type} (N : Nat) (list_n : Nat) (list_l : Nat) (list_c : Nat) (i : Int) (h0_0 : Int) (h0_1 : Nat → Int) (h0_2 : Nat → Int) (h1 : Nat → Int) (h2 : Nat → Int) (h3 : Nat → Int) (h4 : List Int) (kn : St → Option α) (K : AExit → St → Option α) :
    roundK Try.prog (E_s_l05Led α N) 1 0 28 Try.f28 5 5 (buildS s_LedTo_l0_p [.n list_n, .n list_l, .n list_c, .i i, .i h0_0, .f h0_1, .f h0_2, .f h1, .f h2, .f h3, .l h4]) kn K = s_LedTo_l0_s none N list_n list_l list_c h0_0 h0_1 h0_2 h1 h2 h3 h4 i (fun i => kn (buildS s_LedTo_l0_p [.n list_n, .n list_l, .n list_c, .i i, .i h0_0, .f h0_1, .f h0_2, .f h1, .f h2, .f h3, .l h4])) (fun h3_ => K .ret (buildS s_LedTo_l0_o0 [.i h0_0, .f h0_1, .f h0_2, .f h1, .f h2, .f h3_, .l h4])) (K (.exit 0) (buildS s_LedTo_l0_o1 [.i h0_0, .f h0_1, .f h0_2, .f h1, .f h2, .f h3, .l h4])) := by kernel_rfl
theorem s_LedTo_l0_loop {α : Type} (N : Nat) (list_n : Nat) (list_l : Nat) (list_c : Nat) (h0_0 : Int) (h0_1 : Nat → Int) (h0_2 : Nat → Int) (h1 : Nat → Int) (h2 : Nat → Int) (h3 : Nat → Int) (h4 : List Int) (K : AExit → St → Option α) : ∀ (m : Nat) (i : Int),
    loopN (trimSt ((E_s_l05Led α N).ann 28 5).head ((E_s_l05Led α N).ann 28 5).grow 5) (bodyK Try.prog (E_s_l05Led α N) 1 0 28 Try.f28 5) m (buildS s_LedTo_l0_p [.n list_n, .n list_l, .n list_c, .i i, .i h0_0, .f h0_1, .f h0_2, .f h1, .f h2, .f h3, .l h4]) (leaveLoop ((E_s_l05Led α N).ann 28 5) 5 K) = s_LedTo_l0 none N list_n list_l list_c h0_0 h0_1 h0_2 h1 h2 h3 h4 m i (fun h3_ => K .ret (buildS s_LedTo_l0_o0 [.i h0_0, .f h0_1, .f h0_2, .f h1, .f h2, .f h3_, .l h4])) (K (.exit 0) (buildS s_LedTo_l0_o1 [.i h0_0, .f h0_1, .f h0_2, .f h1, .f h2, .f h3, .l h4])) := by
  intro m
  induction m with
  | zero => intros; rfl
  | succ m ih =>
    intro i
    rw [loopN_round]
    refine (s_LedTo_l0_round N list_n list_l list_c i h0_0 h0_1 h0_2 h1 h2 h3 h4 _ K).trans ?_
    simp only [ih]
    rfl
def E_s_LedTo_l0 (α : Type) (N : Nat) : Env α := (E_s_l05Led α N).addLoop2 28 5 (loopSum2 ((E_s_l05Led α N).ann 28 5) 0 s_LedTo_l0_p (fun l K => match l with
    | [.n list_n, .n list_l, .n list_c, .i i, .i h0_0, .f h0_1, .f h0_2, .f h1, .f h2, .f h3, .l h4] => s_LedTo_l0 none N list_n list_l list_c h0_0 h0_1 h0_2 h1 h2 h3 h4 N i (fun h3_ => K .ret (buildS s_LedTo_l0_o0 [.i h0_0, .f h0_1, .f h0_2, .f h1, .f h2, .f h3_, .l h4])) (K (.exit 0) (buildS s_LedTo_l0_o1 [.i h0_0, .f h0_1, .f h0_2, .f h1, .f h2, .f h3, .l h4]))
    | _ => none) ((E_s_l05Led α N).ls 28 5))
theorem E_s_LedTo_l0_ok {α : Type} (N : Nat) : EnvOk Try.prog (E_s_LedTo_l0 α N) := (E_s_l05Led_ok N).addLoop2 Try.func28 (by kernel_rfl) (loopSum_ok prog_mixed prog_names (E_s_l05Led_ok N) Try.func28 (by kernel_rfl) (d := 1) (ro := 0) fun l K r h => by
  split at h
  · exact (s_LedTo_l0_loop N _ _ _ _ _ _ _ _ _ _ K N _).trans h
  · cases h)

/-- spec.LedTo -/
def s_LedTo_a : SPat := ⟨[.agg [.vals [.int .i64], .ints .u8 8, .ints .u8 8], .agg [.ints .u8 8], .agg [.ints .i64 6]], []⟩
def s_LedTo_r0 : SPat := ⟨[.tuple [.agg [.ints .u8 8], .int .i64]], []⟩
theorem s_LedTo_run {α : Type} (N : Nat) (g_0 : Int) (g_1 : Nat → Int) (g_2 : Nat → Int) (x : Nat → Int) (r_ : Nat → Int) (K : AV → Heap → Option α) :
    callK Try.prog (E_s_LedTo_l0 α N) 1 28 0 (buildS s_LedTo_a [.i g_0, .f g_1, .f g_2, .f x, .f r_]).t (buildS s_LedTo_a [.i g_0, .f g_1, .f g_2, .f x, .f r_]).h K = s_LedTo none N g_0 g_1 g_2 x r_ (fun r_0_ r_1_ => retK (buildS s_LedTo_r0 [.f r_0_, .i r_1_]) K) := by kernel_rfl
def E_s_LedTo (α : Type) (N : Nat) : Env α := (E_s_LedTo_l0 α N).addFun 28 true 0 s_LedTo_a (fun l K => match l with
    | [.i g_0, .f g_1, .f g_2, .f x, .f r_] => s_LedTo none N g_0 g_1 g_2 x r_ (fun r_0_ r_1_ => retK (buildS s_LedTo_r0 [.f r_0_, .i r_1_]) K)
    | _ => none)
theorem E_s_LedTo_ok {α : Type} (N : Nat) : EnvOk Try.prog (E_s_LedTo α N) := (E_s_LedTo_l0_ok N).addFun prog_mixed prog_names (d := 1) fun l K r h => by
  split at h
  · exact (s_LedTo_run N _ _ _ _ _ K).trans h
  · cases h

def A_slices_Index_i_Rectangle_i_Rectangle_l0 (α : Type) (N : Nat) : Env α := (E_s_LedTo α N).addAnn 129 2 { head := [0, 3, 7, 8], grow := [], out := [], ret := [4] }
theorem A_slices_Index_i_Rectangle_i_Rectangle_l0_ok {α : Type} (N : Nat) : EnvOk Try.prog (A_slices_Index_i_Rectangle_i_Rectangle_l0 α N) := (E_s_LedTo_ok N).addAnn

/-- slices.Index[[]impl.Rectangle,impl.Rectangle], loop -/
def slices_Index_i_Rectangle_i_Rectangle_l0_p : SPat := ⟨[.sliceV 0 0 0 6 false, .undef, .undef, .ptr ⟨1, 0, 0, 6⟩, .undef, .undef, .undef, .int .i64, .int .i64] ++ List.replicate 10 .undef, [[.vec .i64], [.ints .i64 6]]⟩
def slices_Index_i_Rectangle_i_Rectangle_l0_o0 : SPat := ⟨[.undef, .undef, .undef, .undef, .int .i64] ++ List.replicate 14 .undef, [[.vec .i64], [.ints .i64 6]]⟩
def slices_Index_i_Rectangle_i_Rectangle_l0_o1 : SPat := ⟨[] ++ List.replicate 19 .undef, [[.vec .i64], [.ints .i64 6]]⟩
theorem slices_Index_i_Rectangle_i_Rectangle_l0_round {α : Type} (N : Nat) (s_n : Nat) (s_l : Nat) (s_c : Nat) (t7 : Int) (t8 : Int) (h0 : List Int) (h1 : Nat → Int) (kn : St → Option α) (K : AExit → St → Option α) :
    roundK Try.prog (A_slices_Index_i_Rectangle_i_Rectangle_l0 α N) 1 1 129 Try.f129 2 2 (buildS slices_Index_i_Rectangle_i_Rectangle_l0_p [.n s_n, .n s_l, .n s_c, .i t7, .i t8, .l h0, .f h1]) kn K = slices_Index_i_Rectangle_i_Rectangle_l0_s none s_n s_l s_c t7 h0 h1 t8 (fun t8 => kn (buildS slices_Index_i_Rectangle_i_Rectangle_l0_p [.n s_n, .n s_l, .n s_c, .i t7, .i t8, .l h0, .f h1])) (fun t4_ => K .ret (buildS slices_Index_i_Rectangle_i_Rectangle_l0_o0 [.i t4_, .l h0, .f h1])) (K (.exit 0) (buildS slices_Index_i_Rectangle_i_Rectangle_l0_o1 [.l h0, .f h1])) := by kernel_rfl
theorem slices_Index_i_Rectangle_i_Rectangle_l0_loop {α : Type} (N : Nat) (s_n : Nat) (s_l : Nat) (s_c : Nat) (t7 : Int) (h0 : List Int) (h1 : Nat → Int) (K : AExit → St → Option α) : ∀ (m : Nat) (t8 : Int),
    loopN (trimSt ((A_slices_Index_i_Rectangle_i_Rectangle_l0 α N).ann 129 2).head ((A_slices_Index_i_Rectangle_i_Rectangle_l0 α N).ann 129 2).grow 2) (bodyK Try.prog (A_slices_Index_i_Rectangle_i_Rectangle_l0 α N) 1 1 129 Try.f129 2) m (buildS slices_Index_i_Rectangle_i_Rectangle_l0_p [.n s_n, .n s_l, .n s_c, .i t7, .i t8, .l h0, .f h1]) (leaveLoop ((A_slices_Index_i_Rectangle_i_Rectangle_l0 α N).ann 129 2) 2 K) = slices_Index_i_Rectangle_i_Rectangle_l0 none s_n s_l s_c t7 h0 h1 m t8 (fun t4_ => K .ret (buildS slices_Index_i_Rectangle_i_Rectangle_l0_o0 [.i t4_, .l h0, .f h1])) (K (.exit 0) (buildS slices_Index_i_Rectangle_i_Rectangle_l0_o1 [.l h0, .f h1])) := by
  intro m
  induction m with
  | zero => intros; rfl
  | succ m ih =>
    intro t8
    rw [loopN_round]
    refine (slices_Index_i_Rectangle_i_Rectangle_l0_round N s_n s_l s_c t7 t8 h0 h1 _ K).trans ?_
    simp only [ih]
    rfl
def E_slices_Index_i_Rectangle_i_Rectangle_l0 (α : Type) (N : Nat) : Env α := (A_slices_Index_i_Rectangle_i_Rectangle_l0 α N).addLoop2 129 2 (loopSum2 ((A_slices_Index_i_Rectangle_i_Rectangle_l0 α N).ann 129 2) 1 slices_Index_i_Rectangle_i_Rectangle_l0_p (fun l K => match l with
    | [.n s_n, .n s_l, .n s_c, .i t7, .i t8, .l h0, .f h1] => slices_Index_i_Rectangle_i_Rectangle_l0 none s_n s_l s_c t7 h0 h1 N t8 (fun t4_ => K .ret (buildS slices_Index_i_Rectangle_i_Rectangle_l0_o0 [.i t4_, .l h0, .f h1])) (K (.exit 0) (buildS slices_Index_i_Rectangle_i_Rectangle_l0_o1 [.l h0, .f h1]))
    | _ => none) ((A_slices_Index_i_Rectangle_i_Rectangle_l0 α N).ls 129 2))
theorem E_slices_Index_i_Rectangle_i_Rectangle_l0_ok {α : Type} (N : Nat) : EnvOk Try.prog (E_slices_Index_i_Rectangle_i_Rectangle_l0 α N) := (A_slices_Index_i_Rectangle_i_Rectangle_l0_ok N).addLoop2 Try.func129 (by kernel_rfl) (loopSum_ok prog_mixed prog_names (A_slices_Index_i_Rectangle_i_Rectangle_l0_ok N) Try.func129 (by kernel_rfl) (d := 1) (ro := 1) fun l K r h => by
  split at h
  · exact (slices_Index_i_Rectangle_i_Rectangle_l0_loop N _ _ _ _ _ _ K N _).trans h
  · cases h)

/-- slices.Index[[]impl.Rectangle,impl.Rectangle] -/
def slices_Index_i_Rectangle_i_Rectangle_a : SPat := ⟨[.sliceV 0 0 0 6 false, .agg [.ints .i64 6]], [[.vec .i64]]⟩
def slices_Index_i_Rectangle_i_Rectangle_r0 : SPat := ⟨[.int .i64], [[.vec .i64]]⟩
theorem slices_Index_i_Rectangle_i_Rectangle_run {α : Type} (N : Nat) (s_n : Nat) (s_l : Nat) (s_c : Nat) (v : Nat → Int) (h0 : List Int) (K : AV → Heap → Option α) :
    callK Try.prog (E_slices_Index_i_Rectangle_i_Rectangle_l0 α N) 1 129 1 (buildS slices_Index_i_Rectangle_i_Rectangle_a [.n s_n, .n s_l, .n s_c, .f v, .l h0]).t (buildS slices_Index_i_Rectangle_i_Rectangle_a [.n s_n, .n s_l, .n s_c, .f v, .l h0]).h K = slices_Index_i_Rectangle_i_Rectangle none N s_n s_l s_c v h0 (fun r__ => retK (buildS slices_Index_i_Rectangle_i_Rectangle_r0 [.i r__, .l h0]) K) := by kernel_rfl
def E_slices_Index_i_Rectangle_i_Rectangle (α : Type) (N : Nat) : Env α := (E_slices_Index_i_Rectangle_i_Rectangle_l0 α N).addFun 129 true 1 slices_Index_i_Rectangle_i_Rectangle_a (fun l K => match l with
    | [.n s_n, .n s_l, .n s_c, .f v, .l h0] => slices_Index_i_Rectangle_i_Rectangle none N s_n s_l s_c v h0 (fun r__ => retK (buildS slices_Index_i_Rectangle_i_Rectangle_r0 [.i r__, .l h0]) K)
    | _ => none)
theorem E_slices_Index_i_Rectangle_i_Rectangle_ok {α : Type} (N : Nat) : EnvOk Try.prog (E_slices_Index_i_Rectangle_i_Rectangle α N) := (E_slices_Index_i_Rectangle_i_Rectangle_l0_ok N).addFun prog_mixed prog_names (d := 1) fun l K r h => by
  split at h
  · exact (slices_Index_i_Rectangle_i_Rectangle_run N _ _ _ _ _ K).trans h
  · cases h

/-- slices.Contains[[]impl.Rectangle,impl.Rectangle] -/
def slices_Contains_i_Rectangle_i_Rectangle_a : SPat := ⟨[.sliceV 0 0 0 6 false, .agg [.ints .i64 6]], [[.vec .i64]]⟩
def slices_Contains_i_Rectangle_i_Rectangle_r0 : SPat := ⟨[.bool], [[.vec .i64]]⟩
theorem slices_Contains_i_Rectangle_i_Rectangle_run {α : Type} (N : Nat) (s_n : Nat) (s_l : Nat) (s_c : Nat) (v : Nat → Int) (h0 : List Int) (K : AV → Heap → Option α) :
    callK Try.prog (E_slices_Index_i_Rectangle_i_Rectangle α N) 1 80 1 (buildS slices_Contains_i_Rectangle_i_Rectangle_a [.n s_n, .n s_l, .n s_c, .f v, .l h0]).t (buildS slices_Contains_i_Rectangle_i_Rectangle_a [.n s_n, .n s_l, .n s_c, .f v, .l h0]).h K = slices_Contains_i_Rectangle_i_Rectangle none N s_n s_l s_c v h0 (fun r__ => retK (buildS slices_Contains_i_Rectangle_i_Rectangle_r0 [.b r__, .l h0]) K) := by kernel_rfl
def E_slices_Contains_i_Rectangle_i_Rectangle (α : Type) (N : Nat) : Env α := (E_slices_Index_i_Rectangle_i_Rectangle α N).addFun 80 true 1 slices_Contains_i_Rectangle_i_Rectangle_a (fun l K => match l with
    | [.n s_n, .n s_l, .n s_c, .f v, .l h0] => slices_Contains_i_Rectangle_i_Rectangle none N s_n s_l s_c v h0 (fun r__ => retK (buildS slices_Contains_i_Rectangle_i_Rectangle_r0 [.b r__, .l h0]) K)
    | _ => none)
theorem E_slices_Contains_i_Rectangle_i_Rectangle_ok {α : Type} (N : Nat) : EnvOk Try.prog (E_slices_Contains_i_Rectangle_i_Rectangle α N) := (E_slices_Index_i_Rectangle_i_Rectangle_ok N).addFun prog_mixed prog_names (d := 1) fun l K r h => by
  split at h
  · exact (slices_Contains_i_Rectangle_i_Rectangle_run N _ _ _ _ _ K).trans h
  · cases h

/-- (impl.Rectangle).led -/
def i_Rectangle_led_a : SPat := ⟨[.agg [.ints .i64 6], .agg [.ints .u8 8], .int .i64], []⟩
def i_Rectangle_led_r0 : SPat := ⟨[.agg [.ints .u8 8]], []⟩
theorem i_Rectangle_led_run {α : Type} (N : Nat) (r_ : Nat → Int) (x : Nat → Int) (n : Int) (K : AV → Heap → Option α) :
    callK Try.prog (E_slices_Contains_i_Rectangle_i_Rectangle α N) 1 82 0 (buildS i_Rectangle_led_a [.f r_, .f x, .i n]).t (buildS i_Rectangle_led_a [.f r_, .f x, .i n]).h K = i_Rectangle_led none N r_ x n (fun r__ => retK (buildS i_Rectangle_led_r0 [.f r__]) K) := by kernel_rfl
def E_i_Rectangle_led (α : Type) (N : Nat) : Env α := (E_slices_Contains_i_Rectangle_i_Rectangle α N).addFun 82 true 0 i_Rectangle_led_a (fun l K => match l with
    | [.f r_, .f x, .i n] => i_Rectangle_led none N r_ x n (fun r__ => retK (buildS i_Rectangle_led_r0 [.f r__]) K)
    | _ => none)
theorem E_i_Rectangle_led_ok {α : Type} (N : Nat) : EnvOk Try.prog (E_i_Rectangle_led α N) := (E_slices_Contains_i_Rectangle_i_Rectangle_ok N).addFun prog_mixed prog_names (d := 1) fun l K r h => by
  split at h
  · exact (i_Rectangle_led_run N _ _ _ K).trans h
  · cases h

/-- impl.LedTo -/
def i_LedTo_a : SPat := ⟨[.agg [.vals [.int .i64], .ints .u8 8, .ints .u8 8], .agg [.ints .u8 8], .agg [.ints .i64 6]], []⟩
def i_LedTo_r0 : SPat := ⟨[.tuple [.agg [.ints .u8 8], .int .i64]], []⟩
theorem i_LedTo_run {α : Type} (N : Nat) (g_0 : Int) (g_1 : Nat → Int) (g_2 : Nat → Int) (x : Nat → Int) (r_ : Nat → Int) (K : AV → Heap → Option α) :
    callK Try.prog (E_i_Rectangle_led α N) 1 30 0 (buildS i_LedTo_a [.i g_0, .f g_1, .f g_2, .f x, .f r_]).t (buildS i_LedTo_a [.i g_0, .f g_1, .f g_2, .f x, .f r_]).h K = i_LedTo none N g_0 g_1 g_2 x r_ (fun r_0_ r_1_ => retK (buildS i_LedTo_r0 [.f r_0_, .i r_1_]) K) := by kernel_rfl
def E_i_LedTo (α : Type) (N : Nat) : Env α := (E_i_Rectangle_led α N).addFun 30 true 0 i_LedTo_a (fun l K => match l with
    | [.i g_0, .f g_1, .f g_2, .f x, .f r_] => i_LedTo none N g_0 g_1 g_2 x r_ (fun r_0_ r_1_ => retK (buildS i_LedTo_r0 [.f r_0_, .i r_1_]) K)
    | _ => none)
theorem E_i_LedTo_ok {α : Type} (N : Nat) : EnvOk Try.prog (E_i_LedTo α N) := (E_i_Rectangle_led_ok N).addFun prog_mixed prog_names (d := 1) fun l K r h => by
  split at h
  · exact (i_LedTo_run N _ _ _ _ _ K).trans h
  · cases h

def A_w_eqState_l0 (α : Type) (N : Nat) : Env α := (E_i_LedTo α N).addAnn 31 2 { head := [2, 3, 5], grow := [], out := [], ret := [4] }
theorem A_w_eqState_l0_ok {α : Type} (N : Nat) : EnvOk Try.prog (A_w_eqState_l0 α N) := (E_i_LedTo_ok N).addAnn

/-- laws.eqState, loop -/
def w_eqState_l0_p : SPat := ⟨[.undef, .undef, .ptr ⟨0, 0, 0, 8⟩, .ptr ⟨1, 0, 0, 8⟩, .undef, .int .i64] ++ List.replicate 11 .undef, [[.ints .u8 8], [.ints .u8 8]]⟩
def w_eqState_l0_o0 : SPat := ⟨[.undef, .undef, .undef, .undef, .boolC false] ++ List.replicate 12 .undef, [[.ints .u8 8], [.ints .u8 8]]⟩
def w_eqState_l0_o1 : SPat := ⟨[] ++ List.replicate 17 .undef, [[.ints .u8 8], [.ints .u8 8]]⟩
theorem w_eqState_l0_round {α : Type} (N : Nat) (i : Int) (h0 : Nat → Int) (h1 : Nat → Int) (kn : St → Option α) (K : AExit → St → Option α) :
    roundK Try.prog (A_w_eqState_l0 α N) 1 0 31 Try.f31 2 2 (buildS w_eqState_l0_p [.i i, .f h0, .f h1]) kn K = w_eqState_l0_s none h0 h1 i (fun i => kn (buildS w_eqState_l0_p [.i i, .f h0, .f h1])) (K .ret (buildS w_eqState_l0_o0 [.f h0, .f h1])) (K (.exit 0) (buildS w_eqState_l0_o1 [.f h0, .f h1])) := by kernel_rfl
theorem w_eqState_l0_loop {α : Type} (N : Nat) (h0 : Nat → Int) (h1 : Nat → Int) (K : AExit → St → Option α) : ∀ (m : Nat) (i : Int),
    loopN (trimSt ((A_w_eqState_l0 α N).ann 31 2).head ((A_w_eqState_l0 α N).ann 31 2).grow 2) (bodyK Try.prog (A_w_eqState_l0 α N) 1 0 31 Try.f31 2) m (buildS w_eqState_l0_p [.i i, .f h0, .f h1]) (leaveLoop ((A_w_eqState_l0 α N).ann 31 2) 2 K) = w_eqState_l0 none h0 h1 m i (K .ret (buildS w_eqState_l0_o0 [.f h0, .f h1])) (K (.exit 0) (buildS w_eqState_l0_o1 [.f h0, .f h1])) := by
  intro m
  induction m with
  | zero => intros; rfl
  | succ m ih =>
    intro i
    rw [loopN_round]
    refine (w_eqState_l0_round N i h0 h1 _ K).trans ?_
    simp only [ih]
    rfl
def E_w_eqState_l0 (α : Type) (N : Nat) : Env α := (A_w_eqState_l0 α N).addLoop2 31 2 (loopSum2 ((A_w_eqState_l0 α N).ann 31 2) 0 w_eqState_l0_p (fun l K => match l with
    | [.i i, .f h0, .f h1] => w_eqState_l0 none h0 h1 N i (K .ret (buildS w_eqState_l0_o0 [.f h0, .f h1])) (K (.exit 0) (buildS w_eqState_l0_o1 [.f h0, .f h1]))
    | _ => none) ((A_w_eqState_l0 α N).ls 31 2))
theorem E_w_eqState_l0_ok {α : Type} (N : Nat) : EnvOk Try.prog (E_w_eqState_l0 α N) := (A_w_eqState_l0_ok N).addLoop2 Try.func31 (by kernel_rfl) (loopSum_ok prog_mixed prog_names (A_w_eqState_l0_ok N) Try.func31 (by kernel_rfl) (d := 1) (ro := 0) fun l K r h => by
  split at h
  · exact (w_eqState_l0_loop N _ _ K N _).trans h
  · cases h)

/-- laws.eqState -/
def w_eqState_a : SPat := ⟨[.agg [.ints .u8 8], .agg [.ints .u8 8]], []⟩
def w_eqState_r0 : SPat := ⟨[.bool], []⟩
theorem w_eqState_run {α : Type} (N : Nat) (a : Nat → Int) (b : Nat → Int) (K : AV → Heap → Option α) :
    callK Try.prog (E_w_eqState_l0 α N) 1 31 0 (buildS w_eqState_a [.f a, .f b]).t (buildS w_eqState_a [.f a, .f b]).h K = w_eqState none N a b (fun r__ => retK (buildS w_eqState_r0 [.b r__]) K) := by kernel_rfl
def E_w_eqState (α : Type) (N : Nat) : Env α := (E_w_eqState_l0 α N).addFun 31 true 0 w_eqState_a (fun l K => match l with
    | [.f a, .f b] => w_eqState none N a b (fun r__ => retK (buildS w_eqState_r0 [.b r__]) K)
    | _ => none)
theorem E_w_eqState_ok {α : Type} (N : Nat) : EnvOk Try.prog (E_w_eqState α N) := (E_w_eqState_l0_ok N).addFun prog_mixed prog_names (d := 1) fun l K r h => by
  split at h
  · exact (w_eqState_run N _ _ K).trans h
  · cases h

/-- laws.FnExactLedTo -/
def w_FnExactLedTo_a : SPat := ⟨[.agg [.vals [.int .i64], .ints .u8 8, .ints .u8 8], .agg [.ints .u8 8], .agg [.ints .i64 6]], []⟩
def w_FnExactLedTo_r0 : SPat := ⟨[.bool], []⟩
theorem w_FnExactLedTo_run {α : Type} (N : Nat) (aG_0 : Int) (aG_1 : Nat → Int) (aG_2 : Nat → Int) (aX : Nat → Int) (aR : Nat → Int) (K : AV → Heap → Option α) :
    callK Try.prog (E_w_eqState α N) 1 6 0 (buildS w_FnExactLedTo_a [.i aG_0, .f aG_1, .f aG_2, .f aX, .f aR]).t (buildS w_FnExactLedTo_a [.i aG_0, .f aG_1, .f aG_2, .f aX, .f aR]).h K = w_FnExactLedTo none N aG_0 aG_1 aG_2 aX aR (fun r__ => retK (buildS w_FnExactLedTo_r0 [.b r__]) K) := by kernel_rfl
def E_w_FnExactLedTo (α : Type) (N : Nat) : Env α := (E_w_eqState α N).addFun 6 true 0 w_FnExactLedTo_a (fun l K => match l with
    | [.i aG_0, .f aG_1, .f aG_2, .f aX, .f aR] => w_FnExactLedTo none N aG_0 aG_1 aG_2 aX aR (fun r__ => retK (buildS w_FnExactLedTo_r0 [.b r__]) K)
    | _ => none)
theorem E_w_FnExactLedTo_ok {α : Type} (N : Nat) : EnvOk Try.prog (E_w_FnExactLedTo α N) := (E_w_eqState_ok N).addFun prog_mixed prog_names (d := 1) fun l K r h => by
  split at h
  · exact (w_FnExactLedTo_run N _ _ _ _ _ K).trans h
  · cases h
end Go.AM
