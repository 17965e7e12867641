/- A part of a proof about the given program: an abstract machine, what the given functions come to, and plain laws. -/
import Derived.Test.YtlpfpjbmikpheaaAMEnv2
import Derived.Test.YtlpfpjbmikpheaaDLowerState
import Derived.Test.YtlpfpjbmikpheaaDIsMosaic
import Derived.Test.YtlpfpjbmikpheaaDCountTiles
import Derived.Test.YtlpfpjbmikpheaaDDirectionsOf
import Derived.Test.YtlpfpjbmikpheaaProg
set_option maxRecDepth 100000
namespace Go.AM
open Go.Proofs

def E0 (α : Type) (N : Nat) : Env α := Env.base (fun _ _ => {}) N
theorem E0_ok {α : Type} (N : Nat) : EnvOk Try.prog (E0 α N) := .base
theorem prog_mixed : Try.prog.follows .mixedOrders = true := by kernel_rfl
theorem prog_names : NamesOk Try.prog := .of_all (by kernel_rfl)
def A_w_toByteA8_l0 (α : Type) (N : Nat) : Env α := (E0 α N).addAnn 51 3 { head := [1, 2, 3, 4], grow := [], out := [2, 3], ret := [2] }
theorem A_w_toByteA8_l0_ok {α : Type} (N : Nat) : EnvOk Try.prog (A_w_toByteA8_l0 α N) := (E0_ok N).addAnn

/-- laws.toByteA8, loop -/
def w_toByteA8_l0_p : SPat := ⟨[.undef, .ptr ⟨0, 0, 0, 8⟩, .ptr ⟨1, 0, 0, 8⟩, .ptr ⟨2, 0, 0, 8⟩, .int .i64] ++ List.replicate 10 .undef, [[.ints .u8 8], [.ints .u8 8], [.ints .u8 8]]⟩
def w_toByteA8_l0_o0 : SPat := ⟨[.undef, .undef, .ptr ⟨1, 0, 0, 8⟩, .ptr ⟨2, 0, 0, 8⟩] ++ List.replicate 11 .undef, [[.ints .u8 8], [.ints .u8 8], [.ints .u8 8]]⟩
theorem w_toByteA8_l0_round {α : Type} (N : Nat) (i : Int) (h0 : Nat → Int) (h1 : Nat → Int) (h2 : Nat → Int) (kn : St → Option α) (K : AExit → St → Option α) :
    roundK Try.prog (A_w_toByteA8_l0 α N) 1 0 51 Try.f51 3 3 (buildS w_toByteA8_l0_p [.i i, .f h0, .f h1, .f h2]) kn K = w_toByteA8_l0_s none h0 h1 i h2 (fun i h2 => kn (buildS w_toByteA8_l0_p [.i i, .f h0, .f h1, .f h2])) (fun h2_ => K (.exit 0) (buildS w_toByteA8_l0_o0 [.f h0, .f h1, .f h2_])) := by kernel_rfl
theorem w_toByteA8_l0_loop {α : Type} (N : Nat) (h0 : Nat → Int) (h1 : Nat → Int) (K : AExit → St → Option α) : ∀ (m : Nat) (i : Int) (h2 : Nat → Int),
    loopN (trimSt ((A_w_toByteA8_l0 α N).ann 51 3).head ((A_w_toByteA8_l0 α N).ann 51 3).grow 3) (bodyK Try.prog (A_w_toByteA8_l0 α N) 1 0 51 Try.f51 3) m (buildS w_toByteA8_l0_p [.i i, .f h0, .f h1, .f h2]) (leaveLoop ((A_w_toByteA8_l0 α N).ann 51 3) 3 K) = w_toByteA8_l0 none h0 h1 m i h2 (fun h2_ => K (.exit 0) (buildS w_toByteA8_l0_o0 [.f h0, .f h1, .f h2_])) := by
  intro m
  induction m with
  | zero => intros; rfl
  | succ m ih =>
    intro i h2
    rw [loopN_round]
    refine (w_toByteA8_l0_round N i h0 h1 h2 _ K).trans ?_
    simp only [ih]
    rfl
def E_w_toByteA8_l0 (α : Type) (N : Nat) : Env α := (A_w_toByteA8_l0 α N).addLoop2 51 3 (loopSum2 ((A_w_toByteA8_l0 α N).ann 51 3) 0 w_toByteA8_l0_p (fun l K => match l with
    | [.i i, .f h0, .f h1, .f h2] => w_toByteA8_l0 none h0 h1 N i h2 (fun h2_ => K (.exit 0) (buildS w_toByteA8_l0_o0 [.f h0, .f h1, .f h2_]))
    | _ => none) ((A_w_toByteA8_l0 α N).ls 51 3))
theorem E_w_toByteA8_l0_ok {α : Type} (N : Nat) : EnvOk Try.prog (E_w_toByteA8_l0 α N) := (A_w_toByteA8_l0_ok N).addLoop2 Try.func51 (by kernel_rfl) (loopSum_ok prog_mixed prog_names (A_w_toByteA8_l0_ok N) Try.func51 (by kernel_rfl) (d := 1) (ro := 0) fun l K r h => by
  split at h
  · exact (w_toByteA8_l0_loop N _ _ K N _ _).trans h
  · cases h)

/-- laws.toByteA8 -/
def w_toByteA8_a : SPat := ⟨[.agg [.ints .u8 8]], []⟩
def w_toByteA8_r0 : SPat := ⟨[.agg [.ints .u8 8]], []⟩
theorem w_toByteA8_run {α : Type} (N : Nat) (a : Nat → Int) (K : AV → Heap → Option α) :
    callK Try.prog (E_w_toByteA8_l0 α N) 1 51 0 (buildS w_toByteA8_a [.f a]).t (buildS w_toByteA8_a [.f a]).h K = w_toByteA8 none N a (fun r__ => retK (buildS w_toByteA8_r0 [.f r__]) K) := by kernel_rfl
def E_w_toByteA8 (α : Type) (N : Nat) : Env α := (E_w_toByteA8_l0 α N).addFun 51 true 0 w_toByteA8_a (fun l K => match l with
    | [.f a] => w_toByteA8 none N a (fun r__ => retK (buildS w_toByteA8_r0 [.f r__]) K)
    | _ => none)
theorem E_w_toByteA8_ok {α : Type} (N : Nat) : EnvOk Try.prog (E_w_toByteA8 α N) := (E_w_toByteA8_l0_ok N).addFun prog_mixed prog_names (d := 1) fun l K r h => by
  split at h
  · exact (w_toByteA8_run N _ K).trans h
  · cases h

/-- laws.toGrid -/
def w_toGrid_a : SPat := ⟨[.agg [.vals [.int .i64], .ints .u8 8, .ints .u8 8]], []⟩
def w_toGrid_r0 : SPat := ⟨[.agg [.vals [.int .i64], .ints .u8 8, .ints .u8 8]], []⟩
theorem w_toGrid_run {α : Type} (N : Nat) (a_0 : Int) (a_1 : Nat → Int) (a_2 : Nat → Int) (K : AV → Heap → Option α) :
    callK Try.prog (E_w_toByteA8 α N) 1 25 0 (buildS w_toGrid_a [.i a_0, .f a_1, .f a_2]).t (buildS w_toGrid_a [.i a_0, .f a_1, .f a_2]).h K = w_toGrid none N a_0 a_1 a_2 (fun r_1_ r_2_ => retK (buildS w_toGrid_r0 [.i a_0, .f r_1_, .f r_2_]) K) := by kernel_rfl
def E_w_toGrid (α : Type) (N : Nat) : Env α := (E_w_toByteA8 α N).addFun 25 true 0 w_toGrid_a (fun l K => match l with
    | [.i a_0, .f a_1, .f a_2] => w_toGrid none N a_0 a_1 a_2 (fun r_1_ r_2_ => retK (buildS w_toGrid_r0 [.i a_0, .f r_1_, .f r_2_]) K)
    | _ => none)
theorem E_w_toGrid_ok {α : Type} (N : Nat) : EnvOk Try.prog (E_w_toGrid α N) := (E_w_toByteA8_ok N).addFun prog_mixed prog_names (d := 1) fun l K r h => by
  split at h
  · exact (w_toGrid_run N _ _ _ K).trans h
  · cases h

/-- spec.l01In -/
def s_l01In_a : SPat := ⟨[.int .i64, .int .i64, .int .i64], []⟩
def s_l01In_r0 : SPat := ⟨[.bool], []⟩
theorem s_l01In_run {α : Type} (N : Nat) (n : Int) (low : Int) (high : Int) (K : AV → Heap → Option α) :
    callK Try.prog (E_w_toGrid α N) 1 63 0 (buildS s_l01In_a [.i n, .i low, .i high]).t (buildS s_l01In_a [.i n, .i low, .i high]).h K = s_l01In none N n low high (fun r__ => retK (buildS s_l01In_r0 [.b r__]) K) := by kernel_rfl
def E_s_l01In (α : Type) (N : Nat) : Env α := (E_w_toGrid α N).addFun 63 true 0 s_l01In_a (fun l K => match l with
    | [.i n, .i low, .i high] => s_l01In none N n low high (fun r__ => retK (buildS s_l01In_r0 [.b r__]) K)
    | _ => none)
theorem E_s_l01In_ok {α : Type} (N : Nat) : EnvOk Try.prog (E_s_l01In α N) := (E_w_toGrid_ok N).addFun prog_mixed prog_names (d := 1) fun l K r h => by
  split at h
  · exact (s_l01In_run N _ _ _ K).trans h
  · cases h

def A_s_l01Perm_l0 (α : Type) (N : Nat) : Env α := (E_s_l01In α N).addAnn 77 3 { head := [1, 2, 5, 6], grow := [], out := [], ret := [4] }
theorem A_s_l01Perm_l0_ok {α : Type} (N : Nat) : EnvOk Try.prog (A_s_l01Perm_l0 α N) := (E_s_l01In_ok N).addAnn

/-- spec.l01Perm, loop -/
def s_l01Perm_l0_p : SPat := ⟨[.undef, .int .i64, .ptr ⟨0, 0, 0, 8⟩, .undef, .undef, .ptr ⟨1, 0, 0, 8⟩, .int .i64] ++ List.replicate 29 .undef, [[.ints .u8 8], [.bools 8]]⟩
def s_l01Perm_l0_o0 : SPat := ⟨[.undef, .undef, .undef, .undef, .boolC false] ++ List.replicate 31 .undef, [[.ints .u8 8], [.bools 8]]⟩
def s_l01Perm_l0_o1 : SPat := ⟨[] ++ List.replicate 36 .undef, [[.ints .u8 8], [.bools 8]]⟩
theorem s_l01Perm_l0_round {α : Type} (N : Nat) (n : Int) (i : Int) (h0 : Nat → Int) (h1 : Nat → Bool) (kn : St → Option α) (K : AExit → St → Option α) :
    roundK Try.prog (A_s_l01Perm_l0 α N) 1 0 77 Try.f77 3 2 (buildS s_l01Perm_l0_p [.i n, .i i, .f h0, .g h1]) kn K = s_l01Perm_l0_s none n h0 i h1 (fun i h1 => kn (buildS s_l01Perm_l0_p [.i n, .i i, .f h0, .g h1])) (fun h1_ => K .ret (buildS s_l01Perm_l0_o0 [.f h0, .g h1_])) (fun h1_ => K (.exit 0) (buildS s_l01Perm_l0_o1 [.f h0, .g h1_])) := by kernel_rfl
theorem s_l01Perm_l0_loop {α : Type} (N : Nat) (n : Int) (h0 : Nat → Int) (K : AExit → St → Option α) : ∀ (m : Nat) (i : Int) (h1 : Nat → Bool),
    loopN (trimSt ((A_s_l01Perm_l0 α N).ann 77 3).head ((A_s_l01Perm_l0 α N).ann 77 3).grow 2) (bodyK Try.prog (A_s_l01Perm_l0 α N) 1 0 77 Try.f77 3) m (buildS s_l01Perm_l0_p [.i n, .i i, .f h0, .g h1]) (leaveLoop ((A_s_l01Perm_l0 α N).ann 77 3) 2 K) = s_l01Perm_l0 none n h0 m i h1 (fun h1_ => K .ret (buildS s_l01Perm_l0_o0 [.f h0, .g h1_])) (fun h1_ => K (.exit 0) (buildS s_l01Perm_l0_o1 [.f h0, .g h1_])) := by
  intro m
  induction m with
  | zero => intros; rfl
  | succ m ih =>
    intro i h1
    rw [loopN_round]
    refine (s_l01Perm_l0_round N n i h0 h1 _ K).trans ?_
    simp only [ih]
    rfl
def E_s_l01Perm_l0 (α : Type) (N : Nat) : Env α := (A_s_l01Perm_l0 α N).addLoop2 77 3 (loopSum2 ((A_s_l01Perm_l0 α N).ann 77 3) 0 s_l01Perm_l0_p (fun l K => match l with
    | [.i n, .i i, .f h0, .g h1] => s_l01Perm_l0 none n h0 N i h1 (fun h1_ => K .ret (buildS s_l01Perm_l0_o0 [.f h0, .g h1_])) (fun h1_ => K (.exit 0) (buildS s_l01Perm_l0_o1 [.f h0, .g h1_]))
    | _ => none) ((A_s_l01Perm_l0 α N).ls 77 3))
theorem E_s_l01Perm_l0_ok {α : Type} (N : Nat) : EnvOk Try.prog (E_s_l01Perm_l0 α N) := (A_s_l01Perm_l0_ok N).addLoop2 Try.func77 (by kernel_rfl) (loopSum_ok prog_mixed prog_names (A_s_l01Perm_l0_ok N) Try.func77 (by kernel_rfl) (d := 1) (ro := 0) fun l K r h => by
  split at h
  · exact (s_l01Perm_l0_loop N _ _ K N _ _).trans h
  · cases h)

/-- spec.l01Perm -/
def s_l01Perm_a : SPat := ⟨[.agg [.ints .u8 8], .int .i64], []⟩
def s_l01Perm_r0 : SPat := ⟨[.bool], []⟩
theorem s_l01Perm_run {α : Type} (N : Nat) (list : Nat → Int) (n : Int) (K : AV → Heap → Option α) :
    callK Try.prog (E_s_l01Perm_l0 α N) 1 77 0 (buildS s_l01Perm_a [.f list, .i n]).t (buildS s_l01Perm_a [.f list, .i n]).h K = s_l01Perm none N list n (fun r__ => retK (buildS s_l01Perm_r0 [.b r__]) K) := by kernel_rfl
def E_s_l01Perm (α : Type) (N : Nat) : Env α := (E_s_l01Perm_l0 α N).addFun 77 true 0 s_l01Perm_a (fun l K => match l with
    | [.f list, .i n] => s_l01Perm none N list n (fun r__ => retK (buildS s_l01Perm_r0 [.b r__]) K)
    | _ => none)
theorem E_s_l01Perm_ok {α : Type} (N : Nat) : EnvOk Try.prog (E_s_l01Perm α N) := (E_s_l01Perm_l0_ok N).addFun prog_mixed prog_names (d := 1) fun l K r h => by
  split at h
  · exact (s_l01Perm_run N _ _ K).trans h
  · cases h

def A_s_l01Is_l0 (α : Type) (N : Nat) : Env α := (E_s_l01Perm α N).addAnn 50 4 { head := [1, 3], grow := [], out := [], ret := [2] }
theorem A_s_l01Is_l0_ok {α : Type} (N : Nat) : EnvOk Try.prog (A_s_l01Is_l0 α N) := (E_s_l01Perm_ok N).addAnn

/-- spec.l01Is, loop -/
def s_l01Is_l0_p : SPat := ⟨[.undef, .ptr ⟨0, 0, 0, 1⟩, .undef, .int .i64] ++ List.replicate 35 .undef, [[.vals [.int .i64], .ints .u8 8, .ints .u8 8]]⟩
def s_l01Is_l0_o0 : SPat := ⟨[.undef, .undef, .boolC false] ++ List.replicate 36 .undef, [[.vals [.int .i64], .ints .u8 8, .ints .u8 8]]⟩
def s_l01Is_l0_o1 : SPat := ⟨[] ++ List.replicate 39 .undef, [[.vals [.int .i64], .ints .u8 8, .ints .u8 8]]⟩
theorem s_l01Is_l0_round {α : Type} (N : Nat) (i : Int) (h0_0 : Int) (h0_1 : Nat → Int) (h0_2 : Nat → Int) (kn : St → Option α) (K : AExit → St → Option α) :
    roundK Try.prog (A_s_l01Is_l0 α N) 1 0 50 Try.f50 4 1 (buildS s_l01Is_l0_p [.i i, .i h0_0, .f h0_1, .f h0_2]) kn K = s_l01Is_l0_s none h0_0 h0_1 h0_2 i (fun i => kn (buildS s_l01Is_l0_p [.i i, .i h0_0, .f h0_1, .f h0_2])) (K .ret (buildS s_l01Is_l0_o0 [.i h0_0, .f h0_1, .f h0_2])) (K (.exit 0) (buildS s_l01Is_l0_o1 [.i h0_0, .f h0_1, .f h0_2])) := by kernel_rfl
theorem s_l01Is_l0_loop {α : Type} (N : Nat) (h0_0 : Int) (h0_1 : Nat → Int) (h0_2 : Nat → Int) (K : AExit → St → Option α) : ∀ (m : Nat) (i : Int),
    loopN (trimSt ((A_s_l01Is_l0 α N).ann 50 4).head ((A_s_l01Is_l0 α N).ann 50 4).grow 1) (bodyK Try.prog (A_s_l01Is_l0 α N) 1 0 50 Try.f50 4) m (buildS s_l01Is_l0_p [.i i, .i h0_0, .f h0_1, .f h0_2]) (leaveLoop ((A_s_l01Is_l0 α N).ann 50 4) 1 K) = s_l01Is_l0 none h0_0 h0_1 h0_2 m i (K .ret (buildS s_l01Is_l0_o0 [.i h0_0, .f h0_1, .f h0_2])) (K (.exit 0) (buildS s_l01Is_l0_o1 [.i h0_0, .f h0_1, .f h0_2])) := by
  intro m
  induction m with
  | zero => intros; rfl
  | succ m ih =>
    intro i
    rw [loopN_round]
    refine (s_l01Is_l0_round N i h0_0 h0_1 h0_2 _ K).trans ?_
    simp only [ih]
    rfl
def E_s_l01Is_l0 (α : Type) (N : Nat) : Env α := (A_s_l01Is_l0 α N).addLoop2 50 4 (loopSum2 ((A_s_l01Is_l0 α N).ann 50 4) 0 s_l01Is_l0_p (fun l K => match l with
    | [.i i, .i h0_0, .f h0_1, .f h0_2] => s_l01Is_l0 none h0_0 h0_1 h0_2 N i (K .ret (buildS s_l01Is_l0_o0 [.i h0_0, .f h0_1, .f h0_2])) (K (.exit 0) (buildS s_l01Is_l0_o1 [.i h0_0, .f h0_1, .f h0_2]))
    | _ => none) ((A_s_l01Is_l0 α N).ls 50 4))
theorem E_s_l01Is_l0_ok {α : Type} (N : Nat) : EnvOk Try.prog (E_s_l01Is_l0 α N) := (A_s_l01Is_l0_ok N).addLoop2 Try.func50 (by kernel_rfl) (loopSum_ok prog_mixed prog_names (A_s_l01Is_l0_ok N) Try.func50 (by kernel_rfl) (d := 1) (ro := 0) fun l K r h => by
  split at h
  · exact (s_l01Is_l0_loop N _ _ _ K N _).trans h
  · cases h)

/-- spec.l01Is -/
def s_l01Is_a : SPat := ⟨[.agg [.vals [.int .i64], .ints .u8 8, .ints .u8 8]], []⟩
def s_l01Is_r0 : SPat := ⟨[.bool], []⟩
theorem s_l01Is_run {α : Type} (N : Nat) (g_0 : Int) (g_1 : Nat → Int) (g_2 : Nat → Int) (K : AV → Heap → Option α) :
    callK Try.prog (E_s_l01Is_l0 α N) 1 50 0 (buildS s_l01Is_a [.i g_0, .f g_1, .f g_2]).t (buildS s_l01Is_a [.i g_0, .f g_1, .f g_2]).h K = s_l01Is none N g_0 g_1 g_2 (fun r__ => retK (buildS s_l01Is_r0 [.b r__]) K) := by kernel_rfl
def E_s_l01Is (α : Type) (N : Nat) : Env α := (E_s_l01Is_l0 α N).addFun 50 true 0 s_l01Is_a (fun l K => match l with
    | [.i g_0, .f g_1, .f g_2] => s_l01Is none N g_0 g_1 g_2 (fun r__ => retK (buildS s_l01Is_r0 [.b r__]) K)
    | _ => none)
theorem E_s_l01Is_ok {α : Type} (N : Nat) : EnvOk Try.prog (E_s_l01Is α N) := (E_s_l01Is_l0_ok N).addFun prog_mixed prog_names (d := 1) fun l K r h => by
  split at h
  · exact (s_l01Is_run N _ _ _ K).trans h
  · cases h

def A_s_DirectionsOf_l0 (α : Type) (N : Nat) : Env α := (E_s_l01Is α N).addAnn 33 5 { head := [1, 4, 5], grow := [4], out := [4], ret := [2, 3] }
theorem A_s_DirectionsOf_l0_ok {α : Type} (N : Nat) : EnvOk Try.prog (A_s_DirectionsOf_l0 α N) := (E_s_l01Is_ok N).addAnn

/-- spec.l08Direction -/
def s_l08Direction_a : SPat := ⟨[.agg [.vals [.int .i64], .ints .u8 8, .ints .u8 8], .int .i64], []⟩
def s_l08Direction_r0 : SPat := ⟨[.int .i64], []⟩
theorem s_l08Direction_run {α : Type} (N : Nat) (g_0 : Int) (g_1 : Nat → Int) (g_2 : Nat → Int) (i : Int) (K : AV → Heap → Option α) :
    callK Try.prog (A_s_DirectionsOf_l0 α N) 1 60 0 (buildS s_l08Direction_a [.i g_0, .f g_1, .f g_2, .i i]).t (buildS s_l08Direction_a [.i g_0, .f g_1, .f g_2, .i i]).h K = s_l08Direction none N g_0 g_1 g_2 i (fun r__ => retK (buildS s_l08Direction_r0 [.i r__]) K) := by kernel_rfl
def E_s_l08Direction (α : Type) (N : Nat) : Env α := (A_s_DirectionsOf_l0 α N).addFun 60 true 0 s_l08Direction_a (fun l K => match l with
    | [.i g_0, .f g_1, .f g_2, .i i] => s_l08Direction none N g_0 g_1 g_2 i (fun r__ => retK (buildS s_l08Direction_r0 [.i r__]) K)
    | _ => none)
theorem E_s_l08Direction_ok {α : Type} (N : Nat) : EnvOk Try.prog (E_s_l08Direction α N) := (A_s_DirectionsOf_l0_ok N).addFun prog_mixed prog_names (d := 1) fun l K r h => by
  split at h
  · exact (s_l08Direction_run N _ _ _ _ K).trans h
  · cases h

/-- spec.DirectionsOf, loop -/
def s_DirectionsOf_l0_p : SPat := ⟨[.undef, .ptr ⟨0, 0, 0, 1⟩, .undef, .undef, .sliceV 1 0 0 1 false, .int .i64] ++ List.replicate 17 .undef, [[.vals [.int .i64], .ints .u8 8, .ints .u8 8], [.vec .i64]]⟩
def s_DirectionsOf_l0_o0 : SPat := ⟨[.undef, .undef, .undef, .undef, .sliceV 1 0 0 1 false] ++ List.replicate 18 .undef, [[.vals [.int .i64], .ints .u8 8, .ints .u8 8], [.vec .i64]]⟩
theorem s_DirectionsOf_l0_round {α : Type} (N : Nat) (out_n : Nat) (out_l : Nat) (out_c : Nat) (i : Int) (h0_0 : Int) (h0_1 : Nat → Int) (h0_2 : Nat → Int) (h1 : List Int) (kn : St → Option α) (K : AExit → St → Option α) :
    roundK Try.prog (E_s_l08Direction α N) 1 0 33 Try.f33 5 2 (buildS s_DirectionsOf_l0_p [.n out_n, .n out_l, .n out_c, .i i, .i h0_0, .f h0_1, .f h0_2, .l h1]) kn K = s_DirectionsOf_l0_s none N h0_0 h0_1 h0_2 out_n out_l out_c i h1 (fun out_n out_l out_c i h1 => kn (buildS s_DirectionsOf_l0_p [.n out_n, .n out_l, .n out_c, .i i, .i h0_0, .f h0_1, .f h0_2, .l h1])) (fun out_n_ out_l_ out_c_ h1_ => K (.exit 0) (buildS s_DirectionsOf_l0_o0 [.n out_n_, .n out_l_, .n out_c_, .i h0_0, .f h0_1, .f h0_2, .l h1_])) := by kernel_rfl
theorem s_DirectionsOf_l0_loop {α : Type} (N : Nat) (h0_0 : Int) (h0_1 : Nat → Int) (h0_2 : Nat → Int) (K : AExit → St → Option α) : ∀ (m : Nat) (out_n : Nat) (out_l : Nat) (out_c : Nat) (i : Int) (h1 : List Int),
    loopN (trimSt ((E_s_l08Direction α N).ann 33 5).head ((E_s_l08Direction α N).ann 33 5).grow 2) (bodyK Try.prog (E_s_l08Direction α N) 1 0 33 Try.f33 5) m (buildS s_DirectionsOf_l0_p [.n out_n, .n out_l, .n out_c, .i i, .i h0_0, .f h0_1, .f h0_2, .l h1]) (leaveLoop ((E_s_l08Direction α N).ann 33 5) 2 K) = s_DirectionsOf_l0 none N h0_0 h0_1 h0_2 m out_n out_l out_c i h1 (fun out_n_ out_l_ out_c_ h1_ => K (.exit 0) (buildS s_DirectionsOf_l0_o0 [.n out_n_, .n out_l_, .n out_c_, .i h0_0, .f h0_1, .f h0_2, .l h1_])) := by
  intro m
  induction m with
  | zero => intros; rfl
  | succ m ih =>
    intro out_n out_l out_c i h1
    rw [loopN_round]
    refine (s_DirectionsOf_l0_round N out_n out_l out_c i h0_0 h0_1 h0_2 h1 _ K).trans ?_
    simp only [ih]
    rfl
def E_s_DirectionsOf_l0 (α : Type) (N : Nat) : Env α := (E_s_l08Direction α N).addLoop2 33 5 (loopSum2 ((E_s_l08Direction α N).ann 33 5) 0 s_DirectionsOf_l0_p (fun l K => match l with
    | [.n out_n, .n out_l, .n out_c, .i i, .i h0_0, .f h0_1, .f h0_2, .l h1] => s_DirectionsOf_l0 none N h0_0 h0_1 h0_2 N out_n out_l out_c i h1 (fun out_n_ out_l_ out_c_ h1_ => K (.exit 0) (buildS s_DirectionsOf_l0_o0 [.n out_n_, .n out_l_, .n out_c_, .i h0_0, .f h0_1, .f h0_2, .l h1_]))
    | _ => none) ((E_s_l08Direction α N).ls 33 5))
theorem E_s_DirectionsOf_l0_ok {α : Type} (N : Nat) : EnvOk Try.prog (E_s_DirectionsOf_l0 α N) := (E_s_l08Direction_ok N).addLoop2 Try.func33 (by kernel_rfl) (loopSum_ok prog_mixed prog_names (E_s_l08Direction_ok N) Try.func33 (by kernel_rfl) (d := 1) (ro := 0) fun l K r h => by
  split at h
  · exact (s_DirectionsOf_l0_loop N _ _ _ K N _ _ _ _ _).trans h
  · cases h)

/-- spec.DirectionsOf -/
def s_DirectionsOf_a : SPat := ⟨[.agg [.vals [.int .i64], .ints .u8 8, .ints .u8 8]], []⟩
def s_DirectionsOf_r0 : SPat := ⟨[.tuple [.nils, .int .i64]], []⟩
def s_DirectionsOf_r1 : SPat := ⟨[.tuple [.sliceV 0 0 0 1 false, .int .i64]], [[.vec .i64]]⟩
theorem s_DirectionsOf_run {α : Type} (N : Nat) (g_0 : Int) (g_1 : Nat → Int) (g_2 : Nat → Int) (K : AV → Heap → Option α) :
    callK Try.prog (E_s_DirectionsOf_l0 α N) 1 33 0 (buildS s_DirectionsOf_a [.i g_0, .f g_1, .f g_2]).t (buildS s_DirectionsOf_a [.i g_0, .f g_1, .f g_2]).h K = s_DirectionsOf none N g_0 g_1 g_2 (fun r_1_ => retK (buildS s_DirectionsOf_r0 [.i r_1_]) K) (fun r_0_n_ r_0_l_ r_0_c_ r_1_ h0_ => retK (buildS s_DirectionsOf_r1 [.n r_0_n_, .n r_0_l_, .n r_0_c_, .i r_1_, .l h0_]) K) := by kernel_rfl
def E_s_DirectionsOf (α : Type) (N : Nat) : Env α := (E_s_DirectionsOf_l0 α N).addFun 33 true 0 s_DirectionsOf_a (fun l K => match l with
    | [.i g_0, .f g_1, .f g_2] => s_DirectionsOf none N g_0 g_1 g_2 (fun r_1_ => retK (buildS s_DirectionsOf_r0 [.i r_1_]) K) (fun r_0_n_ r_0_l_ r_0_c_ r_1_ h0_ => retK (buildS s_DirectionsOf_r1 [.n r_0_n_, .n r_0_l_, .n r_0_c_, .i r_1_, .l h0_]) K)
    | _ => none)
theorem E_s_DirectionsOf_ok {α : Type} (N : Nat) : EnvOk Try.prog (E_s_DirectionsOf α N) := (E_s_DirectionsOf_l0_ok N).addFun prog_mixed prog_names (d := 1) fun l K r h => by
  split at h
  · exact (s_DirectionsOf_run N _ _ _ K).trans h
  · cases h

/-- impl.within -/
def i_within_a : SPat := ⟨[.int .i64, .int .i64, .int .i64], []⟩
def i_within_r0 : SPat := ⟨[.bool], []⟩
theorem i_within_run {α : Type} (N : Nat) (x : Int) (low : Int) (high : Int) (K : AV → Heap → Option α) :
    callK Try.prog (E_s_DirectionsOf α N) 1 47 0 (buildS i_within_a [.i x, .i low, .i high]).t (buildS i_within_a [.i x, .i low, .i high]).h K = i_within none N x low high (fun r__ => retK (buildS i_within_r0 [.b r__]) K) := by kernel_rfl
def E_i_within (α : Type) (N : Nat) : Env α := (E_s_DirectionsOf α N).addFun 47 true 0 i_within_a (fun l K => match l with
    | [.i x, .i low, .i high] => i_within none N x low high (fun r__ => retK (buildS i_within_r0 [.b r__]) K)
    | _ => none)
theorem E_i_within_ok {α : Type} (N : Nat) : EnvOk Try.prog (E_i_within α N) := (E_s_DirectionsOf_ok N).addFun prog_mixed prog_names (d := 1) fun l K r h => by
  split at h
  · exact (i_within_run N _ _ _ K).trans h
  · cases h

/-- (impl.Grid).n -/
def i_Grid_n_a : SPat := ⟨[.agg [.vals [.int .i64], .ints .u8 8, .ints .u8 8]], []⟩
def i_Grid_n_r0 : SPat := ⟨[.int .i64], []⟩
theorem i_Grid_n_run {α : Type} (N : Nat) (g_0 : Int) (g_1 : Nat → Int) (g_2 : Nat → Int) (K : AV → Heap → Option α) :
    callK Try.prog (E_i_within α N) 1 56 0 (buildS i_Grid_n_a [.i g_0, .f g_1, .f g_2]).t (buildS i_Grid_n_a [.i g_0, .f g_1, .f g_2]).h K = i_Grid_n none N g_0 g_1 g_2 (retK (buildS i_Grid_n_r0 [.i g_0]) K) := by kernel_rfl
def E_i_Grid_n (α : Type) (N : Nat) : Env α := (E_i_within α N).addFun 56 true 0 i_Grid_n_a (fun l K => match l with
    | [.i g_0, .f g_1, .f g_2] => i_Grid_n none N g_0 g_1 g_2 (retK (buildS i_Grid_n_r0 [.i g_0]) K)
    | _ => none)
theorem E_i_Grid_n_ok {α : Type} (N : Nat) : EnvOk Try.prog (E_i_Grid_n α N) := (E_i_within_ok N).addFun prog_mixed prog_names (d := 1) fun l K r h => by
  split at h
  · exact (i_Grid_n_run N _ _ _ K).trans h
  · cases h

def A_i_isOrder_l0 (α : Type) (N : Nat) : Env α := (E_i_Grid_n α N).addAnn 49 3 { head := [1, 5, 8, 9, 10], grow := [], out := [1, 5], ret := [4] }
theorem A_i_isOrder_l0_ok {α : Type} (N : Nat) : EnvOk Try.prog (A_i_isOrder_l0 α N) := (E_i_Grid_n_ok N).addAnn

/-- impl.isOrder, loop -/
def i_isOrder_l0_s2_p : SPat := ⟨[.undef, .int .i64, .undef, .undef, .undef, .int .i64, .undef, .undef, .slice ⟨0, 1, 0, 8⟩ 8 8 1 true, .intC .i64 8, .int .i64] ++ List.replicate 30 .undef, [[.vals [.int .i64], .ints .u8 8, .ints .u8 8]]⟩
def i_isOrder_l0_s2_o0 : SPat := ⟨[.undef, .undef, .undef, .undef, .boolC false] ++ List.replicate 36 .undef, [[.vals [.int .i64], .ints .u8 8, .ints .u8 8]]⟩
def i_isOrder_l0_s2_o1 : SPat := ⟨[.undef, .int .i64, .undef, .undef, .undef, .int .i64] ++ List.replicate 35 .undef, [[.vals [.int .i64], .ints .u8 8, .ints .u8 8]]⟩
theorem i_isOrder_l0_s2_round {α : Type} (N : Nat) (n : Int) (seen : Int) (t10 : Int) (h0_0 : Int) (h0_1 : Nat → Int) (h0_2 : Nat → Int) (kn : St → Option α) (K : AExit → St → Option α) :
    roundK Try.prog (A_i_isOrder_l0 α N) 1 1 49 Try.f49 3 1 (buildS i_isOrder_l0_s2_p [.i n, .i seen, .i t10, .i h0_0, .f h0_1, .f h0_2]) kn K = i_isOrder_l0_s2_s none n h0_0 h0_1 h0_2 seen t10 (fun seen t10 => kn (buildS i_isOrder_l0_s2_p [.i n, .i seen, .i t10, .i h0_0, .f h0_1, .f h0_2])) (K .ret (buildS i_isOrder_l0_s2_o0 [.i h0_0, .f h0_1, .f h0_2])) (fun seen_ => K (.exit 0) (buildS i_isOrder_l0_s2_o1 [.i n, .i seen_, .i h0_0, .f h0_1, .f h0_2])) := by kernel_rfl
theorem i_isOrder_l0_s2_loop {α : Type} (N : Nat) (n : Int) (h0_0 : Int) (h0_1 : Nat → Int) (h0_2 : Nat → Int) (K : AExit → St → Option α) : ∀ (m : Nat) (seen : Int) (t10 : Int),
    loopN (trimSt ((A_i_isOrder_l0 α N).ann 49 3).head ((A_i_isOrder_l0 α N).ann 49 3).grow 1) (bodyK Try.prog (A_i_isOrder_l0 α N) 1 1 49 Try.f49 3) m (buildS i_isOrder_l0_s2_p [.i n, .i seen, .i t10, .i h0_0, .f h0_1, .f h0_2]) (leaveLoop ((A_i_isOrder_l0 α N).ann 49 3) 1 K) = i_isOrder_l0_s2 none n h0_0 h0_1 h0_2 m seen t10 (K .ret (buildS i_isOrder_l0_s2_o0 [.i h0_0, .f h0_1, .f h0_2])) (fun seen_ => K (.exit 0) (buildS i_isOrder_l0_s2_o1 [.i n, .i seen_, .i h0_0, .f h0_1, .f h0_2])) := by
  intro m
  induction m with
  | zero => intros; rfl
  | succ m ih =>
    intro seen t10
    rw [loopN_round]
    refine (i_isOrder_l0_s2_round N n seen t10 h0_0 h0_1 h0_2 _ K).trans ?_
    simp only [ih]
    rfl
def E_i_isOrder_l0_s2 (α : Type) (N : Nat) : Env α := (A_i_isOrder_l0 α N).addLoop2 49 3 (loopSum2 ((A_i_isOrder_l0 α N).ann 49 3) 1 i_isOrder_l0_s2_p (fun l K => match l with
    | [.i n, .i seen, .i t10, .i h0_0, .f h0_1, .f h0_2] => i_isOrder_l0_s2 none n h0_0 h0_1 h0_2 N seen t10 (K .ret (buildS i_isOrder_l0_s2_o0 [.i h0_0, .f h0_1, .f h0_2])) (fun seen_ => K (.exit 0) (buildS i_isOrder_l0_s2_o1 [.i n, .i seen_, .i h0_0, .f h0_1, .f h0_2]))
    | _ => none) ((A_i_isOrder_l0 α N).ls 49 3))
theorem E_i_isOrder_l0_s2_ok {α : Type} (N : Nat) : EnvOk Try.prog (E_i_isOrder_l0_s2 α N) := (A_i_isOrder_l0_ok N).addLoop2 Try.func49 (by kernel_rfl) (loopSum_ok prog_mixed prog_names (A_i_isOrder_l0_ok N) Try.func49 (by kernel_rfl) (d := 1) (ro := 1) fun l K r h => by
  split at h
  · exact (i_isOrder_l0_s2_loop N _ _ _ _ K N _ _).trans h
  · cases h)

/-- impl.isOrder -/
def i_isOrder_s2_a : SPat := ⟨[.slice ⟨0, 1, 0, 8⟩ 8 8 1 true, .int .i64], [[.vals [.int .i64], .ints .u8 8, .ints .u8 8]]⟩
def i_isOrder_s2_r0 : SPat := ⟨[.bool], [[.vals [.int .i64], .ints .u8 8, .ints .u8 8]]⟩
theorem i_isOrder_s2_run {α : Type} (N : Nat) (n : Int) (h0_0 : Int) (h0_1 : Nat → Int) (h0_2 : Nat → Int) (K : AV → Heap → Option α) :
    callK Try.prog (E_i_isOrder_l0_s2 α N) 1 49 1 (buildS i_isOrder_s2_a [.i n, .i h0_0, .f h0_1, .f h0_2]).t (buildS i_isOrder_s2_a [.i n, .i h0_0, .f h0_1, .f h0_2]).h K = i_isOrder_s2 none N n h0_0 h0_1 h0_2 (fun r__ => retK (buildS i_isOrder_s2_r0 [.b r__, .i h0_0, .f h0_1, .f h0_2]) K) := by kernel_rfl
def E_i_isOrder_s2 (α : Type) (N : Nat) : Env α := (E_i_isOrder_l0_s2 α N).addFun 49 true 1 i_isOrder_s2_a (fun l K => match l with
    | [.i n, .i h0_0, .f h0_1, .f h0_2] => i_isOrder_s2 none N n h0_0 h0_1 h0_2 (fun r__ => retK (buildS i_isOrder_s2_r0 [.b r__, .i h0_0, .f h0_1, .f h0_2]) K)
    | _ => none)
theorem E_i_isOrder_s2_ok {α : Type} (N : Nat) : EnvOk Try.prog (E_i_isOrder_s2 α N) := (E_i_isOrder_l0_s2_ok N).addFun prog_mixed prog_names (d := 1) fun l K r h => by
  split at h
  · exact (i_isOrder_s2_run N _ _ _ _ K).trans h
  · cases h

/-- impl.isOrder, loop -/
def i_isOrder_l0_s3_p : SPat := ⟨[.undef, .int .i64, .undef, .undef, .undef, .int .i64, .undef, .undef, .slice ⟨0, 2, 0, 8⟩ 8 8 1 true, .intC .i64 8, .int .i64] ++ List.replicate 30 .undef, [[.vals [.int .i64], .ints .u8 8, .ints .u8 8]]⟩
def i_isOrder_l0_s3_o0 : SPat := ⟨[.undef, .undef, .undef, .undef, .boolC false] ++ List.replicate 36 .undef, [[.vals [.int .i64], .ints .u8 8, .ints .u8 8]]⟩
def i_isOrder_l0_s3_o1 : SPat := ⟨[.undef, .int .i64, .undef, .undef, .undef, .int .i64] ++ List.replicate 35 .undef, [[.vals [.int .i64], .ints .u8 8, .ints .u8 8]]⟩
theorem i_isOrder_l0_s3_round {α : Type} (N : Nat) (n : Int) (seen : Int) (t10 : Int) (h0_0 : Int) (h0_1 : Nat → Int) (h0_2 : Nat → Int) (kn : St → Option α) (K : AExit → St → Option α) :
    roundK Try.prog (E_i_isOrder_s2 α N) 1 1 49 Try.f49 3 1 (buildS i_isOrder_l0_s3_p [.i n, .i seen, .i t10, .i h0_0, .f h0_1, .f h0_2]) kn K = i_isOrder_l0_s3_s none n h0_0 h0_1 h0_2 seen t10 (fun seen t10 => kn (buildS i_isOrder_l0_s3_p [.i n, .i seen, .i t10, .i h0_0, .f h0_1, .f h0_2])) (K .ret (buildS i_isOrder_l0_s3_o0 [.i h0_0, .f h0_1, .f h0_2])) (fun seen_ => K (.exit 0) (buildS i_isOrder_l0_s3_o1 [.i n, .i seen_, .i h0_0, .f h0_1, .f h0_2])) := by kernel_rfl
theorem i_isOrder_l0_s3_loop {α : Type} (N : Nat) (n : Int) (h0_0 : Int) (h0_1 : Nat → Int) (h0_2 : Nat → Int) (K : AExit → St → Option α) : ∀ (m : Nat) (seen : Int) (t10 : Int),
    loopN (trimSt ((E_i_isOrder_s2 α N).ann 49 3).head ((E_i_isOrder_s2 α N).ann 49 3).grow 1) (bodyK Try.prog (E_i_isOrder_s2 α N) 1 1 49 Try.f49 3) m (buildS i_isOrder_l0_s3_p [.i n, .i seen, .i t10, .i h0_0, .f h0_1, .f h0_2]) (leaveLoop ((E_i_isOrder_s2 α N).ann 49 3) 1 K) = i_isOrder_l0_s3 none n h0_0 h0_1 h0_2 m seen t10 (K .ret (buildS i_isOrder_l0_s3_o0 [.i h0_0, .f h0_1, .f h0_2])) (fun seen_ => K (.exit 0) (buildS i_isOrder_l0_s3_o1 [.i n, .i seen_, .i h0_0, .f h0_1, .f h0_2])) := by
  intro m
  induction m with
  | zero => intros; rfl
  | succ m ih =>
    intro seen t10
    rw [loopN_round]
    refine (i_isOrder_l0_s3_round N n seen t10 h0_0 h0_1 h0_2 _ K).trans ?_
    simp only [ih]
    rfl
def E_i_isOrder_l0_s3 (α : Type) (N : Nat) : Env α := (E_i_isOrder_s2 α N).addLoop2 49 3 (loopSum2 ((E_i_isOrder_s2 α N).ann 49 3) 1 i_isOrder_l0_s3_p (fun l K => match l with
    | [.i n, .i seen, .i t10, .i h0_0, .f h0_1, .f h0_2] => i_isOrder_l0_s3 none n h0_0 h0_1 h0_2 N seen t10 (K .ret (buildS i_isOrder_l0_s3_o0 [.i h0_0, .f h0_1, .f h0_2])) (fun seen_ => K (.exit 0) (buildS i_isOrder_l0_s3_o1 [.i n, .i seen_, .i h0_0, .f h0_1, .f h0_2]))
    | _ => none) ((E_i_isOrder_s2 α N).ls 49 3))
theorem E_i_isOrder_l0_s3_ok {α : Type} (N : Nat) : EnvOk Try.prog (E_i_isOrder_l0_s3 α N) := (E_i_isOrder_s2_ok N).addLoop2 Try.func49 (by kernel_rfl) (loopSum_ok prog_mixed prog_names (E_i_isOrder_s2_ok N) Try.func49 (by kernel_rfl) (d := 1) (ro := 1) fun l K r h => by
  split at h
  · exact (i_isOrder_l0_s3_loop N _ _ _ _ K N _ _).trans h
  · cases h)

/-- impl.isOrder -/
def i_isOrder_s3_a : SPat := ⟨[.slice ⟨0, 2, 0, 8⟩ 8 8 1 true, .int .i64], [[.vals [.int .i64], .ints .u8 8, .ints .u8 8]]⟩
def i_isOrder_s3_r0 : SPat := ⟨[.bool], [[.vals [.int .i64], .ints .u8 8, .ints .u8 8]]⟩
theorem i_isOrder_s3_run {α : Type} (N : Nat) (n : Int) (h0_0 : Int) (h0_1 : Nat → Int) (h0_2 : Nat → Int) (K : AV → Heap → Option α) :
    callK Try.prog (E_i_isOrder_l0_s3 α N) 1 49 1 (buildS i_isOrder_s3_a [.i n, .i h0_0, .f h0_1, .f h0_2]).t (buildS i_isOrder_s3_a [.i n, .i h0_0, .f h0_1, .f h0_2]).h K = i_isOrder_s3 none N n h0_0 h0_1 h0_2 (fun r__ => retK (buildS i_isOrder_s3_r0 [.b r__, .i h0_0, .f h0_1, .f h0_2]) K) := by kernel_rfl
def E_i_isOrder_s3 (α : Type) (N : Nat) : Env α := (E_i_isOrder_l0_s3 α N).addFun 49 true 1 i_isOrder_s3_a (fun l K => match l with
    | [.i n, .i h0_0, .f h0_1, .f h0_2] => i_isOrder_s3 none N n h0_0 h0_1 h0_2 (fun r__ => retK (buildS i_isOrder_s3_r0 [.b r__, .i h0_0, .f h0_1, .f h0_2]) K)
    | _ => none)
theorem E_i_isOrder_s3_ok {α : Type} (N : Nat) : EnvOk Try.prog (E_i_isOrder_s3 α N) := (E_i_isOrder_l0_s3_ok N).addFun prog_mixed prog_names (d := 1) fun l K r h => by
  split at h
  · exact (i_isOrder_s3_run N _ _ _ _ K).trans h
  · cases h

def A_i_IsGrid_l0 (α : Type) (N : Nat) : Env α := (E_i_isOrder_s3 α N).addAnn 65 4 { head := [1, 25, 26], grow := [], out := [], ret := [2] }
theorem A_i_IsGrid_l0_ok {α : Type} (N : Nat) : EnvOk Try.prog (A_i_IsGrid_l0 α N) := (E_i_isOrder_s3_ok N).addAnn

/-- impl.IsGrid, loop -/
def i_IsGrid_l0_p : SPat := ⟨[.undef, .ptr ⟨0, 0, 0, 1⟩, .undef, .undef, .undef, .undef, .undef, .undef, .undef, .undef, .undef, .undef, .undef, .undef, .undef, .undef, .undef, .undef, .undef, .undef, .undef, .undef, .undef, .undef, .undef, .int .i64, .int .i64] ++ List.replicate 12 .undef, [[.vals [.int .i64], .ints .u8 8, .ints .u8 8]]⟩
def i_IsGrid_l0_o0 : SPat := ⟨[.undef, .undef, .boolC false] ++ List.replicate 36 .undef, [[.vals [.int .i64], .ints .u8 8, .ints .u8 8]]⟩
def i_IsGrid_l0_o1 : SPat := ⟨[] ++ List.replicate 39 .undef, [[.vals [.int .i64], .ints .u8 8, .ints .u8 8]]⟩
theorem i_IsGrid_l0_round {α : Type} (N : Nat) (t25 : Int) (t26 : Int) (h0_0 : Int) (h0_1 : Nat → Int) (h0_2 : Nat → Int) (kn : St → Option α) (K : AExit → St → Option α) :
    roundK Try.prog (A_i_IsGrid_l0 α N) 1 0 65 Try.f65 4 1 (buildS i_IsGrid_l0_p [.i t25, .i t26, .i h0_0, .f h0_1, .f h0_2]) kn K = i_IsGrid_l0_s none t25 h0_0 h0_1 h0_2 t26 (fun t26 => kn (buildS i_IsGrid_l0_p [.i t25, .i t26, .i h0_0, .f h0_1, .f h0_2])) (K .ret (buildS i_IsGrid_l0_o0 [.i h0_0, .f h0_1, .f h0_2])) (K (.exit 0) (buildS i_IsGrid_l0_o1 [.i h0_0, .f h0_1, .f h0_2])) := by kernel_rfl
theorem i_IsGrid_l0_loop {α : Type} (N : Nat) (t25 : Int) (h0_0 : Int) (h0_1 : Nat → Int) (h0_2 : Nat → Int) (K : AExit → St → Option α) : ∀ (m : Nat) (t26 : Int),
    loopN (trimSt ((A_i_IsGrid_l0 α N).ann 65 4).head ((A_i_IsGrid_l0 α N).ann 65 4).grow 1) (bodyK Try.prog (A_i_IsGrid_l0 α N) 1 0 65 Try.f65 4) m (buildS i_IsGrid_l0_p [.i t25, .i t26, .i h0_0, .f h0_1, .f h0_2]) (leaveLoop ((A_i_IsGrid_l0 α N).ann 65 4) 1 K) = i_IsGrid_l0 none t25 h0_0 h0_1 h0_2 m t26 (K .ret (buildS i_IsGrid_l0_o0 [.i h0_0, .f h0_1, .f h0_2])) (K (.exit 0) (buildS i_IsGrid_l0_o1 [.i h0_0, .f h0_1, .f h0_2])) := by
  intro m
  induction m with
  | zero => intros; rfl
  | succ m ih =>
    intro t26
    rw [loopN_round]
    refine (i_IsGrid_l0_round N t25 t26 h0_0 h0_1 h0_2 _ K).trans ?_
    simp only [ih]
    rfl
def E_i_IsGrid_l0 (α : Type) (N : Nat) : Env α := (A_i_IsGrid_l0 α N).addLoop2 65 4 (loopSum2 ((A_i_IsGrid_l0 α N).ann 65 4) 0 i_IsGrid_l0_p (fun l K => match l with
    | [.i t25, .i t26, .i h0_0, .f h0_1, .f h0_2] => i_IsGrid_l0 none t25 h0_0 h0_1 h0_2 N t26 (K .ret (buildS i_IsGrid_l0_o0 [.i h0_0, .f h0_1, .f h0_2])) (K (.exit 0) (buildS i_IsGrid_l0_o1 [.i h0_0, .f h0_1, .f h0_2]))
    | _ => none) ((A_i_IsGrid_l0 α N).ls 65 4))
theorem E_i_IsGrid_l0_ok {α : Type} (N : Nat) : EnvOk Try.prog (E_i_IsGrid_l0 α N) := (A_i_IsGrid_l0_ok N).addLoop2 Try.func65 (by kernel_rfl) (loopSum_ok prog_mixed prog_names (A_i_IsGrid_l0_ok N) Try.func65 (by kernel_rfl) (d := 1) (ro := 0) fun l K r h => by
  split at h
  · exact (i_IsGrid_l0_loop N _ _ _ _ K N _).trans h
  · cases h)

/-- impl.IsGrid -/
def i_IsGrid_a : SPat := ⟨[.agg [.vals [.int .i64], .ints .u8 8, .ints .u8 8]], []⟩
def i_IsGrid_r0 : SPat := ⟨[.bool], []⟩
theorem i_IsGrid_run {α : Type} (N : Nat) (g_0 : Int) (g_1 : Nat → Int) (g_2 : Nat → Int) (K : AV → Heap → Option α) :
    callK Try.prog (E_i_IsGrid_l0 α N) 1 65 0 (buildS i_IsGrid_a [.i g_0, .f g_1, .f g_2]).t (buildS i_IsGrid_a [.i g_0, .f g_1, .f g_2]).h K = i_IsGrid none N g_0 g_1 g_2 (fun r__ => retK (buildS i_IsGrid_r0 [.b r__]) K) := by kernel_rfl
def E_i_IsGrid (α : Type) (N : Nat) : Env α := (E_i_IsGrid_l0 α N).addFun 65 true 0 i_IsGrid_a (fun l K => match l with
    | [.i g_0, .f g_1, .f g_2] => i_IsGrid none N g_0 g_1 g_2 (fun r__ => retK (buildS i_IsGrid_r0 [.b r__]) K)
    | _ => none)
theorem E_i_IsGrid_ok {α : Type} (N : Nat) : EnvOk Try.prog (E_i_IsGrid α N) := (E_i_IsGrid_l0_ok N).addFun prog_mixed prog_names (d := 1) fun l K r h => by
  split at h
  · exact (i_IsGrid_run N _ _ _ K).trans h
  · cases h

def A_i_Grid_directions_l0 (α : Type) (N : Nat) : Env α := (E_i_IsGrid α N).addAnn 62 3 { head := [1, 3, 7, 8], grow := [3], out := [3], ret := [2] }
theorem A_i_Grid_directions_l0_ok {α : Type} (N : Nat) : EnvOk Try.prog (A_i_Grid_directions_l0 α N) := (E_i_IsGrid_ok N).addAnn

/-- (impl.Grid).directions, loop -/
def i_Grid_directions_l0_p : SPat := ⟨[.undef, .ptr ⟨0, 0, 0, 1⟩, .undef, .sliceV 1 0 0 1 false, .undef, .undef, .undef, .int .i64, .int .i64] ++ List.replicate 19 .undef, [[.vals [.int .i64], .ints .u8 8, .ints .u8 8], [.vec .i64]]⟩
def i_Grid_directions_l0_o0 : SPat := ⟨[.undef, .undef, .undef, .sliceV 1 0 0 1 false] ++ List.replicate 24 .undef, [[.vals [.int .i64], .ints .u8 8, .ints .u8 8], [.vec .i64]]⟩
theorem i_Grid_directions_l0_round {α : Type} (N : Nat) (out_n : Nat) (out_l : Nat) (out_c : Nat) (t7 : Int) (t8 : Int) (h0_0 : Int) (h0_1 : Nat → Int) (h0_2 : Nat → Int) (h1 : List Int) (kn : St → Option α) (K : AExit → St → Option α) :
    roundK Try.prog (A_i_Grid_directions_l0 α N) 1 0 62 Try.f62 3 2 (buildS i_Grid_directions_l0_p [.n out_n, .n out_l, .n out_c, .i t7, .i t8, .i h0_0, .f h0_1, .f h0_2, .l h1]) kn K = i_Grid_directions_l0_s none t7 h0_0 h0_1 h0_2 out_n out_l out_c t8 h1 (fun out_n out_l out_c t8 h1 => kn (buildS i_Grid_directions_l0_p [.n out_n, .n out_l, .n out_c, .i t7, .i t8, .i h0_0, .f h0_1, .f h0_2, .l h1])) (fun out_n_ out_l_ out_c_ h1_ => K (.exit 0) (buildS i_Grid_directions_l0_o0 [.n out_n_, .n out_l_, .n out_c_, .i h0_0, .f h0_1, .f h0_2, .l h1_])) := by kernel_rfl
theorem i_Grid_directions_l0_loop {α : Type} (N : Nat) (t7 : Int) (h0_0 : Int) (h0_1 : Nat → Int) (h0_2 : Nat → Int) (K : AExit → St → Option α) : ∀ (m : Nat) (out_n : Nat) (out_l : Nat) (out_c : Nat) (t8 : Int) (h1 : List Int),
    loopN (trimSt ((A_i_Grid_directions_l0 α N).ann 62 3).head ((A_i_Grid_directions_l0 α N).ann 62 3).grow 2) (bodyK Try.prog (A_i_Grid_directions_l0 α N) 1 0 62 Try.f62 3) m (buildS i_Grid_directions_l0_p [.n out_n, .n out_l, .n out_c, .i t7, .i t8, .i h0_0, .f h0_1, .f h0_2, .l h1]) (leaveLoop ((A_i_Grid_directions_l0 α N).ann 62 3) 2 K) = i_Grid_directions_l0 none t7 h0_0 h0_1 h0_2 m out_n out_l out_c t8 h1 (fun out_n_ out_l_ out_c_ h1_ => K (.exit 0) (buildS i_Grid_directions_l0_o0 [.n out_n_, .n out_l_, .n out_c_, .i h0_0, .f h0_1, .f h0_2, .l h1_])) := by
  intro m
  induction m with
  | zero => intros; rfl
  | succ m ih =>
    intro out_n out_l out_c t8 h1
    rw [loopN_round]
    refine (i_Grid_directions_l0_round N out_n out_l out_c t7 t8 h0_0 h0_1 h0_2 h1 _ K).trans ?_
    simp only [ih]
    rfl
def E_i_Grid_directions_l0 (α : Type) (N : Nat) : Env α := (A_i_Grid_directions_l0 α N).addLoop2 62 3 (loopSum2 ((A_i_Grid_directions_l0 α N).ann 62 3) 0 i_Grid_directions_l0_p (fun l K => match l with
    | [.n out_n, .n out_l, .n out_c, .i t7, .i t8, .i h0_0, .f h0_1, .f h0_2, .l h1] => i_Grid_directions_l0 none t7 h0_0 h0_1 h0_2 N out_n out_l out_c t8 h1 (fun out_n_ out_l_ out_c_ h1_ => K (.exit 0) (buildS i_Grid_directions_l0_o0 [.n out_n_, .n out_l_, .n out_c_, .i h0_0, .f h0_1, .f h0_2, .l h1_]))
    | _ => none) ((A_i_Grid_directions_l0 α N).ls 62 3))
theorem E_i_Grid_directions_l0_ok {α : Type} (N : Nat) : EnvOk Try.prog (E_i_Grid_directions_l0 α N) := (A_i_Grid_directions_l0_ok N).addLoop2 Try.func62 (by kernel_rfl) (loopSum_ok prog_mixed prog_names (A_i_Grid_directions_l0_ok N) Try.func62 (by kernel_rfl) (d := 1) (ro := 0) fun l K r h => by
  split at h
  · exact (i_Grid_directions_l0_loop N _ _ _ _ K N _ _ _ _ _).trans h
  · cases h)

/-- (impl.Grid).directions -/
def i_Grid_directions_a : SPat := ⟨[.agg [.vals [.int .i64], .ints .u8 8, .ints .u8 8]], []⟩
def i_Grid_directions_r0 : SPat := ⟨[.sliceV 0 0 0 1 false], [[.vec .i64]]⟩
theorem i_Grid_directions_run {α : Type} (N : Nat) (g_0 : Int) (g_1 : Nat → Int) (g_2 : Nat → Int) (K : AV → Heap → Option α) :
    callK Try.prog (E_i_Grid_directions_l0 α N) 1 62 0 (buildS i_Grid_directions_a [.i g_0, .f g_1, .f g_2]).t (buildS i_Grid_directions_a [.i g_0, .f g_1, .f g_2]).h K = i_Grid_directions none N g_0 g_1 g_2 (fun r_n_ r_l_ r_c_ h0_ => retK (buildS i_Grid_directions_r0 [.n r_n_, .n r_l_, .n r_c_, .l h0_]) K) := by kernel_rfl
def E_i_Grid_directions (α : Type) (N : Nat) : Env α := (E_i_Grid_directions_l0 α N).addFun 62 true 0 i_Grid_directions_a (fun l K => match l with
    | [.i g_0, .f g_1, .f g_2] => i_Grid_directions none N g_0 g_1 g_2 (fun r_n_ r_l_ r_c_ h0_ => retK (buildS i_Grid_directions_r0 [.n r_n_, .n r_l_, .n r_c_, .l h0_]) K)
    | _ => none)
theorem E_i_Grid_directions_ok {α : Type} (N : Nat) : EnvOk Try.prog (E_i_Grid_directions α N) := (E_i_Grid_directions_l0_ok N).addFun prog_mixed prog_names (d := 1) fun l K r h => by
  split at h
  · exact (i_Grid_directions_run N _ _ _ K).trans h
  · cases h

/-- impl.whole[[]int64] -/
def i_whole_int64_a : SPat := ⟨[.agg [.vals [.int .i64], .ints .u8 8, .ints .u8 8], .func 62 []], []⟩
def i_whole_int64_r0 : SPat := ⟨[.tuple [.nils, .int .i64]], []⟩
def i_whole_int64_r1 : SPat := ⟨[.tuple [.sliceV 0 0 0 1 false, .int .i64]], [[.vec .i64]]⟩
theorem i_whole_int64_run {α : Type} (N : Nat) (g_0 : Int) (g_1 : Nat → Int) (g_2 : Nat → Int) (K : AV → Heap → Option α) :
    callK Try.prog (E_i_Grid_directions α N) 1 61 0 (buildS i_whole_int64_a [.i g_0, .f g_1, .f g_2]).t (buildS i_whole_int64_a [.i g_0, .f g_1, .f g_2]).h K = i_whole_int64 none N g_0 g_1 g_2 (fun r_1_ => retK (buildS i_whole_int64_r0 [.i r_1_]) K) (fun r_0_n_ r_0_l_ r_0_c_ r_1_ h0_ => retK (buildS i_whole_int64_r1 [.n r_0_n_, .n r_0_l_, .n r_0_c_, .i r_1_, .l h0_]) K) := by kernel_rfl
def E_i_whole_int64 (α : Type) (N : Nat) : Env α := (E_i_Grid_directions α N).addFun 61 true 0 i_whole_int64_a (fun l K => match l with
    | [.i g_0, .f g_1, .f g_2] => i_whole_int64 none N g_0 g_1 g_2 (fun r_1_ => retK (buildS i_whole_int64_r0 [.i r_1_]) K) (fun r_0_n_ r_0_l_ r_0_c_ r_1_ h0_ => retK (buildS i_whole_int64_r1 [.n r_0_n_, .n r_0_l_, .n r_0_c_, .i r_1_, .l h0_]) K)
    | _ => none)
theorem E_i_whole_int64_ok {α : Type} (N : Nat) : EnvOk Try.prog (E_i_whole_int64 α N) := (E_i_Grid_directions_ok N).addFun prog_mixed prog_names (d := 1) fun l K r h => by
  split at h
  · exact (i_whole_int64_run N _ _ _ K).trans h
  · cases h

/-- impl.DirectionsOf -/
def i_DirectionsOf_a : SPat := ⟨[.agg [.vals [.int .i64], .ints .u8 8, .ints .u8 8]], []⟩
def i_DirectionsOf_r0 : SPat := ⟨[.tuple [.nils, .int .i64]], []⟩
def i_DirectionsOf_r1 : SPat := ⟨[.tuple [.sliceV 0 0 0 1 false, .int .i64]], [[.vec .i64]]⟩
theorem i_DirectionsOf_run {α : Type} (N : Nat) (g_0 : Int) (g_1 : Nat → Int) (g_2 : Nat → Int) (K : AV → Heap → Option α) :
    callK Try.prog (E_i_whole_int64 α N) 1 34 0 (buildS i_DirectionsOf_a [.i g_0, .f g_1, .f g_2]).t (buildS i_DirectionsOf_a [.i g_0, .f g_1, .f g_2]).h K = i_DirectionsOf none N g_0 g_1 g_2 (fun r_1_ => retK (buildS i_DirectionsOf_r0 [.i r_1_]) K) (fun r_0_n_ r_0_l_ r_0_c_ r_1_ h0_ => retK (buildS i_DirectionsOf_r1 [.n r_0_n_, .n r_0_l_, .n r_0_c_, .i r_1_, .l h0_]) K) := by kernel_rfl
def E_i_DirectionsOf (α : Type) (N : Nat) : Env α := (E_i_whole_int64 α N).addFun 34 true 0 i_DirectionsOf_a (fun l K => match l with
    | [.i g_0, .f g_1, .f g_2] => i_DirectionsOf none N g_0 g_1 g_2 (fun r_1_ => retK (buildS i_DirectionsOf_r0 [.i r_1_]) K) (fun r_0_n_ r_0_l_ r_0_c_ r_1_ h0_ => retK (buildS i_DirectionsOf_r1 [.n r_0_n_, .n r_0_l_, .n r_0_c_, .i r_1_, .l h0_]) K)
    | _ => none)
theorem E_i_DirectionsOf_ok {α : Type} (N : Nat) : EnvOk Try.prog (E_i_DirectionsOf α N) := (E_i_whole_int64_ok N).addFun prog_mixed prog_names (d := 1) fun l K r h => by
  split at h
  · exact (i_DirectionsOf_run N _ _ _ K).trans h
  · cases h

def A_w_eqInt64S_l0 (α : Type) (N : Nat) : Env α := (E_i_DirectionsOf α N).addAnn 21 4 { head := [0, 1, 5], grow := [], out := [], ret := [4] }
theorem A_w_eqInt64S_l0_ok {α : Type} (N : Nat) : EnvOk Try.prog (A_w_eqInt64S_l0 α N) := (E_i_DirectionsOf_ok N).addAnn

/-- laws.eqInt64S, loop -/
def w_eqInt64S_l0_p : SPat := ⟨[.nils, .nils, .undef, .undef, .undef, .int .i64] ++ List.replicate 20 .undef, []⟩
def w_eqInt64S_l0_o0 : SPat := ⟨[] ++ List.replicate 26 .undef, []⟩
theorem w_eqInt64S_l0_round {α : Type} (N : Nat) (i : Int) (kn : St → Option α) (K : AExit → St → Option α) :
    roundK Try.prog (A_w_eqInt64S_l0 α N) 1 0 21 Try.f21 4 0 (buildS w_eqInt64S_l0_p [.i i]) kn K = w_eqInt64S_l0_s none i  (kn (buildS w_eqInt64S_l0_p [.i i])) (K (.exit 0) (buildS w_eqInt64S_l0_o0 [])) := by kernel_rfl
theorem w_eqInt64S_l0_loop {α : Type} (N : Nat) (i : Int) (K : AExit → St → Option α) : ∀ (m : Nat),
    loopN (trimSt ((A_w_eqInt64S_l0 α N).ann 21 4).head ((A_w_eqInt64S_l0 α N).ann 21 4).grow 0) (bodyK Try.prog (A_w_eqInt64S_l0 α N) 1 0 21 Try.f21 4) m (buildS w_eqInt64S_l0_p [.i i]) (leaveLoop ((A_w_eqInt64S_l0 α N).ann 21 4) 0 K) = w_eqInt64S_l0 none i m  (K (.exit 0) (buildS w_eqInt64S_l0_o0 [])) := by
  intro m
  induction m with
  | zero => intros; rfl
  | succ m ih =>
    rw [loopN_round]
    refine (w_eqInt64S_l0_round N i _ K).trans ?_
    simp only [ih]
    rfl
def E_w_eqInt64S_l0 (α : Type) (N : Nat) : Env α := (A_w_eqInt64S_l0 α N).addLoop2 21 4 (loopSum2 ((A_w_eqInt64S_l0 α N).ann 21 4) 0 w_eqInt64S_l0_p (fun l K => match l with
    | [.i i] => w_eqInt64S_l0 none i N  (K (.exit 0) (buildS w_eqInt64S_l0_o0 []))
    | _ => none) ((A_w_eqInt64S_l0 α N).ls 21 4))
theorem E_w_eqInt64S_l0_ok {α : Type} (N : Nat) : EnvOk Try.prog (E_w_eqInt64S_l0 α N) := (A_w_eqInt64S_l0_ok N).addLoop2 Try.func21 (by kernel_rfl) (loopSum_ok prog_mixed prog_names (A_w_eqInt64S_l0_ok N) Try.func21 (by kernel_rfl) (d := 1) (ro := 0) fun l K r h => by
  split at h
  · exact (w_eqInt64S_l0_loop N _ K N ).trans h
  · cases h)

/-- laws.eqInt64S -/
def w_eqInt64S_a : SPat := ⟨[.nils, .nils], []⟩
def w_eqInt64S_r0 : SPat := ⟨[.bool], []⟩
theorem w_eqInt64S_run {α : Type} (N : Nat)  (K : AV → Heap → Option α) :
    callK Try.prog (E_w_eqInt64S_l0 α N) 1 21 0 (buildS w_eqInt64S_a []).t (buildS w_eqInt64S_a []).h K = w_eqInt64S none N  (fun r__ => retK (buildS w_eqInt64S_r0 [.b r__]) K) := by kernel_rfl
def E_w_eqInt64S (α : Type) (N : Nat) : Env α := (E_w_eqInt64S_l0 α N).addFun 21 true 0 w_eqInt64S_a (fun l K => match l with
    | [] => w_eqInt64S none N  (fun r__ => retK (buildS w_eqInt64S_r0 [.b r__]) K)
    | _ => none)
theorem E_w_eqInt64S_ok {α : Type} (N : Nat) : EnvOk Try.prog (E_w_eqInt64S α N) := (E_w_eqInt64S_l0_ok N).addFun prog_mixed prog_names (d := 1) fun l K r h => by
  split at h
  · exact (w_eqInt64S_run N  K).trans h
  · cases h

def A_w_markInt64S_l0 (α : Type) (N : Nat) : Env α := (E_w_eqInt64S α N).addAnn 22 2 { head := [0, 1, 5], grow := [], out := [1], ret := [4] }
theorem A_w_markInt64S_l0_ok {α : Type} (N : Nat) : EnvOk Try.prog (A_w_markInt64S_l0 α N) := (E_w_eqInt64S_ok N).addAnn

/-- laws.markInt64S, loop -/
def w_markInt64S_l0_p : SPat := ⟨[.nils, .int .i64, .undef, .undef, .undef, .int .i64] ++ List.replicate 13 .undef, []⟩
def w_markInt64S_l0_o0 : SPat := ⟨[.undef, .int .i64] ++ List.replicate 17 .undef, []⟩
theorem w_markInt64S_l0_round {α : Type} (N : Nat) (k : Int) (i : Int) (kn : St → Option α) (K : AExit → St → Option α) :
    roundK Try.prog (A_w_markInt64S_l0 α N) 1 0 22 Try.f22 2 0 (buildS w_markInt64S_l0_p [.i k, .i i]) kn K = w_markInt64S_l0_s none k i  (kn (buildS w_markInt64S_l0_p [.i k, .i i])) (K (.exit 0) (buildS w_markInt64S_l0_o0 [.i k])) := by kernel_rfl
theorem w_markInt64S_l0_loop {α : Type} (N : Nat) (k : Int) (i : Int) (K : AExit → St → Option α) : ∀ (m : Nat),
    loopN (trimSt ((A_w_markInt64S_l0 α N).ann 22 2).head ((A_w_markInt64S_l0 α N).ann 22 2).grow 0) (bodyK Try.prog (A_w_markInt64S_l0 α N) 1 0 22 Try.f22 2) m (buildS w_markInt64S_l0_p [.i k, .i i]) (leaveLoop ((A_w_markInt64S_l0 α N).ann 22 2) 0 K) = w_markInt64S_l0 none k i m  (K (.exit 0) (buildS w_markInt64S_l0_o0 [.i k])) := by
  intro m
  induction m with
  | zero => intros; rfl
  | succ m ih =>
    rw [loopN_round]
    refine (w_markInt64S_l0_round N k i _ K).trans ?_
    simp only [ih]
    rfl
def E_w_markInt64S_l0 (α : Type) (N : Nat) : Env α := (A_w_markInt64S_l0 α N).addLoop2 22 2 (loopSum2 ((A_w_markInt64S_l0 α N).ann 22 2) 0 w_markInt64S_l0_p (fun l K => match l with
    | [.i k, .i i] => w_markInt64S_l0 none k i N  (K (.exit 0) (buildS w_markInt64S_l0_o0 [.i k]))
    | _ => none) ((A_w_markInt64S_l0 α N).ls 22 2))
theorem E_w_markInt64S_l0_ok {α : Type} (N : Nat) : EnvOk Try.prog (E_w_markInt64S_l0 α N) := (A_w_markInt64S_l0_ok N).addLoop2 Try.func22 (by kernel_rfl) (loopSum_ok prog_mixed prog_names (A_w_markInt64S_l0_ok N) Try.func22 (by kernel_rfl) (d := 1) (ro := 0) fun l K r h => by
  split at h
  · exact (w_markInt64S_l0_loop N _ _ K N ).trans h
  · cases h)

/-- laws.markInt64S -/
def w_markInt64S_a : SPat := ⟨[.nils, .int .i64], []⟩
def w_markInt64S_r0 : SPat := ⟨[.int .i64], []⟩
theorem w_markInt64S_run {α : Type} (N : Nat) (k : Int) (K : AV → Heap → Option α) :
    callK Try.prog (E_w_markInt64S_l0 α N) 1 22 0 (buildS w_markInt64S_a [.i k]).t (buildS w_markInt64S_a [.i k]).h K = w_markInt64S none N k (retK (buildS w_markInt64S_r0 [.i k]) K) := by kernel_rfl
def E_w_markInt64S (α : Type) (N : Nat) : Env α := (E_w_markInt64S_l0 α N).addFun 22 false 0 w_markInt64S_a (fun l K => match l with
    | [.i k] => w_markInt64S none N k (retK (buildS w_markInt64S_r0 [.i k]) K)
    | _ => none)
theorem E_w_markInt64S_ok {α : Type} (N : Nat) : EnvOk Try.prog (E_w_markInt64S α N) := (E_w_markInt64S_l0_ok N).addFun prog_mixed prog_names (d := 1) fun l K r h => by
  split at h
  · exact (w_markInt64S_run N _ K).trans h
  · cases h

def A_w_heldInt64S_l0 (α : Type) (N : Nat) : Env α := (E_w_markInt64S α N).addAnn 23 2 { head := [0, 1, 5], grow := [], out := [1], ret := [4] }
theorem A_w_heldInt64S_l0_ok {α : Type} (N : Nat) : EnvOk Try.prog (A_w_heldInt64S_l0 α N) := (E_w_markInt64S_ok N).addAnn

/-- laws.heldInt64S, loop -/
def w_heldInt64S_l0_p : SPat := ⟨[.nils, .int .i64, .undef, .undef, .undef, .int .i64] ++ List.replicate 15 .undef, []⟩
def w_heldInt64S_l0_o0 : SPat := ⟨[.undef, .int .i64] ++ List.replicate 19 .undef, []⟩
theorem w_heldInt64S_l0_round {α : Type} (N : Nat) (k : Int) (i : Int) (kn : St → Option α) (K : AExit → St → Option α) :
    roundK Try.prog (A_w_heldInt64S_l0 α N) 1 0 23 Try.f23 2 0 (buildS w_heldInt64S_l0_p [.i k, .i i]) kn K = w_heldInt64S_l0_s none k i  (kn (buildS w_heldInt64S_l0_p [.i k, .i i])) (K (.exit 0) (buildS w_heldInt64S_l0_o0 [.i k])) := by kernel_rfl
theorem w_heldInt64S_l0_loop {α : Type} (N : Nat) (k : Int) (i : Int) (K : AExit → St → Option α) : ∀ (m : Nat),
    loopN (trimSt ((A_w_heldInt64S_l0 α N).ann 23 2).head ((A_w_heldInt64S_l0 α N).ann 23 2).grow 0) (bodyK Try.prog (A_w_heldInt64S_l0 α N) 1 0 23 Try.f23 2) m (buildS w_heldInt64S_l0_p [.i k, .i i]) (leaveLoop ((A_w_heldInt64S_l0 α N).ann 23 2) 0 K) = w_heldInt64S_l0 none k i m  (K (.exit 0) (buildS w_heldInt64S_l0_o0 [.i k])) := by
  intro m
  induction m with
  | zero => intros; rfl
  | succ m ih =>
    rw [loopN_round]
    refine (w_heldInt64S_l0_round N k i _ K).trans ?_
    simp only [ih]
    rfl
def E_w_heldInt64S_l0 (α : Type) (N : Nat) : Env α := (A_w_heldInt64S_l0 α N).addLoop2 23 2 (loopSum2 ((A_w_heldInt64S_l0 α N).ann 23 2) 0 w_heldInt64S_l0_p (fun l K => match l with
    | [.i k, .i i] => w_heldInt64S_l0 none k i N  (K (.exit 0) (buildS w_heldInt64S_l0_o0 [.i k]))
    | _ => none) ((A_w_heldInt64S_l0 α N).ls 23 2))
theorem E_w_heldInt64S_l0_ok {α : Type} (N : Nat) : EnvOk Try.prog (E_w_heldInt64S_l0 α N) := (A_w_heldInt64S_l0_ok N).addLoop2 Try.func23 (by kernel_rfl) (loopSum_ok prog_mixed prog_names (A_w_heldInt64S_l0_ok N) Try.func23 (by kernel_rfl) (d := 1) (ro := 0) fun l K r h => by
  split at h
  · exact (w_heldInt64S_l0_loop N _ _ K N ).trans h
  · cases h)

/-- laws.heldInt64S -/
def w_heldInt64S_a : SPat := ⟨[.nils, .int .i64], []⟩
def w_heldInt64S_r0 : SPat := ⟨[.int .i64], []⟩
theorem w_heldInt64S_run {α : Type} (N : Nat) (k : Int) (K : AV → Heap → Option α) :
    callK Try.prog (E_w_heldInt64S_l0 α N) 1 23 0 (buildS w_heldInt64S_a [.i k]).t (buildS w_heldInt64S_a [.i k]).h K = w_heldInt64S none N k (retK (buildS w_heldInt64S_r0 [.i k]) K) := by kernel_rfl
def E_w_heldInt64S (α : Type) (N : Nat) : Env α := (E_w_heldInt64S_l0 α N).addFun 23 true 0 w_heldInt64S_a (fun l K => match l with
    | [.i k] => w_heldInt64S none N k (retK (buildS w_heldInt64S_r0 [.i k]) K)
    | _ => none)
theorem E_w_heldInt64S_ok {α : Type} (N : Nat) : EnvOk Try.prog (E_w_heldInt64S α N) := (E_w_heldInt64S_l0_ok N).addFun prog_mixed prog_names (d := 1) fun l K r h => by
  split at h
  · exact (w_heldInt64S_run N _ K).trans h
  · cases h

/-- laws.eqInt64S, loop -/
def w_eqInt64S_l0_s3_p : SPat := ⟨[.sliceV 0 0 0 1 false, .nils, .undef, .undef, .undef, .int .i64] ++ List.replicate 20 .undef, [[.vec .i64]]⟩
def w_eqInt64S_l0_s3_o0 : SPat := ⟨[] ++ List.replicate 26 .undef, [[.vec .i64]]⟩
theorem w_eqInt64S_l0_s3_round {α : Type} (N : Nat) (a_n : Nat) (a_l : Nat) (a_c : Nat) (i : Int) (h0 : List Int) (kn : St → Option α) (K : AExit → St → Option α) :
    roundK Try.prog (E_w_heldInt64S α N) 1 1 21 Try.f21 4 1 (buildS w_eqInt64S_l0_s3_p [.n a_n, .n a_l, .n a_c, .i i, .l h0]) kn K = w_eqInt64S_l0_s3_s none a_n a_l a_c i h0  (kn (buildS w_eqInt64S_l0_s3_p [.n a_n, .n a_l, .n a_c, .i i, .l h0])) (K (.exit 0) (buildS w_eqInt64S_l0_s3_o0 [.l h0])) := by kernel_rfl
theorem w_eqInt64S_l0_s3_loop {α : Type} (N : Nat) (a_n : Nat) (a_l : Nat) (a_c : Nat) (i : Int) (h0 : List Int) (K : AExit → St → Option α) : ∀ (m : Nat),
    loopN (trimSt ((E_w_heldInt64S α N).ann 21 4).head ((E_w_heldInt64S α N).ann 21 4).grow 1) (bodyK Try.prog (E_w_heldInt64S α N) 1 1 21 Try.f21 4) m (buildS w_eqInt64S_l0_s3_p [.n a_n, .n a_l, .n a_c, .i i, .l h0]) (leaveLoop ((E_w_heldInt64S α N).ann 21 4) 1 K) = w_eqInt64S_l0_s3 none a_n a_l a_c i h0 m  (K (.exit 0) (buildS w_eqInt64S_l0_s3_o0 [.l h0])) := by
  intro m
  induction m with
  | zero => intros; rfl
  | succ m ih =>
    rw [loopN_round]
    refine (w_eqInt64S_l0_s3_round N a_n a_l a_c i h0 _ K).trans ?_
    simp only [ih]
    rfl
def E_w_eqInt64S_l0_s3 (α : Type) (N : Nat) : Env α := (E_w_heldInt64S α N).addLoop2 21 4 (loopSum2 ((E_w_heldInt64S α N).ann 21 4) 1 w_eqInt64S_l0_s3_p (fun l K => match l with
    | [.n a_n, .n a_l, .n a_c, .i i, .l h0] => w_eqInt64S_l0_s3 none a_n a_l a_c i h0 N  (K (.exit 0) (buildS w_eqInt64S_l0_s3_o0 [.l h0]))
    | _ => none) ((E_w_heldInt64S α N).ls 21 4))
theorem E_w_eqInt64S_l0_s3_ok {α : Type} (N : Nat) : EnvOk Try.prog (E_w_eqInt64S_l0_s3 α N) := (E_w_heldInt64S_ok N).addLoop2 Try.func21 (by kernel_rfl) (loopSum_ok prog_mixed prog_names (E_w_heldInt64S_ok N) Try.func21 (by kernel_rfl) (d := 1) (ro := 1) fun l K r h => by
  split at h
  · exact (w_eqInt64S_l0_s3_loop N _ _ _ _ _ K N ).trans h
  · cases h)

/-- laws.eqInt64S -/
def w_eqInt64S_s5_a : SPat := ⟨[.sliceV 0 0 0 1 false, .nils], [[.vec .i64]]⟩
def w_eqInt64S_s5_r0 : SPat := ⟨[.bool], [[.vec .i64]]⟩
theorem w_eqInt64S_s5_run {α : Type} (N : Nat) (a_n : Nat) (a_l : Nat) (a_c : Nat) (h0 : List Int) (K : AV → Heap → Option α) :
    callK Try.prog (E_w_eqInt64S_l0_s3 α N) 1 21 1 (buildS w_eqInt64S_s5_a [.n a_n, .n a_l, .n a_c, .l h0]).t (buildS w_eqInt64S_s5_a [.n a_n, .n a_l, .n a_c, .l h0]).h K = w_eqInt64S_s5 none N a_n a_l a_c h0 (fun r__ => retK (buildS w_eqInt64S_s5_r0 [.b r__, .l h0]) K) := by kernel_rfl
def E_w_eqInt64S_s5 (α : Type) (N : Nat) : Env α := (E_w_eqInt64S_l0_s3 α N).addFun 21 true 1 w_eqInt64S_s5_a (fun l K => match l with
    | [.n a_n, .n a_l, .n a_c, .l h0] => w_eqInt64S_s5 none N a_n a_l a_c h0 (fun r__ => retK (buildS w_eqInt64S_s5_r0 [.b r__, .l h0]) K)
    | _ => none)
theorem E_w_eqInt64S_s5_ok {α : Type} (N : Nat) : EnvOk Try.prog (E_w_eqInt64S_s5 α N) := (E_w_eqInt64S_l0_s3_ok N).addFun prog_mixed prog_names (d := 1) fun l K r h => by
  split at h
  · exact (w_eqInt64S_s5_run N _ _ _ _ K).trans h
  · cases h

/-- laws.markInt64S, loop -/
def w_markInt64S_l0_s3_p : SPat := ⟨[.sliceV 0 0 0 1 false, .int .i64, .undef, .undef, .undef, .int .i64] ++ List.replicate 13 .undef, [[.vec .i64]]⟩
def w_markInt64S_l0_s3_o0 : SPat := ⟨[.undef, .int .i64] ++ List.replicate 17 .undef, [[.vec .i64]]⟩
theorem w_markInt64S_l0_s3_round {α : Type} (N : Nat) (a_n : Nat) (a_l : Nat) (a_c : Nat) (k : Int) (i : Int) (h0 : List Int) (kn : St → Option α) (K : AExit → St → Option α) :
    roundK Try.prog (E_w_eqInt64S_s5 α N) 1 0 22 Try.f22 2 1 (buildS w_markInt64S_l0_s3_p [.n a_n, .n a_l, .n a_c, .i k, .i i, .l h0]) kn K = w_markInt64S_l0_s3_s none a_n a_l a_c k i h0 (fun k i h0 => kn (buildS w_markInt64S_l0_s3_p [.n a_n, .n a_l, .n a_c, .i k, .i i, .l h0])) (fun k_ h0_ => K (.exit 0) (buildS w_markInt64S_l0_s3_o0 [.i k_, .l h0_])) := by kernel_rfl
theorem w_markInt64S_l0_s3_loop {α : Type} (N : Nat) (a_n : Nat) (a_l : Nat) (a_c : Nat) (K : AExit → St → Option α) : ∀ (m : Nat) (k : Int) (i : Int) (h0 : List Int),
    loopN (trimSt ((E_w_eqInt64S_s5 α N).ann 22 2).head ((E_w_eqInt64S_s5 α N).ann 22 2).grow 1) (bodyK Try.prog (E_w_eqInt64S_s5 α N) 1 0 22 Try.f22 2) m (buildS w_markInt64S_l0_s3_p [.n a_n, .n a_l, .n a_c, .i k, .i i, .l h0]) (leaveLoop ((E_w_eqInt64S_s5 α N).ann 22 2) 1 K) = w_markInt64S_l0_s3 none a_n a_l a_c m k i h0 (fun k_ h0_ => K (.exit 0) (buildS w_markInt64S_l0_s3_o0 [.i k_, .l h0_])) := by
  intro m
  induction m with
  | zero => intros; rfl
  | succ m ih =>
    intro k i h0
    rw [loopN_round]
    refine (w_markInt64S_l0_s3_round N a_n a_l a_c k i h0 _ K).trans ?_
    simp only [ih]
    rfl
def E_w_markInt64S_l0_s3 (α : Type) (N : Nat) : Env α := (E_w_eqInt64S_s5 α N).addLoop2 22 2 (loopSum2 ((E_w_eqInt64S_s5 α N).ann 22 2) 0 w_markInt64S_l0_s3_p (fun l K => match l with
    | [.n a_n, .n a_l, .n a_c, .i k, .i i, .l h0] => w_markInt64S_l0_s3 none a_n a_l a_c N k i h0 (fun k_ h0_ => K (.exit 0) (buildS w_markInt64S_l0_s3_o0 [.i k_, .l h0_]))
    | _ => none) ((E_w_eqInt64S_s5 α N).ls 22 2))
theorem E_w_markInt64S_l0_s3_ok {α : Type} (N : Nat) : EnvOk Try.prog (E_w_markInt64S_l0_s3 α N) := (E_w_eqInt64S_s5_ok N).addLoop2 Try.func22 (by kernel_rfl) (loopSum_ok prog_mixed prog_names (E_w_eqInt64S_s5_ok N) Try.func22 (by kernel_rfl) (d := 1) (ro := 0) fun l K r h => by
  split at h
  · exact (w_markInt64S_l0_s3_loop N _ _ _ K N _ _ _).trans h
  · cases h)

/-- laws.markInt64S -/
def w_markInt64S_s3_a : SPat := ⟨[.sliceV 0 0 0 1 false, .int .i64], [[.vec .i64]]⟩
def w_markInt64S_s3_r0 : SPat := ⟨[.int .i64], [[.vec .i64]]⟩
theorem w_markInt64S_s3_run {α : Type} (N : Nat) (a_n : Nat) (a_l : Nat) (a_c : Nat) (k : Int) (h0 : List Int) (K : AV → Heap → Option α) :
    callK Try.prog (E_w_markInt64S_l0_s3 α N) 1 22 0 (buildS w_markInt64S_s3_a [.n a_n, .n a_l, .n a_c, .i k, .l h0]).t (buildS w_markInt64S_s3_a [.n a_n, .n a_l, .n a_c, .i k, .l h0]).h K = w_markInt64S_s3 none N a_n a_l a_c k h0 (fun r__ h0_ => retK (buildS w_markInt64S_s3_r0 [.i r__, .l h0_]) K) := by kernel_rfl
def E_w_markInt64S_s3 (α : Type) (N : Nat) : Env α := (E_w_markInt64S_l0_s3 α N).addFun 22 false 0 w_markInt64S_s3_a (fun l K => match l with
    | [.n a_n, .n a_l, .n a_c, .i k, .l h0] => w_markInt64S_s3 none N a_n a_l a_c k h0 (fun r__ h0_ => retK (buildS w_markInt64S_s3_r0 [.i r__, .l h0_]) K)
    | _ => none)
theorem E_w_markInt64S_s3_ok {α : Type} (N : Nat) : EnvOk Try.prog (E_w_markInt64S_s3 α N) := (E_w_markInt64S_l0_s3_ok N).addFun prog_mixed prog_names (d := 1) fun l K r h => by
  split at h
  · exact (w_markInt64S_s3_run N _ _ _ _ _ K).trans h
  · cases h

/-- laws.heldInt64S, loop -/
def w_heldInt64S_l0_s3_p : SPat := ⟨[.sliceV 0 0 0 1 false, .int .i64, .undef, .undef, .undef, .int .i64] ++ List.replicate 15 .undef, [[.vec .i64]]⟩
def w_heldInt64S_l0_s3_o0 : SPat := ⟨[.undef, .undef, .undef, .undef, .intC .i64 (-1)] ++ List.replicate 16 .undef, [[.vec .i64]]⟩
def w_heldInt64S_l0_s3_o1 : SPat := ⟨[.undef, .int .i64] ++ List.replicate 19 .undef, [[.vec .i64]]⟩
theorem w_heldInt64S_l0_s3_round {α : Type} (N : Nat) (a_n : Nat) (a_l : Nat) (a_c : Nat) (k : Int) (i : Int) (h0 : List Int) (kn : St → Option α) (K : AExit → St → Option α) :
    roundK Try.prog (E_w_markInt64S_s3 α N) 1 1 23 Try.f23 2 1 (buildS w_heldInt64S_l0_s3_p [.n a_n, .n a_l, .n a_c, .i k, .i i, .l h0]) kn K = w_heldInt64S_l0_s3_s none a_n a_l a_c h0 k i (fun k i => kn (buildS w_heldInt64S_l0_s3_p [.n a_n, .n a_l, .n a_c, .i k, .i i, .l h0])) (K .ret (buildS w_heldInt64S_l0_s3_o0 [.l h0])) (fun k_ => K (.exit 0) (buildS w_heldInt64S_l0_s3_o1 [.i k_, .l h0])) := by kernel_rfl
theorem w_heldInt64S_l0_s3_loop {α : Type} (N : Nat) (a_n : Nat) (a_l : Nat) (a_c : Nat) (h0 : List Int) (K : AExit → St → Option α) : ∀ (m : Nat) (k : Int) (i : Int),
    loopN (trimSt ((E_w_markInt64S_s3 α N).ann 23 2).head ((E_w_markInt64S_s3 α N).ann 23 2).grow 1) (bodyK Try.prog (E_w_markInt64S_s3 α N) 1 1 23 Try.f23 2) m (buildS w_heldInt64S_l0_s3_p [.n a_n, .n a_l, .n a_c, .i k, .i i, .l h0]) (leaveLoop ((E_w_markInt64S_s3 α N).ann 23 2) 1 K) = w_heldInt64S_l0_s3 none a_n a_l a_c h0 m k i (K .ret (buildS w_heldInt64S_l0_s3_o0 [.l h0])) (fun k_ => K (.exit 0) (buildS w_heldInt64S_l0_s3_o1 [.i k_, .l h0])) := by
  intro m
  induction m with
  | zero => intros; rfl
  | succ m ih =>
    intro k i
    rw [loopN_round]
    refine (w_heldInt64S_l0_s3_round N a_n a_l a_c k i h0 _ K).trans ?_
    simp only [ih]
    rfl
def E_w_heldInt64S_l0_s3 (α : Type) (N : Nat) : Env α := (E_w_markInt64S_s3 α N).addLoop2 23 2 (loopSum2 ((E_w_markInt64S_s3 α N).ann 23 2) 1 w_heldInt64S_l0_s3_p (fun l K => match l with
    | [.n a_n, .n a_l, .n a_c, .i k, .i i, .l h0] => w_heldInt64S_l0_s3 none a_n a_l a_c h0 N k i (K .ret (buildS w_heldInt64S_l0_s3_o0 [.l h0])) (fun k_ => K (.exit 0) (buildS w_heldInt64S_l0_s3_o1 [.i k_, .l h0]))
    | _ => none) ((E_w_markInt64S_s3 α N).ls 23 2))
theorem E_w_heldInt64S_l0_s3_ok {α : Type} (N : Nat) : EnvOk Try.prog (E_w_heldInt64S_l0_s3 α N) := (E_w_markInt64S_s3_ok N).addLoop2 Try.func23 (by kernel_rfl) (loopSum_ok prog_mixed prog_names (E_w_markInt64S_s3_ok N) Try.func23 (by kernel_rfl) (d := 1) (ro := 1) fun l K r h => by
  split at h
  · exact (w_heldInt64S_l0_s3_loop N _ _ _ _ K N _ _).trans h
  · cases h)

/-- laws.heldInt64S -/
def w_heldInt64S_s3_a : SPat := ⟨[.sliceV 0 0 0 1 false, .int .i64], [[.vec .i64]]⟩
def w_heldInt64S_s3_r0 : SPat := ⟨[.int .i64], [[.vec .i64]]⟩
theorem w_heldInt64S_s3_run {α : Type} (N : Nat) (a_n : Nat) (a_l : Nat) (a_c : Nat) (k : Int) (h0 : List Int) (K : AV → Heap → Option α) :
    callK Try.prog (E_w_heldInt64S_l0_s3 α N) 1 23 1 (buildS w_heldInt64S_s3_a [.n a_n, .n a_l, .n a_c, .i k, .l h0]).t (buildS w_heldInt64S_s3_a [.n a_n, .n a_l, .n a_c, .i k, .l h0]).h K = w_heldInt64S_s3 none N a_n a_l a_c k h0 (fun r__ => retK (buildS w_heldInt64S_s3_r0 [.i r__, .l h0]) K) := by kernel_rfl
def E_w_heldInt64S_s3 (α : Type) (N : Nat) : Env α := (E_w_heldInt64S_l0_s3 α N).addFun 23 true 1 w_heldInt64S_s3_a (fun l K => match l with
    | [.n a_n, .n a_l, .n a_c, .i k, .l h0] => w_heldInt64S_s3 none N a_n a_l a_c k h0 (fun r__ => retK (buildS w_heldInt64S_s3_r0 [.i r__, .l h0]) K)
    | _ => none)
theorem E_w_heldInt64S_s3_ok {α : Type} (N : Nat) : EnvOk Try.prog (E_w_heldInt64S_s3 α N) := (E_w_heldInt64S_l0_s3_ok N).addFun prog_mixed prog_names (d := 1) fun l K r h => by
  split at h
  · exact (w_heldInt64S_s3_run N _ _ _ _ _ K).trans h
  · cases h

/-- laws.eqInt64S, loop -/
def w_eqInt64S_l0_s4_p : SPat := ⟨[.nils, .sliceV 0 0 0 1 false, .undef, .undef, .undef, .int .i64] ++ List.replicate 20 .undef, [[.vec .i64]]⟩
def w_eqInt64S_l0_s4_o0 : SPat := ⟨[] ++ List.replicate 26 .undef, [[.vec .i64]]⟩
theorem w_eqInt64S_l0_s4_round {α : Type} (N : Nat) (b_n : Nat) (b_l : Nat) (b_c : Nat) (i : Int) (h0 : List Int) (kn : St → Option α) (K : AExit → St → Option α) :
    roundK Try.prog (E_w_heldInt64S_s3 α N) 1 1 21 Try.f21 4 1 (buildS w_eqInt64S_l0_s4_p [.n b_n, .n b_l, .n b_c, .i i, .l h0]) kn K = w_eqInt64S_l0_s4_s none b_n b_l b_c i h0  (kn (buildS w_eqInt64S_l0_s4_p [.n b_n, .n b_l, .n b_c, .i i, .l h0])) (K (.exit 0) (buildS w_eqInt64S_l0_s4_o0 [.l h0])) := by kernel_rfl
theorem w_eqInt64S_l0_s4_loop {α : Type} (N : Nat) (b_n : Nat) (b_l : Nat) (b_c : Nat) (i : Int) (h0 : List Int) (K : AExit → St → Option α) : ∀ (m : Nat),
    loopN (trimSt ((E_w_heldInt64S_s3 α N).ann 21 4).head ((E_w_heldInt64S_s3 α N).ann 21 4).grow 1) (bodyK Try.prog (E_w_heldInt64S_s3 α N) 1 1 21 Try.f21 4) m (buildS w_eqInt64S_l0_s4_p [.n b_n, .n b_l, .n b_c, .i i, .l h0]) (leaveLoop ((E_w_heldInt64S_s3 α N).ann 21 4) 1 K) = w_eqInt64S_l0_s4 none b_n b_l b_c i h0 m  (K (.exit 0) (buildS w_eqInt64S_l0_s4_o0 [.l h0])) := by
  intro m
  induction m with
  | zero => intros; rfl
  | succ m ih =>
    rw [loopN_round]
    refine (w_eqInt64S_l0_s4_round N b_n b_l b_c i h0 _ K).trans ?_
    simp only [ih]
    rfl
def E_w_eqInt64S_l0_s4 (α : Type) (N : Nat) : Env α := (E_w_heldInt64S_s3 α N).addLoop2 21 4 (loopSum2 ((E_w_heldInt64S_s3 α N).ann 21 4) 1 w_eqInt64S_l0_s4_p (fun l K => match l with
    | [.n b_n, .n b_l, .n b_c, .i i, .l h0] => w_eqInt64S_l0_s4 none b_n b_l b_c i h0 N  (K (.exit 0) (buildS w_eqInt64S_l0_s4_o0 [.l h0]))
    | _ => none) ((E_w_heldInt64S_s3 α N).ls 21 4))
theorem E_w_eqInt64S_l0_s4_ok {α : Type} (N : Nat) : EnvOk Try.prog (E_w_eqInt64S_l0_s4 α N) := (E_w_heldInt64S_s3_ok N).addLoop2 Try.func21 (by kernel_rfl) (loopSum_ok prog_mixed prog_names (E_w_heldInt64S_s3_ok N) Try.func21 (by kernel_rfl) (d := 1) (ro := 1) fun l K r h => by
  split at h
  · exact (w_eqInt64S_l0_s4_loop N _ _ _ _ _ K N ).trans h
  · cases h)

/-- laws.eqInt64S -/
def w_eqInt64S_s6_a : SPat := ⟨[.nils, .sliceV 0 0 0 1 false], [[.vec .i64]]⟩
def w_eqInt64S_s6_r0 : SPat := ⟨[.bool], [[.vec .i64]]⟩
theorem w_eqInt64S_s6_run {α : Type} (N : Nat) (b_n : Nat) (b_l : Nat) (b_c : Nat) (h0 : List Int) (K : AV → Heap → Option α) :
    callK Try.prog (E_w_eqInt64S_l0_s4 α N) 1 21 1 (buildS w_eqInt64S_s6_a [.n b_n, .n b_l, .n b_c, .l h0]).t (buildS w_eqInt64S_s6_a [.n b_n, .n b_l, .n b_c, .l h0]).h K = w_eqInt64S_s6 none N b_n b_l b_c h0 (fun r__ => retK (buildS w_eqInt64S_s6_r0 [.b r__, .l h0]) K) := by kernel_rfl
def E_w_eqInt64S_s6 (α : Type) (N : Nat) : Env α := (E_w_eqInt64S_l0_s4 α N).addFun 21 true 1 w_eqInt64S_s6_a (fun l K => match l with
    | [.n b_n, .n b_l, .n b_c, .l h0] => w_eqInt64S_s6 none N b_n b_l b_c h0 (fun r__ => retK (buildS w_eqInt64S_s6_r0 [.b r__, .l h0]) K)
    | _ => none)
theorem E_w_eqInt64S_s6_ok {α : Type} (N : Nat) : EnvOk Try.prog (E_w_eqInt64S_s6 α N) := (E_w_eqInt64S_l0_s4_ok N).addFun prog_mixed prog_names (d := 1) fun l K r h => by
  split at h
  · exact (w_eqInt64S_s6_run N _ _ _ _ K).trans h
  · cases h

/-- laws.eqInt64S, loop -/
def w_eqInt64S_l0_s5_p : SPat := ⟨[.sliceV 0 0 0 1 false, .sliceV 1 0 0 1 false, .undef, .undef, .undef, .int .i64] ++ List.replicate 20 .undef, [[.vec .i64], [.vec .i64]]⟩
def w_eqInt64S_l0_s5_o0 : SPat := ⟨[.undef, .undef, .undef, .undef, .boolC false] ++ List.replicate 21 .undef, [[.vec .i64], [.vec .i64]]⟩
def w_eqInt64S_l0_s5_o1 : SPat := ⟨[] ++ List.replicate 26 .undef, [[.vec .i64], [.vec .i64]]⟩
theorem w_eqInt64S_l0_s5_round {α : Type} (N : Nat) (a_n : Nat) (a_l : Nat) (a_c : Nat) (b_n : Nat) (b_l : Nat) (b_c : Nat) (i : Int) (h0 : List Int) (h1 : List Int) (kn : St → Option α) (K : AExit → St → Option α) :
    roundK Try.prog (E_w_eqInt64S_s6 α N) 1 2 21 Try.f21 4 2 (buildS w_eqInt64S_l0_s5_p [.n a_n, .n a_l, .n a_c, .n b_n, .n b_l, .n b_c, .i i, .l h0, .l h1]) kn K = w_eqInt64S_l0_s5_s none a_n a_l a_c b_n b_l b_c h0 h1 i (fun i => kn (buildS w_eqInt64S_l0_s5_p [.n a_n, .n a_l, .n a_c, .n b_n, .n b_l, .n b_c, .i i, .l h0, .l h1])) (K .ret (buildS w_eqInt64S_l0_s5_o0 [.l h0, .l h1])) (K (.exit 0) (buildS w_eqInt64S_l0_s5_o1 [.l h0, .l h1])) := by kernel_rfl
theorem w_eqInt64S_l0_s5_loop {α : Type} (N : Nat) (a_n : Nat) (a_l : Nat) (a_c : Nat) (b_n : Nat) (b_l : Nat) (b_c : Nat) (h0 : List Int) (h1 : List Int) (K : AExit → St → Option α) : ∀ (m : Nat) (i : Int),
    loopN (trimSt ((E_w_eqInt64S_s6 α N).ann 21 4).head ((E_w_eqInt64S_s6 α N).ann 21 4).grow 2) (bodyK Try.prog (E_w_eqInt64S_s6 α N) 1 2 21 Try.f21 4) m (buildS w_eqInt64S_l0_s5_p [.n a_n, .n a_l, .n a_c, .n b_n, .n b_l, .n b_c, .i i, .l h0, .l h1]) (leaveLoop ((E_w_eqInt64S_s6 α N).ann 21 4) 2 K) = w_eqInt64S_l0_s5 none a_n a_l a_c b_n b_l b_c h0 h1 m i (K .ret (buildS w_eqInt64S_l0_s5_o0 [.l h0, .l h1])) (K (.exit 0) (buildS w_eqInt64S_l0_s5_o1 [.l h0, .l h1])) := by
  intro m
  induction m with
  | zero => intros; rfl
  | succ m ih =>
    intro i
    rw [loopN_round]
    refine (w_eqInt64S_l0_s5_round N a_n a_l a_c b_n b_l b_c i h0 h1 _ K).trans ?_
    simp only [ih]
    rfl
def E_w_eqInt64S_l0_s5 (α : Type) (N : Nat) : Env α := (E_w_eqInt64S_s6 α N).addLoop2 21 4 (loopSum2 ((E_w_eqInt64S_s6 α N).ann 21 4) 2 w_eqInt64S_l0_s5_p (fun l K => match l with
    | [.n a_n, .n a_l, .n a_c, .n b_n, .n b_l, .n b_c, .i i, .l h0, .l h1] => w_eqInt64S_l0_s5 none a_n a_l a_c b_n b_l b_c h0 h1 N i (K .ret (buildS w_eqInt64S_l0_s5_o0 [.l h0, .l h1])) (K (.exit 0) (buildS w_eqInt64S_l0_s5_o1 [.l h0, .l h1]))
    | _ => none) ((E_w_eqInt64S_s6 α N).ls 21 4))
theorem E_w_eqInt64S_l0_s5_ok {α : Type} (N : Nat) : EnvOk Try.prog (E_w_eqInt64S_l0_s5 α N) := (E_w_eqInt64S_s6_ok N).addLoop2 Try.func21 (by kernel_rfl) (loopSum_ok prog_mixed prog_names (E_w_eqInt64S_s6_ok N) Try.func21 (by kernel_rfl) (d := 1) (ro := 2) fun l K r h => by
  split at h
  · exact (w_eqInt64S_l0_s5_loop N _ _ _ _ _ _ _ _ K N _).trans h
  · cases h)

/-- laws.eqInt64S -/
def w_eqInt64S_s7_a : SPat := ⟨[.sliceV 0 0 0 1 false, .sliceV 1 0 0 1 false], [[.vec .i64], [.vec .i64]]⟩
def w_eqInt64S_s7_r0 : SPat := ⟨[.bool], [[.vec .i64], [.vec .i64]]⟩
theorem w_eqInt64S_s7_run {α : Type} (N : Nat) (a_n : Nat) (a_l : Nat) (a_c : Nat) (b_n : Nat) (b_l : Nat) (b_c : Nat) (h0 : List Int) (h1 : List Int) (K : AV → Heap → Option α) :
    callK Try.prog (E_w_eqInt64S_l0_s5 α N) 1 21 2 (buildS w_eqInt64S_s7_a [.n a_n, .n a_l, .n a_c, .n b_n, .n b_l, .n b_c, .l h0, .l h1]).t (buildS w_eqInt64S_s7_a [.n a_n, .n a_l, .n a_c, .n b_n, .n b_l, .n b_c, .l h0, .l h1]).h K = w_eqInt64S_s7 none N a_n a_l a_c b_n b_l b_c h0 h1 (fun r__ => retK (buildS w_eqInt64S_s7_r0 [.b r__, .l h0, .l h1]) K) := by kernel_rfl
def E_w_eqInt64S_s7 (α : Type) (N : Nat) : Env α := (E_w_eqInt64S_l0_s5 α N).addFun 21 true 2 w_eqInt64S_s7_a (fun l K => match l with
    | [.n a_n, .n a_l, .n a_c, .n b_n, .n b_l, .n b_c, .l h0, .l h1] => w_eqInt64S_s7 none N a_n a_l a_c b_n b_l b_c h0 h1 (fun r__ => retK (buildS w_eqInt64S_s7_r0 [.b r__, .l h0, .l h1]) K)
    | _ => none)
theorem E_w_eqInt64S_s7_ok {α : Type} (N : Nat) : EnvOk Try.prog (E_w_eqInt64S_s7 α N) := (E_w_eqInt64S_l0_s5_ok N).addFun prog_mixed prog_names (d := 1) fun l K r h => by
  split at h
  · exact (w_eqInt64S_s7_run N _ _ _ _ _ _ _ _ K).trans h
  · cases h

/-- laws.FnExactDirectionsOf -/
def w_FnExactDirectionsOf_a : SPat := ⟨[.agg [.vals [.int .i64], .ints .u8 8, .ints .u8 8]], []⟩
def w_FnExactDirectionsOf_r0 : SPat := ⟨[.bool], []⟩
theorem w_FnExactDirectionsOf_run {α : Type} (N : Nat) (aG_0 : Int) (aG_1 : Nat → Int) (aG_2 : Nat → Int) (K : AV → Heap → Option α) :
    callK Try.prog (E_w_eqInt64S_s7 α N) 1 9 0 (buildS w_FnExactDirectionsOf_a [.i aG_0, .f aG_1, .f aG_2]).t (buildS w_FnExactDirectionsOf_a [.i aG_0, .f aG_1, .f aG_2]).h K = w_FnExactDirectionsOf none N aG_0 aG_1 aG_2 (fun r__ => retK (buildS w_FnExactDirectionsOf_r0 [.b r__]) K) := by kernel_rfl
def E_w_FnExactDirectionsOf (α : Type) (N : Nat) : Env α := (E_w_eqInt64S_s7 α N).addFun 9 true 0 w_FnExactDirectionsOf_a (fun l K => match l with
    | [.i aG_0, .f aG_1, .f aG_2] => w_FnExactDirectionsOf none N aG_0 aG_1 aG_2 (fun r__ => retK (buildS w_FnExactDirectionsOf_r0 [.b r__]) K)
    | _ => none)
theorem E_w_FnExactDirectionsOf_ok {α : Type} (N : Nat) : EnvOk Try.prog (E_w_FnExactDirectionsOf α N) := (E_w_eqInt64S_s7_ok N).addFun prog_mixed prog_names (d := 1) fun l K r h => by
  split at h
  · exact (w_FnExactDirectionsOf_run N _ _ _ K).trans h
  · cases h
end Go.AM
