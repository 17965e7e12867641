/- A part of a proof about the given program: an abstract machine, what the given functions come to, and plain laws. -/
import Derived.Test.YtkboldcnkkolkaaMachG
import Derived.Test.YtkboldcnkkolkaaDallColouringBasis1
import Derived.Test.YtkboldcnkkolkaaProg
set_option linter.unusedVariables false
set_option linter.unusedSimpArgs false
set_option maxRecDepth 100000
namespace Go.AM
open Go.Proofs

def E0 (α : Type) (N : Nat) : Env α := Env.base (fun _ _ => {}) N
theorem E0_ok {α : Type} (N : Nat) : EnvOk Try.prog (E0 α N) := .base
theorem prog_mixed : Try.prog.follows .mixedOrders = true := by kernel_rfl
theorem prog_names : NamesOk Try.prog := .of_all (by kernel_rfl)
def A_w_toByteA8_l0 (α : Type) (N : Nat) : Env α := (E0 α N).addAnn 55 3 { head := [1, 2, 3, 4], grow := [], out := [2, 3], ret := [2] }
theorem A_w_toByteA8_l0_ok {α : Type} (N : Nat) : EnvOk Try.prog (A_w_toByteA8_l0 α N) := (E0_ok N).addAnn

/-- laws.toByteA8, loop -/
def w_toByteA8_l0_p : SPat := ⟨[.undef, .ptr ⟨⟨0, 0⟩, 0, 0, 8⟩, .ptr ⟨⟨1, 0⟩, 0, 0, 8⟩, .ptr ⟨⟨2, 0⟩, 0, 0, 8⟩, .int .i64] ++ List.replicate 10 .undef, [[.ints .u8 8], [.ints .u8 8], [.ints .u8 8]]⟩
def w_toByteA8_l0_o0 : SPat := ⟨[.undef, .undef, .ptr ⟨⟨1, 0⟩, 0, 0, 8⟩, .ptr ⟨⟨2, 0⟩, 0, 0, 8⟩] ++ List.replicate 11 .undef, [[.ints .u8 8], [.ints .u8 8], [.ints .u8 8]]⟩
theorem w_toByteA8_l0_round {α : Type} (N : Nat) (i : Int) (h0 : Nat → Int) (h1 : Nat → Int) (h2 : Nat → Int) (kn : St → Option α) (K : AExit → St → Option α) :
    roundK Try.prog (A_w_toByteA8_l0 α N) 1 0 55 Try.f55 3 3 (buildS w_toByteA8_l0_p [.i i, .f h0, .f h1, .f h2]) kn K = w_toByteA8_l0_s none h0 h1 i h2 (fun i h2 => kn (buildS w_toByteA8_l0_p [.i i, .f h0, .f h1, .f h2])) (fun h2_ => K (.exit 0) (buildS w_toByteA8_l0_o0 [.f h0, .f h1, .f h2_])) := by kernel_rfl
theorem w_toByteA8_l0_loop {α : Type} (N : Nat) (h0 : Nat → Int) (h1 : Nat → Int) (K : AExit → St → Option α) : ∀ (m : Nat) (i : Int) (h2 : Nat → Int),
    loopN (trimSt ((A_w_toByteA8_l0 α N).ann 55 3).head ((A_w_toByteA8_l0 α N).ann 55 3).grow 3) (bodyK Try.prog (A_w_toByteA8_l0 α N) 1 0 55 Try.f55 3) m (buildS w_toByteA8_l0_p [.i i, .f h0, .f h1, .f h2]) (leaveLoop ((A_w_toByteA8_l0 α N).ann 55 3) 3 K) = w_toByteA8_l0 none h0 h1 m i h2 (fun h2_ => K (.exit 0) (buildS w_toByteA8_l0_o0 [.f h0, .f h1, .f h2_])) := by
  intro m
  induction m with
  | zero => intros; rfl
  | succ m ih =>
    intro i h2
    rw [loopN_round]
    refine (w_toByteA8_l0_round N i h0 h1 h2 _ K).trans ?_
    simp only [ih]
    rfl
def E_w_toByteA8_l0 (α : Type) (N : Nat) : Env α := (A_w_toByteA8_l0 α N).addLoop2 55 3 (loopSum2 ((A_w_toByteA8_l0 α N).ann 55 3) 0 w_toByteA8_l0_p (fun l K => match l with
    | [.i i, .f h0, .f h1, .f h2] => w_toByteA8_l0 none h0 h1 N i h2 (fun h2_ => K (.exit 0) (buildS w_toByteA8_l0_o0 [.f h0, .f h1, .f h2_]))
    | _ => none) ((A_w_toByteA8_l0 α N).ls 55 3))
theorem E_w_toByteA8_l0_ok {α : Type} (N : Nat) : EnvOk Try.prog (E_w_toByteA8_l0 α N) := (A_w_toByteA8_l0_ok N).addLoop2 Try.func55 (by kernel_rfl) (loopSum_ok prog_mixed prog_names (A_w_toByteA8_l0_ok N) Try.func55 (by kernel_rfl) (d := 1) (ro := 0) fun l K r h => by
  split at h
  · exact (w_toByteA8_l0_loop N _ _ K N _ _).trans h
  · cases h)

/-- laws.toByteA8 -/
def w_toByteA8_a : SPat := ⟨[.agg [.ints .u8 8]], []⟩
def w_toByteA8_r0 : SPat := ⟨[.agg [.ints .u8 8]], []⟩
theorem w_toByteA8_run {α : Type} (N : Nat) (a : Nat → Int) (K : AV → Heap → Option α) :
    callK Try.prog (E_w_toByteA8_l0 α N) 1 55 0 (buildS w_toByteA8_a [.f a]).t (buildS w_toByteA8_a [.f a]).h K = w_toByteA8 none N a (fun r__ => retK (buildS w_toByteA8_r0 [.f r__]) K) := by kernel_rfl
def E_w_toByteA8 (α : Type) (N : Nat) : Env α := (E_w_toByteA8_l0 α N).addFun 55 true 0 w_toByteA8_a (fun l K => match l with
    | [.f a] => w_toByteA8 none N a (fun r__ => retK (buildS w_toByteA8_r0 [.f r__]) K)
    | _ => none)
theorem E_w_toByteA8_ok {α : Type} (N : Nat) : EnvOk Try.prog (E_w_toByteA8 α N) := (E_w_toByteA8_l0_ok N).addFun prog_mixed prog_names (d := 1) fun l K r h => by
  split at h
  · exact (w_toByteA8_run N _ K).trans h
  · cases h

/-- laws.toGrid -/
def w_toGrid_a : SPat := ⟨[.agg [.vals [.int .i64], .ints .u8 8, .ints .u8 8]], []⟩
def w_toGrid_r0 : SPat := ⟨[.agg [.vals [.int .i64], .ints .u8 8, .ints .u8 8]], []⟩
theorem w_toGrid_run {α : Type} (N : Nat) (a_0 : Int) (a_1 : Nat → Int) (a_2 : Nat → Int) (K : AV → Heap → Option α) :
    callK Try.prog (E_w_toByteA8 α N) 1 17 0 (buildS w_toGrid_a [.i a_0, .f a_1, .f a_2]).t (buildS w_toGrid_a [.i a_0, .f a_1, .f a_2]).h K = w_toGrid none N a_0 a_1 a_2 (fun r_1_ r_2_ => retK (buildS w_toGrid_r0 [.i a_0, .f r_1_, .f r_2_]) K) := by kernel_rfl
def E_w_toGrid (α : Type) (N : Nat) : Env α := (E_w_toByteA8 α N).addFun 17 true 0 w_toGrid_a (fun l K => match l with
    | [.i a_0, .f a_1, .f a_2] => w_toGrid none N a_0 a_1 a_2 (fun r_1_ r_2_ => retK (buildS w_toGrid_r0 [.i a_0, .f r_1_, .f r_2_]) K)
    | _ => none)
theorem E_w_toGrid_ok {α : Type} (N : Nat) : EnvOk Try.prog (E_w_toGrid α N) := (E_w_toByteA8_ok N).addFun prog_mixed prog_names (d := 1) fun l K r h => by
  split at h
  · exact (w_toGrid_run N _ _ _ K).trans h
  · cases h

/-- spec.l01In -/
def s_l01In_a : SPat := ⟨[.int .i64, .int .i64, .int .i64], []⟩
def s_l01In_r0 : SPat := ⟨[.bool], []⟩
theorem s_l01In_run {α : Type} (N : Nat) (n : Int) (low : Int) (high : Int) (K : AV → Heap → Option α) :
    callK Try.prog (E_w_toGrid α N) 1 98 0 (buildS s_l01In_a [.i n, .i low, .i high]).t (buildS s_l01In_a [.i n, .i low, .i high]).h K = s_l01In none N n low high (fun r__ => retK (buildS s_l01In_r0 [.b r__]) K) := by kernel_rfl
def E_s_l01In (α : Type) (N : Nat) : Env α := (E_w_toGrid α N).addFun 98 true 0 s_l01In_a (fun l K => match l with
    | [.i n, .i low, .i high] => s_l01In none N n low high (fun r__ => retK (buildS s_l01In_r0 [.b r__]) K)
    | _ => none)
theorem E_s_l01In_ok {α : Type} (N : Nat) : EnvOk Try.prog (E_s_l01In α N) := (E_w_toGrid_ok N).addFun prog_mixed prog_names (d := 1) fun l K r h => by
  split at h
  · exact (s_l01In_run N _ _ _ K).trans h
  · cases h

def A_s_l01Perm_l0 (α : Type) (N : Nat) : Env α := (E_s_l01In α N).addAnn 114 3 { head := [1, 2, 5, 6], grow := [], out := [], ret := [4] }
theorem A_s_l01Perm_l0_ok {α : Type} (N : Nat) : EnvOk Try.prog (A_s_l01Perm_l0 α N) := (E_s_l01In_ok N).addAnn

/-- spec.l01Perm, loop -/
def s_l01Perm_l0_p : SPat := ⟨[.undef, .int .i64, .ptr ⟨⟨0, 0⟩, 0, 0, 8⟩, .undef, .undef, .ptr ⟨⟨1, 0⟩, 0, 0, 8⟩, .int .i64] ++ List.replicate 29 .undef, [[.ints .u8 8], [.bools 8]]⟩
def s_l01Perm_l0_o0 : SPat := ⟨[.undef, .undef, .undef, .undef, .boolC false] ++ List.replicate 31 .undef, [[.ints .u8 8], [.bools 8]]⟩
def s_l01Perm_l0_o1 : SPat := ⟨[] ++ List.replicate 36 .undef, [[.ints .u8 8], [.bools 8]]⟩
theorem s_l01Perm_l0_round {α : Type} (N : Nat) (n : Int) (i : Int) (h0 : Nat → Int) (h1 : Nat → Bool) (kn : St → Option α) (K : AExit → St → Option α) :
    roundK Try.prog (A_s_l01Perm_l0 α N) 1 0 114 Try.f114 3 2 (buildS s_l01Perm_l0_p [.i n, .i i, .f h0, .g h1]) kn K = s_l01Perm_l0_s none n h0 i h1 (fun i h1 => kn (buildS s_l01Perm_l0_p [.i n, .i i, .f h0, .g h1])) (fun h1_ => K .ret (buildS s_l01Perm_l0_o0 [.f h0, .g h1_])) (fun h1_ => K (.exit 0) (buildS s_l01Perm_l0_o1 [.f h0, .g h1_])) := by kernel_rfl
theorem s_l01Perm_l0_loop {α : Type} (N : Nat) (n : Int) (h0 : Nat → Int) (K : AExit → St → Option α) : ∀ (m : Nat) (i : Int) (h1 : Nat → Bool),
    loopN (trimSt ((A_s_l01Perm_l0 α N).ann 114 3).head ((A_s_l01Perm_l0 α N).ann 114 3).grow 2) (bodyK Try.prog (A_s_l01Perm_l0 α N) 1 0 114 Try.f114 3) m (buildS s_l01Perm_l0_p [.i n, .i i, .f h0, .g h1]) (leaveLoop ((A_s_l01Perm_l0 α N).ann 114 3) 2 K) = s_l01Perm_l0 none n h0 m i h1 (fun h1_ => K .ret (buildS s_l01Perm_l0_o0 [.f h0, .g h1_])) (fun h1_ => K (.exit 0) (buildS s_l01Perm_l0_o1 [.f h0, .g h1_])) := by
  intro m
  induction m with
  | zero => intros; rfl
  | succ m ih =>
    intro i h1
    rw [loopN_round]
    refine (s_l01Perm_l0_round N n i h0 h1 _ K).trans ?_
    simp only [ih]
    rfl
def E_s_l01Perm_l0 (α : Type) (N : Nat) : Env α := (A_s_l01Perm_l0 α N).addLoop2 114 3 (loopSum2 ((A_s_l01Perm_l0 α N).ann 114 3) 0 s_l01Perm_l0_p (fun l K => match l with
    | [.i n, .i i, .f h0, .g h1] => s_l01Perm_l0 none n h0 N i h1 (fun h1_ => K .ret (buildS s_l01Perm_l0_o0 [.f h0, .g h1_])) (fun h1_ => K (.exit 0) (buildS s_l01Perm_l0_o1 [.f h0, .g h1_]))
    | _ => none) ((A_s_l01Perm_l0 α N).ls 114 3))
theorem E_s_l01Perm_l0_ok {α : Type} (N : Nat) : EnvOk Try.prog (E_s_l01Perm_l0 α N) := (A_s_l01Perm_l0_ok N).addLoop2 Try.func114 (by kernel_rfl) (loopSum_ok prog_mixed prog_names (A_s_l01Perm_l0_ok N) Try.func114 (by kernel_rfl) (d := 1) (ro := 0) fun l K r h => by
  split at h
  · exact (s_l01Perm_l0_loop N _ _ K N _ _).trans h
  · cases h)

/-- spec.l01Perm -/
def s_l01Perm_a : SPat := ⟨[.agg [.ints .u8 8], .int .i64], []⟩
def s_l01Perm_r0 : SPat := ⟨[.bool], []⟩
theorem s_l01Perm_run {α : Type} (N : Nat) (list : Nat → Int) (n : Int) (K : AV → Heap → Option α) :
    callK Try.prog (E_s_l01Perm_l0 α N) 1 114 0 (buildS s_l01Perm_a [.f list, .i n]).t (buildS s_l01Perm_a [.f list, .i n]).h K = s_l01Perm none N list n (fun r__ => retK (buildS s_l01Perm_r0 [.b r__]) K) := by kernel_rfl
def E_s_l01Perm (α : Type) (N : Nat) : Env α := (E_s_l01Perm_l0 α N).addFun 114 true 0 s_l01Perm_a (fun l K => match l with
    | [.f list, .i n] => s_l01Perm none N list n (fun r__ => retK (buildS s_l01Perm_r0 [.b r__]) K)
    | _ => none)
theorem E_s_l01Perm_ok {α : Type} (N : Nat) : EnvOk Try.prog (E_s_l01Perm α N) := (E_s_l01Perm_l0_ok N).addFun prog_mixed prog_names (d := 1) fun l K r h => by
  split at h
  · exact (s_l01Perm_run N _ _ K).trans h
  · cases h

def A_s_l01Is_l0 (α : Type) (N : Nat) : Env α := (E_s_l01Perm α N).addAnn 52 4 { head := [1, 3], grow := [], out := [], ret := [2] }
theorem A_s_l01Is_l0_ok {α : Type} (N : Nat) : EnvOk Try.prog (A_s_l01Is_l0 α N) := (E_s_l01Perm_ok N).addAnn

/-- spec.l01Is, loop -/
def s_l01Is_l0_p : SPat := ⟨[.undef, .ptr ⟨⟨0, 0⟩, 0, 0, 1⟩, .undef, .int .i64] ++ List.replicate 35 .undef, [[.vals [.int .i64], .ints .u8 8, .ints .u8 8]]⟩
def s_l01Is_l0_o0 : SPat := ⟨[.undef, .undef, .boolC false] ++ List.replicate 36 .undef, [[.vals [.int .i64], .ints .u8 8, .ints .u8 8]]⟩
def s_l01Is_l0_o1 : SPat := ⟨[] ++ List.replicate 39 .undef, [[.vals [.int .i64], .ints .u8 8, .ints .u8 8]]⟩
theorem s_l01Is_l0_round {α : Type} (N : Nat) (i : Int) (h0_0 : Int) (h0_1 : Nat → Int) (h0_2 : Nat → Int) (kn : St → Option α) (K : AExit → St → Option α) :
    roundK Try.prog (A_s_l01Is_l0 α N) 1 0 52 Try.f52 4 1 (buildS s_l01Is_l0_p [.i i, .i h0_0, .f h0_1, .f h0_2]) kn K = s_l01Is_l0_s none h0_0 h0_1 h0_2 i (fun i => kn (buildS s_l01Is_l0_p [.i i, .i h0_0, .f h0_1, .f h0_2])) (K .ret (buildS s_l01Is_l0_o0 [.i h0_0, .f h0_1, .f h0_2])) (K (.exit 0) (buildS s_l01Is_l0_o1 [.i h0_0, .f h0_1, .f h0_2])) := by kernel_rfl
theorem s_l01Is_l0_loop {α : Type} (N : Nat) (h0_0 : Int) (h0_1 : Nat → Int) (h0_2 : Nat → Int) (K : AExit → St → Option α) : ∀ (m : Nat) (i : Int),
    loopN (trimSt ((A_s_l01Is_l0 α N).ann 52 4).head ((A_s_l01Is_l0 α N).ann 52 4).grow 1) (bodyK Try.prog (A_s_l01Is_l0 α N) 1 0 52 Try.f52 4) m (buildS s_l01Is_l0_p [.i i, .i h0_0, .f h0_1, .f h0_2]) (leaveLoop ((A_s_l01Is_l0 α N).ann 52 4) 1 K) = s_l01Is_l0 none h0_0 h0_1 h0_2 m i (K .ret (buildS s_l01Is_l0_o0 [.i h0_0, .f h0_1, .f h0_2])) (K (.exit 0) (buildS s_l01Is_l0_o1 [.i h0_0, .f h0_1, .f h0_2])) := by
  intro m
  induction m with
  | zero => intros; rfl
  | succ m ih =>
    intro i
    rw [loopN_round]
    refine (s_l01Is_l0_round N i h0_0 h0_1 h0_2 _ K).trans ?_
    simp only [ih]
    rfl
def E_s_l01Is_l0 (α : Type) (N : Nat) : Env α := (A_s_l01Is_l0 α N).addLoop2 52 4 (loopSum2 ((A_s_l01Is_l0 α N).ann 52 4) 0 s_l01Is_l0_p (fun l K => match l with
    | [.i i, .i h0_0, .f h0_1, .f h0_2] => s_l01Is_l0 none h0_0 h0_1 h0_2 N i (K .ret (buildS s_l01Is_l0_o0 [.i h0_0, .f h0_1, .f h0_2])) (K (.exit 0) (buildS s_l01Is_l0_o1 [.i h0_0, .f h0_1, .f h0_2]))
    | _ => none) ((A_s_l01Is_l0 α N).ls 52 4))
theorem E_s_l01Is_l0_ok {α : Type} (N : Nat) : EnvOk Try.prog (E_s_l01Is_l0 α N) := (A_s_l01Is_l0_ok N).addLoop2 Try.func52 (by kernel_rfl) (loopSum_ok prog_mixed prog_names (A_s_l01Is_l0_ok N) Try.func52 (by kernel_rfl) (d := 1) (ro := 0) fun l K r h => by
  split at h
  · exact (s_l01Is_l0_loop N _ _ _ K N _).trans h
  · cases h)

/-- spec.l01Is -/
def s_l01Is_a : SPat := ⟨[.agg [.vals [.int .i64], .ints .u8 8, .ints .u8 8]], []⟩
def s_l01Is_r0 : SPat := ⟨[.bool], []⟩
theorem s_l01Is_run {α : Type} (N : Nat) (g_0 : Int) (g_1 : Nat → Int) (g_2 : Nat → Int) (K : AV → Heap → Option α) :
    callK Try.prog (E_s_l01Is_l0 α N) 1 52 0 (buildS s_l01Is_a [.i g_0, .f g_1, .f g_2]).t (buildS s_l01Is_a [.i g_0, .f g_1, .f g_2]).h K = s_l01Is none N g_0 g_1 g_2 (fun r__ => retK (buildS s_l01Is_r0 [.b r__]) K) := by kernel_rfl
def E_s_l01Is (α : Type) (N : Nat) : Env α := (E_s_l01Is_l0 α N).addFun 52 true 0 s_l01Is_a (fun l K => match l with
    | [.i g_0, .f g_1, .f g_2] => s_l01Is none N g_0 g_1 g_2 (fun r__ => retK (buildS s_l01Is_r0 [.b r__]) K)
    | _ => none)
theorem E_s_l01Is_ok {α : Type} (N : Nat) : EnvOk Try.prog (E_s_l01Is α N) := (E_s_l01Is_l0_ok N).addFun prog_mixed prog_names (d := 1) fun l K r h => by
  split at h
  · exact (s_l01Is_run N _ _ _ K).trans h
  · cases h

def A_s_l08Prime_l0 (α : Type) (N : Nat) : Env α := (E_s_l01Is α N).addAnn 126 4 { head := [0, 3], grow := [], out := [], ret := [2] }
theorem A_s_l08Prime_l0_ok {α : Type} (N : Nat) : EnvOk Try.prog (A_s_l08Prime_l0 α N) := (E_s_l01Is_ok N).addAnn

/-- spec.l08Prime, loop -/
def s_l08Prime_l0_p : SPat := ⟨[.int .i64, .undef, .undef, .int .i64] ++ List.replicate 12 .undef, []⟩
def s_l08Prime_l0_o0 : SPat := ⟨[.undef, .undef, .boolC false] ++ List.replicate 13 .undef, []⟩
def s_l08Prime_l0_o1 : SPat := ⟨[] ++ List.replicate 16 .undef, []⟩
theorem s_l08Prime_l0_round {α : Type} (N : Nat) (p : Int) (k : Int) (kn : St → Option α) (K : AExit → St → Option α) :
    roundK Try.prog (A_s_l08Prime_l0 α N) 1 0 126 Try.f126 4 0 (buildS s_l08Prime_l0_p [.i p, .i k]) kn K = s_l08Prime_l0_s none p k (fun k => kn (buildS s_l08Prime_l0_p [.i p, .i k])) (K .ret (buildS s_l08Prime_l0_o0 [])) (K (.exit 0) (buildS s_l08Prime_l0_o1 [])) := by kernel_rfl
theorem s_l08Prime_l0_loop {α : Type} (N : Nat) (p : Int) (K : AExit → St → Option α) : ∀ (m : Nat) (k : Int),
    loopN (trimSt ((A_s_l08Prime_l0 α N).ann 126 4).head ((A_s_l08Prime_l0 α N).ann 126 4).grow 0) (bodyK Try.prog (A_s_l08Prime_l0 α N) 1 0 126 Try.f126 4) m (buildS s_l08Prime_l0_p [.i p, .i k]) (leaveLoop ((A_s_l08Prime_l0 α N).ann 126 4) 0 K) = s_l08Prime_l0 none p m k (K .ret (buildS s_l08Prime_l0_o0 [])) (K (.exit 0) (buildS s_l08Prime_l0_o1 [])) := by
  intro m
  induction m with
  | zero => intros; rfl
  | succ m ih =>
    intro k
    rw [loopN_round]
    refine (s_l08Prime_l0_round N p k _ K).trans ?_
    simp only [ih]
    rfl
def E_s_l08Prime_l0 (α : Type) (N : Nat) : Env α := (A_s_l08Prime_l0 α N).addLoop2 126 4 (loopSum2 ((A_s_l08Prime_l0 α N).ann 126 4) 0 s_l08Prime_l0_p (fun l K => match l with
    | [.i p, .i k] => s_l08Prime_l0 none p N k (K .ret (buildS s_l08Prime_l0_o0 [])) (K (.exit 0) (buildS s_l08Prime_l0_o1 []))
    | _ => none) ((A_s_l08Prime_l0 α N).ls 126 4))
theorem E_s_l08Prime_l0_ok {α : Type} (N : Nat) : EnvOk Try.prog (E_s_l08Prime_l0 α N) := (A_s_l08Prime_l0_ok N).addLoop2 Try.func126 (by kernel_rfl) (loopSum_ok prog_mixed prog_names (A_s_l08Prime_l0_ok N) Try.func126 (by kernel_rfl) (d := 1) (ro := 0) fun l K r h => by
  split at h
  · exact (s_l08Prime_l0_loop N _ K N _).trans h
  · cases h)

/-- spec.l08Prime -/
def s_l08Prime_a : SPat := ⟨[.int .i64], []⟩
def s_l08Prime_r0 : SPat := ⟨[.bool], []⟩
theorem s_l08Prime_run {α : Type} (N : Nat) (p : Int) (K : AV → Heap → Option α) :
    callK Try.prog (E_s_l08Prime_l0 α N) 1 126 0 (buildS s_l08Prime_a [.i p]).t (buildS s_l08Prime_a [.i p]).h K = s_l08Prime none N p (fun r__ => retK (buildS s_l08Prime_r0 [.b r__]) K) := by kernel_rfl
def E_s_l08Prime (α : Type) (N : Nat) : Env α := (E_s_l08Prime_l0 α N).addFun 126 true 0 s_l08Prime_a (fun l K => match l with
    | [.i p] => s_l08Prime none N p (fun r__ => retK (buildS s_l08Prime_r0 [.b r__]) K)
    | _ => none)
theorem E_s_l08Prime_ok {α : Type} (N : Nat) : EnvOk Try.prog (E_s_l08Prime α N) := (E_s_l08Prime_l0_ok N).addFun prog_mixed prog_names (d := 1) fun l K r h => by
  split at h
  · exact (s_l08Prime_run N _ K).trans h
  · cases h

/-- spec.l08Code -/
def s_l08Code_a : SPat := ⟨[.agg [.vals [.int .i64], .ints .u8 8, .ints .u8 8], .int .i64], []⟩
def s_l08Code_r0 : SPat := ⟨[.int .i64], []⟩
theorem s_l08Code_run {α : Type} (N : Nat) (g_0 : Int) (g_1 : Nat → Int) (g_2 : Nat → Int) (p : Int) (K : AV → Heap → Option α) :
    callK Try.prog (E_s_l08Prime α N) 1 73 0 (buildS s_l08Code_a [.i g_0, .f g_1, .f g_2, .i p]).t (buildS s_l08Code_a [.i g_0, .f g_1, .f g_2, .i p]).h K = s_l08Code none N g_0 g_1 g_2 p (fun r__ => retK (buildS s_l08Code_r0 [.i r__]) K) := by kernel_rfl
def E_s_l08Code (α : Type) (N : Nat) : Env α := (E_s_l08Prime α N).addFun 73 true 0 s_l08Code_a (fun l K => match l with
    | [.i g_0, .f g_1, .f g_2, .i p] => s_l08Code none N g_0 g_1 g_2 p (fun r__ => retK (buildS s_l08Code_r0 [.i r__]) K)
    | _ => none)
theorem E_s_l08Code_ok {α : Type} (N : Nat) : EnvOk Try.prog (E_s_l08Code α N) := (E_s_l08Prime_ok N).addFun prog_mixed prog_names (d := 1) fun l K r h => by
  split at h
  · exact (s_l08Code_run N _ _ _ _ K).trans h
  · cases h

def A_s_l08Rows_l0 (α : Type) (N : Nat) : Env α := (E_s_l08Code α N).addAnn 75 3 { head := [1, 2, 5, 6], grow := [5], out := [5], ret := [4] }
theorem A_s_l08Rows_l0_ok {α : Type} (N : Nat) : EnvOk Try.prog (A_s_l08Rows_l0 α N) := (E_s_l08Code_ok N).addAnn

def A_s_l08Relation_l0 (α : Type) (N : Nat) : Env α := (A_s_l08Rows_l0 α N).addAnn 67 3 { head := [1, 2, 5, 6], grow := [5], out := [5], ret := [4] }
theorem A_s_l08Relation_l0_ok {α : Type} (N : Nat) : EnvOk Try.prog (A_s_l08Relation_l0 α N) := (A_s_l08Rows_l0_ok N).addAnn

/-- spec.l08Relation, loop -/
def s_l08Relation_l0_p : SPat := ⟨[.undef, .int .i64, .ptr ⟨⟨0, 0⟩, 0, 0, 1⟩, .undef, .undef, .sliceV 1 0 0 1 false, .int .i64] ++ List.replicate 27 .undef, [[.vals [.int .i64], .ints .u8 8, .ints .u8 8], [.vec .i64]]⟩
def s_l08Relation_l0_o0 : SPat := ⟨[.undef, .undef, .undef, .undef, .undef, .sliceV 1 0 0 1 false] ++ List.replicate 28 .undef, [[.vals [.int .i64], .ints .u8 8, .ints .u8 8], [.vec .i64]]⟩
theorem s_l08Relation_l0_round {α : Type} (N : Nat) (r_ : Int) (out_n : Nat) (out_l : Nat) (out_c : Nat) (i : Int) (h0_0 : Int) (h0_1 : Nat → Int) (h0_2 : Nat → Int) (h1 : List Int) (kn : St → Option α) (K : AExit → St → Option α) :
    roundK Try.prog (A_s_l08Relation_l0 α N) 1 0 67 Try.f67 3 2 (buildS s_l08Relation_l0_p [.i r_, .n out_n, .n out_l, .n out_c, .i i, .i h0_0, .f h0_1, .f h0_2, .l h1]) kn K = s_l08Relation_l0_s none r_ h0_0 h0_1 h0_2 out_n out_l out_c i h1 (fun out_n out_l out_c i h1 => kn (buildS s_l08Relation_l0_p [.i r_, .n out_n, .n out_l, .n out_c, .i i, .i h0_0, .f h0_1, .f h0_2, .l h1])) (fun out_n_ out_l_ out_c_ h1_ => K (.exit 0) (buildS s_l08Relation_l0_o0 [.n out_n_, .n out_l_, .n out_c_, .i h0_0, .f h0_1, .f h0_2, .l h1_])) := by kernel_rfl
theorem s_l08Relation_l0_loop {α : Type} (N : Nat) (r_ : Int) (h0_0 : Int) (h0_1 : Nat → Int) (h0_2 : Nat → Int) (K : AExit → St → Option α) : ∀ (m : Nat) (out_n : Nat) (out_l : Nat) (out_c : Nat) (i : Int) (h1 : List Int),
    loopN (trimSt ((A_s_l08Relation_l0 α N).ann 67 3).head ((A_s_l08Relation_l0 α N).ann 67 3).grow 2) (bodyK Try.prog (A_s_l08Relation_l0 α N) 1 0 67 Try.f67 3) m (buildS s_l08Relation_l0_p [.i r_, .n out_n, .n out_l, .n out_c, .i i, .i h0_0, .f h0_1, .f h0_2, .l h1]) (leaveLoop ((A_s_l08Relation_l0 α N).ann 67 3) 2 K) = s_l08Relation_l0 none r_ h0_0 h0_1 h0_2 m out_n out_l out_c i h1 (fun out_n_ out_l_ out_c_ h1_ => K (.exit 0) (buildS s_l08Relation_l0_o0 [.n out_n_, .n out_l_, .n out_c_, .i h0_0, .f h0_1, .f h0_2, .l h1_])) := by
  intro m
  induction m with
  | zero => intros; rfl
  | succ m ih =>
    intro out_n out_l out_c i h1
    rw [loopN_round]
    refine (s_l08Relation_l0_round N r_ out_n out_l out_c i h0_0 h0_1 h0_2 h1 _ K).trans ?_
    simp only [ih]
    rfl
def E_s_l08Relation_l0 (α : Type) (N : Nat) : Env α := (A_s_l08Relation_l0 α N).addLoop2 67 3 (loopSum2 ((A_s_l08Relation_l0 α N).ann 67 3) 0 s_l08Relation_l0_p (fun l K => match l with
    | [.i r_, .n out_n, .n out_l, .n out_c, .i i, .i h0_0, .f h0_1, .f h0_2, .l h1] => s_l08Relation_l0 none r_ h0_0 h0_1 h0_2 N out_n out_l out_c i h1 (fun out_n_ out_l_ out_c_ h1_ => K (.exit 0) (buildS s_l08Relation_l0_o0 [.n out_n_, .n out_l_, .n out_c_, .i h0_0, .f h0_1, .f h0_2, .l h1_]))
    | _ => none) ((A_s_l08Relation_l0 α N).ls 67 3))
theorem E_s_l08Relation_l0_ok {α : Type} (N : Nat) : EnvOk Try.prog (E_s_l08Relation_l0 α N) := (A_s_l08Relation_l0_ok N).addLoop2 Try.func67 (by kernel_rfl) (loopSum_ok prog_mixed prog_names (A_s_l08Relation_l0_ok N) Try.func67 (by kernel_rfl) (d := 1) (ro := 0) fun l K r h => by
  split at h
  · exact (s_l08Relation_l0_loop N _ _ _ _ K N _ _ _ _ _).trans h
  · cases h)

/-- spec.l08Relation -/
def s_l08Relation_a : SPat := ⟨[.agg [.vals [.int .i64], .ints .u8 8, .ints .u8 8], .int .i64], []⟩
def s_l08Relation_r0 : SPat := ⟨[.sliceV 0 0 0 1 false], [[.vec .i64]]⟩
theorem s_l08Relation_run {α : Type} (N : Nat) (g_0 : Int) (g_1 : Nat → Int) (g_2 : Nat → Int) (r_ : Int) (K : AV → Heap → Option α) :
    callK Try.prog (E_s_l08Relation_l0 α N) 1 67 0 (buildS s_l08Relation_a [.i g_0, .f g_1, .f g_2, .i r_]).t (buildS s_l08Relation_a [.i g_0, .f g_1, .f g_2, .i r_]).h K = s_l08Relation none N g_0 g_1 g_2 r_ (fun r_n_ r_l_ r_c_ h0_ => retK (buildS s_l08Relation_r0 [.n r_n_, .n r_l_, .n r_c_, .l h0_]) K) := by kernel_rfl
def E_s_l08Relation (α : Type) (N : Nat) : Env α := (E_s_l08Relation_l0 α N).addFun 67 true 0 s_l08Relation_a (fun l K => match l with
    | [.i g_0, .f g_1, .f g_2, .i r_] => s_l08Relation none N g_0 g_1 g_2 r_ (fun r_n_ r_l_ r_c_ h0_ => retK (buildS s_l08Relation_r0 [.n r_n_, .n r_l_, .n r_c_, .l h0_]) K)
    | _ => none)
theorem E_s_l08Relation_ok {α : Type} (N : Nat) : EnvOk Try.prog (E_s_l08Relation α N) := (E_s_l08Relation_l0_ok N).addFun prog_mixed prog_names (d := 1) fun l K r h => by
  split at h
  · exact (s_l08Relation_run N _ _ _ _ K).trans h
  · cases h

def A_s_l08Rows_l1 (α : Type) (N : Nat) : Env α := (E_s_l08Relation α N).addAnn 75 7 { head := [1, 2, 5, 6, 7, 8, 9], grow := [], out := [1, 2, 5, 6, 7], ret := [4] }
theorem A_s_l08Rows_l1_ok {α : Type} (N : Nat) : EnvOk Try.prog (A_s_l08Rows_l1 α N) := (E_s_l08Relation_ok N).addAnn

/-- spec.l08Rows, loop -/
def s_l08Rows_l1_p : SPat := ⟨[.undef, .int .i64, .ptr ⟨⟨0, 0⟩, 0, 0, 1⟩, .undef, .undef, .sliceV 2 0 0 1 false, .int .i64, .sliceV 3 0 0 1 true, .sliceV 4 0 0 1 false, .int .i64] ++ List.replicate 39 .undef, [[.vals [.int .i64], .ints .u8 8, .ints .u8 8], [.pool .i64], [.hdr 1], [.intsV .i64], [.vec .i64]]⟩
def s_l08Rows_l1_o0 : SPat := ⟨[.undef, .int .i64, .ptr ⟨⟨0, 0⟩, 0, 0, 1⟩, .undef, .undef, .sliceV 2 0 0 1 false, .int .i64, .sliceV 3 0 0 1 true] ++ List.replicate 41 .undef, [[.vals [.int .i64], .ints .u8 8, .ints .u8 8], [.pool .i64], [.hdr 1], [.intsV .i64], [.vec .i64]]⟩
theorem s_l08Rows_l1_round {α : Type} (N : Nat) (p : Int) (rows_n : Nat) (rows_l : Nat) (rows_c : Nat) (r_ : Int) (row_n : Nat) (row_l : Nat) (row_c : Nat) (list_n : Nat) (list_l : Nat) (list_c : Nat) (i : Int) (h0_0 : Int) (h0_1 : Nat → Int) (h0_2 : Nat → Int) (h1 : List (List Int)) (h2 : List (Nat × Nat)) (h3_n : Nat) (h3 : Nat → Int) (h4 : List Int) (kn : St → Option α) (K : AExit → St → Option α) :
    roundK Try.prog (A_s_l08Rows_l1 α N) 1 0 75 Try.f75 7 5 (buildS s_l08Rows_l1_p [.i p, .n rows_n, .n rows_l, .n rows_c, .i r_, .n row_n, .n row_l, .n row_c, .n list_n, .n list_l, .n list_c, .i i, .i h0_0, .f h0_1, .f h0_2, .r h1, .p h2, .n h3_n, .f h3, .l h4]) kn K = s_l08Rows_l1_s none p rows_n rows_l rows_c r_ row_n row_l row_c list_n list_l list_c h0_0 h0_1 h0_2 h1 h2 h3_n h4 i h3 (fun i h3 => kn (buildS s_l08Rows_l1_p [.i p, .n rows_n, .n rows_l, .n rows_c, .i r_, .n row_n, .n row_l, .n row_c, .n list_n, .n list_l, .n list_c, .i i, .i h0_0, .f h0_1, .f h0_2, .r h1, .p h2, .n h3_n, .f h3, .l h4])) (fun h3_ => K (.exit 2) (buildS s_l08Rows_l1_o0 [.i p, .n rows_n, .n rows_l, .n rows_c, .i r_, .n row_n, .n row_l, .n row_c, .i h0_0, .f h0_1, .f h0_2, .r h1, .p h2, .n h3_n, .f h3_, .l h4])) := by kernel_rfl
theorem s_l08Rows_l1_loop {α : Type} (N : Nat) (p : Int) (rows_n : Nat) (rows_l : Nat) (rows_c : Nat) (r_ : Int) (row_n : Nat) (row_l : Nat) (row_c : Nat) (list_n : Nat) (list_l : Nat) (list_c : Nat) (h0_0 : Int) (h0_1 : Nat → Int) (h0_2 : Nat → Int) (h1 : List (List Int)) (h2 : List (Nat × Nat)) (h3_n : Nat) (h4 : List Int) (K : AExit → St → Option α) : ∀ (m : Nat) (i : Int) (h3 : Nat → Int),
    loopN (trimSt ((A_s_l08Rows_l1 α N).ann 75 7).head ((A_s_l08Rows_l1 α N).ann 75 7).grow 5) (bodyK Try.prog (A_s_l08Rows_l1 α N) 1 0 75 Try.f75 7) m (buildS s_l08Rows_l1_p [.i p, .n rows_n, .n rows_l, .n rows_c, .i r_, .n row_n, .n row_l, .n row_c, .n list_n, .n list_l, .n list_c, .i i, .i h0_0, .f h0_1, .f h0_2, .r h1, .p h2, .n h3_n, .f h3, .l h4]) (leaveLoop ((A_s_l08Rows_l1 α N).ann 75 7) 5 K) = s_l08Rows_l1 none p rows_n rows_l rows_c r_ row_n row_l row_c list_n list_l list_c h0_0 h0_1 h0_2 h1 h2 h3_n h4 m i h3 (fun h3_ => K (.exit 2) (buildS s_l08Rows_l1_o0 [.i p, .n rows_n, .n rows_l, .n rows_c, .i r_, .n row_n, .n row_l, .n row_c, .i h0_0, .f h0_1, .f h0_2, .r h1, .p h2, .n h3_n, .f h3_, .l h4])) := by
  intro m
  induction m with
  | zero => intros; rfl
  | succ m ih =>
    intro i h3
    rw [loopN_round]
    refine (s_l08Rows_l1_round N p rows_n rows_l rows_c r_ row_n row_l row_c list_n list_l list_c i h0_0 h0_1 h0_2 h1 h2 h3_n h3 h4 _ K).trans ?_
    simp only [ih]
    rfl
def E_s_l08Rows_l1 (α : Type) (N : Nat) : Env α := (A_s_l08Rows_l1 α N).addLoop2 75 7 (loopSum2 ((A_s_l08Rows_l1 α N).ann 75 7) 0 s_l08Rows_l1_p (fun l K => match l with
    | [.i p, .n rows_n, .n rows_l, .n rows_c, .i r_, .n row_n, .n row_l, .n row_c, .n list_n, .n list_l, .n list_c, .i i, .i h0_0, .f h0_1, .f h0_2, .r h1, .p h2, .n h3_n, .f h3, .l h4] => s_l08Rows_l1 none p rows_n rows_l rows_c r_ row_n row_l row_c list_n list_l list_c h0_0 h0_1 h0_2 h1 h2 h3_n h4 N i h3 (fun h3_ => K (.exit 2) (buildS s_l08Rows_l1_o0 [.i p, .n rows_n, .n rows_l, .n rows_c, .i r_, .n row_n, .n row_l, .n row_c, .i h0_0, .f h0_1, .f h0_2, .r h1, .p h2, .n h3_n, .f h3_, .l h4]))
    | _ => none) ((A_s_l08Rows_l1 α N).ls 75 7))
theorem E_s_l08Rows_l1_ok {α : Type} (N : Nat) : EnvOk Try.prog (E_s_l08Rows_l1 α N) := (A_s_l08Rows_l1_ok N).addLoop2 Try.func75 (by kernel_rfl) (loopSum_ok prog_mixed prog_names (A_s_l08Rows_l1_ok N) Try.func75 (by kernel_rfl) (d := 1) (ro := 0) fun l K r h => by
  split at h
  · exact (s_l08Rows_l1_loop N _ _ _ _ _ _ _ _ _ _ _ _ _ _ _ _ _ _ K N _ _).trans h
  · cases h)

/-- spec.l08Rows, loop -/
def s_l08Rows_l0_p : SPat := ⟨[.undef, .int .i64, .ptr ⟨⟨0, 0⟩, 0, 0, 1⟩, .undef, .undef, .sliceV 2 0 0 1 false, .int .i64] ++ List.replicate 42 .undef, [[.vals [.int .i64], .ints .u8 8, .ints .u8 8], [.pool .i64], [.hdr 1]]⟩
def s_l08Rows_l0_o0 : SPat := ⟨[.undef, .undef, .undef, .undef, .undef, .sliceV 2 0 0 1 false] ++ List.replicate 43 .undef, [[.vals [.int .i64], .ints .u8 8, .ints .u8 8], [.pool .i64], [.hdr 1]]⟩
theorem s_l08Rows_l0_round {α : Type} (N : Nat) (p : Int) (rows_n : Nat) (rows_l : Nat) (rows_c : Nat) (r_ : Int) (h0_0 : Int) (h0_1 : Nat → Int) (h0_2 : Nat → Int) (h1 : List (List Int)) (h2 : List (Nat × Nat)) (kn : St → Option α) (K : AExit → St → Option α) :
    roundK Try.prog (E_s_l08Rows_l1 α N) 1 0 75 Try.f75 3 3 (buildS s_l08Rows_l0_p [.i p, .n rows_n, .n rows_l, .n rows_c, .i r_, .i h0_0, .f h0_1, .f h0_2, .r h1, .p h2]) kn K = s_l08Rows_l0_s none N p h0_0 h0_1 h0_2 rows_n rows_l rows_c r_ h1 h2 (fun rows_n rows_l rows_c r_ h1 h2 => kn (buildS s_l08Rows_l0_p [.i p, .n rows_n, .n rows_l, .n rows_c, .i r_, .i h0_0, .f h0_1, .f h0_2, .r h1, .p h2])) (fun rows_n_ rows_l_ rows_c_ h1_ h2_ => K (.exit 0) (buildS s_l08Rows_l0_o0 [.n rows_n_, .n rows_l_, .n rows_c_, .i h0_0, .f h0_1, .f h0_2, .r h1_, .p h2_])) := by kernel_rfl
theorem s_l08Rows_l0_loop {α : Type} (N : Nat) (p : Int) (h0_0 : Int) (h0_1 : Nat → Int) (h0_2 : Nat → Int) (K : AExit → St → Option α) : ∀ (m : Nat) (rows_n : Nat) (rows_l : Nat) (rows_c : Nat) (r_ : Int) (h1 : List (List Int)) (h2 : List (Nat × Nat)),
    loopN (trimSt ((E_s_l08Rows_l1 α N).ann 75 3).head ((E_s_l08Rows_l1 α N).ann 75 3).grow 3) (bodyK Try.prog (E_s_l08Rows_l1 α N) 1 0 75 Try.f75 3) m (buildS s_l08Rows_l0_p [.i p, .n rows_n, .n rows_l, .n rows_c, .i r_, .i h0_0, .f h0_1, .f h0_2, .r h1, .p h2]) (leaveLoop ((E_s_l08Rows_l1 α N).ann 75 3) 3 K) = s_l08Rows_l0 none N p h0_0 h0_1 h0_2 m rows_n rows_l rows_c r_ h1 h2 (fun rows_n_ rows_l_ rows_c_ h1_ h2_ => K (.exit 0) (buildS s_l08Rows_l0_o0 [.n rows_n_, .n rows_l_, .n rows_c_, .i h0_0, .f h0_1, .f h0_2, .r h1_, .p h2_])) := by
  intro m
  induction m with
  | zero => intros; rfl
  | succ m ih =>
    intro rows_n rows_l rows_c r_ h1 h2
    rw [loopN_round]
    refine (s_l08Rows_l0_round N p rows_n rows_l rows_c r_ h0_0 h0_1 h0_2 h1 h2 _ K).trans ?_
    simp only [ih]
    rfl
def E_s_l08Rows_l0 (α : Type) (N : Nat) : Env α := (E_s_l08Rows_l1 α N).addLoop2 75 3 (loopSum2 ((E_s_l08Rows_l1 α N).ann 75 3) 0 s_l08Rows_l0_p (fun l K => match l with
    | [.i p, .n rows_n, .n rows_l, .n rows_c, .i r_, .i h0_0, .f h0_1, .f h0_2, .r h1, .p h2] => s_l08Rows_l0 none N p h0_0 h0_1 h0_2 N rows_n rows_l rows_c r_ h1 h2 (fun rows_n_ rows_l_ rows_c_ h1_ h2_ => K (.exit 0) (buildS s_l08Rows_l0_o0 [.n rows_n_, .n rows_l_, .n rows_c_, .i h0_0, .f h0_1, .f h0_2, .r h1_, .p h2_]))
    | _ => none) ((E_s_l08Rows_l1 α N).ls 75 3))
theorem E_s_l08Rows_l0_ok {α : Type} (N : Nat) : EnvOk Try.prog (E_s_l08Rows_l0 α N) := (E_s_l08Rows_l1_ok N).addLoop2 Try.func75 (by kernel_rfl) (loopSum_ok prog_mixed prog_names (E_s_l08Rows_l1_ok N) Try.func75 (by kernel_rfl) (d := 1) (ro := 0) fun l K r h => by
  split at h
  · exact (s_l08Rows_l0_loop N _ _ _ _ K N _ _ _ _ _ _).trans h
  · cases h)

/-- spec.l08Rows -/
def s_l08Rows_a : SPat := ⟨[.agg [.vals [.int .i64], .ints .u8 8, .ints .u8 8], .int .i64], []⟩
def s_l08Rows_r0 : SPat := ⟨[.sliceV 0 0 0 1 false], [[.hdr 1], [.pool .i64]]⟩
theorem s_l08Rows_run {α : Type} (N : Nat) (g_0 : Int) (g_1 : Nat → Int) (g_2 : Nat → Int) (p : Int) (K : AV → Heap → Option α) :
    callK Try.prog (E_s_l08Rows_l0 α N) 1 75 0 (buildS s_l08Rows_a [.i g_0, .f g_1, .f g_2, .i p]).t (buildS s_l08Rows_a [.i g_0, .f g_1, .f g_2, .i p]).h K = s_l08Rows none N g_0 g_1 g_2 p (fun r_n_ r_l_ r_c_ h0_ h1_ => retK (buildS s_l08Rows_r0 [.n r_n_, .n r_l_, .n r_c_, .p h0_, .r h1_]) K) := by kernel_rfl
def E_s_l08Rows (α : Type) (N : Nat) : Env α := (E_s_l08Rows_l0 α N).addFun 75 true 0 s_l08Rows_a (fun l K => match l with
    | [.i g_0, .f g_1, .f g_2, .i p] => s_l08Rows none N g_0 g_1 g_2 p (fun r_n_ r_l_ r_c_ h0_ h1_ => retK (buildS s_l08Rows_r0 [.n r_n_, .n r_l_, .n r_c_, .p h0_, .r h1_]) K)
    | _ => none)
theorem E_s_l08Rows_ok {α : Type} (N : Nat) : EnvOk Try.prog (E_s_l08Rows α N) := (E_s_l08Rows_l0_ok N).addFun prog_mixed prog_names (d := 1) fun l K r h => by
  split at h
  · exact (s_l08Rows_run N _ _ _ _ K).trans h
  · cases h

def A_s_l08Reduce_l0 (α : Type) (N : Nat) : Env α := (E_s_l08Rows α N).addAnn 74 3 { head := [0, 1, 5, 6], grow := [5], out := [1, 5], ret := [4] }
theorem A_s_l08Reduce_l0_ok {α : Type} (N : Nat) : EnvOk Try.prog (A_s_l08Reduce_l0 α N) := (E_s_l08Rows_ok N).addAnn

/-- spec.l01Own -/
def s_l01Own_a : SPat := ⟨[.sliceR 0 1 false], [[.pool .i64]]⟩
def s_l01Own_r0 : SPat := ⟨[.slice ⟨⟨1, 0⟩, 0, 0, 0⟩ 0 0 1 true], [[.pool .i64], [.vec .i64]]⟩
def s_l01Own_r1 : SPat := ⟨[.sliceV 1 0 0 1 true], [[.pool .i64], [.vec .i64]]⟩
def s_l01Own_r2 : SPat := ⟨[.sliceV 1 0 0 1 false], [[.pool .i64], [.vec .i64]]⟩
theorem s_l01Own_run {α : Type} (N : Nat) (list_r : Nat) (list_o : Nat) (list_n : Nat) (list_l : Nat) (list_c : Nat) (h0 : List (List Int)) (K : AV → Heap → Option α) :
    callK Try.prog (A_s_l08Reduce_l0 α N) 1 127 1 (buildS s_l01Own_a [.n list_r, .n list_o, .n list_n, .n list_l, .n list_c, .r h0]).t (buildS s_l01Own_a [.n list_r, .n list_o, .n list_n, .n list_l, .n list_c, .r h0]).h K = s_l01Own none N list_r list_o list_n list_l list_c h0 (fun h1_ => retK (buildS s_l01Own_r0 [.r h0, .l h1_]) K) (fun r_n_ r_l_ r_c_ h1_ => retK (buildS s_l01Own_r1 [.n r_n_, .n r_l_, .n r_c_, .r h0, .l h1_]) K) (fun r_n_ r_l_ r_c_ h1_ => retK (buildS s_l01Own_r2 [.n r_n_, .n r_l_, .n r_c_, .r h0, .l h1_]) K) := by kernel_rfl
def E_s_l01Own (α : Type) (N : Nat) : Env α := (A_s_l08Reduce_l0 α N).addFun 127 true 1 s_l01Own_a (fun l K => match l with
    | [.n list_r, .n list_o, .n list_n, .n list_l, .n list_c, .r h0] => s_l01Own none N list_r list_o list_n list_l list_c h0 (fun h1_ => retK (buildS s_l01Own_r0 [.r h0, .l h1_]) K) (fun r_n_ r_l_ r_c_ h1_ => retK (buildS s_l01Own_r1 [.n r_n_, .n r_l_, .n r_c_, .r h0, .l h1_]) K) (fun r_n_ r_l_ r_c_ h1_ => retK (buildS s_l01Own_r2 [.n r_n_, .n r_l_, .n r_c_, .r h0, .l h1_]) K)
    | _ => none)
theorem E_s_l01Own_ok {α : Type} (N : Nat) : EnvOk Try.prog (E_s_l01Own α N) := (A_s_l08Reduce_l0_ok N).addFun prog_mixed prog_names (d := 1) fun l K r h => by
  split at h
  · exact (s_l01Own_run N _ _ _ _ _ _ K).trans h
  · cases h

/-- spec.l08Reduce, loop -/
def s_l08Reduce_l0_p : SPat := ⟨[.sliceV 0 0 0 1 false, .int .i64, .undef, .undef, .undef, .sliceV 3 0 0 1 false, .int .i64] ++ List.replicate 161 .undef, [[.hdr 1], [.pool .i64], [.pool .i64], [.hdr 2]]⟩
def s_l08Reduce_l0_o0 : SPat := ⟨[.undef, .int .i64, .undef, .undef, .undef, .sliceV 3 0 0 1 false] ++ List.replicate 162 .undef, [[.hdr 1], [.pool .i64], [.pool .i64], [.hdr 2]]⟩
theorem s_l08Reduce_l0_round {α : Type} (N : Nat) (rows_n : Nat) (rows_l : Nat) (rows_c : Nat) (t1 : Int) (t5_n : Nat) (t5_l : Nat) (t5_c : Nat) (t6 : Int) (h0 : List (Nat × Nat)) (h1 : List (List Int)) (h2 : List (List Int)) (h3 : List (Nat × Nat)) (kn : St → Option α) (K : AExit → St → Option α) :
    roundK Try.prog (E_s_l01Own α N) 1 2 74 Try.f74 3 4 (buildS s_l08Reduce_l0_p [.n rows_n, .n rows_l, .n rows_c, .i t1, .n t5_n, .n t5_l, .n t5_c, .i t6, .p h0, .r h1, .r h2, .p h3]) kn K = s_l08Reduce_l0_s none N rows_n rows_l rows_c t1 h0 h1 t5_n t5_l t5_c t6 h2 h3 (fun t5_n t5_l t5_c t6 h2 h3 => kn (buildS s_l08Reduce_l0_p [.n rows_n, .n rows_l, .n rows_c, .i t1, .n t5_n, .n t5_l, .n t5_c, .i t6, .p h0, .r h1, .r h2, .p h3])) (fun t5_n_ t5_l_ t5_c_ h2_ h3_ => K (.exit 0) (buildS s_l08Reduce_l0_o0 [.i t1, .n t5_n_, .n t5_l_, .n t5_c_, .p h0, .r h1, .r h2_, .p h3_])) := by kernel_rfl
theorem s_l08Reduce_l0_loop {α : Type} (N : Nat) (rows_n : Nat) (rows_l : Nat) (rows_c : Nat) (t1 : Int) (h0 : List (Nat × Nat)) (h1 : List (List Int)) (K : AExit → St → Option α) : ∀ (m : Nat) (t5_n : Nat) (t5_l : Nat) (t5_c : Nat) (t6 : Int) (h2 : List (List Int)) (h3 : List (Nat × Nat)),
    loopN (trimSt ((E_s_l01Own α N).ann 74 3).head ((E_s_l01Own α N).ann 74 3).grow 4) (bodyK Try.prog (E_s_l01Own α N) 1 2 74 Try.f74 3) m (buildS s_l08Reduce_l0_p [.n rows_n, .n rows_l, .n rows_c, .i t1, .n t5_n, .n t5_l, .n t5_c, .i t6, .p h0, .r h1, .r h2, .p h3]) (leaveLoop ((E_s_l01Own α N).ann 74 3) 4 K) = s_l08Reduce_l0 none N rows_n rows_l rows_c t1 h0 h1 m t5_n t5_l t5_c t6 h2 h3 (fun t5_n_ t5_l_ t5_c_ h2_ h3_ => K (.exit 0) (buildS s_l08Reduce_l0_o0 [.i t1, .n t5_n_, .n t5_l_, .n t5_c_, .p h0, .r h1, .r h2_, .p h3_])) := by
  intro m
  induction m with
  | zero => intros; rfl
  | succ m ih =>
    intro t5_n t5_l t5_c t6 h2 h3
    rw [loopN_round]
    refine (s_l08Reduce_l0_round N rows_n rows_l rows_c t1 t5_n t5_l t5_c t6 h0 h1 h2 h3 _ K).trans ?_
    simp only [ih]
    rfl
def E_s_l08Reduce_l0 (α : Type) (N : Nat) : Env α := (E_s_l01Own α N).addLoop2 74 3 (loopSum2 ((E_s_l01Own α N).ann 74 3) 2 s_l08Reduce_l0_p (fun l K => match l with
    | [.n rows_n, .n rows_l, .n rows_c, .i t1, .n t5_n, .n t5_l, .n t5_c, .i t6, .p h0, .r h1, .r h2, .p h3] => s_l08Reduce_l0 none N rows_n rows_l rows_c t1 h0 h1 N t5_n t5_l t5_c t6 h2 h3 (fun t5_n_ t5_l_ t5_c_ h2_ h3_ => K (.exit 0) (buildS s_l08Reduce_l0_o0 [.i t1, .n t5_n_, .n t5_l_, .n t5_c_, .p h0, .r h1, .r h2_, .p h3_]))
    | _ => none) ((E_s_l01Own α N).ls 74 3))
theorem E_s_l08Reduce_l0_ok {α : Type} (N : Nat) : EnvOk Try.prog (E_s_l08Reduce_l0 α N) := (E_s_l01Own_ok N).addLoop2 Try.func74 (by kernel_rfl) (loopSum_ok prog_mixed prog_names (E_s_l01Own_ok N) Try.func74 (by kernel_rfl) (d := 1) (ro := 2) fun l K r h => by
  split at h
  · exact (s_l08Reduce_l0_loop N _ _ _ _ _ _ K N _ _ _ _ _ _).trans h
  · cases h)

def A_s_l08Reduce_l1 (α : Type) (N : Nat) : Env α := (E_s_l08Reduce_l0 α N).addAnn 74 8 { head := [1, 5, 7, 8], grow := [], out := [5, 7], ret := [4] }
theorem A_s_l08Reduce_l1_ok {α : Type} (N : Nat) : EnvOk Try.prog (A_s_l08Reduce_l1 α N) := (E_s_l08Reduce_l0_ok N).addAnn

def A_s_l08Reduce_l2 (α : Type) (N : Nat) : Env α := (A_s_l08Reduce_l1 α N).addAnn 74 11 { head := [1, 5, 7, 8, 9], grow := [], out := [1, 5, 7, 8, 9], ret := [4] }
theorem A_s_l08Reduce_l2_ok {α : Type} (N : Nat) : EnvOk Try.prog (A_s_l08Reduce_l2 α N) := (A_s_l08Reduce_l1_ok N).addAnn

/-- spec.l08Reduce, loop -/
def s_l08Reduce_l2_p : SPat := ⟨[.undef, .int .i64, .undef, .undef, .undef, .sliceV 3 0 0 1 false, .undef, .int .i64, .int .i64, .int .i64] ++ List.replicate 158 .undef, [[.hdr 1], [.pool .i64], [.pool .i64], [.hdr 2]]⟩
def s_l08Reduce_l2_o0 : SPat := ⟨[.undef, .int .i64, .undef, .undef, .undef, .sliceV 3 0 0 1 false, .undef, .int .i64, .int .i64, .int .i64] ++ List.replicate 158 .undef, [[.hdr 1], [.pool .i64], [.pool .i64], [.hdr 2]]⟩
theorem s_l08Reduce_l2_round {α : Type} (N : Nat) (t1 : Int) (t5_n : Nat) (t5_l : Nat) (t5_c : Nat) (t7 : Int) (t8 : Int) (t9 : Int) (h0 : List (Nat × Nat)) (h1 : List (List Int)) (h2 : List (List Int)) (h3 : List (Nat × Nat)) (kn : St → Option α) (K : AExit → St → Option α) :
    roundK Try.prog (A_s_l08Reduce_l2 α N) 1 2 74 Try.f74 11 4 (buildS s_l08Reduce_l2_p [.i t1, .n t5_n, .n t5_l, .n t5_c, .i t7, .i t8, .i t9, .p h0, .r h1, .r h2, .p h3]) kn K = s_l08Reduce_l2_s none t1 t5_n t5_l t5_c t7 t8 h0 h1 h2 h3 t9 (fun t9 => kn (buildS s_l08Reduce_l2_p [.i t1, .n t5_n, .n t5_l, .n t5_c, .i t7, .i t8, .i t9, .p h0, .r h1, .r h2, .p h3])) (fun t9_ => K (.exit 4) (buildS s_l08Reduce_l2_o0 [.i t1, .n t5_n, .n t5_l, .n t5_c, .i t7, .i t8, .i t9_, .p h0, .r h1, .r h2, .p h3])) := by kernel_rfl
theorem s_l08Reduce_l2_loop {α : Type} (N : Nat) (t1 : Int) (t5_n : Nat) (t5_l : Nat) (t5_c : Nat) (t7 : Int) (t8 : Int) (h0 : List (Nat × Nat)) (h1 : List (List Int)) (h2 : List (List Int)) (h3 : List (Nat × Nat)) (K : AExit → St → Option α) : ∀ (m : Nat) (t9 : Int),
    loopN (trimSt ((A_s_l08Reduce_l2 α N).ann 74 11).head ((A_s_l08Reduce_l2 α N).ann 74 11).grow 4) (bodyK Try.prog (A_s_l08Reduce_l2 α N) 1 2 74 Try.f74 11) m (buildS s_l08Reduce_l2_p [.i t1, .n t5_n, .n t5_l, .n t5_c, .i t7, .i t8, .i t9, .p h0, .r h1, .r h2, .p h3]) (leaveLoop ((A_s_l08Reduce_l2 α N).ann 74 11) 4 K) = s_l08Reduce_l2 none t1 t5_n t5_l t5_c t7 t8 h0 h1 h2 h3 m t9 (fun t9_ => K (.exit 4) (buildS s_l08Reduce_l2_o0 [.i t1, .n t5_n, .n t5_l, .n t5_c, .i t7, .i t8, .i t9_, .p h0, .r h1, .r h2, .p h3])) := by
  intro m
  induction m with
  | zero => intros; rfl
  | succ m ih =>
    intro t9
    rw [loopN_round]
    refine (s_l08Reduce_l2_round N t1 t5_n t5_l t5_c t7 t8 t9 h0 h1 h2 h3 _ K).trans ?_
    simp only [ih]
    rfl
def E_s_l08Reduce_l2 (α : Type) (N : Nat) : Env α := (A_s_l08Reduce_l2 α N).addLoop2 74 11 (loopSum2 ((A_s_l08Reduce_l2 α N).ann 74 11) 2 s_l08Reduce_l2_p (fun l K => match l with
    | [.i t1, .n t5_n, .n t5_l, .n t5_c, .i t7, .i t8, .i t9, .p h0, .r h1, .r h2, .p h3] => s_l08Reduce_l2 none t1 t5_n t5_l t5_c t7 t8 h0 h1 h2 h3 N t9 (fun t9_ => K (.exit 4) (buildS s_l08Reduce_l2_o0 [.i t1, .n t5_n, .n t5_l, .n t5_c, .i t7, .i t8, .i t9_, .p h0, .r h1, .r h2, .p h3]))
    | _ => none) ((A_s_l08Reduce_l2 α N).ls 74 11))
theorem E_s_l08Reduce_l2_ok {α : Type} (N : Nat) : EnvOk Try.prog (E_s_l08Reduce_l2 α N) := (A_s_l08Reduce_l2_ok N).addLoop2 Try.func74 (by kernel_rfl) (loopSum_ok prog_mixed prog_names (A_s_l08Reduce_l2_ok N) Try.func74 (by kernel_rfl) (d := 1) (ro := 2) fun l K r h => by
  split at h
  · exact (s_l08Reduce_l2_loop N _ _ _ _ _ _ _ _ _ _ K N _).trans h
  · cases h)

def A_s_l08Reduce_l3 (α : Type) (N : Nat) : Env α := (E_s_l08Reduce_l2 α N).addAnn 74 17 { head := [1, 5, 7, 8, 10, 11], grow := [], out := [1, 5, 7, 8, 10, 11], ret := [4] }
theorem A_s_l08Reduce_l3_ok {α : Type} (N : Nat) : EnvOk Try.prog (A_s_l08Reduce_l3 α N) := (E_s_l08Reduce_l2_ok N).addAnn

/-- spec.l08Reduce, loop -/
def s_l08Reduce_l3_p : SPat := ⟨[.undef, .int .i64, .undef, .undef, .undef, .sliceV 3 0 0 1 false, .undef, .int .i64, .int .i64, .undef, .sliceR 2 1 false, .int .i64] ++ List.replicate 156 .undef, [[.hdr 1], [.pool .i64], [.pool .i64], [.hdr 2]]⟩
def s_l08Reduce_l3_o0 : SPat := ⟨[.undef, .int .i64, .undef, .undef, .undef, .sliceV 3 0 0 1 false, .undef, .int .i64, .int .i64, .undef, .sliceR 2 1 false, .int .i64] ++ List.replicate 156 .undef, [[.hdr 1], [.pool .i64], [.pool .i64], [.hdr 2]]⟩
theorem s_l08Reduce_l3_round {α : Type} (N : Nat) (t1 : Int) (t5_n : Nat) (t5_l : Nat) (t5_c : Nat) (t7 : Int) (t8 : Int) (t10_r : Nat) (t10_o : Nat) (t10_n : Nat) (t10_l : Nat) (t10_c : Nat) (t11 : Int) (h0 : List (Nat × Nat)) (h1 : List (List Int)) (h2 : List (List Int)) (h3 : List (Nat × Nat)) (kn : St → Option α) (K : AExit → St → Option α) :
    roundK Try.prog (A_s_l08Reduce_l3 α N) 1 2 74 Try.f74 17 4 (buildS s_l08Reduce_l3_p [.i t1, .n t5_n, .n t5_l, .n t5_c, .i t7, .i t8, .n t10_r, .n t10_o, .n t10_n, .n t10_l, .n t10_c, .i t11, .p h0, .r h1, .r h2, .p h3]) kn K = s_l08Reduce_l3_s none t1 t5_n t5_l t5_c t7 t8 t10_r t10_o t10_n t10_l t10_c h0 h1 h2 h3 t11 (fun t11 => kn (buildS s_l08Reduce_l3_p [.i t1, .n t5_n, .n t5_l, .n t5_c, .i t7, .i t8, .n t10_r, .n t10_o, .n t10_n, .n t10_l, .n t10_c, .i t11, .p h0, .r h1, .r h2, .p h3])) (fun t11_ => K (.exit 6) (buildS s_l08Reduce_l3_o0 [.i t1, .n t5_n, .n t5_l, .n t5_c, .i t7, .i t8, .n t10_r, .n t10_o, .n t10_n, .n t10_l, .n t10_c, .i t11_, .p h0, .r h1, .r h2, .p h3])) := by kernel_rfl
theorem s_l08Reduce_l3_loop {α : Type} (N : Nat) (t1 : Int) (t5_n : Nat) (t5_l : Nat) (t5_c : Nat) (t7 : Int) (t8 : Int) (t10_r : Nat) (t10_o : Nat) (t10_n : Nat) (t10_l : Nat) (t10_c : Nat) (h0 : List (Nat × Nat)) (h1 : List (List Int)) (h2 : List (List Int)) (h3 : List (Nat × Nat)) (K : AExit → St → Option α) : ∀ (m : Nat) (t11 : Int),
    loopN (trimSt ((A_s_l08Reduce_l3 α N).ann 74 17).head ((A_s_l08Reduce_l3 α N).ann 74 17).grow 4) (bodyK Try.prog (A_s_l08Reduce_l3 α N) 1 2 74 Try.f74 17) m (buildS s_l08Reduce_l3_p [.i t1, .n t5_n, .n t5_l, .n t5_c, .i t7, .i t8, .n t10_r, .n t10_o, .n t10_n, .n t10_l, .n t10_c, .i t11, .p h0, .r h1, .r h2, .p h3]) (leaveLoop ((A_s_l08Reduce_l3 α N).ann 74 17) 4 K) = s_l08Reduce_l3 none t1 t5_n t5_l t5_c t7 t8 t10_r t10_o t10_n t10_l t10_c h0 h1 h2 h3 m t11 (fun t11_ => K (.exit 6) (buildS s_l08Reduce_l3_o0 [.i t1, .n t5_n, .n t5_l, .n t5_c, .i t7, .i t8, .n t10_r, .n t10_o, .n t10_n, .n t10_l, .n t10_c, .i t11_, .p h0, .r h1, .r h2, .p h3])) := by
  intro m
  induction m with
  | zero => intros; rfl
  | succ m ih =>
    intro t11
    rw [loopN_round]
    refine (s_l08Reduce_l3_round N t1 t5_n t5_l t5_c t7 t8 t10_r t10_o t10_n t10_l t10_c t11 h0 h1 h2 h3 _ K).trans ?_
    simp only [ih]
    rfl
def E_s_l08Reduce_l3 (α : Type) (N : Nat) : Env α := (A_s_l08Reduce_l3 α N).addLoop2 74 17 (loopSum2 ((A_s_l08Reduce_l3 α N).ann 74 17) 2 s_l08Reduce_l3_p (fun l K => match l with
    | [.i t1, .n t5_n, .n t5_l, .n t5_c, .i t7, .i t8, .n t10_r, .n t10_o, .n t10_n, .n t10_l, .n t10_c, .i t11, .p h0, .r h1, .r h2, .p h3] => s_l08Reduce_l3 none t1 t5_n t5_l t5_c t7 t8 t10_r t10_o t10_n t10_l t10_c h0 h1 h2 h3 N t11 (fun t11_ => K (.exit 6) (buildS s_l08Reduce_l3_o0 [.i t1, .n t5_n, .n t5_l, .n t5_c, .i t7, .i t8, .n t10_r, .n t10_o, .n t10_n, .n t10_l, .n t10_c, .i t11_, .p h0, .r h1, .r h2, .p h3]))
    | _ => none) ((A_s_l08Reduce_l3 α N).ls 74 17))
theorem E_s_l08Reduce_l3_ok {α : Type} (N : Nat) : EnvOk Try.prog (E_s_l08Reduce_l3 α N) := (A_s_l08Reduce_l3_ok N).addLoop2 Try.func74 (by kernel_rfl) (loopSum_ok prog_mixed prog_names (A_s_l08Reduce_l3_ok N) Try.func74 (by kernel_rfl) (d := 1) (ro := 2) fun l K r h => by
  split at h
  · exact (s_l08Reduce_l3_loop N _ _ _ _ _ _ _ _ _ _ _ _ _ _ _ K N _).trans h
  · cases h)

def A_s_l08Reduce_l4 (α : Type) (N : Nat) : Env α := (E_s_l08Reduce_l3 α N).addAnn 74 20 { head := [1, 5, 7, 8, 10, 11, 12], grow := [], out := [1, 5, 7, 8, 10], ret := [4] }
theorem A_s_l08Reduce_l4_ok {α : Type} (N : Nat) : EnvOk Try.prog (A_s_l08Reduce_l4 α N) := (E_s_l08Reduce_l3_ok N).addAnn

/-- spec.l08Reduce, loop -/
def s_l08Reduce_l4_p : SPat := ⟨[.undef, .int .i64, .undef, .undef, .undef, .sliceV 3 0 0 1 false, .undef, .int .i64, .int .i64, .undef, .sliceR 2 1 false, .int .i64, .int .i64] ++ List.replicate 155 .undef, [[.hdr 1], [.pool .i64], [.pool .i64], [.hdr 2]]⟩
def s_l08Reduce_l4_o0 : SPat := ⟨[.undef, .int .i64, .undef, .undef, .undef, .sliceV 3 0 0 1 false, .undef, .int .i64, .int .i64, .undef, .sliceR 2 1 false] ++ List.replicate 157 .undef, [[.hdr 1], [.pool .i64], [.pool .i64], [.hdr 2]]⟩
theorem s_l08Reduce_l4_round {α : Type} (N : Nat) (t1 : Int) (t5_n : Nat) (t5_l : Nat) (t5_c : Nat) (t7 : Int) (t8 : Int) (t10_r : Nat) (t10_o : Nat) (t10_n : Nat) (t10_l : Nat) (t10_c : Nat) (t11 : Int) (t12 : Int) (h0 : List (Nat × Nat)) (h1 : List (List Int)) (h2 : List (List Int)) (h3 : List (Nat × Nat)) (kn : St → Option α) (K : AExit → St → Option α) :
    roundK Try.prog (A_s_l08Reduce_l4 α N) 1 2 74 Try.f74 20 4 (buildS s_l08Reduce_l4_p [.i t1, .n t5_n, .n t5_l, .n t5_c, .i t7, .i t8, .n t10_r, .n t10_o, .n t10_n, .n t10_l, .n t10_c, .i t11, .i t12, .p h0, .r h1, .r h2, .p h3]) kn K = s_l08Reduce_l4_s none t1 t5_n t5_l t5_c t7 t8 t10_r t10_o t10_n t10_l t10_c t11 h0 h1 h3 t12 h2 (fun t12 h2 => kn (buildS s_l08Reduce_l4_p [.i t1, .n t5_n, .n t5_l, .n t5_c, .i t7, .i t8, .n t10_r, .n t10_o, .n t10_n, .n t10_l, .n t10_c, .i t11, .i t12, .p h0, .r h1, .r h2, .p h3])) (fun h2_ => K (.exit 8) (buildS s_l08Reduce_l4_o0 [.i t1, .n t5_n, .n t5_l, .n t5_c, .i t7, .i t8, .n t10_r, .n t10_o, .n t10_n, .n t10_l, .n t10_c, .p h0, .r h1, .r h2_, .p h3])) := by kernel_rfl
theorem s_l08Reduce_l4_loop {α : Type} (N : Nat) (t1 : Int) (t5_n : Nat) (t5_l : Nat) (t5_c : Nat) (t7 : Int) (t8 : Int) (t10_r : Nat) (t10_o : Nat) (t10_n : Nat) (t10_l : Nat) (t10_c : Nat) (t11 : Int) (h0 : List (Nat × Nat)) (h1 : List (List Int)) (h3 : List (Nat × Nat)) (K : AExit → St → Option α) : ∀ (m : Nat) (t12 : Int) (h2 : List (List Int)),
    loopN (trimSt ((A_s_l08Reduce_l4 α N).ann 74 20).head ((A_s_l08Reduce_l4 α N).ann 74 20).grow 4) (bodyK Try.prog (A_s_l08Reduce_l4 α N) 1 2 74 Try.f74 20) m (buildS s_l08Reduce_l4_p [.i t1, .n t5_n, .n t5_l, .n t5_c, .i t7, .i t8, .n t10_r, .n t10_o, .n t10_n, .n t10_l, .n t10_c, .i t11, .i t12, .p h0, .r h1, .r h2, .p h3]) (leaveLoop ((A_s_l08Reduce_l4 α N).ann 74 20) 4 K) = s_l08Reduce_l4 none t1 t5_n t5_l t5_c t7 t8 t10_r t10_o t10_n t10_l t10_c t11 h0 h1 h3 m t12 h2 (fun h2_ => K (.exit 8) (buildS s_l08Reduce_l4_o0 [.i t1, .n t5_n, .n t5_l, .n t5_c, .i t7, .i t8, .n t10_r, .n t10_o, .n t10_n, .n t10_l, .n t10_c, .p h0, .r h1, .r h2_, .p h3])) := by
  intro m
  induction m with
  | zero => intros; rfl
  | succ m ih =>
    intro t12 h2
    rw [loopN_round]
    refine (s_l08Reduce_l4_round N t1 t5_n t5_l t5_c t7 t8 t10_r t10_o t10_n t10_l t10_c t11 t12 h0 h1 h2 h3 _ K).trans ?_
    simp only [ih]
    rfl
def E_s_l08Reduce_l4 (α : Type) (N : Nat) : Env α := (A_s_l08Reduce_l4 α N).addLoop2 74 20 (loopSum2 ((A_s_l08Reduce_l4 α N).ann 74 20) 2 s_l08Reduce_l4_p (fun l K => match l with
    | [.i t1, .n t5_n, .n t5_l, .n t5_c, .i t7, .i t8, .n t10_r, .n t10_o, .n t10_n, .n t10_l, .n t10_c, .i t11, .i t12, .p h0, .r h1, .r h2, .p h3] => s_l08Reduce_l4 none t1 t5_n t5_l t5_c t7 t8 t10_r t10_o t10_n t10_l t10_c t11 h0 h1 h3 N t12 h2 (fun h2_ => K (.exit 8) (buildS s_l08Reduce_l4_o0 [.i t1, .n t5_n, .n t5_l, .n t5_c, .i t7, .i t8, .n t10_r, .n t10_o, .n t10_n, .n t10_l, .n t10_c, .p h0, .r h1, .r h2_, .p h3]))
    | _ => none) ((A_s_l08Reduce_l4 α N).ls 74 20))
theorem E_s_l08Reduce_l4_ok {α : Type} (N : Nat) : EnvOk Try.prog (E_s_l08Reduce_l4 α N) := (A_s_l08Reduce_l4_ok N).addLoop2 Try.func74 (by kernel_rfl) (loopSum_ok prog_mixed prog_names (A_s_l08Reduce_l4_ok N) Try.func74 (by kernel_rfl) (d := 1) (ro := 2) fun l K r h => by
  split at h
  · exact (s_l08Reduce_l4_loop N _ _ _ _ _ _ _ _ _ _ _ _ _ _ _ K N _ _).trans h
  · cases h)

def A_s_l08Reduce_l5 (α : Type) (N : Nat) : Env α := (E_s_l08Reduce_l4 α N).addAnn 74 25 { head := [1, 5, 7, 8, 10, 13], grow := [], out := [1, 5, 7, 8], ret := [4] }
theorem A_s_l08Reduce_l5_ok {α : Type} (N : Nat) : EnvOk Try.prog (A_s_l08Reduce_l5 α N) := (E_s_l08Reduce_l4_ok N).addAnn

def A_s_l08Reduce_l6 (α : Type) (N : Nat) : Env α := (A_s_l08Reduce_l5 α N).addAnn 74 31 { head := [1, 5, 7, 8, 10, 13, 14, 15, 16], grow := [15], out := [1, 5, 7, 8, 10, 13, 15], ret := [4] }
theorem A_s_l08Reduce_l6_ok {α : Type} (N : Nat) : EnvOk Try.prog (A_s_l08Reduce_l6 α N) := (A_s_l08Reduce_l5_ok N).addAnn

/-- spec.l08Reduce, loop -/
def s_l08Reduce_l6_p : SPat := ⟨[.undef, .int .i64, .undef, .undef, .undef, .sliceV 3 0 0 1 false, .undef, .int .i64, .int .i64, .undef, .sliceR 2 1 false, .undef, .undef, .int .i64, .int .i64, .sliceV 4 0 0 1 false, .int .i64] ++ List.replicate 151 .undef, [[.hdr 1], [.pool .i64], [.pool .i64], [.hdr 2], [.vec .i64]]⟩
def s_l08Reduce_l6_o0 : SPat := ⟨[.undef, .int .i64, .undef, .undef, .undef, .sliceV 3 0 0 1 false, .undef, .int .i64, .int .i64, .undef, .sliceR 2 1 false, .undef, .undef, .int .i64, .undef, .sliceV 4 0 0 1 false] ++ List.replicate 152 .undef, [[.hdr 1], [.pool .i64], [.pool .i64], [.hdr 2], [.vec .i64]]⟩
theorem s_l08Reduce_l6_round {α : Type} (N : Nat) (t1 : Int) (t5_n : Nat) (t5_l : Nat) (t5_c : Nat) (t7 : Int) (t8 : Int) (t10_r : Nat) (t10_o : Nat) (t10_n : Nat) (t10_l : Nat) (t10_c : Nat) (t13 : Int) (t14 : Int) (t15_n : Nat) (t15_l : Nat) (t15_c : Nat) (t16 : Int) (h0 : List (Nat × Nat)) (h1 : List (List Int)) (h2 : List (List Int)) (h3 : List (Nat × Nat)) (h4 : List Int) (kn : St → Option α) (K : AExit → St → Option α) :
    roundK Try.prog (A_s_l08Reduce_l6 α N) 1 2 74 Try.f74 31 5 (buildS s_l08Reduce_l6_p [.i t1, .n t5_n, .n t5_l, .n t5_c, .i t7, .i t8, .n t10_r, .n t10_o, .n t10_n, .n t10_l, .n t10_c, .i t13, .i t14, .n t15_n, .n t15_l, .n t15_c, .i t16, .p h0, .r h1, .r h2, .p h3, .l h4]) kn K = s_l08Reduce_l6_s none t1 t5_n t5_l t5_c t7 t8 t10_r t10_o t10_n t10_l t10_c t13 t14 h0 h1 h2 h3 t15_n t15_l t15_c t16 h4 (fun t15_n t15_l t15_c t16 h4 => kn (buildS s_l08Reduce_l6_p [.i t1, .n t5_n, .n t5_l, .n t5_c, .i t7, .i t8, .n t10_r, .n t10_o, .n t10_n, .n t10_l, .n t10_c, .i t13, .i t14, .n t15_n, .n t15_l, .n t15_c, .i t16, .p h0, .r h1, .r h2, .p h3, .l h4])) (fun t15_n_ t15_l_ t15_c_ h4_ => K (.exit 12) (buildS s_l08Reduce_l6_o0 [.i t1, .n t5_n, .n t5_l, .n t5_c, .i t7, .i t8, .n t10_r, .n t10_o, .n t10_n, .n t10_l, .n t10_c, .i t13, .n t15_n_, .n t15_l_, .n t15_c_, .p h0, .r h1, .r h2, .p h3, .l h4_])) := by kernel_rfl
theorem s_l08Reduce_l6_loop {α : Type} (N : Nat) (t1 : Int) (t5_n : Nat) (t5_l : Nat) (t5_c : Nat) (t7 : Int) (t8 : Int) (t10_r : Nat) (t10_o : Nat) (t10_n : Nat) (t10_l : Nat) (t10_c : Nat) (t13 : Int) (t14 : Int) (h0 : List (Nat × Nat)) (h1 : List (List Int)) (h2 : List (List Int)) (h3 : List (Nat × Nat)) (K : AExit → St → Option α) : ∀ (m : Nat) (t15_n : Nat) (t15_l : Nat) (t15_c : Nat) (t16 : Int) (h4 : List Int),
    loopN (trimSt ((A_s_l08Reduce_l6 α N).ann 74 31).head ((A_s_l08Reduce_l6 α N).ann 74 31).grow 5) (bodyK Try.prog (A_s_l08Reduce_l6 α N) 1 2 74 Try.f74 31) m (buildS s_l08Reduce_l6_p [.i t1, .n t5_n, .n t5_l, .n t5_c, .i t7, .i t8, .n t10_r, .n t10_o, .n t10_n, .n t10_l, .n t10_c, .i t13, .i t14, .n t15_n, .n t15_l, .n t15_c, .i t16, .p h0, .r h1, .r h2, .p h3, .l h4]) (leaveLoop ((A_s_l08Reduce_l6 α N).ann 74 31) 5 K) = s_l08Reduce_l6 none t1 t5_n t5_l t5_c t7 t8 t10_r t10_o t10_n t10_l t10_c t13 t14 h0 h1 h2 h3 m t15_n t15_l t15_c t16 h4 (fun t15_n_ t15_l_ t15_c_ h4_ => K (.exit 12) (buildS s_l08Reduce_l6_o0 [.i t1, .n t5_n, .n t5_l, .n t5_c, .i t7, .i t8, .n t10_r, .n t10_o, .n t10_n, .n t10_l, .n t10_c, .i t13, .n t15_n_, .n t15_l_, .n t15_c_, .p h0, .r h1, .r h2, .p h3, .l h4_])) := by
  intro m
  induction m with
  | zero => intros; rfl
  | succ m ih =>
    intro t15_n t15_l t15_c t16 h4
    rw [loopN_round]
    refine (s_l08Reduce_l6_round N t1 t5_n t5_l t5_c t7 t8 t10_r t10_o t10_n t10_l t10_c t13 t14 t15_n t15_l t15_c t16 h0 h1 h2 h3 h4 _ K).trans ?_
    simp only [ih]
    rfl
def E_s_l08Reduce_l6 (α : Type) (N : Nat) : Env α := (A_s_l08Reduce_l6 α N).addLoop2 74 31 (loopSum2 ((A_s_l08Reduce_l6 α N).ann 74 31) 2 s_l08Reduce_l6_p (fun l K => match l with
    | [.i t1, .n t5_n, .n t5_l, .n t5_c, .i t7, .i t8, .n t10_r, .n t10_o, .n t10_n, .n t10_l, .n t10_c, .i t13, .i t14, .n t15_n, .n t15_l, .n t15_c, .i t16, .p h0, .r h1, .r h2, .p h3, .l h4] => s_l08Reduce_l6 none t1 t5_n t5_l t5_c t7 t8 t10_r t10_o t10_n t10_l t10_c t13 t14 h0 h1 h2 h3 N t15_n t15_l t15_c t16 h4 (fun t15_n_ t15_l_ t15_c_ h4_ => K (.exit 12) (buildS s_l08Reduce_l6_o0 [.i t1, .n t5_n, .n t5_l, .n t5_c, .i t7, .i t8, .n t10_r, .n t10_o, .n t10_n, .n t10_l, .n t10_c, .i t13, .n t15_n_, .n t15_l_, .n t15_c_, .p h0, .r h1, .r h2, .p h3, .l h4_]))
    | _ => none) ((A_s_l08Reduce_l6 α N).ls 74 31))
theorem E_s_l08Reduce_l6_ok {α : Type} (N : Nat) : EnvOk Try.prog (E_s_l08Reduce_l6 α N) := (A_s_l08Reduce_l6_ok N).addLoop2 Try.func74 (by kernel_rfl) (loopSum_ok prog_mixed prog_names (A_s_l08Reduce_l6_ok N) Try.func74 (by kernel_rfl) (d := 1) (ro := 2) fun l K r h => by
  split at h
  · exact (s_l08Reduce_l6_loop N _ _ _ _ _ _ _ _ _ _ _ _ _ _ _ _ _ K N _ _ _ _ _).trans h
  · cases h)

/-- spec.l08Reduce, loop -/
def s_l08Reduce_l5_p : SPat := ⟨[.undef, .int .i64, .undef, .undef, .undef, .sliceV 3 0 0 1 false, .undef, .int .i64, .int .i64, .undef, .sliceR 2 1 false, .undef, .undef, .int .i64] ++ List.replicate 154 .undef, [[.hdr 1], [.pool .i64], [.pool .i64], [.hdr 2]]⟩
def s_l08Reduce_l5_o0 : SPat := ⟨[.undef, .int .i64, .undef, .undef, .undef, .sliceV 3 0 0 1 false, .undef, .int .i64, .int .i64] ++ List.replicate 159 .undef, [[.hdr 1], [.pool .i64], [.pool .i64], [.hdr 2]]⟩
theorem s_l08Reduce_l5_round {α : Type} (N : Nat) (t1 : Int) (t5_n : Nat) (t5_l : Nat) (t5_c : Nat) (t7 : Int) (t8 : Int) (t10_r : Nat) (t10_o : Nat) (t10_n : Nat) (t10_l : Nat) (t10_c : Nat) (t13 : Int) (h0 : List (Nat × Nat)) (h1 : List (List Int)) (h2 : List (List Int)) (h3 : List (Nat × Nat)) (kn : St → Option α) (K : AExit → St → Option α) :
    roundK Try.prog (E_s_l08Reduce_l6 α N) 1 2 74 Try.f74 25 4 (buildS s_l08Reduce_l5_p [.i t1, .n t5_n, .n t5_l, .n t5_c, .i t7, .i t8, .n t10_r, .n t10_o, .n t10_n, .n t10_l, .n t10_c, .i t13, .p h0, .r h1, .r h2, .p h3]) kn K = s_l08Reduce_l5_s none N t1 t5_n t5_l t5_c t7 t8 t10_r t10_o t10_n t10_l t10_c h0 h1 t13 h2 h3 (fun t13 h2 h3 => kn (buildS s_l08Reduce_l5_p [.i t1, .n t5_n, .n t5_l, .n t5_c, .i t7, .i t8, .n t10_r, .n t10_o, .n t10_n, .n t10_l, .n t10_c, .i t13, .p h0, .r h1, .r h2, .p h3])) (fun h2_ h3_ => K (.exit 10) (buildS s_l08Reduce_l5_o0 [.i t1, .n t5_n, .n t5_l, .n t5_c, .i t7, .i t8, .p h0, .r h1, .r h2_, .p h3_])) := by kernel_rfl
theorem s_l08Reduce_l5_loop {α : Type} (N : Nat) (t1 : Int) (t5_n : Nat) (t5_l : Nat) (t5_c : Nat) (t7 : Int) (t8 : Int) (t10_r : Nat) (t10_o : Nat) (t10_n : Nat) (t10_l : Nat) (t10_c : Nat) (h0 : List (Nat × Nat)) (h1 : List (List Int)) (K : AExit → St → Option α) : ∀ (m : Nat) (t13 : Int) (h2 : List (List Int)) (h3 : List (Nat × Nat)),
    loopN (trimSt ((E_s_l08Reduce_l6 α N).ann 74 25).head ((E_s_l08Reduce_l6 α N).ann 74 25).grow 4) (bodyK Try.prog (E_s_l08Reduce_l6 α N) 1 2 74 Try.f74 25) m (buildS s_l08Reduce_l5_p [.i t1, .n t5_n, .n t5_l, .n t5_c, .i t7, .i t8, .n t10_r, .n t10_o, .n t10_n, .n t10_l, .n t10_c, .i t13, .p h0, .r h1, .r h2, .p h3]) (leaveLoop ((E_s_l08Reduce_l6 α N).ann 74 25) 4 K) = s_l08Reduce_l5 none N t1 t5_n t5_l t5_c t7 t8 t10_r t10_o t10_n t10_l t10_c h0 h1 m t13 h2 h3 (fun h2_ h3_ => K (.exit 10) (buildS s_l08Reduce_l5_o0 [.i t1, .n t5_n, .n t5_l, .n t5_c, .i t7, .i t8, .p h0, .r h1, .r h2_, .p h3_])) := by
  intro m
  induction m with
  | zero => intros; rfl
  | succ m ih =>
    intro t13 h2 h3
    rw [loopN_round]
    refine (s_l08Reduce_l5_round N t1 t5_n t5_l t5_c t7 t8 t10_r t10_o t10_n t10_l t10_c t13 h0 h1 h2 h3 _ K).trans ?_
    simp only [ih]
    rfl
def E_s_l08Reduce_l5 (α : Type) (N : Nat) : Env α := (E_s_l08Reduce_l6 α N).addLoop2 74 25 (loopSum2 ((E_s_l08Reduce_l6 α N).ann 74 25) 2 s_l08Reduce_l5_p (fun l K => match l with
    | [.i t1, .n t5_n, .n t5_l, .n t5_c, .i t7, .i t8, .n t10_r, .n t10_o, .n t10_n, .n t10_l, .n t10_c, .i t13, .p h0, .r h1, .r h2, .p h3] => s_l08Reduce_l5 none N t1 t5_n t5_l t5_c t7 t8 t10_r t10_o t10_n t10_l t10_c h0 h1 N t13 h2 h3 (fun h2_ h3_ => K (.exit 10) (buildS s_l08Reduce_l5_o0 [.i t1, .n t5_n, .n t5_l, .n t5_c, .i t7, .i t8, .p h0, .r h1, .r h2_, .p h3_]))
    | _ => none) ((E_s_l08Reduce_l6 α N).ls 74 25))
theorem E_s_l08Reduce_l5_ok {α : Type} (N : Nat) : EnvOk Try.prog (E_s_l08Reduce_l5 α N) := (E_s_l08Reduce_l6_ok N).addLoop2 Try.func74 (by kernel_rfl) (loopSum_ok prog_mixed prog_names (E_s_l08Reduce_l6_ok N) Try.func74 (by kernel_rfl) (d := 1) (ro := 2) fun l K r h => by
  split at h
  · exact (s_l08Reduce_l5_loop N _ _ _ _ _ _ _ _ _ _ _ _ _ K N _ _ _).trans h
  · cases h)

/-- spec.l08Reduce, loop -/
def s_l08Reduce_l1_p : SPat := ⟨[.undef, .int .i64, .undef, .undef, .undef, .sliceV 3 0 0 1 false, .undef, .int .i64, .int .i64] ++ List.replicate 159 .undef, [[.hdr 1], [.pool .i64], [.pool .i64], [.hdr 2]]⟩
def s_l08Reduce_l1_o0 : SPat := ⟨[.undef, .undef, .undef, .undef, .undef, .sliceV 3 0 0 1 false, .undef, .int .i64] ++ List.replicate 160 .undef, [[.hdr 1], [.pool .i64], [.pool .i64], [.hdr 2]]⟩
theorem s_l08Reduce_l1_round {α : Type} (N : Nat) (t1 : Int) (t5_n : Nat) (t5_l : Nat) (t5_c : Nat) (t7 : Int) (t8 : Int) (h0 : List (Nat × Nat)) (h1 : List (List Int)) (h2 : List (List Int)) (h3 : List (Nat × Nat)) (kn : St → Option α) (K : AExit → St → Option α) :
    roundK Try.prog (E_s_l08Reduce_l5 α N) 1 2 74 Try.f74 8 4 (buildS s_l08Reduce_l1_p [.i t1, .n t5_n, .n t5_l, .n t5_c, .i t7, .i t8, .p h0, .r h1, .r h2, .p h3]) kn K = s_l08Reduce_l1_s none N t1 t5_n t5_l t5_c h0 h1 t7 t8 h2 h3 (fun t7 t8 h2 h3 => kn (buildS s_l08Reduce_l1_p [.i t1, .n t5_n, .n t5_l, .n t5_c, .i t7, .i t8, .p h0, .r h1, .r h2, .p h3])) (fun t7_ h2_ h3_ => K (.exit 2) (buildS s_l08Reduce_l1_o0 [.n t5_n, .n t5_l, .n t5_c, .i t7_, .p h0, .r h1, .r h2_, .p h3_])) := by kernel_rfl
theorem s_l08Reduce_l1_loop {α : Type} (N : Nat) (t1 : Int) (t5_n : Nat) (t5_l : Nat) (t5_c : Nat) (h0 : List (Nat × Nat)) (h1 : List (List Int)) (K : AExit → St → Option α) : ∀ (m : Nat) (t7 : Int) (t8 : Int) (h2 : List (List Int)) (h3 : List (Nat × Nat)),
    loopN (trimSt ((E_s_l08Reduce_l5 α N).ann 74 8).head ((E_s_l08Reduce_l5 α N).ann 74 8).grow 4) (bodyK Try.prog (E_s_l08Reduce_l5 α N) 1 2 74 Try.f74 8) m (buildS s_l08Reduce_l1_p [.i t1, .n t5_n, .n t5_l, .n t5_c, .i t7, .i t8, .p h0, .r h1, .r h2, .p h3]) (leaveLoop ((E_s_l08Reduce_l5 α N).ann 74 8) 4 K) = s_l08Reduce_l1 none N t1 t5_n t5_l t5_c h0 h1 m t7 t8 h2 h3 (fun t7_ h2_ h3_ => K (.exit 2) (buildS s_l08Reduce_l1_o0 [.n t5_n, .n t5_l, .n t5_c, .i t7_, .p h0, .r h1, .r h2_, .p h3_])) := by
  intro m
  induction m with
  | zero => intros; rfl
  | succ m ih =>
    intro t7 t8 h2 h3
    rw [loopN_round]
    refine (s_l08Reduce_l1_round N t1 t5_n t5_l t5_c t7 t8 h0 h1 h2 h3 _ K).trans ?_
    simp only [ih]
    rfl
def E_s_l08Reduce_l1 (α : Type) (N : Nat) : Env α := (E_s_l08Reduce_l5 α N).addLoop2 74 8 (loopSum2 ((E_s_l08Reduce_l5 α N).ann 74 8) 2 s_l08Reduce_l1_p (fun l K => match l with
    | [.i t1, .n t5_n, .n t5_l, .n t5_c, .i t7, .i t8, .p h0, .r h1, .r h2, .p h3] => s_l08Reduce_l1 none N t1 t5_n t5_l t5_c h0 h1 N t7 t8 h2 h3 (fun t7_ h2_ h3_ => K (.exit 2) (buildS s_l08Reduce_l1_o0 [.n t5_n, .n t5_l, .n t5_c, .i t7_, .p h0, .r h1, .r h2_, .p h3_]))
    | _ => none) ((E_s_l08Reduce_l5 α N).ls 74 8))
theorem E_s_l08Reduce_l1_ok {α : Type} (N : Nat) : EnvOk Try.prog (E_s_l08Reduce_l1 α N) := (E_s_l08Reduce_l5_ok N).addLoop2 Try.func74 (by kernel_rfl) (loopSum_ok prog_mixed prog_names (E_s_l08Reduce_l5_ok N) Try.func74 (by kernel_rfl) (d := 1) (ro := 2) fun l K r h => by
  split at h
  · exact (s_l08Reduce_l1_loop N _ _ _ _ _ _ K N _ _ _ _).trans h
  · cases h)

/-- spec.l08Reduce -/
def s_l08Reduce_a : SPat := ⟨[.sliceV 0 0 0 1 false, .int .i64], [[.hdr 1], [.pool .i64]]⟩
def s_l08Reduce_r0 : SPat := ⟨[.sliceV 3 0 0 1 false], [[.hdr 1], [.pool .i64], [.pool .i64], [.hdr 2]]⟩
theorem s_l08Reduce_run {α : Type} (N : Nat) (rows_n : Nat) (rows_l : Nat) (rows_c : Nat) (a1 : Int) (h0 : List (Nat × Nat)) (h1 : List (List Int)) (K : AV → Heap → Option α) :
    callK Try.prog (E_s_l08Reduce_l1 α N) 1 74 2 (buildS s_l08Reduce_a [.n rows_n, .n rows_l, .n rows_c, .i a1, .p h0, .r h1]).t (buildS s_l08Reduce_a [.n rows_n, .n rows_l, .n rows_c, .i a1, .p h0, .r h1]).h K = s_l08Reduce none N rows_n rows_l rows_c a1 h0 h1 (fun r_n_ r_l_ r_c_ h2_ h3_ => retK (buildS s_l08Reduce_r0 [.n r_n_, .n r_l_, .n r_c_, .p h0, .r h1, .r h2_, .p h3_]) K) := by kernel_rfl
def E_s_l08Reduce (α : Type) (N : Nat) : Env α := (E_s_l08Reduce_l1 α N).addFun 74 true 2 s_l08Reduce_a (fun l K => match l with
    | [.n rows_n, .n rows_l, .n rows_c, .i a1, .p h0, .r h1] => s_l08Reduce none N rows_n rows_l rows_c a1 h0 h1 (fun r_n_ r_l_ r_c_ h2_ h3_ => retK (buildS s_l08Reduce_r0 [.n r_n_, .n r_l_, .n r_c_, .p h0, .r h1, .r h2_, .p h3_]) K)
    | _ => none)
theorem E_s_l08Reduce_ok {α : Type} (N : Nat) : EnvOk Try.prog (E_s_l08Reduce α N) := (E_s_l08Reduce_l1_ok N).addFun prog_mixed prog_names (d := 1) fun l K r h => by
  split at h
  · exact (s_l08Reduce_run N _ _ _ _ _ _ K).trans h
  · cases h

def A_s_ColouringBasis_l0 (α : Type) (N : Nat) : Env α := (E_s_l08Reduce α N).addAnn 46 7 { head := [1, 2, 7, 8, 9, 10], grow := [9], out := [1, 2, 7, 8, 9], ret := [4, 5] }
theorem A_s_ColouringBasis_l0_ok {α : Type} (N : Nat) : EnvOk Try.prog (A_s_ColouringBasis_l0 α N) := (E_s_l08Reduce_ok N).addAnn

def A_s_ColouringBasis_l1 (α : Type) (N : Nat) : Env α := (A_s_ColouringBasis_l0 α N).addAnn 46 10 { head := [1, 2, 7, 8, 9, 10, 11], grow := [], out := [1, 2, 7, 8, 9, 10, 11], ret := [4, 5] }
theorem A_s_ColouringBasis_l1_ok {α : Type} (N : Nat) : EnvOk Try.prog (A_s_ColouringBasis_l1 α N) := (A_s_ColouringBasis_l0_ok N).addAnn

/-- spec.ColouringBasis, loop -/
def s_ColouringBasis_l1_p : SPat := ⟨[.undef, .int .i64, .ptr ⟨⟨0, 0⟩, 0, 0, 1⟩, .undef, .undef, .undef, .undef, .sliceV 4 0 0 1 false, .ptr ⟨⟨5, 0⟩, 0, 0, 8⟩, .sliceV 6 0 0 1 false, .int .i64, .int .i64] ++ List.replicate 85 .undef, [[.vals [.int .i64], .ints .u8 8, .ints .u8 8], [.hdr 2], [.pool .i64], [.pool .i64], [.hdr 3], [.bools 8], [.vec .i64]]⟩
def s_ColouringBasis_l1_o0 : SPat := ⟨[.undef, .int .i64, .ptr ⟨⟨0, 0⟩, 0, 0, 1⟩, .undef, .undef, .undef, .undef, .sliceV 4 0 0 1 false, .ptr ⟨⟨5, 0⟩, 0, 0, 8⟩, .sliceV 6 0 0 1 false, .int .i64, .int .i64] ++ List.replicate 85 .undef, [[.vals [.int .i64], .ints .u8 8, .ints .u8 8], [.hdr 2], [.pool .i64], [.pool .i64], [.hdr 3], [.bools 8], [.vec .i64]]⟩
theorem s_ColouringBasis_l1_round {α : Type} (N : Nat) (t1 : Int) (t7_n : Nat) (t7_l : Nat) (t7_c : Nat) (t9_n : Nat) (t9_l : Nat) (t9_c : Nat) (t10 : Int) (t11 : Int) (h0_0 : Int) (h0_1 : Nat → Int) (h0_2 : Nat → Int) (h1 : List (Nat × Nat)) (h2 : List (List Int)) (h3 : List (List Int)) (h4 : List (Nat × Nat)) (h5 : Nat → Bool) (h6 : List Int) (kn : St → Option α) (K : AExit → St → Option α) :
    roundK Try.prog (A_s_ColouringBasis_l1 α N) 1 0 46 Try.f46 10 7 (buildS s_ColouringBasis_l1_p [.i t1, .n t7_n, .n t7_l, .n t7_c, .n t9_n, .n t9_l, .n t9_c, .i t10, .i t11, .i h0_0, .f h0_1, .f h0_2, .p h1, .r h2, .r h3, .p h4, .g h5, .l h6]) kn K = s_ColouringBasis_l1_s none t1 t7_n t7_l t7_c t9_n t9_l t9_c t10 h0_0 h0_1 h0_2 h1 h2 h3 h4 h5 h6 t11 (fun t11 => kn (buildS s_ColouringBasis_l1_p [.i t1, .n t7_n, .n t7_l, .n t7_c, .n t9_n, .n t9_l, .n t9_c, .i t10, .i t11, .i h0_0, .f h0_1, .f h0_2, .p h1, .r h2, .r h3, .p h4, .g h5, .l h6])) (fun t11_ => K (.exit 2) (buildS s_ColouringBasis_l1_o0 [.i t1, .n t7_n, .n t7_l, .n t7_c, .n t9_n, .n t9_l, .n t9_c, .i t10, .i t11_, .i h0_0, .f h0_1, .f h0_2, .p h1, .r h2, .r h3, .p h4, .g h5, .l h6])) := by kernel_rfl
theorem s_ColouringBasis_l1_loop {α : Type} (N : Nat) (t1 : Int) (t7_n : Nat) (t7_l : Nat) (t7_c : Nat) (t9_n : Nat) (t9_l : Nat) (t9_c : Nat) (t10 : Int) (h0_0 : Int) (h0_1 : Nat → Int) (h0_2 : Nat → Int) (h1 : List (Nat × Nat)) (h2 : List (List Int)) (h3 : List (List Int)) (h4 : List (Nat × Nat)) (h5 : Nat → Bool) (h6 : List Int) (K : AExit → St → Option α) : ∀ (m : Nat) (t11 : Int),
    loopN (trimSt ((A_s_ColouringBasis_l1 α N).ann 46 10).head ((A_s_ColouringBasis_l1 α N).ann 46 10).grow 7) (bodyK Try.prog (A_s_ColouringBasis_l1 α N) 1 0 46 Try.f46 10) m (buildS s_ColouringBasis_l1_p [.i t1, .n t7_n, .n t7_l, .n t7_c, .n t9_n, .n t9_l, .n t9_c, .i t10, .i t11, .i h0_0, .f h0_1, .f h0_2, .p h1, .r h2, .r h3, .p h4, .g h5, .l h6]) (leaveLoop ((A_s_ColouringBasis_l1 α N).ann 46 10) 7 K) = s_ColouringBasis_l1 none t1 t7_n t7_l t7_c t9_n t9_l t9_c t10 h0_0 h0_1 h0_2 h1 h2 h3 h4 h5 h6 m t11 (fun t11_ => K (.exit 2) (buildS s_ColouringBasis_l1_o0 [.i t1, .n t7_n, .n t7_l, .n t7_c, .n t9_n, .n t9_l, .n t9_c, .i t10, .i t11_, .i h0_0, .f h0_1, .f h0_2, .p h1, .r h2, .r h3, .p h4, .g h5, .l h6])) := by
  intro m
  induction m with
  | zero => intros; rfl
  | succ m ih =>
    intro t11
    rw [loopN_round]
    refine (s_ColouringBasis_l1_round N t1 t7_n t7_l t7_c t9_n t9_l t9_c t10 t11 h0_0 h0_1 h0_2 h1 h2 h3 h4 h5 h6 _ K).trans ?_
    simp only [ih]
    rfl
def E_s_ColouringBasis_l1 (α : Type) (N : Nat) : Env α := (A_s_ColouringBasis_l1 α N).addLoop2 46 10 (loopSum2 ((A_s_ColouringBasis_l1 α N).ann 46 10) 0 s_ColouringBasis_l1_p (fun l K => match l with
    | [.i t1, .n t7_n, .n t7_l, .n t7_c, .n t9_n, .n t9_l, .n t9_c, .i t10, .i t11, .i h0_0, .f h0_1, .f h0_2, .p h1, .r h2, .r h3, .p h4, .g h5, .l h6] => s_ColouringBasis_l1 none t1 t7_n t7_l t7_c t9_n t9_l t9_c t10 h0_0 h0_1 h0_2 h1 h2 h3 h4 h5 h6 N t11 (fun t11_ => K (.exit 2) (buildS s_ColouringBasis_l1_o0 [.i t1, .n t7_n, .n t7_l, .n t7_c, .n t9_n, .n t9_l, .n t9_c, .i t10, .i t11_, .i h0_0, .f h0_1, .f h0_2, .p h1, .r h2, .r h3, .p h4, .g h5, .l h6]))
    | _ => none) ((A_s_ColouringBasis_l1 α N).ls 46 10))
theorem E_s_ColouringBasis_l1_ok {α : Type} (N : Nat) : EnvOk Try.prog (E_s_ColouringBasis_l1 α N) := (A_s_ColouringBasis_l1_ok N).addLoop2 Try.func46 (by kernel_rfl) (loopSum_ok prog_mixed prog_names (A_s_ColouringBasis_l1_ok N) Try.func46 (by kernel_rfl) (d := 1) (ro := 0) fun l K r h => by
  split at h
  · exact (s_ColouringBasis_l1_loop N _ _ _ _ _ _ _ _ _ _ _ _ _ _ _ _ _ K N _).trans h
  · cases h)

/-- spec.ColouringBasis, loop -/
def s_ColouringBasis_l0_p : SPat := ⟨[.undef, .int .i64, .ptr ⟨⟨0, 0⟩, 0, 0, 1⟩, .undef, .undef, .undef, .undef, .sliceV 4 0 0 1 false, .ptr ⟨⟨5, 0⟩, 0, 0, 8⟩, .sliceV 6 0 0 1 false, .int .i64] ++ List.replicate 86 .undef, [[.vals [.int .i64], .ints .u8 8, .ints .u8 8], [.hdr 2], [.pool .i64], [.pool .i64], [.hdr 3], [.bools 8], [.vec .i64]]⟩
def s_ColouringBasis_l0_o0 : SPat := ⟨[.undef, .int .i64, .ptr ⟨⟨0, 0⟩, 0, 0, 1⟩, .undef, .undef, .undef, .undef, .sliceV 4 0 0 1 false, .ptr ⟨⟨5, 0⟩, 0, 0, 8⟩, .sliceV 6 0 0 1 false] ++ List.replicate 87 .undef, [[.vals [.int .i64], .ints .u8 8, .ints .u8 8], [.hdr 2], [.pool .i64], [.pool .i64], [.hdr 3], [.bools 8], [.vec .i64]]⟩
theorem s_ColouringBasis_l0_round {α : Type} (N : Nat) (t1 : Int) (t7_n : Nat) (t7_l : Nat) (t7_c : Nat) (t9_n : Nat) (t9_l : Nat) (t9_c : Nat) (t10 : Int) (h0_0 : Int) (h0_1 : Nat → Int) (h0_2 : Nat → Int) (h1 : List (Nat × Nat)) (h2 : List (List Int)) (h3 : List (List Int)) (h4 : List (Nat × Nat)) (h5 : Nat → Bool) (h6 : List Int) (kn : St → Option α) (K : AExit → St → Option α) :
    roundK Try.prog (E_s_ColouringBasis_l1 α N) 1 0 46 Try.f46 7 7 (buildS s_ColouringBasis_l0_p [.i t1, .n t7_n, .n t7_l, .n t7_c, .n t9_n, .n t9_l, .n t9_c, .i t10, .i h0_0, .f h0_1, .f h0_2, .p h1, .r h2, .r h3, .p h4, .g h5, .l h6]) kn K = s_ColouringBasis_l0_s none N t1 t7_n t7_l t7_c h0_0 h0_1 h0_2 h1 h2 h3 h4 t9_n t9_l t9_c t10 h5 h6 (fun t9_n t9_l t9_c t10 h5 h6 => kn (buildS s_ColouringBasis_l0_p [.i t1, .n t7_n, .n t7_l, .n t7_c, .n t9_n, .n t9_l, .n t9_c, .i t10, .i h0_0, .f h0_1, .f h0_2, .p h1, .r h2, .r h3, .p h4, .g h5, .l h6])) (fun t9_n_ t9_l_ t9_c_ h5_ h6_ => K (.exit 0) (buildS s_ColouringBasis_l0_o0 [.i t1, .n t7_n, .n t7_l, .n t7_c, .n t9_n_, .n t9_l_, .n t9_c_, .i h0_0, .f h0_1, .f h0_2, .p h1, .r h2, .r h3, .p h4, .g h5_, .l h6_])) := by kernel_rfl
theorem s_ColouringBasis_l0_loop {α : Type} (N : Nat) (t1 : Int) (t7_n : Nat) (t7_l : Nat) (t7_c : Nat) (h0_0 : Int) (h0_1 : Nat → Int) (h0_2 : Nat → Int) (h1 : List (Nat × Nat)) (h2 : List (List Int)) (h3 : List (List Int)) (h4 : List (Nat × Nat)) (K : AExit → St → Option α) : ∀ (m : Nat) (t9_n : Nat) (t9_l : Nat) (t9_c : Nat) (t10 : Int) (h5 : Nat → Bool) (h6 : List Int),
    loopN (trimSt ((E_s_ColouringBasis_l1 α N).ann 46 7).head ((E_s_ColouringBasis_l1 α N).ann 46 7).grow 7) (bodyK Try.prog (E_s_ColouringBasis_l1 α N) 1 0 46 Try.f46 7) m (buildS s_ColouringBasis_l0_p [.i t1, .n t7_n, .n t7_l, .n t7_c, .n t9_n, .n t9_l, .n t9_c, .i t10, .i h0_0, .f h0_1, .f h0_2, .p h1, .r h2, .r h3, .p h4, .g h5, .l h6]) (leaveLoop ((E_s_ColouringBasis_l1 α N).ann 46 7) 7 K) = s_ColouringBasis_l0 none N t1 t7_n t7_l t7_c h0_0 h0_1 h0_2 h1 h2 h3 h4 m t9_n t9_l t9_c t10 h5 h6 (fun t9_n_ t9_l_ t9_c_ h5_ h6_ => K (.exit 0) (buildS s_ColouringBasis_l0_o0 [.i t1, .n t7_n, .n t7_l, .n t7_c, .n t9_n_, .n t9_l_, .n t9_c_, .i h0_0, .f h0_1, .f h0_2, .p h1, .r h2, .r h3, .p h4, .g h5_, .l h6_])) := by
  intro m
  induction m with
  | zero => intros; rfl
  | succ m ih =>
    intro t9_n t9_l t9_c t10 h5 h6
    rw [loopN_round]
    refine (s_ColouringBasis_l0_round N t1 t7_n t7_l t7_c t9_n t9_l t9_c t10 h0_0 h0_1 h0_2 h1 h2 h3 h4 h5 h6 _ K).trans ?_
    simp only [ih]
    rfl
def E_s_ColouringBasis_l0 (α : Type) (N : Nat) : Env α := (E_s_ColouringBasis_l1 α N).addLoop2 46 7 (loopSum2 ((E_s_ColouringBasis_l1 α N).ann 46 7) 0 s_ColouringBasis_l0_p (fun l K => match l with
    | [.i t1, .n t7_n, .n t7_l, .n t7_c, .n t9_n, .n t9_l, .n t9_c, .i t10, .i h0_0, .f h0_1, .f h0_2, .p h1, .r h2, .r h3, .p h4, .g h5, .l h6] => s_ColouringBasis_l0 none N t1 t7_n t7_l t7_c h0_0 h0_1 h0_2 h1 h2 h3 h4 N t9_n t9_l t9_c t10 h5 h6 (fun t9_n_ t9_l_ t9_c_ h5_ h6_ => K (.exit 0) (buildS s_ColouringBasis_l0_o0 [.i t1, .n t7_n, .n t7_l, .n t7_c, .n t9_n_, .n t9_l_, .n t9_c_, .i h0_0, .f h0_1, .f h0_2, .p h1, .r h2, .r h3, .p h4, .g h5_, .l h6_]))
    | _ => none) ((E_s_ColouringBasis_l1 α N).ls 46 7))
theorem E_s_ColouringBasis_l0_ok {α : Type} (N : Nat) : EnvOk Try.prog (E_s_ColouringBasis_l0 α N) := (E_s_ColouringBasis_l1_ok N).addLoop2 Try.func46 (by kernel_rfl) (loopSum_ok prog_mixed prog_names (E_s_ColouringBasis_l1_ok N) Try.func46 (by kernel_rfl) (d := 1) (ro := 0) fun l K r h => by
  split at h
  · exact (s_ColouringBasis_l0_loop N _ _ _ _ _ _ _ _ _ _ _ K N _ _ _ _ _ _).trans h
  · cases h)

def A_s_ColouringBasis_l2 (α : Type) (N : Nat) : Env α := (E_s_ColouringBasis_l0 α N).addAnn 46 16 { head := [1, 2, 7, 8, 9, 12, 13], grow := [12], out := [1, 12], ret := [4, 5] }
theorem A_s_ColouringBasis_l2_ok {α : Type} (N : Nat) : EnvOk Try.prog (A_s_ColouringBasis_l2 α N) := (E_s_ColouringBasis_l0_ok N).addAnn

def A_s_ColouringBasis_l3 (α : Type) (N : Nat) : Env α := (A_s_ColouringBasis_l2 α N).addAnn 46 22 { head := [1, 2, 7, 8, 9, 12, 13, 14, 15], grow := [], out := [1, 2, 7, 8, 9, 12, 13, 14], ret := [4, 5] }
theorem A_s_ColouringBasis_l3_ok {α : Type} (N : Nat) : EnvOk Try.prog (A_s_ColouringBasis_l3 α N) := (A_s_ColouringBasis_l2_ok N).addAnn

/-- spec.ColouringBasis, loop -/
def s_ColouringBasis_l3_p : SPat := ⟨[.undef, .int .i64, .ptr ⟨⟨0, 0⟩, 0, 0, 1⟩, .undef, .undef, .undef, .undef, .sliceV 4 0 0 1 false, .ptr ⟨⟨5, 0⟩, 0, 0, 8⟩, .sliceV 6 0 0 1 false, .undef, .undef, .sliceV 8 0 0 1 false, .int .i64, .sliceV 9 0 0 1 true, .int .i64] ++ List.replicate 81 .undef, [[.vals [.int .i64], .ints .u8 8, .ints .u8 8], [.hdr 2], [.pool .i64], [.pool .i64], [.hdr 3], [.bools 8], [.vec .i64], [.pool .i64], [.hdr 7], [.intsV .i64]]⟩
def s_ColouringBasis_l3_o0 : SPat := ⟨[.undef, .int .i64, .ptr ⟨⟨0, 0⟩, 0, 0, 1⟩, .undef, .undef, .undef, .undef, .sliceV 4 0 0 1 false, .ptr ⟨⟨5, 0⟩, 0, 0, 8⟩, .sliceV 6 0 0 1 false, .undef, .undef, .sliceV 8 0 0 1 false, .int .i64, .sliceV 9 0 0 1 true] ++ List.replicate 82 .undef, [[.vals [.int .i64], .ints .u8 8, .ints .u8 8], [.hdr 2], [.pool .i64], [.pool .i64], [.hdr 3], [.bools 8], [.vec .i64], [.pool .i64], [.hdr 7], [.intsV .i64]]⟩
theorem s_ColouringBasis_l3_round {α : Type} (N : Nat) (t1 : Int) (t7_n : Nat) (t7_l : Nat) (t7_c : Nat) (t9_n : Nat) (t9_l : Nat) (t9_c : Nat) (t12_n : Nat) (t12_l : Nat) (t12_c : Nat) (t13 : Int) (t14_n : Nat) (t14_l : Nat) (t14_c : Nat) (t15 : Int) (h0_0 : Int) (h0_1 : Nat → Int) (h0_2 : Nat → Int) (h1 : List (Nat × Nat)) (h2 : List (List Int)) (h3 : List (List Int)) (h4 : List (Nat × Nat)) (h5 : Nat → Bool) (h6 : List Int) (h7 : List (List Int)) (h8 : List (Nat × Nat)) (h9_n : Nat) (h9 : Nat → Int) (kn : St → Option α) (K : AExit → St → Option α) :
    roundK Try.prog (A_s_ColouringBasis_l3 α N) 1 0 46 Try.f46 22 10 (buildS s_ColouringBasis_l3_p [.i t1, .n t7_n, .n t7_l, .n t7_c, .n t9_n, .n t9_l, .n t9_c, .n t12_n, .n t12_l, .n t12_c, .i t13, .n t14_n, .n t14_l, .n t14_c, .i t15, .i h0_0, .f h0_1, .f h0_2, .p h1, .r h2, .r h3, .p h4, .g h5, .l h6, .r h7, .p h8, .n h9_n, .f h9]) kn K = s_ColouringBasis_l3_s none t1 t7_n t7_l t7_c t9_n t9_l t9_c t12_n t12_l t12_c t13 t14_n t14_l t14_c h0_0 h0_1 h0_2 h1 h2 h3 h4 h5 h6 h7 h8 h9_n t15 h9 (fun t15 h9 => kn (buildS s_ColouringBasis_l3_p [.i t1, .n t7_n, .n t7_l, .n t7_c, .n t9_n, .n t9_l, .n t9_c, .n t12_n, .n t12_l, .n t12_c, .i t13, .n t14_n, .n t14_l, .n t14_c, .i t15, .i h0_0, .f h0_1, .f h0_2, .p h1, .r h2, .r h3, .p h4, .g h5, .l h6, .r h7, .p h8, .n h9_n, .f h9])) (fun h9_ => K (.exit 6) (buildS s_ColouringBasis_l3_o0 [.i t1, .n t7_n, .n t7_l, .n t7_c, .n t9_n, .n t9_l, .n t9_c, .n t12_n, .n t12_l, .n t12_c, .i t13, .n t14_n, .n t14_l, .n t14_c, .i h0_0, .f h0_1, .f h0_2, .p h1, .r h2, .r h3, .p h4, .g h5, .l h6, .r h7, .p h8, .n h9_n, .f h9_])) := by kernel_rfl
theorem s_ColouringBasis_l3_loop {α : Type} (N : Nat) (t1 : Int) (t7_n : Nat) (t7_l : Nat) (t7_c : Nat) (t9_n : Nat) (t9_l : Nat) (t9_c : Nat) (t12_n : Nat) (t12_l : Nat) (t12_c : Nat) (t13 : Int) (t14_n : Nat) (t14_l : Nat) (t14_c : Nat) (h0_0 : Int) (h0_1 : Nat → Int) (h0_2 : Nat → Int) (h1 : List (Nat × Nat)) (h2 : List (List Int)) (h3 : List (List Int)) (h4 : List (Nat × Nat)) (h5 : Nat → Bool) (h6 : List Int) (h7 : List (List Int)) (h8 : List (Nat × Nat)) (h9_n : Nat) (K : AExit → St → Option α) : ∀ (m : Nat) (t15 : Int) (h9 : Nat → Int),
    loopN (trimSt ((A_s_ColouringBasis_l3 α N).ann 46 22).head ((A_s_ColouringBasis_l3 α N).ann 46 22).grow 10) (bodyK Try.prog (A_s_ColouringBasis_l3 α N) 1 0 46 Try.f46 22) m (buildS s_ColouringBasis_l3_p [.i t1, .n t7_n, .n t7_l, .n t7_c, .n t9_n, .n t9_l, .n t9_c, .n t12_n, .n t12_l, .n t12_c, .i t13, .n t14_n, .n t14_l, .n t14_c, .i t15, .i h0_0, .f h0_1, .f h0_2, .p h1, .r h2, .r h3, .p h4, .g h5, .l h6, .r h7, .p h8, .n h9_n, .f h9]) (leaveLoop ((A_s_ColouringBasis_l3 α N).ann 46 22) 10 K) = s_ColouringBasis_l3 none t1 t7_n t7_l t7_c t9_n t9_l t9_c t12_n t12_l t12_c t13 t14_n t14_l t14_c h0_0 h0_1 h0_2 h1 h2 h3 h4 h5 h6 h7 h8 h9_n m t15 h9 (fun h9_ => K (.exit 6) (buildS s_ColouringBasis_l3_o0 [.i t1, .n t7_n, .n t7_l, .n t7_c, .n t9_n, .n t9_l, .n t9_c, .n t12_n, .n t12_l, .n t12_c, .i t13, .n t14_n, .n t14_l, .n t14_c, .i h0_0, .f h0_1, .f h0_2, .p h1, .r h2, .r h3, .p h4, .g h5, .l h6, .r h7, .p h8, .n h9_n, .f h9_])) := by
  intro m
  induction m with
  | zero => intros; rfl
  | succ m ih =>
    intro t15 h9
    rw [loopN_round]
    refine (s_ColouringBasis_l3_round N t1 t7_n t7_l t7_c t9_n t9_l t9_c t12_n t12_l t12_c t13 t14_n t14_l t14_c t15 h0_0 h0_1 h0_2 h1 h2 h3 h4 h5 h6 h7 h8 h9_n h9 _ K).trans ?_
    simp only [ih]
    rfl
def E_s_ColouringBasis_l3 (α : Type) (N : Nat) : Env α := (A_s_ColouringBasis_l3 α N).addLoop2 46 22 (loopSum2 ((A_s_ColouringBasis_l3 α N).ann 46 22) 0 s_ColouringBasis_l3_p (fun l K => match l with
    | [.i t1, .n t7_n, .n t7_l, .n t7_c, .n t9_n, .n t9_l, .n t9_c, .n t12_n, .n t12_l, .n t12_c, .i t13, .n t14_n, .n t14_l, .n t14_c, .i t15, .i h0_0, .f h0_1, .f h0_2, .p h1, .r h2, .r h3, .p h4, .g h5, .l h6, .r h7, .p h8, .n h9_n, .f h9] => s_ColouringBasis_l3 none t1 t7_n t7_l t7_c t9_n t9_l t9_c t12_n t12_l t12_c t13 t14_n t14_l t14_c h0_0 h0_1 h0_2 h1 h2 h3 h4 h5 h6 h7 h8 h9_n N t15 h9 (fun h9_ => K (.exit 6) (buildS s_ColouringBasis_l3_o0 [.i t1, .n t7_n, .n t7_l, .n t7_c, .n t9_n, .n t9_l, .n t9_c, .n t12_n, .n t12_l, .n t12_c, .i t13, .n t14_n, .n t14_l, .n t14_c, .i h0_0, .f h0_1, .f h0_2, .p h1, .r h2, .r h3, .p h4, .g h5, .l h6, .r h7, .p h8, .n h9_n, .f h9_]))
    | _ => none) ((A_s_ColouringBasis_l3 α N).ls 46 22))
theorem E_s_ColouringBasis_l3_ok {α : Type} (N : Nat) : EnvOk Try.prog (E_s_ColouringBasis_l3 α N) := (A_s_ColouringBasis_l3_ok N).addLoop2 Try.func46 (by kernel_rfl) (loopSum_ok prog_mixed prog_names (A_s_ColouringBasis_l3_ok N) Try.func46 (by kernel_rfl) (d := 1) (ro := 0) fun l K r h => by
  split at h
  · exact (s_ColouringBasis_l3_loop N _ _ _ _ _ _ _ _ _ _ _ _ _ _ _ _ _ _ _ _ _ _ _ _ _ _ K N _ _).trans h
  · cases h)

/-- spec.ColouringBasis, loop -/
def s_ColouringBasis_l2_p : SPat := ⟨[.undef, .int .i64, .ptr ⟨⟨0, 0⟩, 0, 0, 1⟩, .undef, .undef, .undef, .undef, .sliceV 4 0 0 1 false, .ptr ⟨⟨5, 0⟩, 0, 0, 8⟩, .sliceV 6 0 0 1 false, .undef, .undef, .sliceV 8 0 0 1 false, .int .i64] ++ List.replicate 83 .undef, [[.vals [.int .i64], .ints .u8 8, .ints .u8 8], [.hdr 2], [.pool .i64], [.pool .i64], [.hdr 3], [.bools 8], [.vec .i64], [.pool .i64], [.hdr 7]]⟩
def s_ColouringBasis_l2_o0 : SPat := ⟨[.undef, .int .i64, .undef, .undef, .undef, .undef, .undef, .undef, .undef, .undef, .undef, .undef, .sliceV 8 0 0 1 false] ++ List.replicate 84 .undef, [[.vals [.int .i64], .ints .u8 8, .ints .u8 8], [.hdr 2], [.pool .i64], [.pool .i64], [.hdr 3], [.bools 8], [.vec .i64], [.pool .i64], [.hdr 7]]⟩
theorem s_ColouringBasis_l2_round {α : Type} (N : Nat) (t1 : Int) (t7_n : Nat) (t7_l : Nat) (t7_c : Nat) (t9_n : Nat) (t9_l : Nat) (t9_c : Nat) (t12_n : Nat) (t12_l : Nat) (t12_c : Nat) (t13 : Int) (h0_0 : Int) (h0_1 : Nat → Int) (h0_2 : Nat → Int) (h1 : List (Nat × Nat)) (h2 : List (List Int)) (h3 : List (List Int)) (h4 : List (Nat × Nat)) (h5 : Nat → Bool) (h6 : List Int) (h7 : List (List Int)) (h8 : List (Nat × Nat)) (kn : St → Option α) (K : AExit → St → Option α) :
    roundK Try.prog (E_s_ColouringBasis_l3 α N) 1 0 46 Try.f46 16 9 (buildS s_ColouringBasis_l2_p [.i t1, .n t7_n, .n t7_l, .n t7_c, .n t9_n, .n t9_l, .n t9_c, .n t12_n, .n t12_l, .n t12_c, .i t13, .i h0_0, .f h0_1, .f h0_2, .p h1, .r h2, .r h3, .p h4, .g h5, .l h6, .r h7, .p h8]) kn K = s_ColouringBasis_l2_s none N t1 t7_n t7_l t7_c t9_n t9_l t9_c h0_0 h0_1 h0_2 h1 h2 h3 h4 h5 h6 t12_n t12_l t12_c t13 h7 h8 (fun t12_n t12_l t12_c t13 h7 h8 => kn (buildS s_ColouringBasis_l2_p [.i t1, .n t7_n, .n t7_l, .n t7_c, .n t9_n, .n t9_l, .n t9_c, .n t12_n, .n t12_l, .n t12_c, .i t13, .i h0_0, .f h0_1, .f h0_2, .p h1, .r h2, .r h3, .p h4, .g h5, .l h6, .r h7, .p h8])) (fun t12_n_ t12_l_ t12_c_ h7_ h8_ => K (.exit 4) (buildS s_ColouringBasis_l2_o0 [.i t1, .n t12_n_, .n t12_l_, .n t12_c_, .i h0_0, .f h0_1, .f h0_2, .p h1, .r h2, .r h3, .p h4, .g h5, .l h6, .r h7_, .p h8_])) := by kernel_rfl
theorem s_ColouringBasis_l2_loop {α : Type} (N : Nat) (t1 : Int) (t7_n : Nat) (t7_l : Nat) (t7_c : Nat) (t9_n : Nat) (t9_l : Nat) (t9_c : Nat) (h0_0 : Int) (h0_1 : Nat → Int) (h0_2 : Nat → Int) (h1 : List (Nat × Nat)) (h2 : List (List Int)) (h3 : List (List Int)) (h4 : List (Nat × Nat)) (h5 : Nat → Bool) (h6 : List Int) (K : AExit → St → Option α) : ∀ (m : Nat) (t12_n : Nat) (t12_l : Nat) (t12_c : Nat) (t13 : Int) (h7 : List (List Int)) (h8 : List (Nat × Nat)),
    loopN (trimSt ((E_s_ColouringBasis_l3 α N).ann 46 16).head ((E_s_ColouringBasis_l3 α N).ann 46 16).grow 9) (bodyK Try.prog (E_s_ColouringBasis_l3 α N) 1 0 46 Try.f46 16) m (buildS s_ColouringBasis_l2_p [.i t1, .n t7_n, .n t7_l, .n t7_c, .n t9_n, .n t9_l, .n t9_c, .n t12_n, .n t12_l, .n t12_c, .i t13, .i h0_0, .f h0_1, .f h0_2, .p h1, .r h2, .r h3, .p h4, .g h5, .l h6, .r h7, .p h8]) (leaveLoop ((E_s_ColouringBasis_l3 α N).ann 46 16) 9 K) = s_ColouringBasis_l2 none N t1 t7_n t7_l t7_c t9_n t9_l t9_c h0_0 h0_1 h0_2 h1 h2 h3 h4 h5 h6 m t12_n t12_l t12_c t13 h7 h8 (fun t12_n_ t12_l_ t12_c_ h7_ h8_ => K (.exit 4) (buildS s_ColouringBasis_l2_o0 [.i t1, .n t12_n_, .n t12_l_, .n t12_c_, .i h0_0, .f h0_1, .f h0_2, .p h1, .r h2, .r h3, .p h4, .g h5, .l h6, .r h7_, .p h8_])) := by
  intro m
  induction m with
  | zero => intros; rfl
  | succ m ih =>
    intro t12_n t12_l t12_c t13 h7 h8
    rw [loopN_round]
    refine (s_ColouringBasis_l2_round N t1 t7_n t7_l t7_c t9_n t9_l t9_c t12_n t12_l t12_c t13 h0_0 h0_1 h0_2 h1 h2 h3 h4 h5 h6 h7 h8 _ K).trans ?_
    simp only [ih]
    rfl
def E_s_ColouringBasis_l2 (α : Type) (N : Nat) : Env α := (E_s_ColouringBasis_l3 α N).addLoop2 46 16 (loopSum2 ((E_s_ColouringBasis_l3 α N).ann 46 16) 0 s_ColouringBasis_l2_p (fun l K => match l with
    | [.i t1, .n t7_n, .n t7_l, .n t7_c, .n t9_n, .n t9_l, .n t9_c, .n t12_n, .n t12_l, .n t12_c, .i t13, .i h0_0, .f h0_1, .f h0_2, .p h1, .r h2, .r h3, .p h4, .g h5, .l h6, .r h7, .p h8] => s_ColouringBasis_l2 none N t1 t7_n t7_l t7_c t9_n t9_l t9_c h0_0 h0_1 h0_2 h1 h2 h3 h4 h5 h6 N t12_n t12_l t12_c t13 h7 h8 (fun t12_n_ t12_l_ t12_c_ h7_ h8_ => K (.exit 4) (buildS s_ColouringBasis_l2_o0 [.i t1, .n t12_n_, .n t12_l_, .n t12_c_, .i h0_0, .f h0_1, .f h0_2, .p h1, .r h2, .r h3, .p h4, .g h5, .l h6, .r h7_, .p h8_]))
    | _ => none) ((E_s_ColouringBasis_l3 α N).ls 46 16))
theorem E_s_ColouringBasis_l2_ok {α : Type} (N : Nat) : EnvOk Try.prog (E_s_ColouringBasis_l2 α N) := (E_s_ColouringBasis_l3_ok N).addLoop2 Try.func46 (by kernel_rfl) (loopSum_ok prog_mixed prog_names (E_s_ColouringBasis_l3_ok N) Try.func46 (by kernel_rfl) (d := 1) (ro := 0) fun l K r h => by
  split at h
  · exact (s_ColouringBasis_l2_loop N _ _ _ _ _ _ _ _ _ _ _ _ _ _ _ _ K N _ _ _ _ _ _).trans h
  · cases h)

/-- spec.ColouringBasis -/
def s_ColouringBasis_a : SPat := ⟨[.agg [.vals [.int .i64], .ints .u8 8, .ints .u8 8], .int .i64], []⟩
def s_ColouringBasis_r0 : SPat := ⟨[.tuple [.nils, .int .i64]], []⟩
def s_ColouringBasis_r1 : SPat := ⟨[.tuple [.sliceV 0 0 0 1 false, .int .i64]], [[.hdr 1], [.pool .i64]]⟩
theorem s_ColouringBasis_run {α : Type} (N : Nat) (g_0 : Int) (g_1 : Nat → Int) (g_2 : Nat → Int) (a1 : Int) (K : AV → Heap → Option α) :
    callK Try.prog (E_s_ColouringBasis_l2 α N) 1 46 0 (buildS s_ColouringBasis_a [.i g_0, .f g_1, .f g_2, .i a1]).t (buildS s_ColouringBasis_a [.i g_0, .f g_1, .f g_2, .i a1]).h K = s_ColouringBasis none N g_0 g_1 g_2 a1 (fun r_1_ => retK (buildS s_ColouringBasis_r0 [.i r_1_]) K) (fun r_0_n_ r_0_l_ r_0_c_ r_1_ h0_ h1_ => retK (buildS s_ColouringBasis_r1 [.n r_0_n_, .n r_0_l_, .n r_0_c_, .i r_1_, .p h0_, .r h1_]) K) := by kernel_rfl
def E_s_ColouringBasis (α : Type) (N : Nat) : Env α := (E_s_ColouringBasis_l2 α N).addFun 46 true 0 s_ColouringBasis_a (fun l K => match l with
    | [.i g_0, .f g_1, .f g_2, .i a1] => s_ColouringBasis none N g_0 g_1 g_2 a1 (fun r_1_ => retK (buildS s_ColouringBasis_r0 [.i r_1_]) K) (fun r_0_n_ r_0_l_ r_0_c_ r_1_ h0_ h1_ => retK (buildS s_ColouringBasis_r1 [.n r_0_n_, .n r_0_l_, .n r_0_c_, .i r_1_, .p h0_, .r h1_]) K)
    | _ => none)
theorem E_s_ColouringBasis_ok {α : Type} (N : Nat) : EnvOk Try.prog (E_s_ColouringBasis α N) := (E_s_ColouringBasis_l2_ok N).addFun prog_mixed prog_names (d := 1) fun l K r h => by
  split at h
  · exact (s_ColouringBasis_run N _ _ _ _ K).trans h
  · cases h

/-- impl.within -/
def i_within_a : SPat := ⟨[.int .i64, .int .i64, .int .i64], []⟩
def i_within_r0 : SPat := ⟨[.bool], []⟩
theorem i_within_run {α : Type} (N : Nat) (x : Int) (low : Int) (high : Int) (K : AV → Heap → Option α) :
    callK Try.prog (E_s_ColouringBasis α N) 1 118 0 (buildS i_within_a [.i x, .i low, .i high]).t (buildS i_within_a [.i x, .i low, .i high]).h K = i_within none N x low high (fun r__ => retK (buildS i_within_r0 [.b r__]) K) := by kernel_rfl
def E_i_within (α : Type) (N : Nat) : Env α := (E_s_ColouringBasis α N).addFun 118 true 0 i_within_a (fun l K => match l with
    | [.i x, .i low, .i high] => i_within none N x low high (fun r__ => retK (buildS i_within_r0 [.b r__]) K)
    | _ => none)
theorem E_i_within_ok {α : Type} (N : Nat) : EnvOk Try.prog (E_i_within α N) := (E_s_ColouringBasis_ok N).addFun prog_mixed prog_names (d := 1) fun l K r h => by
  split at h
  · exact (i_within_run N _ _ _ K).trans h
  · cases h

/-- (impl.Grid).n -/
def i_Grid_n_a : SPat := ⟨[.agg [.vals [.int .i64], .ints .u8 8, .ints .u8 8]], []⟩
def i_Grid_n_r0 : SPat := ⟨[.int .i64], []⟩
theorem i_Grid_n_run {α : Type} (N : Nat) (g_0 : Int) (g_1 : Nat → Int) (g_2 : Nat → Int) (K : AV → Heap → Option α) :
    callK Try.prog (E_i_within α N) 1 59 0 (buildS i_Grid_n_a [.i g_0, .f g_1, .f g_2]).t (buildS i_Grid_n_a [.i g_0, .f g_1, .f g_2]).h K = i_Grid_n none N g_0 g_1 g_2 (retK (buildS i_Grid_n_r0 [.i g_0]) K) := by kernel_rfl
def E_i_Grid_n (α : Type) (N : Nat) : Env α := (E_i_within α N).addFun 59 true 0 i_Grid_n_a (fun l K => match l with
    | [.i g_0, .f g_1, .f g_2] => i_Grid_n none N g_0 g_1 g_2 (retK (buildS i_Grid_n_r0 [.i g_0]) K)
    | _ => none)
theorem E_i_Grid_n_ok {α : Type} (N : Nat) : EnvOk Try.prog (E_i_Grid_n α N) := (E_i_within_ok N).addFun prog_mixed prog_names (d := 1) fun l K r h => by
  split at h
  · exact (i_Grid_n_run N _ _ _ K).trans h
  · cases h

def A_i_isOrder_l0 (α : Type) (N : Nat) : Env α := (E_i_Grid_n α N).addAnn 119 3 { head := [1, 5, 8, 9, 10], grow := [], out := [1, 5], ret := [4] }
theorem A_i_isOrder_l0_ok {α : Type} (N : Nat) : EnvOk Try.prog (A_i_isOrder_l0 α N) := (E_i_Grid_n_ok N).addAnn

/-- impl.isOrder, loop -/
def i_isOrder_l0_s2_p : SPat := ⟨[.undef, .int .i64, .undef, .undef, .undef, .int .i64, .undef, .undef, .slice ⟨⟨0, 0⟩, 1, 0, 8⟩ 8 8 1 true, .intC .i64 8, .int .i64] ++ List.replicate 30 .undef, [[.vals [.int .i64], .ints .u8 8, .ints .u8 8]]⟩
def i_isOrder_l0_s2_o0 : SPat := ⟨[.undef, .undef, .undef, .undef, .boolC false] ++ List.replicate 36 .undef, [[.vals [.int .i64], .ints .u8 8, .ints .u8 8]]⟩
def i_isOrder_l0_s2_o1 : SPat := ⟨[.undef, .int .i64, .undef, .undef, .undef, .int .i64] ++ List.replicate 35 .undef, [[.vals [.int .i64], .ints .u8 8, .ints .u8 8]]⟩
theorem i_isOrder_l0_s2_round {α : Type} (N : Nat) (n : Int) (seen : Int) (t10 : Int) (h0_0 : Int) (h0_1 : Nat → Int) (h0_2 : Nat → Int) (kn : St → Option α) (K : AExit → St → Option α) :
    roundK Try.prog (A_i_isOrder_l0 α N) 1 1 119 Try.f119 3 1 (buildS i_isOrder_l0_s2_p [.i n, .i seen, .i t10, .i h0_0, .f h0_1, .f h0_2]) kn K = i_isOrder_l0_s2_s none n h0_0 h0_1 h0_2 seen t10 (fun seen t10 => kn (buildS i_isOrder_l0_s2_p [.i n, .i seen, .i t10, .i h0_0, .f h0_1, .f h0_2])) (K .ret (buildS i_isOrder_l0_s2_o0 [.i h0_0, .f h0_1, .f h0_2])) (fun seen_ => K (.exit 0) (buildS i_isOrder_l0_s2_o1 [.i n, .i seen_, .i h0_0, .f h0_1, .f h0_2])) := by kernel_rfl
theorem i_isOrder_l0_s2_loop {α : Type} (N : Nat) (n : Int) (h0_0 : Int) (h0_1 : Nat → Int) (h0_2 : Nat → Int) (K : AExit → St → Option α) : ∀ (m : Nat) (seen : Int) (t10 : Int),
    loopN (trimSt ((A_i_isOrder_l0 α N).ann 119 3).head ((A_i_isOrder_l0 α N).ann 119 3).grow 1) (bodyK Try.prog (A_i_isOrder_l0 α N) 1 1 119 Try.f119 3) m (buildS i_isOrder_l0_s2_p [.i n, .i seen, .i t10, .i h0_0, .f h0_1, .f h0_2]) (leaveLoop ((A_i_isOrder_l0 α N).ann 119 3) 1 K) = i_isOrder_l0_s2 none n h0_0 h0_1 h0_2 m seen t10 (K .ret (buildS i_isOrder_l0_s2_o0 [.i h0_0, .f h0_1, .f h0_2])) (fun seen_ => K (.exit 0) (buildS i_isOrder_l0_s2_o1 [.i n, .i seen_, .i h0_0, .f h0_1, .f h0_2])) := by
  intro m
  induction m with
  | zero => intros; rfl
  | succ m ih =>
    intro seen t10
    rw [loopN_round]
    refine (i_isOrder_l0_s2_round N n seen t10 h0_0 h0_1 h0_2 _ K).trans ?_
    simp only [ih]
    rfl
def E_i_isOrder_l0_s2 (α : Type) (N : Nat) : Env α := (A_i_isOrder_l0 α N).addLoop2 119 3 (loopSum2 ((A_i_isOrder_l0 α N).ann 119 3) 1 i_isOrder_l0_s2_p (fun l K => match l with
    | [.i n, .i seen, .i t10, .i h0_0, .f h0_1, .f h0_2] => i_isOrder_l0_s2 none n h0_0 h0_1 h0_2 N seen t10 (K .ret (buildS i_isOrder_l0_s2_o0 [.i h0_0, .f h0_1, .f h0_2])) (fun seen_ => K (.exit 0) (buildS i_isOrder_l0_s2_o1 [.i n, .i seen_, .i h0_0, .f h0_1, .f h0_2]))
    | _ => none) ((A_i_isOrder_l0 α N).ls 119 3))
theorem E_i_isOrder_l0_s2_ok {α : Type} (N : Nat) : EnvOk Try.prog (E_i_isOrder_l0_s2 α N) := (A_i_isOrder_l0_ok N).addLoop2 Try.func119 (by kernel_rfl) (loopSum_ok prog_mixed prog_names (A_i_isOrder_l0_ok N) Try.func119 (by kernel_rfl) (d := 1) (ro := 1) fun l K r h => by
  split at h
  · exact (i_isOrder_l0_s2_loop N _ _ _ _ K N _ _).trans h
  · cases h)

/-- impl.isOrder -/
def i_isOrder_s2_a : SPat := ⟨[.slice ⟨⟨0, 0⟩, 1, 0, 8⟩ 8 8 1 true, .int .i64], [[.vals [.int .i64], .ints .u8 8, .ints .u8 8]]⟩
def i_isOrder_s2_r0 : SPat := ⟨[.bool], [[.vals [.int .i64], .ints .u8 8, .ints .u8 8]]⟩
theorem i_isOrder_s2_run {α : Type} (N : Nat) (n : Int) (h0_0 : Int) (h0_1 : Nat → Int) (h0_2 : Nat → Int) (K : AV → Heap → Option α) :
    callK Try.prog (E_i_isOrder_l0_s2 α N) 1 119 1 (buildS i_isOrder_s2_a [.i n, .i h0_0, .f h0_1, .f h0_2]).t (buildS i_isOrder_s2_a [.i n, .i h0_0, .f h0_1, .f h0_2]).h K = i_isOrder_s2 none N n h0_0 h0_1 h0_2 (fun r__ => retK (buildS i_isOrder_s2_r0 [.b r__, .i h0_0, .f h0_1, .f h0_2]) K) := by kernel_rfl
def E_i_isOrder_s2 (α : Type) (N : Nat) : Env α := (E_i_isOrder_l0_s2 α N).addFun 119 true 1 i_isOrder_s2_a (fun l K => match l with
    | [.i n, .i h0_0, .f h0_1, .f h0_2] => i_isOrder_s2 none N n h0_0 h0_1 h0_2 (fun r__ => retK (buildS i_isOrder_s2_r0 [.b r__, .i h0_0, .f h0_1, .f h0_2]) K)
    | _ => none)
theorem E_i_isOrder_s2_ok {α : Type} (N : Nat) : EnvOk Try.prog (E_i_isOrder_s2 α N) := (E_i_isOrder_l0_s2_ok N).addFun prog_mixed prog_names (d := 1) fun l K r h => by
  split at h
  · exact (i_isOrder_s2_run N _ _ _ _ K).trans h
  · cases h

/-- impl.isOrder, loop -/
def i_isOrder_l0_s3_p : SPat := ⟨[.undef, .int .i64, .undef, .undef, .undef, .int .i64, .undef, .undef, .slice ⟨⟨0, 0⟩, 2, 0, 8⟩ 8 8 1 true, .intC .i64 8, .int .i64] ++ List.replicate 30 .undef, [[.vals [.int .i64], .ints .u8 8, .ints .u8 8]]⟩
def i_isOrder_l0_s3_o0 : SPat := ⟨[.undef, .undef, .undef, .undef, .boolC false] ++ List.replicate 36 .undef, [[.vals [.int .i64], .ints .u8 8, .ints .u8 8]]⟩
def i_isOrder_l0_s3_o1 : SPat := ⟨[.undef, .int .i64, .undef, .undef, .undef, .int .i64] ++ List.replicate 35 .undef, [[.vals [.int .i64], .ints .u8 8, .ints .u8 8]]⟩
theorem i_isOrder_l0_s3_round {α : Type} (N : Nat) (n : Int) (seen : Int) (t10 : Int) (h0_0 : Int) (h0_1 : Nat → Int) (h0_2 : Nat → Int) (kn : St → Option α) (K : AExit → St → Option α) :
    roundK Try.prog (E_i_isOrder_s2 α N) 1 1 119 Try.f119 3 1 (buildS i_isOrder_l0_s3_p [.i n, .i seen, .i t10, .i h0_0, .f h0_1, .f h0_2]) kn K = i_isOrder_l0_s3_s none n h0_0 h0_1 h0_2 seen t10 (fun seen t10 => kn (buildS i_isOrder_l0_s3_p [.i n, .i seen, .i t10, .i h0_0, .f h0_1, .f h0_2])) (K .ret (buildS i_isOrder_l0_s3_o0 [.i h0_0, .f h0_1, .f h0_2])) (fun seen_ => K (.exit 0) (buildS i_isOrder_l0_s3_o1 [.i n, .i seen_, .i h0_0, .f h0_1, .f h0_2])) := by kernel_rfl
theorem i_isOrder_l0_s3_loop {α : Type} (N : Nat) (n : Int) (h0_0 : Int) (h0_1 : Nat → Int) (h0_2 : Nat → Int) (K : AExit → St → Option α) : ∀ (m : Nat) (seen : Int) (t10 : Int),
    loopN (trimSt ((E_i_isOrder_s2 α N).ann 119 3).head ((E_i_isOrder_s2 α N).ann 119 3).grow 1) (bodyK Try.prog (E_i_isOrder_s2 α N) 1 1 119 Try.f119 3) m (buildS i_isOrder_l0_s3_p [.i n, .i seen, .i t10, .i h0_0, .f h0_1, .f h0_2]) (leaveLoop ((E_i_isOrder_s2 α N).ann 119 3) 1 K) = i_isOrder_l0_s3 none n h0_0 h0_1 h0_2 m seen t10 (K .ret (buildS i_isOrder_l0_s3_o0 [.i h0_0, .f h0_1, .f h0_2])) (fun seen_ => K (.exit 0) (buildS i_isOrder_l0_s3_o1 [.i n, .i seen_, .i h0_0, .f h0_1, .f h0_2])) := by
  intro m
  induction m with
  | zero => intros; rfl
  | succ m ih =>
    intro seen t10
    rw [loopN_round]
    refine (i_isOrder_l0_s3_round N n seen t10 h0_0 h0_1 h0_2 _ K).trans ?_
    simp only [ih]
    rfl
def E_i_isOrder_l0_s3 (α : Type) (N : Nat) : Env α := (E_i_isOrder_s2 α N).addLoop2 119 3 (loopSum2 ((E_i_isOrder_s2 α N).ann 119 3) 1 i_isOrder_l0_s3_p (fun l K => match l with
    | [.i n, .i seen, .i t10, .i h0_0, .f h0_1, .f h0_2] => i_isOrder_l0_s3 none n h0_0 h0_1 h0_2 N seen t10 (K .ret (buildS i_isOrder_l0_s3_o0 [.i h0_0, .f h0_1, .f h0_2])) (fun seen_ => K (.exit 0) (buildS i_isOrder_l0_s3_o1 [.i n, .i seen_, .i h0_0, .f h0_1, .f h0_2]))
    | _ => none) ((E_i_isOrder_s2 α N).ls 119 3))
theorem E_i_isOrder_l0_s3_ok {α : Type} (N : Nat) : EnvOk Try.prog (E_i_isOrder_l0_s3 α N) := (E_i_isOrder_s2_ok N).addLoop2 Try.func119 (by kernel_rfl) (loopSum_ok prog_mixed prog_names (E_i_isOrder_s2_ok N) Try.func119 (by kernel_rfl) (d := 1) (ro := 1) fun l K r h => by
  split at h
  · exact (i_isOrder_l0_s3_loop N _ _ _ _ K N _ _).trans h
  · cases h)

/-- impl.isOrder -/
def i_isOrder_s3_a : SPat := ⟨[.slice ⟨⟨0, 0⟩, 2, 0, 8⟩ 8 8 1 true, .int .i64], [[.vals [.int .i64], .ints .u8 8, .ints .u8 8]]⟩
def i_isOrder_s3_r0 : SPat := ⟨[.bool], [[.vals [.int .i64], .ints .u8 8, .ints .u8 8]]⟩
theorem i_isOrder_s3_run {α : Type} (N : Nat) (n : Int) (h0_0 : Int) (h0_1 : Nat → Int) (h0_2 : Nat → Int) (K : AV → Heap → Option α) :
    callK Try.prog (E_i_isOrder_l0_s3 α N) 1 119 1 (buildS i_isOrder_s3_a [.i n, .i h0_0, .f h0_1, .f h0_2]).t (buildS i_isOrder_s3_a [.i n, .i h0_0, .f h0_1, .f h0_2]).h K = i_isOrder_s3 none N n h0_0 h0_1 h0_2 (fun r__ => retK (buildS i_isOrder_s3_r0 [.b r__, .i h0_0, .f h0_1, .f h0_2]) K) := by kernel_rfl
def E_i_isOrder_s3 (α : Type) (N : Nat) : Env α := (E_i_isOrder_l0_s3 α N).addFun 119 true 1 i_isOrder_s3_a (fun l K => match l with
    | [.i n, .i h0_0, .f h0_1, .f h0_2] => i_isOrder_s3 none N n h0_0 h0_1 h0_2 (fun r__ => retK (buildS i_isOrder_s3_r0 [.b r__, .i h0_0, .f h0_1, .f h0_2]) K)
    | _ => none)
theorem E_i_isOrder_s3_ok {α : Type} (N : Nat) : EnvOk Try.prog (E_i_isOrder_s3 α N) := (E_i_isOrder_l0_s3_ok N).addFun prog_mixed prog_names (d := 1) fun l K r h => by
  split at h
  · exact (i_isOrder_s3_run N _ _ _ _ K).trans h
  · cases h

def A_i_IsGrid_l0 (α : Type) (N : Nat) : Env α := (E_i_isOrder_s3 α N).addAnn 57 4 { head := [1, 25, 26], grow := [], out := [], ret := [2] }
theorem A_i_IsGrid_l0_ok {α : Type} (N : Nat) : EnvOk Try.prog (A_i_IsGrid_l0 α N) := (E_i_isOrder_s3_ok N).addAnn

/-- impl.IsGrid, loop -/
def i_IsGrid_l0_p : SPat := ⟨[.undef, .ptr ⟨⟨0, 0⟩, 0, 0, 1⟩, .undef, .undef, .undef, .undef, .undef, .undef, .undef, .undef, .undef, .undef, .undef, .undef, .undef, .undef, .undef, .undef, .undef, .undef, .undef, .undef, .undef, .undef, .undef, .int .i64, .int .i64] ++ List.replicate 12 .undef, [[.vals [.int .i64], .ints .u8 8, .ints .u8 8]]⟩
def i_IsGrid_l0_o0 : SPat := ⟨[.undef, .undef, .boolC false] ++ List.replicate 36 .undef, [[.vals [.int .i64], .ints .u8 8, .ints .u8 8]]⟩
def i_IsGrid_l0_o1 : SPat := ⟨[] ++ List.replicate 39 .undef, [[.vals [.int .i64], .ints .u8 8, .ints .u8 8]]⟩
theorem i_IsGrid_l0_round {α : Type} (N : Nat) (t25 : Int) (t26 : Int) (h0_0 : Int) (h0_1 : Nat → Int) (h0_2 : Nat → Int) (kn : St → Option α) (K : AExit → St → Option α) :
    roundK Try.prog (A_i_IsGrid_l0 α N) 1 0 57 Try.f57 4 1 (buildS i_IsGrid_l0_p [.i t25, .i t26, .i h0_0, .f h0_1, .f h0_2]) kn K = i_IsGrid_l0_s none t25 h0_0 h0_1 h0_2 t26 (fun t26 => kn (buildS i_IsGrid_l0_p [.i t25, .i t26, .i h0_0, .f h0_1, .f h0_2])) (K .ret (buildS i_IsGrid_l0_o0 [.i h0_0, .f h0_1, .f h0_2])) (K (.exit 0) (buildS i_IsGrid_l0_o1 [.i h0_0, .f h0_1, .f h0_2])) := by kernel_rfl
theorem i_IsGrid_l0_loop {α : Type} (N : Nat) (t25 : Int) (h0_0 : Int) (h0_1 : Nat → Int) (h0_2 : Nat → Int) (K : AExit → St → Option α) : ∀ (m : Nat) (t26 : Int),
    loopN (trimSt ((A_i_IsGrid_l0 α N).ann 57 4).head ((A_i_IsGrid_l0 α N).ann 57 4).grow 1) (bodyK Try.prog (A_i_IsGrid_l0 α N) 1 0 57 Try.f57 4) m (buildS i_IsGrid_l0_p [.i t25, .i t26, .i h0_0, .f h0_1, .f h0_2]) (leaveLoop ((A_i_IsGrid_l0 α N).ann 57 4) 1 K) = i_IsGrid_l0 none t25 h0_0 h0_1 h0_2 m t26 (K .ret (buildS i_IsGrid_l0_o0 [.i h0_0, .f h0_1, .f h0_2])) (K (.exit 0) (buildS i_IsGrid_l0_o1 [.i h0_0, .f h0_1, .f h0_2])) := by
  intro m
  induction m with
  | zero => intros; rfl
  | succ m ih =>
    intro t26
    rw [loopN_round]
    refine (i_IsGrid_l0_round N t25 t26 h0_0 h0_1 h0_2 _ K).trans ?_
    simp only [ih]
    rfl
def E_i_IsGrid_l0 (α : Type) (N : Nat) : Env α := (A_i_IsGrid_l0 α N).addLoop2 57 4 (loopSum2 ((A_i_IsGrid_l0 α N).ann 57 4) 0 i_IsGrid_l0_p (fun l K => match l with
    | [.i t25, .i t26, .i h0_0, .f h0_1, .f h0_2] => i_IsGrid_l0 none t25 h0_0 h0_1 h0_2 N t26 (K .ret (buildS i_IsGrid_l0_o0 [.i h0_0, .f h0_1, .f h0_2])) (K (.exit 0) (buildS i_IsGrid_l0_o1 [.i h0_0, .f h0_1, .f h0_2]))
    | _ => none) ((A_i_IsGrid_l0 α N).ls 57 4))
theorem E_i_IsGrid_l0_ok {α : Type} (N : Nat) : EnvOk Try.prog (E_i_IsGrid_l0 α N) := (A_i_IsGrid_l0_ok N).addLoop2 Try.func57 (by kernel_rfl) (loopSum_ok prog_mixed prog_names (A_i_IsGrid_l0_ok N) Try.func57 (by kernel_rfl) (d := 1) (ro := 0) fun l K r h => by
  split at h
  · exact (i_IsGrid_l0_loop N _ _ _ _ K N _).trans h
  · cases h)

/-- impl.IsGrid -/
def i_IsGrid_a : SPat := ⟨[.agg [.vals [.int .i64], .ints .u8 8, .ints .u8 8]], []⟩
def i_IsGrid_r0 : SPat := ⟨[.bool], []⟩
theorem i_IsGrid_run {α : Type} (N : Nat) (g_0 : Int) (g_1 : Nat → Int) (g_2 : Nat → Int) (K : AV → Heap → Option α) :
    callK Try.prog (E_i_IsGrid_l0 α N) 1 57 0 (buildS i_IsGrid_a [.i g_0, .f g_1, .f g_2]).t (buildS i_IsGrid_a [.i g_0, .f g_1, .f g_2]).h K = i_IsGrid none N g_0 g_1 g_2 (fun r__ => retK (buildS i_IsGrid_r0 [.b r__]) K) := by kernel_rfl
def E_i_IsGrid (α : Type) (N : Nat) : Env α := (E_i_IsGrid_l0 α N).addFun 57 true 0 i_IsGrid_a (fun l K => match l with
    | [.i g_0, .f g_1, .f g_2] => i_IsGrid none N g_0 g_1 g_2 (fun r__ => retK (buildS i_IsGrid_r0 [.b r__]) K)
    | _ => none)
theorem E_i_IsGrid_ok {α : Type} (N : Nat) : EnvOk Try.prog (E_i_IsGrid α N) := (E_i_IsGrid_l0_ok N).addFun prog_mixed prog_names (d := 1) fun l K r h => by
  split at h
  · exact (i_IsGrid_run N _ _ _ K).trans h
  · cases h

def A_i_isPrime_l0 (α : Type) (N : Nat) : Env α := (E_i_IsGrid α N).addAnn 128 4 { head := [0, 3], grow := [], out := [], ret := [2] }
theorem A_i_isPrime_l0_ok {α : Type} (N : Nat) : EnvOk Try.prog (A_i_isPrime_l0 α N) := (E_i_IsGrid_ok N).addAnn

/-- impl.isPrime, loop -/
def i_isPrime_l0_p : SPat := ⟨[.int .i64, .undef, .undef, .int .i64] ++ List.replicate 14 .undef, []⟩
def i_isPrime_l0_o0 : SPat := ⟨[.undef, .undef, .boolC false] ++ List.replicate 15 .undef, []⟩
def i_isPrime_l0_o1 : SPat := ⟨[] ++ List.replicate 18 .undef, []⟩
theorem i_isPrime_l0_round {α : Type} (N : Nat) (p : Int) (d : Int) (kn : St → Option α) (K : AExit → St → Option α) :
    roundK Try.prog (A_i_isPrime_l0 α N) 1 0 128 Try.f128 4 0 (buildS i_isPrime_l0_p [.i p, .i d]) kn K = i_isPrime_l0_s none p d (fun d => kn (buildS i_isPrime_l0_p [.i p, .i d])) (K .ret (buildS i_isPrime_l0_o0 [])) (K (.exit 0) (buildS i_isPrime_l0_o1 [])) := by kernel_rfl
theorem i_isPrime_l0_loop {α : Type} (N : Nat) (p : Int) (K : AExit → St → Option α) : ∀ (m : Nat) (d : Int),
    loopN (trimSt ((A_i_isPrime_l0 α N).ann 128 4).head ((A_i_isPrime_l0 α N).ann 128 4).grow 0) (bodyK Try.prog (A_i_isPrime_l0 α N) 1 0 128 Try.f128 4) m (buildS i_isPrime_l0_p [.i p, .i d]) (leaveLoop ((A_i_isPrime_l0 α N).ann 128 4) 0 K) = i_isPrime_l0 none p m d (K .ret (buildS i_isPrime_l0_o0 [])) (K (.exit 0) (buildS i_isPrime_l0_o1 [])) := by
  intro m
  induction m with
  | zero => intros; rfl
  | succ m ih =>
    intro d
    rw [loopN_round]
    refine (i_isPrime_l0_round N p d _ K).trans ?_
    simp only [ih]
    rfl
def E_i_isPrime_l0 (α : Type) (N : Nat) : Env α := (A_i_isPrime_l0 α N).addLoop2 128 4 (loopSum2 ((A_i_isPrime_l0 α N).ann 128 4) 0 i_isPrime_l0_p (fun l K => match l with
    | [.i p, .i d] => i_isPrime_l0 none p N d (K .ret (buildS i_isPrime_l0_o0 [])) (K (.exit 0) (buildS i_isPrime_l0_o1 []))
    | _ => none) ((A_i_isPrime_l0 α N).ls 128 4))
theorem E_i_isPrime_l0_ok {α : Type} (N : Nat) : EnvOk Try.prog (E_i_isPrime_l0 α N) := (A_i_isPrime_l0_ok N).addLoop2 Try.func128 (by kernel_rfl) (loopSum_ok prog_mixed prog_names (A_i_isPrime_l0_ok N) Try.func128 (by kernel_rfl) (d := 1) (ro := 0) fun l K r h => by
  split at h
  · exact (i_isPrime_l0_loop N _ K N _).trans h
  · cases h)

/-- impl.isPrime -/
def i_isPrime_a : SPat := ⟨[.int .i64], []⟩
def i_isPrime_r0 : SPat := ⟨[.bool], []⟩
theorem i_isPrime_run {α : Type} (N : Nat) (p : Int) (K : AV → Heap → Option α) :
    callK Try.prog (E_i_isPrime_l0 α N) 1 128 0 (buildS i_isPrime_a [.i p]).t (buildS i_isPrime_a [.i p]).h K = i_isPrime none N p (fun r__ => retK (buildS i_isPrime_r0 [.b r__]) K) := by kernel_rfl
def E_i_isPrime (α : Type) (N : Nat) : Env α := (E_i_isPrime_l0 α N).addFun 128 true 0 i_isPrime_a (fun l K => match l with
    | [.i p] => i_isPrime none N p (fun r__ => retK (buildS i_isPrime_r0 [.b r__]) K)
    | _ => none)
theorem E_i_isPrime_ok {α : Type} (N : Nat) : EnvOk Try.prog (E_i_isPrime α N) := (E_i_isPrime_l0_ok N).addFun prog_mixed prog_names (d := 1) fun l K r h => by
  split at h
  · exact (i_isPrime_run N _ K).trans h
  · cases h

def A_i_Grid_relations_l0 (α : Type) (N : Nat) : Env α := (E_i_isPrime α N).addAnn 61 3 { head := [1, 3, 10, 11], grow := [3], out := [3], ret := [2] }
theorem A_i_Grid_relations_l0_ok {α : Type} (N : Nat) : EnvOk Try.prog (A_i_Grid_relations_l0 α N) := (E_i_isPrime_ok N).addAnn

def A_i_Grid_relations_l1 (α : Type) (N : Nat) : Env α := (A_i_Grid_relations_l0 α N).addAnn 61 7 { head := [1, 3, 4, 5, 10, 11, 16, 17], grow := [5], out := [1, 3, 5, 10, 11], ret := [2] }
theorem A_i_Grid_relations_l1_ok {α : Type} (N : Nat) : EnvOk Try.prog (A_i_Grid_relations_l1 α N) := (A_i_Grid_relations_l0_ok N).addAnn

/-- (impl.Grid).relations, loop -/
def i_Grid_relations_l1_p : SPat := ⟨[.undef, .ptr ⟨⟨0, 0⟩, 0, 0, 1⟩, .undef, .sliceV 2 0 0 1 false, .int .i64, .sliceV 3 0 0 1 false, .undef, .undef, .undef, .undef, .int .i64, .int .i64, .undef, .undef, .undef, .undef, .int .i64, .int .i64] ++ List.replicate 41 .undef, [[.vals [.int .i64], .ints .u8 8, .ints .u8 8], [.pool .i64], [.hdr 1], [.vec .i64]]⟩
def i_Grid_relations_l1_o0 : SPat := ⟨[.undef, .ptr ⟨⟨0, 0⟩, 0, 0, 1⟩, .undef, .sliceV 2 0 0 1 false, .undef, .sliceV 3 0 0 1 false, .undef, .undef, .undef, .undef, .int .i64, .int .i64] ++ List.replicate 47 .undef, [[.vals [.int .i64], .ints .u8 8, .ints .u8 8], [.pool .i64], [.hdr 1], [.vec .i64]]⟩
theorem i_Grid_relations_l1_round {α : Type} (N : Nat) (out_n : Nat) (out_l : Nat) (out_c : Nat) (r_ : Int) (list_n : Nat) (list_l : Nat) (list_c : Nat) (t10 : Int) (t11 : Int) (t16 : Int) (t17 : Int) (h0_0 : Int) (h0_1 : Nat → Int) (h0_2 : Nat → Int) (h1 : List (List Int)) (h2 : List (Nat × Nat)) (h3 : List Int) (kn : St → Option α) (K : AExit → St → Option α) :
    roundK Try.prog (A_i_Grid_relations_l1 α N) 1 0 61 Try.f61 7 4 (buildS i_Grid_relations_l1_p [.n out_n, .n out_l, .n out_c, .i r_, .n list_n, .n list_l, .n list_c, .i t10, .i t11, .i t16, .i t17, .i h0_0, .f h0_1, .f h0_2, .r h1, .p h2, .l h3]) kn K = i_Grid_relations_l1_s none out_n out_l out_c r_ t10 t11 t16 h0_0 h0_1 h0_2 h1 h2 list_n list_l list_c t17 h3 (fun list_n list_l list_c t17 h3 => kn (buildS i_Grid_relations_l1_p [.n out_n, .n out_l, .n out_c, .i r_, .n list_n, .n list_l, .n list_c, .i t10, .i t11, .i t16, .i t17, .i h0_0, .f h0_1, .f h0_2, .r h1, .p h2, .l h3])) (fun list_n_ list_l_ list_c_ h3_ => K (.exit 2) (buildS i_Grid_relations_l1_o0 [.n out_n, .n out_l, .n out_c, .n list_n_, .n list_l_, .n list_c_, .i t10, .i t11, .i h0_0, .f h0_1, .f h0_2, .r h1, .p h2, .l h3_])) := by kernel_rfl
theorem i_Grid_relations_l1_loop {α : Type} (N : Nat) (out_n : Nat) (out_l : Nat) (out_c : Nat) (r_ : Int) (t10 : Int) (t11 : Int) (t16 : Int) (h0_0 : Int) (h0_1 : Nat → Int) (h0_2 : Nat → Int) (h1 : List (List Int)) (h2 : List (Nat × Nat)) (K : AExit → St → Option α) : ∀ (m : Nat) (list_n : Nat) (list_l : Nat) (list_c : Nat) (t17 : Int) (h3 : List Int),
    loopN (trimSt ((A_i_Grid_relations_l1 α N).ann 61 7).head ((A_i_Grid_relations_l1 α N).ann 61 7).grow 4) (bodyK Try.prog (A_i_Grid_relations_l1 α N) 1 0 61 Try.f61 7) m (buildS i_Grid_relations_l1_p [.n out_n, .n out_l, .n out_c, .i r_, .n list_n, .n list_l, .n list_c, .i t10, .i t11, .i t16, .i t17, .i h0_0, .f h0_1, .f h0_2, .r h1, .p h2, .l h3]) (leaveLoop ((A_i_Grid_relations_l1 α N).ann 61 7) 4 K) = i_Grid_relations_l1 none out_n out_l out_c r_ t10 t11 t16 h0_0 h0_1 h0_2 h1 h2 m list_n list_l list_c t17 h3 (fun list_n_ list_l_ list_c_ h3_ => K (.exit 2) (buildS i_Grid_relations_l1_o0 [.n out_n, .n out_l, .n out_c, .n list_n_, .n list_l_, .n list_c_, .i t10, .i t11, .i h0_0, .f h0_1, .f h0_2, .r h1, .p h2, .l h3_])) := by
  intro m
  induction m with
  | zero => intros; rfl
  | succ m ih =>
    intro list_n list_l list_c t17 h3
    rw [loopN_round]
    refine (i_Grid_relations_l1_round N out_n out_l out_c r_ list_n list_l list_c t10 t11 t16 t17 h0_0 h0_1 h0_2 h1 h2 h3 _ K).trans ?_
    simp only [ih]
    rfl
def E_i_Grid_relations_l1 (α : Type) (N : Nat) : Env α := (A_i_Grid_relations_l1 α N).addLoop2 61 7 (loopSum2 ((A_i_Grid_relations_l1 α N).ann 61 7) 0 i_Grid_relations_l1_p (fun l K => match l with
    | [.n out_n, .n out_l, .n out_c, .i r_, .n list_n, .n list_l, .n list_c, .i t10, .i t11, .i t16, .i t17, .i h0_0, .f h0_1, .f h0_2, .r h1, .p h2, .l h3] => i_Grid_relations_l1 none out_n out_l out_c r_ t10 t11 t16 h0_0 h0_1 h0_2 h1 h2 N list_n list_l list_c t17 h3 (fun list_n_ list_l_ list_c_ h3_ => K (.exit 2) (buildS i_Grid_relations_l1_o0 [.n out_n, .n out_l, .n out_c, .n list_n_, .n list_l_, .n list_c_, .i t10, .i t11, .i h0_0, .f h0_1, .f h0_2, .r h1, .p h2, .l h3_]))
    | _ => none) ((A_i_Grid_relations_l1 α N).ls 61 7))
theorem E_i_Grid_relations_l1_ok {α : Type} (N : Nat) : EnvOk Try.prog (E_i_Grid_relations_l1 α N) := (A_i_Grid_relations_l1_ok N).addLoop2 Try.func61 (by kernel_rfl) (loopSum_ok prog_mixed prog_names (A_i_Grid_relations_l1_ok N) Try.func61 (by kernel_rfl) (d := 1) (ro := 0) fun l K r h => by
  split at h
  · exact (i_Grid_relations_l1_loop N _ _ _ _ _ _ _ _ _ _ _ _ K N _ _ _ _ _).trans h
  · cases h)

/-- (impl.Grid).relations, loop -/
def i_Grid_relations_l0_p : SPat := ⟨[.undef, .ptr ⟨⟨0, 0⟩, 0, 0, 1⟩, .undef, .sliceV 2 0 0 1 false, .undef, .undef, .undef, .undef, .undef, .undef, .int .i64, .int .i64] ++ List.replicate 47 .undef, [[.vals [.int .i64], .ints .u8 8, .ints .u8 8], [.pool .i64], [.hdr 1]]⟩
def i_Grid_relations_l0_o0 : SPat := ⟨[.undef, .undef, .undef, .sliceV 2 0 0 1 false] ++ List.replicate 55 .undef, [[.vals [.int .i64], .ints .u8 8, .ints .u8 8], [.pool .i64], [.hdr 1]]⟩
theorem i_Grid_relations_l0_round {α : Type} (N : Nat) (out_n : Nat) (out_l : Nat) (out_c : Nat) (t10 : Int) (t11 : Int) (h0_0 : Int) (h0_1 : Nat → Int) (h0_2 : Nat → Int) (h1 : List (List Int)) (h2 : List (Nat × Nat)) (kn : St → Option α) (K : AExit → St → Option α) :
    roundK Try.prog (E_i_Grid_relations_l1 α N) 1 0 61 Try.f61 3 3 (buildS i_Grid_relations_l0_p [.n out_n, .n out_l, .n out_c, .i t10, .i t11, .i h0_0, .f h0_1, .f h0_2, .r h1, .p h2]) kn K = i_Grid_relations_l0_s none N t10 h0_0 h0_1 h0_2 out_n out_l out_c t11 h1 h2 (fun out_n out_l out_c t11 h1 h2 => kn (buildS i_Grid_relations_l0_p [.n out_n, .n out_l, .n out_c, .i t10, .i t11, .i h0_0, .f h0_1, .f h0_2, .r h1, .p h2])) (fun out_n_ out_l_ out_c_ h1_ h2_ => K (.exit 0) (buildS i_Grid_relations_l0_o0 [.n out_n_, .n out_l_, .n out_c_, .i h0_0, .f h0_1, .f h0_2, .r h1_, .p h2_])) := by kernel_rfl
theorem i_Grid_relations_l0_loop {α : Type} (N : Nat) (t10 : Int) (h0_0 : Int) (h0_1 : Nat → Int) (h0_2 : Nat → Int) (K : AExit → St → Option α) : ∀ (m : Nat) (out_n : Nat) (out_l : Nat) (out_c : Nat) (t11 : Int) (h1 : List (List Int)) (h2 : List (Nat × Nat)),
    loopN (trimSt ((E_i_Grid_relations_l1 α N).ann 61 3).head ((E_i_Grid_relations_l1 α N).ann 61 3).grow 3) (bodyK Try.prog (E_i_Grid_relations_l1 α N) 1 0 61 Try.f61 3) m (buildS i_Grid_relations_l0_p [.n out_n, .n out_l, .n out_c, .i t10, .i t11, .i h0_0, .f h0_1, .f h0_2, .r h1, .p h2]) (leaveLoop ((E_i_Grid_relations_l1 α N).ann 61 3) 3 K) = i_Grid_relations_l0 none N t10 h0_0 h0_1 h0_2 m out_n out_l out_c t11 h1 h2 (fun out_n_ out_l_ out_c_ h1_ h2_ => K (.exit 0) (buildS i_Grid_relations_l0_o0 [.n out_n_, .n out_l_, .n out_c_, .i h0_0, .f h0_1, .f h0_2, .r h1_, .p h2_])) := by
  intro m
  induction m with
  | zero => intros; rfl
  | succ m ih =>
    intro out_n out_l out_c t11 h1 h2
    rw [loopN_round]
    refine (i_Grid_relations_l0_round N out_n out_l out_c t10 t11 h0_0 h0_1 h0_2 h1 h2 _ K).trans ?_
    simp only [ih]
    rfl
def E_i_Grid_relations_l0 (α : Type) (N : Nat) : Env α := (E_i_Grid_relations_l1 α N).addLoop2 61 3 (loopSum2 ((E_i_Grid_relations_l1 α N).ann 61 3) 0 i_Grid_relations_l0_p (fun l K => match l with
    | [.n out_n, .n out_l, .n out_c, .i t10, .i t11, .i h0_0, .f h0_1, .f h0_2, .r h1, .p h2] => i_Grid_relations_l0 none N t10 h0_0 h0_1 h0_2 N out_n out_l out_c t11 h1 h2 (fun out_n_ out_l_ out_c_ h1_ h2_ => K (.exit 0) (buildS i_Grid_relations_l0_o0 [.n out_n_, .n out_l_, .n out_c_, .i h0_0, .f h0_1, .f h0_2, .r h1_, .p h2_]))
    | _ => none) ((E_i_Grid_relations_l1 α N).ls 61 3))
theorem E_i_Grid_relations_l0_ok {α : Type} (N : Nat) : EnvOk Try.prog (E_i_Grid_relations_l0 α N) := (E_i_Grid_relations_l1_ok N).addLoop2 Try.func61 (by kernel_rfl) (loopSum_ok prog_mixed prog_names (E_i_Grid_relations_l1_ok N) Try.func61 (by kernel_rfl) (d := 1) (ro := 0) fun l K r h => by
  split at h
  · exact (i_Grid_relations_l0_loop N _ _ _ _ K N _ _ _ _ _ _).trans h
  · cases h)

/-- (impl.Grid).relations -/
def i_Grid_relations_a : SPat := ⟨[.agg [.vals [.int .i64], .ints .u8 8, .ints .u8 8]], []⟩
def i_Grid_relations_r0 : SPat := ⟨[.sliceV 0 0 0 1 false], [[.hdr 1], [.pool .i64]]⟩
theorem i_Grid_relations_run {α : Type} (N : Nat) (g_0 : Int) (g_1 : Nat → Int) (g_2 : Nat → Int) (K : AV → Heap → Option α) :
    callK Try.prog (E_i_Grid_relations_l0 α N) 1 61 0 (buildS i_Grid_relations_a [.i g_0, .f g_1, .f g_2]).t (buildS i_Grid_relations_a [.i g_0, .f g_1, .f g_2]).h K = i_Grid_relations none N g_0 g_1 g_2 (fun r_n_ r_l_ r_c_ h0_ h1_ => retK (buildS i_Grid_relations_r0 [.n r_n_, .n r_l_, .n r_c_, .p h0_, .r h1_]) K) := by kernel_rfl
def E_i_Grid_relations (α : Type) (N : Nat) : Env α := (E_i_Grid_relations_l0 α N).addFun 61 true 0 i_Grid_relations_a (fun l K => match l with
    | [.i g_0, .f g_1, .f g_2] => i_Grid_relations none N g_0 g_1 g_2 (fun r_n_ r_l_ r_c_ h0_ h1_ => retK (buildS i_Grid_relations_r0 [.n r_n_, .n r_l_, .n r_c_, .p h0_, .r h1_]) K)
    | _ => none)
theorem E_i_Grid_relations_ok {α : Type} (N : Nat) : EnvOk Try.prog (E_i_Grid_relations α N) := (E_i_Grid_relations_l0_ok N).addFun prog_mixed prog_names (d := 1) fun l K r h => by
  split at h
  · exact (i_Grid_relations_run N _ _ _ K).trans h
  · cases h

def A_i_Grid_equations_l0 (α : Type) (N : Nat) : Env α := (E_i_Grid_relations α N).addAnn 79 3 { head := [1, 3, 12, 13, 14], grow := [3], out := [3], ret := [2] }
theorem A_i_Grid_equations_l0_ok {α : Type} (N : Nat) : EnvOk Try.prog (A_i_Grid_equations_l0 α N) := (E_i_Grid_relations_ok N).addAnn

def A_i_Grid_equations_l1 (α : Type) (N : Nat) : Env α := (A_i_Grid_equations_l0 α N).addAnn 79 8 { head := [1, 3, 6, 7, 12, 13, 14, 21, 22, 23], grow := [], out := [1, 3, 6, 12, 13, 14], ret := [2] }
theorem A_i_Grid_equations_l1_ok {α : Type} (N : Nat) : EnvOk Try.prog (A_i_Grid_equations_l1 α N) := (A_i_Grid_equations_l0_ok N).addAnn

/-- (impl.Grid).equations, loop -/
def i_Grid_equations_l1_p : SPat := ⟨[.undef, .ptr ⟨⟨0, 0⟩, 0, 0, 1⟩, .undef, .sliceV 2 0 0 1 false, .undef, .undef, .sliceV 5 0 0 1 true, .int .i64, .undef, .undef, .undef, .undef, .sliceV 3 0 0 1 false, .int .i64, .int .i64, .undef, .undef, .undef, .undef, .undef, .undef, .sliceR 4 1 false, .int .i64, .int .i64] ++ List.replicate 16 .undef, [[.vals [.int .i64], .ints .u8 8, .ints .u8 8], [.pool .i64], [.hdr 1], [.hdr 4], [.pool .i64], [.intsV .i64]]⟩
def i_Grid_equations_l1_o0 : SPat := ⟨[.undef, .ptr ⟨⟨0, 0⟩, 0, 0, 1⟩, .undef, .sliceV 2 0 0 1 false, .undef, .undef, .sliceV 5 0 0 1 true, .undef, .undef, .undef, .undef, .undef, .sliceV 3 0 0 1 false, .int .i64, .int .i64] ++ List.replicate 25 .undef, [[.vals [.int .i64], .ints .u8 8, .ints .u8 8], [.pool .i64], [.hdr 1], [.hdr 4], [.pool .i64], [.intsV .i64]]⟩
theorem i_Grid_equations_l1_round {α : Type} (N : Nat) (out_n : Nat) (out_l : Nat) (out_c : Nat) (line_n : Nat) (line_l : Nat) (line_c : Nat) (sign : Int) (t12_n : Nat) (t12_l : Nat) (t12_c : Nat) (t13 : Int) (t14 : Int) (t21_r : Nat) (t21_o : Nat) (t21_n : Nat) (t21_l : Nat) (t21_c : Nat) (t22 : Int) (t23 : Int) (h0_0 : Int) (h0_1 : Nat → Int) (h0_2 : Nat → Int) (h1 : List (List Int)) (h2 : List (Nat × Nat)) (h3 : List (Nat × Nat)) (h4 : List (List Int)) (h5_n : Nat) (h5 : Nat → Int) (kn : St → Option α) (K : AExit → St → Option α) :
    roundK Try.prog (A_i_Grid_equations_l1 α N) 1 0 79 Try.f79 8 6 (buildS i_Grid_equations_l1_p [.n out_n, .n out_l, .n out_c, .n line_n, .n line_l, .n line_c, .i sign, .n t12_n, .n t12_l, .n t12_c, .i t13, .i t14, .n t21_r, .n t21_o, .n t21_n, .n t21_l, .n t21_c, .i t22, .i t23, .i h0_0, .f h0_1, .f h0_2, .r h1, .p h2, .p h3, .r h4, .n h5_n, .f h5]) kn K = i_Grid_equations_l1_s none out_n out_l out_c line_n line_l line_c t12_n t12_l t12_c t13 t14 t21_r t21_o t21_n t21_l t21_c t22 h0_0 h0_1 h0_2 h1 h2 h3 h4 h5_n sign t23 h5 (fun sign t23 h5 => kn (buildS i_Grid_equations_l1_p [.n out_n, .n out_l, .n out_c, .n line_n, .n line_l, .n line_c, .i sign, .n t12_n, .n t12_l, .n t12_c, .i t13, .i t14, .n t21_r, .n t21_o, .n t21_n, .n t21_l, .n t21_c, .i t22, .i t23, .i h0_0, .f h0_1, .f h0_2, .r h1, .p h2, .p h3, .r h4, .n h5_n, .f h5])) (fun h5_ => K (.exit 2) (buildS i_Grid_equations_l1_o0 [.n out_n, .n out_l, .n out_c, .n line_n, .n line_l, .n line_c, .n t12_n, .n t12_l, .n t12_c, .i t13, .i t14, .i h0_0, .f h0_1, .f h0_2, .r h1, .p h2, .p h3, .r h4, .n h5_n, .f h5_])) := by kernel_rfl
theorem i_Grid_equations_l1_loop {α : Type} (N : Nat) (out_n : Nat) (out_l : Nat) (out_c : Nat) (line_n : Nat) (line_l : Nat) (line_c : Nat) (t12_n : Nat) (t12_l : Nat) (t12_c : Nat) (t13 : Int) (t14 : Int) (t21_r : Nat) (t21_o : Nat) (t21_n : Nat) (t21_l : Nat) (t21_c : Nat) (t22 : Int) (h0_0 : Int) (h0_1 : Nat → Int) (h0_2 : Nat → Int) (h1 : List (List Int)) (h2 : List (Nat × Nat)) (h3 : List (Nat × Nat)) (h4 : List (List Int)) (h5_n : Nat) (K : AExit → St → Option α) : ∀ (m : Nat) (sign : Int) (t23 : Int) (h5 : Nat → Int),
    loopN (trimSt ((A_i_Grid_equations_l1 α N).ann 79 8).head ((A_i_Grid_equations_l1 α N).ann 79 8).grow 6) (bodyK Try.prog (A_i_Grid_equations_l1 α N) 1 0 79 Try.f79 8) m (buildS i_Grid_equations_l1_p [.n out_n, .n out_l, .n out_c, .n line_n, .n line_l, .n line_c, .i sign, .n t12_n, .n t12_l, .n t12_c, .i t13, .i t14, .n t21_r, .n t21_o, .n t21_n, .n t21_l, .n t21_c, .i t22, .i t23, .i h0_0, .f h0_1, .f h0_2, .r h1, .p h2, .p h3, .r h4, .n h5_n, .f h5]) (leaveLoop ((A_i_Grid_equations_l1 α N).ann 79 8) 6 K) = i_Grid_equations_l1 none out_n out_l out_c line_n line_l line_c t12_n t12_l t12_c t13 t14 t21_r t21_o t21_n t21_l t21_c t22 h0_0 h0_1 h0_2 h1 h2 h3 h4 h5_n m sign t23 h5 (fun h5_ => K (.exit 2) (buildS i_Grid_equations_l1_o0 [.n out_n, .n out_l, .n out_c, .n line_n, .n line_l, .n line_c, .n t12_n, .n t12_l, .n t12_c, .i t13, .i t14, .i h0_0, .f h0_1, .f h0_2, .r h1, .p h2, .p h3, .r h4, .n h5_n, .f h5_])) := by
  intro m
  induction m with
  | zero => intros; rfl
  | succ m ih =>
    intro sign t23 h5
    rw [loopN_round]
    refine (i_Grid_equations_l1_round N out_n out_l out_c line_n line_l line_c sign t12_n t12_l t12_c t13 t14 t21_r t21_o t21_n t21_l t21_c t22 t23 h0_0 h0_1 h0_2 h1 h2 h3 h4 h5_n h5 _ K).trans ?_
    simp only [ih]
    rfl
def E_i_Grid_equations_l1 (α : Type) (N : Nat) : Env α := (A_i_Grid_equations_l1 α N).addLoop2 79 8 (loopSum2 ((A_i_Grid_equations_l1 α N).ann 79 8) 0 i_Grid_equations_l1_p (fun l K => match l with
    | [.n out_n, .n out_l, .n out_c, .n line_n, .n line_l, .n line_c, .i sign, .n t12_n, .n t12_l, .n t12_c, .i t13, .i t14, .n t21_r, .n t21_o, .n t21_n, .n t21_l, .n t21_c, .i t22, .i t23, .i h0_0, .f h0_1, .f h0_2, .r h1, .p h2, .p h3, .r h4, .n h5_n, .f h5] => i_Grid_equations_l1 none out_n out_l out_c line_n line_l line_c t12_n t12_l t12_c t13 t14 t21_r t21_o t21_n t21_l t21_c t22 h0_0 h0_1 h0_2 h1 h2 h3 h4 h5_n N sign t23 h5 (fun h5_ => K (.exit 2) (buildS i_Grid_equations_l1_o0 [.n out_n, .n out_l, .n out_c, .n line_n, .n line_l, .n line_c, .n t12_n, .n t12_l, .n t12_c, .i t13, .i t14, .i h0_0, .f h0_1, .f h0_2, .r h1, .p h2, .p h3, .r h4, .n h5_n, .f h5_]))
    | _ => none) ((A_i_Grid_equations_l1 α N).ls 79 8))
theorem E_i_Grid_equations_l1_ok {α : Type} (N : Nat) : EnvOk Try.prog (E_i_Grid_equations_l1 α N) := (A_i_Grid_equations_l1_ok N).addLoop2 Try.func79 (by kernel_rfl) (loopSum_ok prog_mixed prog_names (A_i_Grid_equations_l1_ok N) Try.func79 (by kernel_rfl) (d := 1) (ro := 0) fun l K r h => by
  split at h
  · exact (i_Grid_equations_l1_loop N _ _ _ _ _ _ _ _ _ _ _ _ _ _ _ _ _ _ _ _ _ _ _ _ _ K N _ _ _).trans h
  · cases h)

/-- (impl.Grid).equations, loop -/
def i_Grid_equations_l0_p : SPat := ⟨[.undef, .ptr ⟨⟨0, 0⟩, 0, 0, 1⟩, .undef, .sliceV 2 0 0 1 false, .undef, .undef, .undef, .undef, .undef, .undef, .undef, .undef, .sliceV 3 0 0 1 false, .int .i64, .int .i64] ++ List.replicate 25 .undef, [[.vals [.int .i64], .ints .u8 8, .ints .u8 8], [.pool .i64], [.hdr 1], [.hdr 4], [.pool .i64]]⟩
def i_Grid_equations_l0_o0 : SPat := ⟨[.undef, .undef, .undef, .sliceV 2 0 0 1 false] ++ List.replicate 36 .undef, [[.vals [.int .i64], .ints .u8 8, .ints .u8 8], [.pool .i64], [.hdr 1], [.hdr 4], [.pool .i64]]⟩
theorem i_Grid_equations_l0_round {α : Type} (N : Nat) (out_n : Nat) (out_l : Nat) (out_c : Nat) (t12_n : Nat) (t12_l : Nat) (t12_c : Nat) (t13 : Int) (t14 : Int) (h0_0 : Int) (h0_1 : Nat → Int) (h0_2 : Nat → Int) (h1 : List (List Int)) (h2 : List (Nat × Nat)) (h3 : List (Nat × Nat)) (h4 : List (List Int)) (kn : St → Option α) (K : AExit → St → Option α) :
    roundK Try.prog (E_i_Grid_equations_l1 α N) 1 0 79 Try.f79 3 5 (buildS i_Grid_equations_l0_p [.n out_n, .n out_l, .n out_c, .n t12_n, .n t12_l, .n t12_c, .i t13, .i t14, .i h0_0, .f h0_1, .f h0_2, .r h1, .p h2, .p h3, .r h4]) kn K = i_Grid_equations_l0_s none N t12_n t12_l t12_c t13 h0_0 h0_1 h0_2 h3 h4 out_n out_l out_c t14 h1 h2 (fun out_n out_l out_c t14 h1 h2 => kn (buildS i_Grid_equations_l0_p [.n out_n, .n out_l, .n out_c, .n t12_n, .n t12_l, .n t12_c, .i t13, .i t14, .i h0_0, .f h0_1, .f h0_2, .r h1, .p h2, .p h3, .r h4])) (fun out_n_ out_l_ out_c_ h1_ h2_ => K (.exit 0) (buildS i_Grid_equations_l0_o0 [.n out_n_, .n out_l_, .n out_c_, .i h0_0, .f h0_1, .f h0_2, .r h1_, .p h2_, .p h3, .r h4])) := by kernel_rfl
theorem i_Grid_equations_l0_loop {α : Type} (N : Nat) (t12_n : Nat) (t12_l : Nat) (t12_c : Nat) (t13 : Int) (h0_0 : Int) (h0_1 : Nat → Int) (h0_2 : Nat → Int) (h3 : List (Nat × Nat)) (h4 : List (List Int)) (K : AExit → St → Option α) : ∀ (m : Nat) (out_n : Nat) (out_l : Nat) (out_c : Nat) (t14 : Int) (h1 : List (List Int)) (h2 : List (Nat × Nat)),
    loopN (trimSt ((E_i_Grid_equations_l1 α N).ann 79 3).head ((E_i_Grid_equations_l1 α N).ann 79 3).grow 5) (bodyK Try.prog (E_i_Grid_equations_l1 α N) 1 0 79 Try.f79 3) m (buildS i_Grid_equations_l0_p [.n out_n, .n out_l, .n out_c, .n t12_n, .n t12_l, .n t12_c, .i t13, .i t14, .i h0_0, .f h0_1, .f h0_2, .r h1, .p h2, .p h3, .r h4]) (leaveLoop ((E_i_Grid_equations_l1 α N).ann 79 3) 5 K) = i_Grid_equations_l0 none N t12_n t12_l t12_c t13 h0_0 h0_1 h0_2 h3 h4 m out_n out_l out_c t14 h1 h2 (fun out_n_ out_l_ out_c_ h1_ h2_ => K (.exit 0) (buildS i_Grid_equations_l0_o0 [.n out_n_, .n out_l_, .n out_c_, .i h0_0, .f h0_1, .f h0_2, .r h1_, .p h2_, .p h3, .r h4])) := by
  intro m
  induction m with
  | zero => intros; rfl
  | succ m ih =>
    intro out_n out_l out_c t14 h1 h2
    rw [loopN_round]
    refine (i_Grid_equations_l0_round N out_n out_l out_c t12_n t12_l t12_c t13 t14 h0_0 h0_1 h0_2 h1 h2 h3 h4 _ K).trans ?_
    simp only [ih]
    rfl
def E_i_Grid_equations_l0 (α : Type) (N : Nat) : Env α := (E_i_Grid_equations_l1 α N).addLoop2 79 3 (loopSum2 ((E_i_Grid_equations_l1 α N).ann 79 3) 0 i_Grid_equations_l0_p (fun l K => match l with
    | [.n out_n, .n out_l, .n out_c, .n t12_n, .n t12_l, .n t12_c, .i t13, .i t14, .i h0_0, .f h0_1, .f h0_2, .r h1, .p h2, .p h3, .r h4] => i_Grid_equations_l0 none N t12_n t12_l t12_c t13 h0_0 h0_1 h0_2 h3 h4 N out_n out_l out_c t14 h1 h2 (fun out_n_ out_l_ out_c_ h1_ h2_ => K (.exit 0) (buildS i_Grid_equations_l0_o0 [.n out_n_, .n out_l_, .n out_c_, .i h0_0, .f h0_1, .f h0_2, .r h1_, .p h2_, .p h3, .r h4]))
    | _ => none) ((E_i_Grid_equations_l1 α N).ls 79 3))
theorem E_i_Grid_equations_l0_ok {α : Type} (N : Nat) : EnvOk Try.prog (E_i_Grid_equations_l0 α N) := (E_i_Grid_equations_l1_ok N).addLoop2 Try.func79 (by kernel_rfl) (loopSum_ok prog_mixed prog_names (E_i_Grid_equations_l1_ok N) Try.func79 (by kernel_rfl) (d := 1) (ro := 0) fun l K r h => by
  split at h
  · exact (i_Grid_equations_l0_loop N _ _ _ _ _ _ _ _ _ K N _ _ _ _ _ _).trans h
  · cases h)

/-- (impl.Grid).equations -/
def i_Grid_equations_a : SPat := ⟨[.agg [.vals [.int .i64], .ints .u8 8, .ints .u8 8]], []⟩
def i_Grid_equations_r0 : SPat := ⟨[.sliceV 0 0 0 1 false], [[.hdr 1], [.pool .i64]]⟩
theorem i_Grid_equations_run {α : Type} (N : Nat) (g_0 : Int) (g_1 : Nat → Int) (g_2 : Nat → Int) (K : AV → Heap → Option α) :
    callK Try.prog (E_i_Grid_equations_l0 α N) 1 79 0 (buildS i_Grid_equations_a [.i g_0, .f g_1, .f g_2]).t (buildS i_Grid_equations_a [.i g_0, .f g_1, .f g_2]).h K = i_Grid_equations none N g_0 g_1 g_2 (fun r_n_ r_l_ r_c_ h0_ h1_ => retK (buildS i_Grid_equations_r0 [.n r_n_, .n r_l_, .n r_c_, .p h0_, .r h1_]) K) := by kernel_rfl
def E_i_Grid_equations (α : Type) (N : Nat) : Env α := (E_i_Grid_equations_l0 α N).addFun 79 true 0 i_Grid_equations_a (fun l K => match l with
    | [.i g_0, .f g_1, .f g_2] => i_Grid_equations none N g_0 g_1 g_2 (fun r_n_ r_l_ r_c_ h0_ h1_ => retK (buildS i_Grid_equations_r0 [.n r_n_, .n r_l_, .n r_c_, .p h0_, .r h1_]) K)
    | _ => none)
theorem E_i_Grid_equations_ok {α : Type} (N : Nat) : EnvOk Try.prog (E_i_Grid_equations α N) := (E_i_Grid_equations_l0_ok N).addFun prog_mixed prog_names (d := 1) fun l K r h => by
  split at h
  · exact (i_Grid_equations_run N _ _ _ K).trans h
  · cases h

def A_i_echelon_l0 (α : Type) (N : Nat) : Env α := (E_i_Grid_equations α N).addAnn 78 3 { head := [1, 2, 8, 9, 25, 26, 27], grow := [8], out := [1, 2, 8, 9], ret := [6, 7] }
theorem A_i_echelon_l0_ok {α : Type} (N : Nat) : EnvOk Try.prog (A_i_echelon_l0 α N) := (E_i_Grid_equations_ok N).addAnn

def A_i_echelon_l1 (α : Type) (N : Nat) : Env α := (A_i_echelon_l0 α N).addAnn 78 7 { head := [1, 2, 8, 9, 12, 25, 26, 27, 32, 33, 34], grow := [12], out := [1, 2, 8, 9, 12, 25, 26, 27], ret := [6, 7] }
theorem A_i_echelon_l1_ok {α : Type} (N : Nat) : EnvOk Try.prog (A_i_echelon_l1 α N) := (A_i_echelon_l0_ok N).addAnn

/-- impl.echelon, loop -/
def i_echelon_l1_p : SPat := ⟨[.undef, .int .i64, .int .i64, .undef, .undef, .undef, .undef, .undef, .sliceV 3 0 0 1 false, .slice ⟨⟨4, 0⟩, 0, 0, 0⟩ 0 0 1 true, .undef, .undef, .sliceV 5 0 0 1 false, .undef, .undef, .undef, .undef, .undef, .undef, .undef, .undef, .undef, .undef, .undef, .undef, .sliceV 0 0 0 1 false, .int .i64, .int .i64, .undef, .undef, .undef, .undef, .sliceR 1 1 false, .int .i64, .int .i64] ++ List.replicate 150 .undef, [[.hdr 1], [.pool .i64], [.pool .i64], [.hdr 2], [.vec .i64], [.vec .i64]]⟩
def i_echelon_l1_o0 : SPat := ⟨[.undef, .int .i64, .int .i64, .undef, .undef, .undef, .undef, .undef, .sliceV 3 0 0 1 false, .slice ⟨⟨4, 0⟩, 0, 0, 0⟩ 0 0 1 true, .undef, .undef, .sliceV 5 0 0 1 false, .undef, .undef, .undef, .undef, .undef, .undef, .undef, .undef, .undef, .undef, .undef, .undef, .sliceV 0 0 0 1 false, .int .i64, .int .i64] ++ List.replicate 157 .undef, [[.hdr 1], [.pool .i64], [.pool .i64], [.hdr 2], [.vec .i64], [.vec .i64]]⟩
theorem i_echelon_l1_round {α : Type} (N : Nat) (t1 : Int) (t2 : Int) (t8_n : Nat) (t8_l : Nat) (t8_c : Nat) (t12_n : Nat) (t12_l : Nat) (t12_c : Nat) (t25_n : Nat) (t25_l : Nat) (t25_c : Nat) (t26 : Int) (t27 : Int) (t32_r : Nat) (t32_o : Nat) (t32_n : Nat) (t32_l : Nat) (t32_c : Nat) (t33 : Int) (t34 : Int) (h0 : List (Nat × Nat)) (h1 : List (List Int)) (h2 : List (List Int)) (h3 : List (Nat × Nat)) (h4 : List Int) (h5 : List Int) (kn : St → Option α) (K : AExit → St → Option α) :
    roundK Try.prog (A_i_echelon_l1 α N) 1 2 78 Try.f78 7 6 (buildS i_echelon_l1_p [.i t1, .i t2, .n t8_n, .n t8_l, .n t8_c, .n t12_n, .n t12_l, .n t12_c, .n t25_n, .n t25_l, .n t25_c, .i t26, .i t27, .n t32_r, .n t32_o, .n t32_n, .n t32_l, .n t32_c, .i t33, .i t34, .p h0, .r h1, .r h2, .p h3, .l h4, .l h5]) kn K = i_echelon_l1_s none t1 t2 t8_n t8_l t8_c t25_n t25_l t25_c t26 t27 t32_r t32_o t32_n t32_l t32_c t33 h0 h1 h2 h3 h4 t12_n t12_l t12_c t34 h5 (fun t12_n t12_l t12_c t34 h5 => kn (buildS i_echelon_l1_p [.i t1, .i t2, .n t8_n, .n t8_l, .n t8_c, .n t12_n, .n t12_l, .n t12_c, .n t25_n, .n t25_l, .n t25_c, .i t26, .i t27, .n t32_r, .n t32_o, .n t32_n, .n t32_l, .n t32_c, .i t33, .i t34, .p h0, .r h1, .r h2, .p h3, .l h4, .l h5])) (fun t12_n_ t12_l_ t12_c_ h5_ => K (.exit 2) (buildS i_echelon_l1_o0 [.i t1, .i t2, .n t8_n, .n t8_l, .n t8_c, .n t12_n_, .n t12_l_, .n t12_c_, .n t25_n, .n t25_l, .n t25_c, .i t26, .i t27, .p h0, .r h1, .r h2, .p h3, .l h4, .l h5_])) := by kernel_rfl
theorem i_echelon_l1_loop {α : Type} (N : Nat) (t1 : Int) (t2 : Int) (t8_n : Nat) (t8_l : Nat) (t8_c : Nat) (t25_n : Nat) (t25_l : Nat) (t25_c : Nat) (t26 : Int) (t27 : Int) (t32_r : Nat) (t32_o : Nat) (t32_n : Nat) (t32_l : Nat) (t32_c : Nat) (t33 : Int) (h0 : List (Nat × Nat)) (h1 : List (List Int)) (h2 : List (List Int)) (h3 : List (Nat × Nat)) (h4 : List Int) (K : AExit → St → Option α) : ∀ (m : Nat) (t12_n : Nat) (t12_l : Nat) (t12_c : Nat) (t34 : Int) (h5 : List Int),
    loopN (trimSt ((A_i_echelon_l1 α N).ann 78 7).head ((A_i_echelon_l1 α N).ann 78 7).grow 6) (bodyK Try.prog (A_i_echelon_l1 α N) 1 2 78 Try.f78 7) m (buildS i_echelon_l1_p [.i t1, .i t2, .n t8_n, .n t8_l, .n t8_c, .n t12_n, .n t12_l, .n t12_c, .n t25_n, .n t25_l, .n t25_c, .i t26, .i t27, .n t32_r, .n t32_o, .n t32_n, .n t32_l, .n t32_c, .i t33, .i t34, .p h0, .r h1, .r h2, .p h3, .l h4, .l h5]) (leaveLoop ((A_i_echelon_l1 α N).ann 78 7) 6 K) = i_echelon_l1 none t1 t2 t8_n t8_l t8_c t25_n t25_l t25_c t26 t27 t32_r t32_o t32_n t32_l t32_c t33 h0 h1 h2 h3 h4 m t12_n t12_l t12_c t34 h5 (fun t12_n_ t12_l_ t12_c_ h5_ => K (.exit 2) (buildS i_echelon_l1_o0 [.i t1, .i t2, .n t8_n, .n t8_l, .n t8_c, .n t12_n_, .n t12_l_, .n t12_c_, .n t25_n, .n t25_l, .n t25_c, .i t26, .i t27, .p h0, .r h1, .r h2, .p h3, .l h4, .l h5_])) := by
  intro m
  induction m with
  | zero => intros; rfl
  | succ m ih =>
    intro t12_n t12_l t12_c t34 h5
    rw [loopN_round]
    refine (i_echelon_l1_round N t1 t2 t8_n t8_l t8_c t12_n t12_l t12_c t25_n t25_l t25_c t26 t27 t32_r t32_o t32_n t32_l t32_c t33 t34 h0 h1 h2 h3 h4 h5 _ K).trans ?_
    simp only [ih]
    rfl
def E_i_echelon_l1 (α : Type) (N : Nat) : Env α := (A_i_echelon_l1 α N).addLoop2 78 7 (loopSum2 ((A_i_echelon_l1 α N).ann 78 7) 2 i_echelon_l1_p (fun l K => match l with
    | [.i t1, .i t2, .n t8_n, .n t8_l, .n t8_c, .n t12_n, .n t12_l, .n t12_c, .n t25_n, .n t25_l, .n t25_c, .i t26, .i t27, .n t32_r, .n t32_o, .n t32_n, .n t32_l, .n t32_c, .i t33, .i t34, .p h0, .r h1, .r h2, .p h3, .l h4, .l h5] => i_echelon_l1 none t1 t2 t8_n t8_l t8_c t25_n t25_l t25_c t26 t27 t32_r t32_o t32_n t32_l t32_c t33 h0 h1 h2 h3 h4 N t12_n t12_l t12_c t34 h5 (fun t12_n_ t12_l_ t12_c_ h5_ => K (.exit 2) (buildS i_echelon_l1_o0 [.i t1, .i t2, .n t8_n, .n t8_l, .n t8_c, .n t12_n_, .n t12_l_, .n t12_c_, .n t25_n, .n t25_l, .n t25_c, .i t26, .i t27, .p h0, .r h1, .r h2, .p h3, .l h4, .l h5_]))
    | _ => none) ((A_i_echelon_l1 α N).ls 78 7))
theorem E_i_echelon_l1_ok {α : Type} (N : Nat) : EnvOk Try.prog (E_i_echelon_l1 α N) := (A_i_echelon_l1_ok N).addLoop2 Try.func78 (by kernel_rfl) (loopSum_ok prog_mixed prog_names (A_i_echelon_l1_ok N) Try.func78 (by kernel_rfl) (d := 1) (ro := 2) fun l K r h => by
  split at h
  · exact (i_echelon_l1_loop N _ _ _ _ _ _ _ _ _ _ _ _ _ _ _ _ _ _ _ _ _ K N _ _ _ _ _).trans h
  · cases h)

/-- impl.echelon, loop -/
def i_echelon_l0_p : SPat := ⟨[.undef, .int .i64, .int .i64, .undef, .undef, .undef, .undef, .undef, .sliceV 3 0 0 1 false, .slice ⟨⟨4, 0⟩, 0, 0, 0⟩ 0 0 1 true, .undef, .undef, .undef, .undef, .undef, .undef, .undef, .undef, .undef, .undef, .undef, .undef, .undef, .undef, .undef, .sliceV 0 0 0 1 false, .int .i64, .int .i64] ++ List.replicate 157 .undef, [[.hdr 1], [.pool .i64], [.pool .i64], [.hdr 2], [.vec .i64]]⟩
def i_echelon_l0_o0 : SPat := ⟨[.undef, .int .i64, .int .i64, .undef, .undef, .undef, .undef, .undef, .sliceV 3 0 0 1 false, .slice ⟨⟨4, 0⟩, 0, 0, 0⟩ 0 0 1 true] ++ List.replicate 175 .undef, [[.hdr 1], [.pool .i64], [.pool .i64], [.hdr 2], [.vec .i64]]⟩
theorem i_echelon_l0_round {α : Type} (N : Nat) (t1 : Int) (t2 : Int) (t8_n : Nat) (t8_l : Nat) (t8_c : Nat) (t25_n : Nat) (t25_l : Nat) (t25_c : Nat) (t26 : Int) (t27 : Int) (h0 : List (Nat × Nat)) (h1 : List (List Int)) (h2 : List (List Int)) (h3 : List (Nat × Nat)) (h4 : List Int) (kn : St → Option α) (K : AExit → St → Option α) :
    roundK Try.prog (E_i_echelon_l1 α N) 1 2 78 Try.f78 3 5 (buildS i_echelon_l0_p [.i t1, .i t2, .n t8_n, .n t8_l, .n t8_c, .n t25_n, .n t25_l, .n t25_c, .i t26, .i t27, .p h0, .r h1, .r h2, .p h3, .l h4]) kn K = i_echelon_l0_s none N t1 t2 t25_n t25_l t25_c t26 h0 h1 h4 t8_n t8_l t8_c t27 h2 h3 (fun t8_n t8_l t8_c t27 h2 h3 => kn (buildS i_echelon_l0_p [.i t1, .i t2, .n t8_n, .n t8_l, .n t8_c, .n t25_n, .n t25_l, .n t25_c, .i t26, .i t27, .p h0, .r h1, .r h2, .p h3, .l h4])) (fun t8_n_ t8_l_ t8_c_ h2_ h3_ => K (.exit 0) (buildS i_echelon_l0_o0 [.i t1, .i t2, .n t8_n_, .n t8_l_, .n t8_c_, .p h0, .r h1, .r h2_, .p h3_, .l h4])) := by kernel_rfl
theorem i_echelon_l0_loop {α : Type} (N : Nat) (t1 : Int) (t2 : Int) (t25_n : Nat) (t25_l : Nat) (t25_c : Nat) (t26 : Int) (h0 : List (Nat × Nat)) (h1 : List (List Int)) (h4 : List Int) (K : AExit → St → Option α) : ∀ (m : Nat) (t8_n : Nat) (t8_l : Nat) (t8_c : Nat) (t27 : Int) (h2 : List (List Int)) (h3 : List (Nat × Nat)),
    loopN (trimSt ((E_i_echelon_l1 α N).ann 78 3).head ((E_i_echelon_l1 α N).ann 78 3).grow 5) (bodyK Try.prog (E_i_echelon_l1 α N) 1 2 78 Try.f78 3) m (buildS i_echelon_l0_p [.i t1, .i t2, .n t8_n, .n t8_l, .n t8_c, .n t25_n, .n t25_l, .n t25_c, .i t26, .i t27, .p h0, .r h1, .r h2, .p h3, .l h4]) (leaveLoop ((E_i_echelon_l1 α N).ann 78 3) 5 K) = i_echelon_l0 none N t1 t2 t25_n t25_l t25_c t26 h0 h1 h4 m t8_n t8_l t8_c t27 h2 h3 (fun t8_n_ t8_l_ t8_c_ h2_ h3_ => K (.exit 0) (buildS i_echelon_l0_o0 [.i t1, .i t2, .n t8_n_, .n t8_l_, .n t8_c_, .p h0, .r h1, .r h2_, .p h3_, .l h4])) := by
  intro m
  induction m with
  | zero => intros; rfl
  | succ m ih =>
    intro t8_n t8_l t8_c t27 h2 h3
    rw [loopN_round]
    refine (i_echelon_l0_round N t1 t2 t8_n t8_l t8_c t25_n t25_l t25_c t26 t27 h0 h1 h2 h3 h4 _ K).trans ?_
    simp only [ih]
    rfl
def E_i_echelon_l0 (α : Type) (N : Nat) : Env α := (E_i_echelon_l1 α N).addLoop2 78 3 (loopSum2 ((E_i_echelon_l1 α N).ann 78 3) 2 i_echelon_l0_p (fun l K => match l with
    | [.i t1, .i t2, .n t8_n, .n t8_l, .n t8_c, .n t25_n, .n t25_l, .n t25_c, .i t26, .i t27, .p h0, .r h1, .r h2, .p h3, .l h4] => i_echelon_l0 none N t1 t2 t25_n t25_l t25_c t26 h0 h1 h4 N t8_n t8_l t8_c t27 h2 h3 (fun t8_n_ t8_l_ t8_c_ h2_ h3_ => K (.exit 0) (buildS i_echelon_l0_o0 [.i t1, .i t2, .n t8_n_, .n t8_l_, .n t8_c_, .p h0, .r h1, .r h2_, .p h3_, .l h4]))
    | _ => none) ((E_i_echelon_l1 α N).ls 78 3))
theorem E_i_echelon_l0_ok {α : Type} (N : Nat) : EnvOk Try.prog (E_i_echelon_l0 α N) := (E_i_echelon_l1_ok N).addLoop2 Try.func78 (by kernel_rfl) (loopSum_ok prog_mixed prog_names (E_i_echelon_l1_ok N) Try.func78 (by kernel_rfl) (d := 1) (ro := 2) fun l K r h => by
  split at h
  · exact (i_echelon_l0_loop N _ _ _ _ _ _ _ _ _ K N _ _ _ _ _ _).trans h
  · cases h)

def A_i_echelon_l2 (α : Type) (N : Nat) : Env α := (E_i_echelon_l0 α N).addAnn 78 15 { head := [2, 8, 9, 15, 54, 55], grow := [9], out := [8, 9, 15], ret := [6, 7] }
theorem A_i_echelon_l2_ok {α : Type} (N : Nat) : EnvOk Try.prog (A_i_echelon_l2 α N) := (E_i_echelon_l0_ok N).addAnn

def A_slices_IndexFunc_int64_int64_l0 (α : Type) (N : Nat) : Env α := (A_i_echelon_l2 α N).addAnn 129 2 { head := [0, 1, 7, 8], grow := [], out := [], ret := [4] }
theorem A_slices_IndexFunc_int64_int64_l0_ok {α : Type} (N : Nat) : EnvOk Try.prog (A_slices_IndexFunc_int64_int64_l0 α N) := (A_i_echelon_l2_ok N).addAnn

/-- impl.echelon$1 -/
def i_echelon_1_a : SPat := ⟨[.sliceR 0 1 false, .ptr ⟨⟨1, 0⟩, 0, 0, 1⟩], [[.pool .i64], [.vals [.int .i64]]]⟩
def i_echelon_1_r0 : SPat := ⟨[.bool], [[.pool .i64], [.vals [.int .i64]]]⟩
theorem i_echelon_1_run {α : Type} (N : Nat) (line_r : Nat) (line_o : Nat) (line_n : Nat) (line_l : Nat) (line_c : Nat) (h0 : List (List Int)) (h1 : Int) (K : AV → Heap → Option α) :
    callK Try.prog (A_slices_IndexFunc_int64_int64_l0 α N) 1 130 2 (buildS i_echelon_1_a [.n line_r, .n line_o, .n line_n, .n line_l, .n line_c, .r h0, .i h1]).t (buildS i_echelon_1_a [.n line_r, .n line_o, .n line_n, .n line_l, .n line_c, .r h0, .i h1]).h K = i_echelon_1 none N line_r line_o line_n line_l line_c h0 h1 (fun r__ => retK (buildS i_echelon_1_r0 [.b r__, .r h0, .i h1]) K) := by kernel_rfl
def E_i_echelon_1 (α : Type) (N : Nat) : Env α := (A_slices_IndexFunc_int64_int64_l0 α N).addFun 130 true 2 i_echelon_1_a (fun l K => match l with
    | [.n line_r, .n line_o, .n line_n, .n line_l, .n line_c, .r h0, .i h1] => i_echelon_1 none N line_r line_o line_n line_l line_c h0 h1 (fun r__ => retK (buildS i_echelon_1_r0 [.b r__, .r h0, .i h1]) K)
    | _ => none)
theorem E_i_echelon_1_ok {α : Type} (N : Nat) : EnvOk Try.prog (E_i_echelon_1 α N) := (A_slices_IndexFunc_int64_int64_l0_ok N).addFun prog_mixed prog_names (d := 1) fun l K r h => by
  split at h
  · exact (i_echelon_1_run N _ _ _ _ _ _ _ K).trans h
  · cases h

/-- slices.IndexFunc[[][]int64,[]int64], loop -/
def slices_IndexFunc_int64_int64_l0_s2_p : SPat := ⟨[.sliceO 0 0 1 false, .func 130 [.ptr ⟨⟨1, 0⟩, 0, 0, 1⟩], .undef, .undef, .undef, .undef, .undef, .int .i64, .int .i64] ++ List.replicate 10 .undef, [[.hdr 2], [.vals [.int .i64]], [.pool .i64]]⟩
def slices_IndexFunc_int64_int64_l0_s2_o0 : SPat := ⟨[.undef, .undef, .undef, .undef, .int .i64] ++ List.replicate 14 .undef, [[.hdr 2], [.vals [.int .i64]], [.pool .i64]]⟩
def slices_IndexFunc_int64_int64_l0_s2_o1 : SPat := ⟨[] ++ List.replicate 19 .undef, [[.hdr 2], [.vals [.int .i64]], [.pool .i64]]⟩
theorem slices_IndexFunc_int64_int64_l0_s2_round {α : Type} (N : Nat) (s_o : Nat) (s_n : Nat) (s_l : Nat) (s_c : Nat) (t7 : Int) (t8 : Int) (h0 : List (Nat × Nat)) (h1 : Int) (h2 : List (List Int)) (kn : St → Option α) (K : AExit → St → Option α) :
    roundK Try.prog (E_i_echelon_1 α N) 1 3 129 Try.f129 2 3 (buildS slices_IndexFunc_int64_int64_l0_s2_p [.n s_o, .n s_n, .n s_l, .n s_c, .i t7, .i t8, .p h0, .i h1, .r h2]) kn K = slices_IndexFunc_int64_int64_l0_s2_s none N s_o s_n s_l s_c t7 h0 h1 h2 t8 (fun t8 => kn (buildS slices_IndexFunc_int64_int64_l0_s2_p [.n s_o, .n s_n, .n s_l, .n s_c, .i t7, .i t8, .p h0, .i h1, .r h2])) (fun t4_ => K .ret (buildS slices_IndexFunc_int64_int64_l0_s2_o0 [.i t4_, .p h0, .i h1, .r h2])) (K (.exit 0) (buildS slices_IndexFunc_int64_int64_l0_s2_o1 [.p h0, .i h1, .r h2])) := by kernel_rfl
theorem slices_IndexFunc_int64_int64_l0_s2_loop {α : Type} (N : Nat) (s_o : Nat) (s_n : Nat) (s_l : Nat) (s_c : Nat) (t7 : Int) (h0 : List (Nat × Nat)) (h1 : Int) (h2 : List (List Int)) (K : AExit → St → Option α) : ∀ (m : Nat) (t8 : Int),
    loopN (trimSt ((E_i_echelon_1 α N).ann 129 2).head ((E_i_echelon_1 α N).ann 129 2).grow 3) (bodyK Try.prog (E_i_echelon_1 α N) 1 3 129 Try.f129 2) m (buildS slices_IndexFunc_int64_int64_l0_s2_p [.n s_o, .n s_n, .n s_l, .n s_c, .i t7, .i t8, .p h0, .i h1, .r h2]) (leaveLoop ((E_i_echelon_1 α N).ann 129 2) 3 K) = slices_IndexFunc_int64_int64_l0_s2 none N s_o s_n s_l s_c t7 h0 h1 h2 m t8 (fun t4_ => K .ret (buildS slices_IndexFunc_int64_int64_l0_s2_o0 [.i t4_, .p h0, .i h1, .r h2])) (K (.exit 0) (buildS slices_IndexFunc_int64_int64_l0_s2_o1 [.p h0, .i h1, .r h2])) := by
  intro m
  induction m with
  | zero => intros; rfl
  | succ m ih =>
    intro t8
    rw [loopN_round]
    refine (slices_IndexFunc_int64_int64_l0_s2_round N s_o s_n s_l s_c t7 t8 h0 h1 h2 _ K).trans ?_
    simp only [ih]
    rfl
def E_slices_IndexFunc_int64_int64_l0_s2 (α : Type) (N : Nat) : Env α := (E_i_echelon_1 α N).addLoop2 129 2 (loopSum2 ((E_i_echelon_1 α N).ann 129 2) 3 slices_IndexFunc_int64_int64_l0_s2_p (fun l K => match l with
    | [.n s_o, .n s_n, .n s_l, .n s_c, .i t7, .i t8, .p h0, .i h1, .r h2] => slices_IndexFunc_int64_int64_l0_s2 none N s_o s_n s_l s_c t7 h0 h1 h2 N t8 (fun t4_ => K .ret (buildS slices_IndexFunc_int64_int64_l0_s2_o0 [.i t4_, .p h0, .i h1, .r h2])) (K (.exit 0) (buildS slices_IndexFunc_int64_int64_l0_s2_o1 [.p h0, .i h1, .r h2]))
    | _ => none) ((E_i_echelon_1 α N).ls 129 2))
theorem E_slices_IndexFunc_int64_int64_l0_s2_ok {α : Type} (N : Nat) : EnvOk Try.prog (E_slices_IndexFunc_int64_int64_l0_s2 α N) := (E_i_echelon_1_ok N).addLoop2 Try.func129 (by kernel_rfl) (loopSum_ok prog_mixed prog_names (E_i_echelon_1_ok N) Try.func129 (by kernel_rfl) (d := 1) (ro := 3) fun l K r h => by
  split at h
  · exact (slices_IndexFunc_int64_int64_l0_s2_loop N _ _ _ _ _ _ _ _ K N _).trans h
  · cases h)

/-- slices.IndexFunc[[][]int64,[]int64] -/
def slices_IndexFunc_int64_int64_s2_a : SPat := ⟨[.sliceO 0 0 1 false, .func 130 [.ptr ⟨⟨1, 0⟩, 0, 0, 1⟩]], [[.hdr 2], [.vals [.int .i64]], [.pool .i64]]⟩
def slices_IndexFunc_int64_int64_s2_r0 : SPat := ⟨[.int .i64], [[.hdr 2], [.vals [.int .i64]], [.pool .i64]]⟩
theorem slices_IndexFunc_int64_int64_s2_run {α : Type} (N : Nat) (s_o : Nat) (s_n : Nat) (s_l : Nat) (s_c : Nat) (h0 : List (Nat × Nat)) (h1 : Int) (h2 : List (List Int)) (K : AV → Heap → Option α) :
    callK Try.prog (E_slices_IndexFunc_int64_int64_l0_s2 α N) 1 129 3 (buildS slices_IndexFunc_int64_int64_s2_a [.n s_o, .n s_n, .n s_l, .n s_c, .p h0, .i h1, .r h2]).t (buildS slices_IndexFunc_int64_int64_s2_a [.n s_o, .n s_n, .n s_l, .n s_c, .p h0, .i h1, .r h2]).h K = slices_IndexFunc_int64_int64_s2 none N s_o s_n s_l s_c h0 h1 h2 (fun r__ => retK (buildS slices_IndexFunc_int64_int64_s2_r0 [.i r__, .p h0, .i h1, .r h2]) K) := by kernel_rfl
def E_slices_IndexFunc_int64_int64_s2 (α : Type) (N : Nat) : Env α := (E_slices_IndexFunc_int64_int64_l0_s2 α N).addFun 129 true 3 slices_IndexFunc_int64_int64_s2_a (fun l K => match l with
    | [.n s_o, .n s_n, .n s_l, .n s_c, .p h0, .i h1, .r h2] => slices_IndexFunc_int64_int64_s2 none N s_o s_n s_l s_c h0 h1 h2 (fun r__ => retK (buildS slices_IndexFunc_int64_int64_s2_r0 [.i r__, .p h0, .i h1, .r h2]) K)
    | _ => none)
theorem E_slices_IndexFunc_int64_int64_s2_ok {α : Type} (N : Nat) : EnvOk Try.prog (E_slices_IndexFunc_int64_int64_s2 α N) := (E_slices_IndexFunc_int64_int64_l0_s2_ok N).addFun prog_mixed prog_names (d := 1) fun l K r h => by
  split at h
  · exact (slices_IndexFunc_int64_int64_s2_run N _ _ _ _ _ _ _ K).trans h
  · cases h

def A_i_inverse_l0 (α : Type) (N : Nat) : Env α := (E_slices_IndexFunc_int64_int64_s2 α N).addAnn 131 2 { head := [0, 1, 6, 7], grow := [], out := [], ret := [4] }
theorem A_i_inverse_l0_ok {α : Type} (N : Nat) : EnvOk Try.prog (A_i_inverse_l0 α N) := (E_slices_IndexFunc_int64_int64_s2_ok N).addAnn

/-- impl.inverse, loop -/
def i_inverse_l0_p : SPat := ⟨[.int .i64, .int .i64, .undef, .undef, .undef, .undef, .int .i64, .int .i64] ++ List.replicate 10 .undef, []⟩
def i_inverse_l0_o0 : SPat := ⟨[.undef, .undef, .undef, .undef, .int .i64] ++ List.replicate 13 .undef, []⟩
def i_inverse_l0_o1 : SPat := ⟨[] ++ List.replicate 18 .undef, []⟩
theorem i_inverse_l0_round {α : Type} (N : Nat) (x : Int) (p : Int) (t6 : Int) (t7 : Int) (kn : St → Option α) (K : AExit → St → Option α) :
    roundK Try.prog (A_i_inverse_l0 α N) 1 0 131 Try.f131 2 0 (buildS i_inverse_l0_p [.i x, .i p, .i t6, .i t7]) kn K = i_inverse_l0_s none x p t6 t7 (fun t7 => kn (buildS i_inverse_l0_p [.i x, .i p, .i t6, .i t7])) (fun t4_ => K .ret (buildS i_inverse_l0_o0 [.i t4_])) (K (.exit 0) (buildS i_inverse_l0_o1 [])) := by kernel_rfl
theorem i_inverse_l0_loop {α : Type} (N : Nat) (x : Int) (p : Int) (t6 : Int) (K : AExit → St → Option α) : ∀ (m : Nat) (t7 : Int),
    loopN (trimSt ((A_i_inverse_l0 α N).ann 131 2).head ((A_i_inverse_l0 α N).ann 131 2).grow 0) (bodyK Try.prog (A_i_inverse_l0 α N) 1 0 131 Try.f131 2) m (buildS i_inverse_l0_p [.i x, .i p, .i t6, .i t7]) (leaveLoop ((A_i_inverse_l0 α N).ann 131 2) 0 K) = i_inverse_l0 none x p t6 m t7 (fun t4_ => K .ret (buildS i_inverse_l0_o0 [.i t4_])) (K (.exit 0) (buildS i_inverse_l0_o1 [])) := by
  intro m
  induction m with
  | zero => intros; rfl
  | succ m ih =>
    intro t7
    rw [loopN_round]
    refine (i_inverse_l0_round N x p t6 t7 _ K).trans ?_
    simp only [ih]
    rfl
def E_i_inverse_l0 (α : Type) (N : Nat) : Env α := (A_i_inverse_l0 α N).addLoop2 131 2 (loopSum2 ((A_i_inverse_l0 α N).ann 131 2) 0 i_inverse_l0_p (fun l K => match l with
    | [.i x, .i p, .i t6, .i t7] => i_inverse_l0 none x p t6 N t7 (fun t4_ => K .ret (buildS i_inverse_l0_o0 [.i t4_])) (K (.exit 0) (buildS i_inverse_l0_o1 []))
    | _ => none) ((A_i_inverse_l0 α N).ls 131 2))
theorem E_i_inverse_l0_ok {α : Type} (N : Nat) : EnvOk Try.prog (E_i_inverse_l0 α N) := (A_i_inverse_l0_ok N).addLoop2 Try.func131 (by kernel_rfl) (loopSum_ok prog_mixed prog_names (A_i_inverse_l0_ok N) Try.func131 (by kernel_rfl) (d := 1) (ro := 0) fun l K r h => by
  split at h
  · exact (i_inverse_l0_loop N _ _ _ K N _).trans h
  · cases h)

/-- impl.inverse -/
def i_inverse_a : SPat := ⟨[.int .i64, .int .i64], []⟩
def i_inverse_r0 : SPat := ⟨[.int .i64], []⟩
theorem i_inverse_run {α : Type} (N : Nat) (x : Int) (p : Int) (K : AV → Heap → Option α) :
    callK Try.prog (E_i_inverse_l0 α N) 1 131 0 (buildS i_inverse_a [.i x, .i p]).t (buildS i_inverse_a [.i x, .i p]).h K = i_inverse none N x p (fun r__ => retK (buildS i_inverse_r0 [.i r__]) K) := by kernel_rfl
def E_i_inverse (α : Type) (N : Nat) : Env α := (E_i_inverse_l0 α N).addFun 131 true 0 i_inverse_a (fun l K => match l with
    | [.i x, .i p] => i_inverse none N x p (fun r__ => retK (buildS i_inverse_r0 [.i r__]) K)
    | _ => none)
theorem E_i_inverse_ok {α : Type} (N : Nat) : EnvOk Try.prog (E_i_inverse α N) := (E_i_inverse_l0_ok N).addFun prog_mixed prog_names (d := 1) fun l K r h => by
  split at h
  · exact (i_inverse_run N _ _ K).trans h
  · cases h

def A_i_echelon_l3 (α : Type) (N : Nat) : Env α := (E_i_inverse α N).addAnn 78 22 { head := [2, 8, 9, 15, 16, 18, 54, 55, 96, 97], grow := [], out := [2, 8, 9, 15, 16, 54, 55], ret := [6, 7] }
theorem A_i_echelon_l3_ok {α : Type} (N : Nat) : EnvOk Try.prog (A_i_echelon_l3 α N) := (E_i_inverse_ok N).addAnn

/-- impl.echelon, loop -/
def i_echelon_l3_p : SPat := ⟨[.undef, .undef, .int .i64, .undef, .undef, .undef, .undef, .undef, .sliceV 3 0 0 1 false, .sliceV 4 0 0 1 false, .undef, .undef, .undef, .undef, .undef, .int .i64, .ptr ⟨⟨5, 0⟩, 0, 0, 1⟩, .undef, .int .i64, .undef, .undef, .undef, .undef, .undef, .undef, .undef, .undef, .undef, .undef, .undef, .undef, .undef, .undef, .undef, .undef, .undef, .undef, .undef, .undef, .undef, .undef, .undef, .undef, .undef, .undef, .undef, .undef, .undef, .undef, .undef, .undef, .undef, .undef, .undef, .int .i64, .int .i64, .undef, .undef, .undef, .undef, .undef, .undef, .undef, .undef, .undef, .undef, .undef, .undef, .undef, .undef, .undef, .undef, .undef, .undef, .undef, .undef, .undef, .undef, .undef, .undef, .undef, .undef, .undef, .undef, .undef, .undef, .undef, .undef, .undef, .undef, .undef, .undef, .undef, .undef, .undef, .undef, .int .i64, .int .i64] ++ List.replicate 87 .undef, [[.hdr 1], [.pool .i64], [.pool .i64], [.hdr 2], [.vec .i64], [.vals [.int .i64]]]⟩
def i_echelon_l3_o0 : SPat := ⟨[.undef, .undef, .int .i64, .undef, .undef, .undef, .undef, .undef, .sliceV 3 0 0 1 false, .sliceV 4 0 0 1 false, .undef, .undef, .undef, .undef, .undef, .int .i64, .ptr ⟨⟨5, 0⟩, 0, 0, 1⟩, .undef, .undef, .undef, .undef, .undef, .undef, .undef, .undef, .undef, .undef, .undef, .undef, .undef, .undef, .undef, .undef, .undef, .undef, .undef, .undef, .undef, .undef, .undef, .undef, .undef, .undef, .undef, .undef, .undef, .undef, .undef, .undef, .undef, .undef, .undef, .undef, .undef, .int .i64, .int .i64] ++ List.replicate 129 .undef, [[.hdr 1], [.pool .i64], [.pool .i64], [.hdr 2], [.vec .i64], [.vals [.int .i64]]]⟩
theorem i_echelon_l3_round {α : Type} (N : Nat) (t2 : Int) (t8_n : Nat) (t8_l : Nat) (t8_c : Nat) (t9_n : Nat) (t9_l : Nat) (t9_c : Nat) (t15 : Int) (t18 : Int) (t54 : Int) (t55 : Int) (t96 : Int) (t97 : Int) (h0 : List (Nat × Nat)) (h1 : List (List Int)) (h2 : List (List Int)) (h3 : List (Nat × Nat)) (h4 : List Int) (h5 : Int) (kn : St → Option α) (K : AExit → St → Option α) :
    roundK Try.prog (A_i_echelon_l3 α N) 1 2 78 Try.f78 22 6 (buildS i_echelon_l3_p [.i t2, .n t8_n, .n t8_l, .n t8_c, .n t9_n, .n t9_l, .n t9_c, .i t15, .i t18, .i t54, .i t55, .i t96, .i t97, .p h0, .r h1, .r h2, .p h3, .l h4, .i h5]) kn K = i_echelon_l3_s none t2 t8_n t8_l t8_c t9_n t9_l t9_c t15 t18 t54 t55 t96 h0 h1 h3 h4 h5 t97 h2 (fun t97 h2 => kn (buildS i_echelon_l3_p [.i t2, .n t8_n, .n t8_l, .n t8_c, .n t9_n, .n t9_l, .n t9_c, .i t15, .i t18, .i t54, .i t55, .i t96, .i t97, .p h0, .r h1, .r h2, .p h3, .l h4, .i h5])) (fun h2_ => K (.exit 6) (buildS i_echelon_l3_o0 [.i t2, .n t8_n, .n t8_l, .n t8_c, .n t9_n, .n t9_l, .n t9_c, .i t15, .i t54, .i t55, .p h0, .r h1, .r h2_, .p h3, .l h4, .i h5])) := by kernel_rfl
theorem i_echelon_l3_loop {α : Type} (N : Nat) (t2 : Int) (t8_n : Nat) (t8_l : Nat) (t8_c : Nat) (t9_n : Nat) (t9_l : Nat) (t9_c : Nat) (t15 : Int) (t18 : Int) (t54 : Int) (t55 : Int) (t96 : Int) (h0 : List (Nat × Nat)) (h1 : List (List Int)) (h3 : List (Nat × Nat)) (h4 : List Int) (h5 : Int) (K : AExit → St → Option α) : ∀ (m : Nat) (t97 : Int) (h2 : List (List Int)),
    loopN (trimSt ((A_i_echelon_l3 α N).ann 78 22).head ((A_i_echelon_l3 α N).ann 78 22).grow 6) (bodyK Try.prog (A_i_echelon_l3 α N) 1 2 78 Try.f78 22) m (buildS i_echelon_l3_p [.i t2, .n t8_n, .n t8_l, .n t8_c, .n t9_n, .n t9_l, .n t9_c, .i t15, .i t18, .i t54, .i t55, .i t96, .i t97, .p h0, .r h1, .r h2, .p h3, .l h4, .i h5]) (leaveLoop ((A_i_echelon_l3 α N).ann 78 22) 6 K) = i_echelon_l3 none t2 t8_n t8_l t8_c t9_n t9_l t9_c t15 t18 t54 t55 t96 h0 h1 h3 h4 h5 m t97 h2 (fun h2_ => K (.exit 6) (buildS i_echelon_l3_o0 [.i t2, .n t8_n, .n t8_l, .n t8_c, .n t9_n, .n t9_l, .n t9_c, .i t15, .i t54, .i t55, .p h0, .r h1, .r h2_, .p h3, .l h4, .i h5])) := by
  intro m
  induction m with
  | zero => intros; rfl
  | succ m ih =>
    intro t97 h2
    rw [loopN_round]
    refine (i_echelon_l3_round N t2 t8_n t8_l t8_c t9_n t9_l t9_c t15 t18 t54 t55 t96 t97 h0 h1 h2 h3 h4 h5 _ K).trans ?_
    simp only [ih]
    rfl
def E_i_echelon_l3 (α : Type) (N : Nat) : Env α := (A_i_echelon_l3 α N).addLoop2 78 22 (loopSum2 ((A_i_echelon_l3 α N).ann 78 22) 2 i_echelon_l3_p (fun l K => match l with
    | [.i t2, .n t8_n, .n t8_l, .n t8_c, .n t9_n, .n t9_l, .n t9_c, .i t15, .i t18, .i t54, .i t55, .i t96, .i t97, .p h0, .r h1, .r h2, .p h3, .l h4, .i h5] => i_echelon_l3 none t2 t8_n t8_l t8_c t9_n t9_l t9_c t15 t18 t54 t55 t96 h0 h1 h3 h4 h5 N t97 h2 (fun h2_ => K (.exit 6) (buildS i_echelon_l3_o0 [.i t2, .n t8_n, .n t8_l, .n t8_c, .n t9_n, .n t9_l, .n t9_c, .i t15, .i t54, .i t55, .p h0, .r h1, .r h2_, .p h3, .l h4, .i h5]))
    | _ => none) ((A_i_echelon_l3 α N).ls 78 22))
theorem E_i_echelon_l3_ok {α : Type} (N : Nat) : EnvOk Try.prog (E_i_echelon_l3 α N) := (A_i_echelon_l3_ok N).addLoop2 Try.func78 (by kernel_rfl) (loopSum_ok prog_mixed prog_names (A_i_echelon_l3_ok N) Try.func78 (by kernel_rfl) (d := 1) (ro := 2) fun l K r h => by
  split at h
  · exact (i_echelon_l3_loop N _ _ _ _ _ _ _ _ _ _ _ _ _ _ _ _ _ K N _ _).trans h
  · cases h)

def A_i_echelon_l4 (α : Type) (N : Nat) : Env α := (E_i_echelon_l3 α N).addAnn 78 27 { head := [2, 8, 9, 15, 16, 54, 55, 119, 120], grow := [], out := [2, 8, 9, 15, 16, 54, 55], ret := [6, 7] }
theorem A_i_echelon_l4_ok {α : Type} (N : Nat) : EnvOk Try.prog (A_i_echelon_l4 α N) := (E_i_echelon_l3_ok N).addAnn

def A_i_echelon_l5 (α : Type) (N : Nat) : Env α := (A_i_echelon_l4 α N).addAnn 78 32 { head := [2, 8, 9, 15, 16, 20, 21, 54, 55, 119, 120, 141, 142], grow := [], out := [2, 8, 9, 15, 16, 54, 55, 119, 120], ret := [6, 7] }
theorem A_i_echelon_l5_ok {α : Type} (N : Nat) : EnvOk Try.prog (A_i_echelon_l5 α N) := (A_i_echelon_l4_ok N).addAnn

/-- impl.echelon, loop -/
def i_echelon_l5_p : SPat := ⟨[.undef, .undef, .int .i64, .undef, .undef, .undef, .undef, .undef, .sliceV 3 0 0 1 false, .sliceV 4 0 0 1 false, .undef, .undef, .undef, .undef, .undef, .int .i64, .ptr ⟨⟨5, 0⟩, 0, 0, 1⟩, .undef, .undef, .undef, .int .i64, .int .i64, .undef, .undef, .undef, .undef, .undef, .undef, .undef, .undef, .undef, .undef, .undef, .undef, .undef, .undef, .undef, .undef, .undef, .undef, .undef, .undef, .undef, .undef, .undef, .undef, .undef, .undef, .undef, .undef, .undef, .undef, .undef, .undef, .int .i64, .int .i64, .undef, .undef, .undef, .undef, .undef, .undef, .undef, .undef, .undef, .undef, .undef, .undef, .undef, .undef, .undef, .undef, .undef, .undef, .undef, .undef, .undef, .undef, .undef, .undef, .undef, .undef, .undef, .undef, .undef, .undef, .undef, .undef, .undef, .undef, .undef, .undef, .undef, .undef, .undef, .undef, .undef, .undef, .undef, .undef, .undef, .undef, .undef, .undef, .undef, .undef, .undef, .undef, .undef, .undef, .undef, .undef, .undef, .undef, .undef, .undef, .undef, .undef, .undef, .int .i64, .int .i64, .undef, .undef, .undef, .undef, .undef, .undef, .undef, .undef, .undef, .undef, .undef, .undef, .undef, .undef, .undef, .undef, .undef, .undef, .undef, .undef, .int .i64, .int .i64] ++ List.replicate 42 .undef, [[.hdr 1], [.pool .i64], [.pool .i64], [.hdr 2], [.vec .i64], [.vals [.int .i64]]]⟩
def i_echelon_l5_o0 : SPat := ⟨[.undef, .undef, .int .i64, .undef, .undef, .undef, .undef, .undef, .sliceV 3 0 0 1 false, .sliceV 4 0 0 1 false, .undef, .undef, .undef, .undef, .undef, .int .i64, .ptr ⟨⟨5, 0⟩, 0, 0, 1⟩, .undef, .undef, .undef, .undef, .undef, .undef, .undef, .undef, .undef, .undef, .undef, .undef, .undef, .undef, .undef, .undef, .undef, .undef, .undef, .undef, .undef, .undef, .undef, .undef, .undef, .undef, .undef, .undef, .undef, .undef, .undef, .undef, .undef, .undef, .undef, .undef, .undef, .int .i64, .int .i64, .undef, .undef, .undef, .undef, .undef, .undef, .undef, .undef, .undef, .undef, .undef, .undef, .undef, .undef, .undef, .undef, .undef, .undef, .undef, .undef, .undef, .undef, .undef, .undef, .undef, .undef, .undef, .undef, .undef, .undef, .undef, .undef, .undef, .undef, .undef, .undef, .undef, .undef, .undef, .undef, .undef, .undef, .undef, .undef, .undef, .undef, .undef, .undef, .undef, .undef, .undef, .undef, .undef, .undef, .undef, .undef, .undef, .undef, .undef, .undef, .undef, .undef, .undef, .int .i64, .int .i64] ++ List.replicate 64 .undef, [[.hdr 1], [.pool .i64], [.pool .i64], [.hdr 2], [.vec .i64], [.vals [.int .i64]]]⟩
theorem i_echelon_l5_round {α : Type} (N : Nat) (t2 : Int) (t8_n : Nat) (t8_l : Nat) (t8_c : Nat) (t9_n : Nat) (t9_l : Nat) (t9_c : Nat) (t15 : Int) (t20 : Int) (t21 : Int) (t54 : Int) (t55 : Int) (t119 : Int) (t120 : Int) (t141 : Int) (t142 : Int) (h0 : List (Nat × Nat)) (h1 : List (List Int)) (h2 : List (List Int)) (h3 : List (Nat × Nat)) (h4 : List Int) (h5 : Int) (kn : St → Option α) (K : AExit → St → Option α) :
    roundK Try.prog (A_i_echelon_l5 α N) 1 2 78 Try.f78 32 6 (buildS i_echelon_l5_p [.i t2, .n t8_n, .n t8_l, .n t8_c, .n t9_n, .n t9_l, .n t9_c, .i t15, .i t20, .i t21, .i t54, .i t55, .i t119, .i t120, .i t141, .i t142, .p h0, .r h1, .r h2, .p h3, .l h4, .i h5]) kn K = i_echelon_l5_s none t2 t8_n t8_l t8_c t9_n t9_l t9_c t15 t20 t21 t54 t55 t119 t120 t141 h0 h1 h3 h4 h5 t142 h2 (fun t142 h2 => kn (buildS i_echelon_l5_p [.i t2, .n t8_n, .n t8_l, .n t8_c, .n t9_n, .n t9_l, .n t9_c, .i t15, .i t20, .i t21, .i t54, .i t55, .i t119, .i t120, .i t141, .i t142, .p h0, .r h1, .r h2, .p h3, .l h4, .i h5])) (fun h2_ => K (.exit 10) (buildS i_echelon_l5_o0 [.i t2, .n t8_n, .n t8_l, .n t8_c, .n t9_n, .n t9_l, .n t9_c, .i t15, .i t54, .i t55, .i t119, .i t120, .p h0, .r h1, .r h2_, .p h3, .l h4, .i h5])) := by kernel_rfl
theorem i_echelon_l5_loop {α : Type} (N : Nat) (t2 : Int) (t8_n : Nat) (t8_l : Nat) (t8_c : Nat) (t9_n : Nat) (t9_l : Nat) (t9_c : Nat) (t15 : Int) (t20 : Int) (t21 : Int) (t54 : Int) (t55 : Int) (t119 : Int) (t120 : Int) (t141 : Int) (h0 : List (Nat × Nat)) (h1 : List (List Int)) (h3 : List (Nat × Nat)) (h4 : List Int) (h5 : Int) (K : AExit → St → Option α) : ∀ (m : Nat) (t142 : Int) (h2 : List (List Int)),
    loopN (trimSt ((A_i_echelon_l5 α N).ann 78 32).head ((A_i_echelon_l5 α N).ann 78 32).grow 6) (bodyK Try.prog (A_i_echelon_l5 α N) 1 2 78 Try.f78 32) m (buildS i_echelon_l5_p [.i t2, .n t8_n, .n t8_l, .n t8_c, .n t9_n, .n t9_l, .n t9_c, .i t15, .i t20, .i t21, .i t54, .i t55, .i t119, .i t120, .i t141, .i t142, .p h0, .r h1, .r h2, .p h3, .l h4, .i h5]) (leaveLoop ((A_i_echelon_l5 α N).ann 78 32) 6 K) = i_echelon_l5 none t2 t8_n t8_l t8_c t9_n t9_l t9_c t15 t20 t21 t54 t55 t119 t120 t141 h0 h1 h3 h4 h5 m t142 h2 (fun h2_ => K (.exit 10) (buildS i_echelon_l5_o0 [.i t2, .n t8_n, .n t8_l, .n t8_c, .n t9_n, .n t9_l, .n t9_c, .i t15, .i t54, .i t55, .i t119, .i t120, .p h0, .r h1, .r h2_, .p h3, .l h4, .i h5])) := by
  intro m
  induction m with
  | zero => intros; rfl
  | succ m ih =>
    intro t142 h2
    rw [loopN_round]
    refine (i_echelon_l5_round N t2 t8_n t8_l t8_c t9_n t9_l t9_c t15 t20 t21 t54 t55 t119 t120 t141 t142 h0 h1 h2 h3 h4 h5 _ K).trans ?_
    simp only [ih]
    rfl
def E_i_echelon_l5 (α : Type) (N : Nat) : Env α := (A_i_echelon_l5 α N).addLoop2 78 32 (loopSum2 ((A_i_echelon_l5 α N).ann 78 32) 2 i_echelon_l5_p (fun l K => match l with
    | [.i t2, .n t8_n, .n t8_l, .n t8_c, .n t9_n, .n t9_l, .n t9_c, .i t15, .i t20, .i t21, .i t54, .i t55, .i t119, .i t120, .i t141, .i t142, .p h0, .r h1, .r h2, .p h3, .l h4, .i h5] => i_echelon_l5 none t2 t8_n t8_l t8_c t9_n t9_l t9_c t15 t20 t21 t54 t55 t119 t120 t141 h0 h1 h3 h4 h5 N t142 h2 (fun h2_ => K (.exit 10) (buildS i_echelon_l5_o0 [.i t2, .n t8_n, .n t8_l, .n t8_c, .n t9_n, .n t9_l, .n t9_c, .i t15, .i t54, .i t55, .i t119, .i t120, .p h0, .r h1, .r h2_, .p h3, .l h4, .i h5]))
    | _ => none) ((A_i_echelon_l5 α N).ls 78 32))
theorem E_i_echelon_l5_ok {α : Type} (N : Nat) : EnvOk Try.prog (E_i_echelon_l5 α N) := (A_i_echelon_l5_ok N).addLoop2 Try.func78 (by kernel_rfl) (loopSum_ok prog_mixed prog_names (A_i_echelon_l5_ok N) Try.func78 (by kernel_rfl) (d := 1) (ro := 2) fun l K r h => by
  split at h
  · exact (i_echelon_l5_loop N _ _ _ _ _ _ _ _ _ _ _ _ _ _ _ _ _ _ _ _ K N _ _).trans h
  · cases h)

/-- impl.echelon, loop -/
def i_echelon_l4_p : SPat := ⟨[.undef, .undef, .int .i64, .undef, .undef, .undef, .undef, .undef, .sliceV 3 0 0 1 false, .sliceV 4 0 0 1 false, .undef, .undef, .undef, .undef, .undef, .int .i64, .ptr ⟨⟨5, 0⟩, 0, 0, 1⟩, .undef, .undef, .undef, .undef, .undef, .undef, .undef, .undef, .undef, .undef, .undef, .undef, .undef, .undef, .undef, .undef, .undef, .undef, .undef, .undef, .undef, .undef, .undef, .undef, .undef, .undef, .undef, .undef, .undef, .undef, .undef, .undef, .undef, .undef, .undef, .undef, .undef, .int .i64, .int .i64, .undef, .undef, .undef, .undef, .undef, .undef, .undef, .undef, .undef, .undef, .undef, .undef, .undef, .undef, .undef, .undef, .undef, .undef, .undef, .undef, .undef, .undef, .undef, .undef, .undef, .undef, .undef, .undef, .undef, .undef, .undef, .undef, .undef, .undef, .undef, .undef, .undef, .undef, .undef, .undef, .undef, .undef, .undef, .undef, .undef, .undef, .undef, .undef, .undef, .undef, .undef, .undef, .undef, .undef, .undef, .undef, .undef, .undef, .undef, .undef, .undef, .undef, .undef, .int .i64, .int .i64] ++ List.replicate 64 .undef, [[.hdr 1], [.pool .i64], [.pool .i64], [.hdr 2], [.vec .i64], [.vals [.int .i64]]]⟩
def i_echelon_l4_o0 : SPat := ⟨[.undef, .undef, .int .i64, .undef, .undef, .undef, .undef, .undef, .sliceV 3 0 0 1 false, .sliceV 4 0 0 1 false, .undef, .undef, .undef, .undef, .undef, .int .i64, .ptr ⟨⟨5, 0⟩, 0, 0, 1⟩, .undef, .undef, .undef, .undef, .undef, .undef, .undef, .undef, .undef, .undef, .undef, .undef, .undef, .undef, .undef, .undef, .undef, .undef, .undef, .undef, .undef, .undef, .undef, .undef, .undef, .undef, .undef, .undef, .undef, .undef, .undef, .undef, .undef, .undef, .undef, .undef, .undef, .int .i64, .int .i64] ++ List.replicate 129 .undef, [[.hdr 1], [.pool .i64], [.pool .i64], [.hdr 2], [.vec .i64], [.vals [.int .i64]]]⟩
theorem i_echelon_l4_round {α : Type} (N : Nat) (t2 : Int) (t8_n : Nat) (t8_l : Nat) (t8_c : Nat) (t9_n : Nat) (t9_l : Nat) (t9_c : Nat) (t15 : Int) (t54 : Int) (t55 : Int) (t119 : Int) (t120 : Int) (h0 : List (Nat × Nat)) (h1 : List (List Int)) (h2 : List (List Int)) (h3 : List (Nat × Nat)) (h4 : List Int) (h5 : Int) (kn : St → Option α) (K : AExit → St → Option α) :
    roundK Try.prog (E_i_echelon_l5 α N) 1 2 78 Try.f78 27 6 (buildS i_echelon_l4_p [.i t2, .n t8_n, .n t8_l, .n t8_c, .n t9_n, .n t9_l, .n t9_c, .i t15, .i t54, .i t55, .i t119, .i t120, .p h0, .r h1, .r h2, .p h3, .l h4, .i h5]) kn K = i_echelon_l4_s none N t2 t8_n t8_l t8_c t9_n t9_l t9_c t15 t54 t55 t119 h0 h1 h3 h4 h5 t120 h2 (fun t120 h2 => kn (buildS i_echelon_l4_p [.i t2, .n t8_n, .n t8_l, .n t8_c, .n t9_n, .n t9_l, .n t9_c, .i t15, .i t54, .i t55, .i t119, .i t120, .p h0, .r h1, .r h2, .p h3, .l h4, .i h5])) (fun h2_ => K (.exit 8) (buildS i_echelon_l4_o0 [.i t2, .n t8_n, .n t8_l, .n t8_c, .n t9_n, .n t9_l, .n t9_c, .i t15, .i t54, .i t55, .p h0, .r h1, .r h2_, .p h3, .l h4, .i h5])) := by kernel_rfl
theorem i_echelon_l4_loop {α : Type} (N : Nat) (t2 : Int) (t8_n : Nat) (t8_l : Nat) (t8_c : Nat) (t9_n : Nat) (t9_l : Nat) (t9_c : Nat) (t15 : Int) (t54 : Int) (t55 : Int) (t119 : Int) (h0 : List (Nat × Nat)) (h1 : List (List Int)) (h3 : List (Nat × Nat)) (h4 : List Int) (h5 : Int) (K : AExit → St → Option α) : ∀ (m : Nat) (t120 : Int) (h2 : List (List Int)),
    loopN (trimSt ((E_i_echelon_l5 α N).ann 78 27).head ((E_i_echelon_l5 α N).ann 78 27).grow 6) (bodyK Try.prog (E_i_echelon_l5 α N) 1 2 78 Try.f78 27) m (buildS i_echelon_l4_p [.i t2, .n t8_n, .n t8_l, .n t8_c, .n t9_n, .n t9_l, .n t9_c, .i t15, .i t54, .i t55, .i t119, .i t120, .p h0, .r h1, .r h2, .p h3, .l h4, .i h5]) (leaveLoop ((E_i_echelon_l5 α N).ann 78 27) 6 K) = i_echelon_l4 none N t2 t8_n t8_l t8_c t9_n t9_l t9_c t15 t54 t55 t119 h0 h1 h3 h4 h5 m t120 h2 (fun h2_ => K (.exit 8) (buildS i_echelon_l4_o0 [.i t2, .n t8_n, .n t8_l, .n t8_c, .n t9_n, .n t9_l, .n t9_c, .i t15, .i t54, .i t55, .p h0, .r h1, .r h2_, .p h3, .l h4, .i h5])) := by
  intro m
  induction m with
  | zero => intros; rfl
  | succ m ih =>
    intro t120 h2
    rw [loopN_round]
    refine (i_echelon_l4_round N t2 t8_n t8_l t8_c t9_n t9_l t9_c t15 t54 t55 t119 t120 h0 h1 h2 h3 h4 h5 _ K).trans ?_
    simp only [ih]
    rfl
def E_i_echelon_l4 (α : Type) (N : Nat) : Env α := (E_i_echelon_l5 α N).addLoop2 78 27 (loopSum2 ((E_i_echelon_l5 α N).ann 78 27) 2 i_echelon_l4_p (fun l K => match l with
    | [.i t2, .n t8_n, .n t8_l, .n t8_c, .n t9_n, .n t9_l, .n t9_c, .i t15, .i t54, .i t55, .i t119, .i t120, .p h0, .r h1, .r h2, .p h3, .l h4, .i h5] => i_echelon_l4 none N t2 t8_n t8_l t8_c t9_n t9_l t9_c t15 t54 t55 t119 h0 h1 h3 h4 h5 N t120 h2 (fun h2_ => K (.exit 8) (buildS i_echelon_l4_o0 [.i t2, .n t8_n, .n t8_l, .n t8_c, .n t9_n, .n t9_l, .n t9_c, .i t15, .i t54, .i t55, .p h0, .r h1, .r h2_, .p h3, .l h4, .i h5]))
    | _ => none) ((E_i_echelon_l5 α N).ls 78 27))
theorem E_i_echelon_l4_ok {α : Type} (N : Nat) : EnvOk Try.prog (E_i_echelon_l4 α N) := (E_i_echelon_l5_ok N).addLoop2 Try.func78 (by kernel_rfl) (loopSum_ok prog_mixed prog_names (E_i_echelon_l5_ok N) Try.func78 (by kernel_rfl) (d := 1) (ro := 2) fun l K r h => by
  split at h
  · exact (i_echelon_l4_loop N _ _ _ _ _ _ _ _ _ _ _ _ _ _ _ _ K N _ _).trans h
  · cases h)

/-- impl.echelon, loop -/
def i_echelon_l2_p : SPat := ⟨[.undef, .undef, .int .i64, .undef, .undef, .undef, .undef, .undef, .sliceV 3 0 0 1 false, .sliceV 4 0 0 1 false, .undef, .undef, .undef, .undef, .undef, .int .i64, .undef, .undef, .undef, .undef, .undef, .undef, .undef, .undef, .undef, .undef, .undef, .undef, .undef, .undef, .undef, .undef, .undef, .undef, .undef, .undef, .undef, .undef, .undef, .undef, .undef, .undef, .undef, .undef, .undef, .undef, .undef, .undef, .undef, .undef, .undef, .undef, .undef, .undef, .int .i64, .int .i64] ++ List.replicate 129 .undef, [[.hdr 1], [.pool .i64], [.pool .i64], [.hdr 2], [.vec .i64]]⟩
def i_echelon_l2_o0 : SPat := ⟨[.undef, .undef, .undef, .undef, .undef, .undef, .undef, .undef, .sliceV 3 0 0 1 false, .sliceV 4 0 0 1 false, .undef, .undef, .undef, .undef, .undef, .int .i64] ++ List.replicate 169 .undef, [[.hdr 1], [.pool .i64], [.pool .i64], [.hdr 2], [.vec .i64]]⟩
theorem i_echelon_l2_round {α : Type} (N : Nat) (t2 : Int) (t8_n : Nat) (t8_l : Nat) (t8_c : Nat) (t9_n : Nat) (t9_l : Nat) (t9_c : Nat) (t15 : Int) (t54 : Int) (t55 : Int) (h0 : List (Nat × Nat)) (h1 : List (List Int)) (h2 : List (List Int)) (h3 : List (Nat × Nat)) (h4 : List Int) (kn : St → Option α) (K : AExit → St → Option α) :
    roundK Try.prog (E_i_echelon_l4 α N) 1 2 78 Try.f78 15 5 (buildS i_echelon_l2_p [.i t2, .n t8_n, .n t8_l, .n t8_c, .n t9_n, .n t9_l, .n t9_c, .i t15, .i t54, .i t55, .p h0, .r h1, .r h2, .p h3, .l h4]) kn K = i_echelon_l2_s none N t2 t8_n t8_l t8_c t54 h0 h1 t9_n t9_l t9_c t15 t55 h2 h3 h4 (fun t9_n t9_l t9_c t15 t55 h2 h3 h4 => kn (buildS i_echelon_l2_p [.i t2, .n t8_n, .n t8_l, .n t8_c, .n t9_n, .n t9_l, .n t9_c, .i t15, .i t54, .i t55, .p h0, .r h1, .r h2, .p h3, .l h4])) (fun t9_n_ t9_l_ t9_c_ t15_ h2_ h3_ h4_ => K (.exit 4) (buildS i_echelon_l2_o0 [.n t8_n, .n t8_l, .n t8_c, .n t9_n_, .n t9_l_, .n t9_c_, .i t15_, .p h0, .r h1, .r h2_, .p h3_, .l h4_])) := by kernel_rfl
theorem i_echelon_l2_loop {α : Type} (N : Nat) (t2 : Int) (t8_n : Nat) (t8_l : Nat) (t8_c : Nat) (t54 : Int) (h0 : List (Nat × Nat)) (h1 : List (List Int)) (K : AExit → St → Option α) : ∀ (m : Nat) (t9_n : Nat) (t9_l : Nat) (t9_c : Nat) (t15 : Int) (t55 : Int) (h2 : List (List Int)) (h3 : List (Nat × Nat)) (h4 : List Int),
    loopN (trimSt ((E_i_echelon_l4 α N).ann 78 15).head ((E_i_echelon_l4 α N).ann 78 15).grow 5) (bodyK Try.prog (E_i_echelon_l4 α N) 1 2 78 Try.f78 15) m (buildS i_echelon_l2_p [.i t2, .n t8_n, .n t8_l, .n t8_c, .n t9_n, .n t9_l, .n t9_c, .i t15, .i t54, .i t55, .p h0, .r h1, .r h2, .p h3, .l h4]) (leaveLoop ((E_i_echelon_l4 α N).ann 78 15) 5 K) = i_echelon_l2 none N t2 t8_n t8_l t8_c t54 h0 h1 m t9_n t9_l t9_c t15 t55 h2 h3 h4 (fun t9_n_ t9_l_ t9_c_ t15_ h2_ h3_ h4_ => K (.exit 4) (buildS i_echelon_l2_o0 [.n t8_n, .n t8_l, .n t8_c, .n t9_n_, .n t9_l_, .n t9_c_, .i t15_, .p h0, .r h1, .r h2_, .p h3_, .l h4_])) := by
  intro m
  induction m with
  | zero => intros; rfl
  | succ m ih =>
    intro t9_n t9_l t9_c t15 t55 h2 h3 h4
    rw [loopN_round]
    refine (i_echelon_l2_round N t2 t8_n t8_l t8_c t9_n t9_l t9_c t15 t54 t55 h0 h1 h2 h3 h4 _ K).trans ?_
    simp only [ih]
    rfl
def E_i_echelon_l2 (α : Type) (N : Nat) : Env α := (E_i_echelon_l4 α N).addLoop2 78 15 (loopSum2 ((E_i_echelon_l4 α N).ann 78 15) 2 i_echelon_l2_p (fun l K => match l with
    | [.i t2, .n t8_n, .n t8_l, .n t8_c, .n t9_n, .n t9_l, .n t9_c, .i t15, .i t54, .i t55, .p h0, .r h1, .r h2, .p h3, .l h4] => i_echelon_l2 none N t2 t8_n t8_l t8_c t54 h0 h1 N t9_n t9_l t9_c t15 t55 h2 h3 h4 (fun t9_n_ t9_l_ t9_c_ t15_ h2_ h3_ h4_ => K (.exit 4) (buildS i_echelon_l2_o0 [.n t8_n, .n t8_l, .n t8_c, .n t9_n_, .n t9_l_, .n t9_c_, .i t15_, .p h0, .r h1, .r h2_, .p h3_, .l h4_]))
    | _ => none) ((E_i_echelon_l4 α N).ls 78 15))
theorem E_i_echelon_l2_ok {α : Type} (N : Nat) : EnvOk Try.prog (E_i_echelon_l2 α N) := (E_i_echelon_l4_ok N).addLoop2 Try.func78 (by kernel_rfl) (loopSum_ok prog_mixed prog_names (E_i_echelon_l4_ok N) Try.func78 (by kernel_rfl) (d := 1) (ro := 2) fun l K r h => by
  split at h
  · exact (i_echelon_l2_loop N _ _ _ _ _ _ _ K N _ _ _ _ _ _ _ _).trans h
  · cases h)

/-- impl.echelon -/
def i_echelon_a : SPat := ⟨[.sliceV 0 0 0 1 false, .int .i64, .int .i64], [[.hdr 1], [.pool .i64]]⟩
def i_echelon_r0 : SPat := ⟨[.tuple [.sliceV 3 0 0 1 false, .sliceV 4 0 0 1 false]], [[.hdr 1], [.pool .i64], [.pool .i64], [.hdr 2], [.vec .i64]]⟩
theorem i_echelon_run {α : Type} (N : Nat) (lines_n : Nat) (lines_l : Nat) (lines_c : Nat) (a1 : Int) (a2 : Int) (h0 : List (Nat × Nat)) (h1 : List (List Int)) (K : AV → Heap → Option α) :
    callK Try.prog (E_i_echelon_l2 α N) 1 78 2 (buildS i_echelon_a [.n lines_n, .n lines_l, .n lines_c, .i a1, .i a2, .p h0, .r h1]).t (buildS i_echelon_a [.n lines_n, .n lines_l, .n lines_c, .i a1, .i a2, .p h0, .r h1]).h K = i_echelon none N lines_n lines_l lines_c a1 a2 h0 h1 (fun r_0_n_ r_0_l_ r_0_c_ r_1_n_ r_1_l_ r_1_c_ h2_ h3_ h4_ => retK (buildS i_echelon_r0 [.n r_0_n_, .n r_0_l_, .n r_0_c_, .n r_1_n_, .n r_1_l_, .n r_1_c_, .p h0, .r h1, .r h2_, .p h3_, .l h4_]) K) := by kernel_rfl
def E_i_echelon (α : Type) (N : Nat) : Env α := (E_i_echelon_l2 α N).addFun 78 true 2 i_echelon_a (fun l K => match l with
    | [.n lines_n, .n lines_l, .n lines_c, .i a1, .i a2, .p h0, .r h1] => i_echelon none N lines_n lines_l lines_c a1 a2 h0 h1 (fun r_0_n_ r_0_l_ r_0_c_ r_1_n_ r_1_l_ r_1_c_ h2_ h3_ h4_ => retK (buildS i_echelon_r0 [.n r_0_n_, .n r_0_l_, .n r_0_c_, .n r_1_n_, .n r_1_l_, .n r_1_c_, .p h0, .r h1, .r h2_, .p h3_, .l h4_]) K)
    | _ => none)
theorem E_i_echelon_ok {α : Type} (N : Nat) : EnvOk Try.prog (E_i_echelon α N) := (E_i_echelon_l2_ok N).addFun prog_mixed prog_names (d := 1) fun l K r h => by
  split at h
  · exact (i_echelon_run N _ _ _ _ _ _ _ K).trans h
  · cases h

def A_i_ColouringBasis_1_l0 (α : Type) (N : Nat) : Env α := (E_i_echelon α N).addAnn 103 4 { head := [0, 1, 3, 4, 5, 23, 24], grow := [5], out := [0, 1, 5], ret := [2] }
theorem A_i_ColouringBasis_1_l0_ok {α : Type} (N : Nat) : EnvOk Try.prog (A_i_ColouringBasis_1_l0 α N) := (E_i_echelon_ok N).addAnn

def A_slices_Index_int_int_l0 (α : Type) (N : Nat) : Env α := (A_i_ColouringBasis_1_l0 α N).addAnn 146 2 { head := [0, 1, 7, 8], grow := [], out := [], ret := [4] }
theorem A_slices_Index_int_int_l0_ok {α : Type} (N : Nat) : EnvOk Try.prog (A_slices_Index_int_int_l0 α N) := (A_i_ColouringBasis_1_l0_ok N).addAnn

/-- slices.Index[[]int,int], loop -/
def slices_Index_int_int_l0_p : SPat := ⟨[.sliceV 0 0 0 1 false, .int .i64, .undef, .undef, .undef, .undef, .undef, .int .i64, .int .i64] ++ List.replicate 10 .undef, [[.vec .i64]]⟩
def slices_Index_int_int_l0_o0 : SPat := ⟨[.undef, .undef, .undef, .undef, .int .i64] ++ List.replicate 14 .undef, [[.vec .i64]]⟩
def slices_Index_int_int_l0_o1 : SPat := ⟨[] ++ List.replicate 19 .undef, [[.vec .i64]]⟩
theorem slices_Index_int_int_l0_round {α : Type} (N : Nat) (s_n : Nat) (s_l : Nat) (s_c : Nat) (v : Int) (t7 : Int) (t8 : Int) (h0 : List Int) (kn : St → Option α) (K : AExit → St → Option α) :
    roundK Try.prog (A_slices_Index_int_int_l0 α N) 1 1 146 Try.f146 2 1 (buildS slices_Index_int_int_l0_p [.n s_n, .n s_l, .n s_c, .i v, .i t7, .i t8, .l h0]) kn K = slices_Index_int_int_l0_s none s_n s_l s_c v t7 h0 t8 (fun t8 => kn (buildS slices_Index_int_int_l0_p [.n s_n, .n s_l, .n s_c, .i v, .i t7, .i t8, .l h0])) (fun t4_ => K .ret (buildS slices_Index_int_int_l0_o0 [.i t4_, .l h0])) (K (.exit 0) (buildS slices_Index_int_int_l0_o1 [.l h0])) := by kernel_rfl
theorem slices_Index_int_int_l0_loop {α : Type} (N : Nat) (s_n : Nat) (s_l : Nat) (s_c : Nat) (v : Int) (t7 : Int) (h0 : List Int) (K : AExit → St → Option α) : ∀ (m : Nat) (t8 : Int),
    loopN (trimSt ((A_slices_Index_int_int_l0 α N).ann 146 2).head ((A_slices_Index_int_int_l0 α N).ann 146 2).grow 1) (bodyK Try.prog (A_slices_Index_int_int_l0 α N) 1 1 146 Try.f146 2) m (buildS slices_Index_int_int_l0_p [.n s_n, .n s_l, .n s_c, .i v, .i t7, .i t8, .l h0]) (leaveLoop ((A_slices_Index_int_int_l0 α N).ann 146 2) 1 K) = slices_Index_int_int_l0 none s_n s_l s_c v t7 h0 m t8 (fun t4_ => K .ret (buildS slices_Index_int_int_l0_o0 [.i t4_, .l h0])) (K (.exit 0) (buildS slices_Index_int_int_l0_o1 [.l h0])) := by
  intro m
  induction m with
  | zero => intros; rfl
  | succ m ih =>
    intro t8
    rw [loopN_round]
    refine (slices_Index_int_int_l0_round N s_n s_l s_c v t7 t8 h0 _ K).trans ?_
    simp only [ih]
    rfl
def E_slices_Index_int_int_l0 (α : Type) (N : Nat) : Env α := (A_slices_Index_int_int_l0 α N).addLoop2 146 2 (loopSum2 ((A_slices_Index_int_int_l0 α N).ann 146 2) 1 slices_Index_int_int_l0_p (fun l K => match l with
    | [.n s_n, .n s_l, .n s_c, .i v, .i t7, .i t8, .l h0] => slices_Index_int_int_l0 none s_n s_l s_c v t7 h0 N t8 (fun t4_ => K .ret (buildS slices_Index_int_int_l0_o0 [.i t4_, .l h0])) (K (.exit 0) (buildS slices_Index_int_int_l0_o1 [.l h0]))
    | _ => none) ((A_slices_Index_int_int_l0 α N).ls 146 2))
theorem E_slices_Index_int_int_l0_ok {α : Type} (N : Nat) : EnvOk Try.prog (E_slices_Index_int_int_l0 α N) := (A_slices_Index_int_int_l0_ok N).addLoop2 Try.func146 (by kernel_rfl) (loopSum_ok prog_mixed prog_names (A_slices_Index_int_int_l0_ok N) Try.func146 (by kernel_rfl) (d := 1) (ro := 1) fun l K r h => by
  split at h
  · exact (slices_Index_int_int_l0_loop N _ _ _ _ _ _ K N _).trans h
  · cases h)

/-- slices.Index[[]int,int] -/
def slices_Index_int_int_a : SPat := ⟨[.sliceV 0 0 0 1 false, .int .i64], [[.vec .i64]]⟩
def slices_Index_int_int_r0 : SPat := ⟨[.int .i64], [[.vec .i64]]⟩
theorem slices_Index_int_int_run {α : Type} (N : Nat) (s_n : Nat) (s_l : Nat) (s_c : Nat) (v : Int) (h0 : List Int) (K : AV → Heap → Option α) :
    callK Try.prog (E_slices_Index_int_int_l0 α N) 1 146 1 (buildS slices_Index_int_int_a [.n s_n, .n s_l, .n s_c, .i v, .l h0]).t (buildS slices_Index_int_int_a [.n s_n, .n s_l, .n s_c, .i v, .l h0]).h K = slices_Index_int_int none N s_n s_l s_c v h0 (fun r__ => retK (buildS slices_Index_int_int_r0 [.i r__, .l h0]) K) := by kernel_rfl
def E_slices_Index_int_int (α : Type) (N : Nat) : Env α := (E_slices_Index_int_int_l0 α N).addFun 146 true 1 slices_Index_int_int_a (fun l K => match l with
    | [.n s_n, .n s_l, .n s_c, .i v, .l h0] => slices_Index_int_int none N s_n s_l s_c v h0 (fun r__ => retK (buildS slices_Index_int_int_r0 [.i r__, .l h0]) K)
    | _ => none)
theorem E_slices_Index_int_int_ok {α : Type} (N : Nat) : EnvOk Try.prog (E_slices_Index_int_int α N) := (E_slices_Index_int_int_l0_ok N).addFun prog_mixed prog_names (d := 1) fun l K r h => by
  split at h
  · exact (slices_Index_int_int_run N _ _ _ _ _ K).trans h
  · cases h

/-- slices.Contains[[]int,int] -/
def slices_Contains_int_int_a : SPat := ⟨[.sliceV 0 0 0 1 false, .int .i64], [[.vec .i64]]⟩
def slices_Contains_int_int_r0 : SPat := ⟨[.bool], [[.vec .i64]]⟩
theorem slices_Contains_int_int_run {α : Type} (N : Nat) (s_n : Nat) (s_l : Nat) (s_c : Nat) (v : Int) (h0 : List Int) (K : AV → Heap → Option α) :
    callK Try.prog (E_slices_Index_int_int α N) 1 104 1 (buildS slices_Contains_int_int_a [.n s_n, .n s_l, .n s_c, .i v, .l h0]).t (buildS slices_Contains_int_int_a [.n s_n, .n s_l, .n s_c, .i v, .l h0]).h K = slices_Contains_int_int none N s_n s_l s_c v h0 (fun r__ => retK (buildS slices_Contains_int_int_r0 [.b r__, .l h0]) K) := by kernel_rfl
def E_slices_Contains_int_int (α : Type) (N : Nat) : Env α := (E_slices_Index_int_int α N).addFun 104 true 1 slices_Contains_int_int_a (fun l K => match l with
    | [.n s_n, .n s_l, .n s_c, .i v, .l h0] => slices_Contains_int_int none N s_n s_l s_c v h0 (fun r__ => retK (buildS slices_Contains_int_int_r0 [.b r__, .l h0]) K)
    | _ => none)
theorem E_slices_Contains_int_int_ok {α : Type} (N : Nat) : EnvOk Try.prog (E_slices_Contains_int_int α N) := (E_slices_Index_int_int_ok N).addFun prog_mixed prog_names (d := 1) fun l K r h => by
  split at h
  · exact (slices_Contains_int_int_run N _ _ _ _ _ K).trans h
  · cases h

def A_i_ColouringBasis_1_l1 (α : Type) (N : Nat) : Env α := (E_slices_Contains_int_int α N).addAnn 103 10 { head := [0, 1, 3, 4, 5, 6, 7, 23, 24, 36, 37, 38], grow := [], out := [0, 1, 3, 4, 5, 7, 23, 24], ret := [2] }
theorem A_i_ColouringBasis_1_l1_ok {α : Type} (N : Nat) : EnvOk Try.prog (A_i_ColouringBasis_1_l1 α N) := (E_slices_Contains_int_int_ok N).addAnn

/-- impl.ColouringBasis$1, loop -/
def i_ColouringBasis_1_l1_p : SPat := ⟨[.ptr ⟨⟨0, 0⟩, 0, 0, 1⟩, .ptr ⟨⟨1, 0⟩, 0, 0, 1⟩, .undef, .sliceV 5 0 0 1 false, .sliceV 6 0 0 1 false, .sliceV 8 0 0 1 false, .int .i64, .sliceV 9 0 0 1 true, .undef, .undef, .undef, .undef, .undef, .undef, .undef, .undef, .undef, .undef, .undef, .undef, .undef, .undef, .undef, .int .i64, .int .i64, .undef, .undef, .undef, .undef, .undef, .undef, .undef, .undef, .undef, .undef, .undef, .sliceV 6 0 0 1 false, .int .i64, .int .i64] ++ List.replicate 31 .undef, [[.vals [.int .i64], .ints .u8 8, .ints .u8 8], [.vals [.int .i64]], [.hdr 3], [.pool .i64], [.pool .i64], [.hdr 4], [.vec .i64], [.pool .i64], [.hdr 7], [.intsV .i64]]⟩
def i_ColouringBasis_1_l1_o0 : SPat := ⟨[.ptr ⟨⟨0, 0⟩, 0, 0, 1⟩, .ptr ⟨⟨1, 0⟩, 0, 0, 1⟩, .undef, .sliceV 5 0 0 1 false, .sliceV 6 0 0 1 false, .sliceV 8 0 0 1 false, .undef, .sliceV 9 0 0 1 true, .undef, .undef, .undef, .undef, .undef, .undef, .undef, .undef, .undef, .undef, .undef, .undef, .undef, .undef, .undef, .int .i64, .int .i64] ++ List.replicate 45 .undef, [[.vals [.int .i64], .ints .u8 8, .ints .u8 8], [.vals [.int .i64]], [.hdr 3], [.pool .i64], [.pool .i64], [.hdr 4], [.vec .i64], [.pool .i64], [.hdr 7], [.intsV .i64]]⟩
theorem i_ColouringBasis_1_l1_round {α : Type} (N : Nat) (t3_n : Nat) (t3_l : Nat) (t3_c : Nat) (t4_n : Nat) (t4_l : Nat) (t4_c : Nat) (t5_n : Nat) (t5_l : Nat) (t5_c : Nat) (t6 : Int) (t7_n : Nat) (t7_l : Nat) (t7_c : Nat) (t23 : Int) (t24 : Int) (t36_n : Nat) (t36_l : Nat) (t36_c : Nat) (t37 : Int) (t38 : Int) (h0_0 : Int) (h0_1 : Nat → Int) (h0_2 : Nat → Int) (h1 : Int) (h2 : List (Nat × Nat)) (h3 : List (List Int)) (h4 : List (List Int)) (h5 : List (Nat × Nat)) (h6 : List Int) (h7 : List (List Int)) (h8 : List (Nat × Nat)) (h9_n : Nat) (h9 : Nat → Int) (kn : St → Option α) (K : AExit → St → Option α) :
    roundK Try.prog (A_i_ColouringBasis_1_l1 α N) 1 2 103 Try.f103 10 10 (buildS i_ColouringBasis_1_l1_p (.n t3_n :: .n t3_l :: .n t3_c :: .n t4_n :: .n t4_l :: .n t4_c :: .n t5_n :: .n t5_l :: .n t5_c :: .i t6 :: .n t7_n :: .n t7_l :: .n t7_c :: .i t23 :: .i t24 :: .n t36_n :: .n t36_l :: .n t36_c :: .i t37 :: .i t38 :: .i h0_0 :: .f h0_1 :: .f h0_2 :: .i h1 :: .p h2 :: .r h3 :: .r h4 :: .p h5 :: .l h6 :: .r h7 :: .p h8 :: .n h9_n :: .f h9 :: [])) kn K = i_ColouringBasis_1_l1_s none t3_n t3_l t3_c t4_n t4_l t4_c t5_n t5_l t5_c t6 t7_n t7_l t7_c t23 t24 t36_n t36_l t36_c t37 h0_0 h0_1 h0_2 h1 h2 h3 h4 h5 h6 h7 h8 h9_n t38 h9 (fun t38 h9 => kn (buildS i_ColouringBasis_1_l1_p (.n t3_n :: .n t3_l :: .n t3_c :: .n t4_n :: .n t4_l :: .n t4_c :: .n t5_n :: .n t5_l :: .n t5_c :: .i t6 :: .n t7_n :: .n t7_l :: .n t7_c :: .i t23 :: .i t24 :: .n t36_n :: .n t36_l :: .n t36_c :: .i t37 :: .i t38 :: .i h0_0 :: .f h0_1 :: .f h0_2 :: .i h1 :: .p h2 :: .r h3 :: .r h4 :: .p h5 :: .l h6 :: .r h7 :: .p h8 :: .n h9_n :: .f h9 :: []))) (fun h9_ => K (.exit 2) (buildS i_ColouringBasis_1_l1_o0 [.n t3_n, .n t3_l, .n t3_c, .n t4_n, .n t4_l, .n t4_c, .n t5_n, .n t5_l, .n t5_c, .n t7_n, .n t7_l, .n t7_c, .i t23, .i t24, .i h0_0, .f h0_1, .f h0_2, .i h1, .p h2, .r h3, .r h4, .p h5, .l h6, .r h7, .p h8, .n h9_n, .f h9_])) := by kernel_rfl
theorem i_ColouringBasis_1_l1_loop {α : Type} (N : Nat) (t3_n : Nat) (t3_l : Nat) (t3_c : Nat) (t4_n : Nat) (t4_l : Nat) (t4_c : Nat) (t5_n : Nat) (t5_l : Nat) (t5_c : Nat) (t6 : Int) (t7_n : Nat) (t7_l : Nat) (t7_c : Nat) (t23 : Int) (t24 : Int) (t36_n : Nat) (t36_l : Nat) (t36_c : Nat) (t37 : Int) (h0_0 : Int) (h0_1 : Nat → Int) (h0_2 : Nat → Int) (h1 : Int) (h2 : List (Nat × Nat)) (h3 : List (List Int)) (h4 : List (List Int)) (h5 : List (Nat × Nat)) (h6 : List Int) (h7 : List (List Int)) (h8 : List (Nat × Nat)) (h9_n : Nat) (K : AExit → St → Option α) : ∀ (m : Nat) (t38 : Int) (h9 : Nat → Int),
    loopN (trimSt ((A_i_ColouringBasis_1_l1 α N).ann 103 10).head ((A_i_ColouringBasis_1_l1 α N).ann 103 10).grow 10) (bodyK Try.prog (A_i_ColouringBasis_1_l1 α N) 1 2 103 Try.f103 10) m (buildS i_ColouringBasis_1_l1_p (.n t3_n :: .n t3_l :: .n t3_c :: .n t4_n :: .n t4_l :: .n t4_c :: .n t5_n :: .n t5_l :: .n t5_c :: .i t6 :: .n t7_n :: .n t7_l :: .n t7_c :: .i t23 :: .i t24 :: .n t36_n :: .n t36_l :: .n t36_c :: .i t37 :: .i t38 :: .i h0_0 :: .f h0_1 :: .f h0_2 :: .i h1 :: .p h2 :: .r h3 :: .r h4 :: .p h5 :: .l h6 :: .r h7 :: .p h8 :: .n h9_n :: .f h9 :: [])) (leaveLoop ((A_i_ColouringBasis_1_l1 α N).ann 103 10) 10 K) = i_ColouringBasis_1_l1 none t3_n t3_l t3_c t4_n t4_l t4_c t5_n t5_l t5_c t6 t7_n t7_l t7_c t23 t24 t36_n t36_l t36_c t37 h0_0 h0_1 h0_2 h1 h2 h3 h4 h5 h6 h7 h8 h9_n m t38 h9 (fun h9_ => K (.exit 2) (buildS i_ColouringBasis_1_l1_o0 [.n t3_n, .n t3_l, .n t3_c, .n t4_n, .n t4_l, .n t4_c, .n t5_n, .n t5_l, .n t5_c, .n t7_n, .n t7_l, .n t7_c, .i t23, .i t24, .i h0_0, .f h0_1, .f h0_2, .i h1, .p h2, .r h3, .r h4, .p h5, .l h6, .r h7, .p h8, .n h9_n, .f h9_])) := by
  intro m
  induction m with
  | zero => intros; rfl
  | succ m ih =>
    intro t38 h9
    rw [loopN_round]
    refine (i_ColouringBasis_1_l1_round N t3_n t3_l t3_c t4_n t4_l t4_c t5_n t5_l t5_c t6 t7_n t7_l t7_c t23 t24 t36_n t36_l t36_c t37 t38 h0_0 h0_1 h0_2 h1 h2 h3 h4 h5 h6 h7 h8 h9_n h9 _ K).trans ?_
    simp only [ih]
    rfl
def E_i_ColouringBasis_1_l1 (α : Type) (N : Nat) : Env α := (A_i_ColouringBasis_1_l1 α N).addLoop2 103 10 (loopSum2 ((A_i_ColouringBasis_1_l1 α N).ann 103 10) 2 i_ColouringBasis_1_l1_p (fun l K => match l with
    | (.n t3_n :: .n t3_l :: .n t3_c :: .n t4_n :: .n t4_l :: .n t4_c :: .n t5_n :: .n t5_l :: .n t5_c :: .i t6 :: .n t7_n :: .n t7_l :: .n t7_c :: .i t23 :: .i t24 :: .n t36_n :: .n t36_l :: .n t36_c :: .i t37 :: .i t38 :: .i h0_0 :: .f h0_1 :: .f h0_2 :: .i h1 :: .p h2 :: .r h3 :: .r h4 :: .p h5 :: .l h6 :: .r h7 :: .p h8 :: .n h9_n :: .f h9 :: []) => i_ColouringBasis_1_l1 none t3_n t3_l t3_c t4_n t4_l t4_c t5_n t5_l t5_c t6 t7_n t7_l t7_c t23 t24 t36_n t36_l t36_c t37 h0_0 h0_1 h0_2 h1 h2 h3 h4 h5 h6 h7 h8 h9_n N t38 h9 (fun h9_ => K (.exit 2) (buildS i_ColouringBasis_1_l1_o0 [.n t3_n, .n t3_l, .n t3_c, .n t4_n, .n t4_l, .n t4_c, .n t5_n, .n t5_l, .n t5_c, .n t7_n, .n t7_l, .n t7_c, .i t23, .i t24, .i h0_0, .f h0_1, .f h0_2, .i h1, .p h2, .r h3, .r h4, .p h5, .l h6, .r h7, .p h8, .n h9_n, .f h9_]))
    | _ => none) ((A_i_ColouringBasis_1_l1 α N).ls 103 10))
theorem E_i_ColouringBasis_1_l1_ok {α : Type} (N : Nat) : EnvOk Try.prog (E_i_ColouringBasis_1_l1 α N) := (A_i_ColouringBasis_1_l1_ok N).addLoop2 Try.func103 (by kernel_rfl) (loopSum_ok prog_mixed prog_names (A_i_ColouringBasis_1_l1_ok N) Try.func103 (by kernel_rfl) (d := 1) (ro := 2) fun l K r h => by
  split at h
  · exact (i_ColouringBasis_1_l1_loop N _ _ _ _ _ _ _ _ _ _ _ _ _ _ _ _ _ _ _ _ _ _ _ _ _ _ _ _ _ _ _ K N _ _).trans h
  · cases h)

/-- impl.ColouringBasis$1, loop -/
def i_ColouringBasis_1_l0_p : SPat := ⟨[.ptr ⟨⟨0, 0⟩, 0, 0, 1⟩, .ptr ⟨⟨1, 0⟩, 0, 0, 1⟩, .undef, .sliceV 5 0 0 1 false, .sliceV 6 0 0 1 false, .sliceV 8 0 0 1 false, .undef, .undef, .undef, .undef, .undef, .undef, .undef, .undef, .undef, .undef, .undef, .undef, .undef, .undef, .undef, .undef, .undef, .int .i64, .int .i64] ++ List.replicate 45 .undef, [[.vals [.int .i64], .ints .u8 8, .ints .u8 8], [.vals [.int .i64]], [.hdr 3], [.pool .i64], [.pool .i64], [.hdr 4], [.vec .i64], [.pool .i64], [.hdr 7]]⟩
def i_ColouringBasis_1_l0_o0 : SPat := ⟨[.ptr ⟨⟨0, 0⟩, 0, 0, 1⟩, .ptr ⟨⟨1, 0⟩, 0, 0, 1⟩, .undef, .undef, .undef, .sliceV 8 0 0 1 false] ++ List.replicate 64 .undef, [[.vals [.int .i64], .ints .u8 8, .ints .u8 8], [.vals [.int .i64]], [.hdr 3], [.pool .i64], [.pool .i64], [.hdr 4], [.vec .i64], [.pool .i64], [.hdr 7]]⟩
theorem i_ColouringBasis_1_l0_round {α : Type} (N : Nat) (t3_n : Nat) (t3_l : Nat) (t3_c : Nat) (t4_n : Nat) (t4_l : Nat) (t4_c : Nat) (t5_n : Nat) (t5_l : Nat) (t5_c : Nat) (t23 : Int) (t24 : Int) (h0_0 : Int) (h0_1 : Nat → Int) (h0_2 : Nat → Int) (h1 : Int) (h2 : List (Nat × Nat)) (h3 : List (List Int)) (h4 : List (List Int)) (h5 : List (Nat × Nat)) (h6 : List Int) (h7 : List (List Int)) (h8 : List (Nat × Nat)) (kn : St → Option α) (K : AExit → St → Option α) :
    roundK Try.prog (E_i_ColouringBasis_1_l1 α N) 1 2 103 Try.f103 4 9 (buildS i_ColouringBasis_1_l0_p [.n t3_n, .n t3_l, .n t3_c, .n t4_n, .n t4_l, .n t4_c, .n t5_n, .n t5_l, .n t5_c, .i t23, .i t24, .i h0_0, .f h0_1, .f h0_2, .i h1, .p h2, .r h3, .r h4, .p h5, .l h6, .r h7, .p h8]) kn K = i_ColouringBasis_1_l0_s none N t3_n t3_l t3_c t4_n t4_l t4_c t23 h0_0 h0_1 h0_2 h1 h2 h3 h4 h5 h6 t5_n t5_l t5_c t24 h7 h8 (fun t5_n t5_l t5_c t24 h7 h8 => kn (buildS i_ColouringBasis_1_l0_p [.n t3_n, .n t3_l, .n t3_c, .n t4_n, .n t4_l, .n t4_c, .n t5_n, .n t5_l, .n t5_c, .i t23, .i t24, .i h0_0, .f h0_1, .f h0_2, .i h1, .p h2, .r h3, .r h4, .p h5, .l h6, .r h7, .p h8])) (fun t5_n_ t5_l_ t5_c_ h7_ h8_ => K (.exit 0) (buildS i_ColouringBasis_1_l0_o0 [.n t5_n_, .n t5_l_, .n t5_c_, .i h0_0, .f h0_1, .f h0_2, .i h1, .p h2, .r h3, .r h4, .p h5, .l h6, .r h7_, .p h8_])) := by kernel_rfl
theorem i_ColouringBasis_1_l0_loop {α : Type} (N : Nat) (t3_n : Nat) (t3_l : Nat) (t3_c : Nat) (t4_n : Nat) (t4_l : Nat) (t4_c : Nat) (t23 : Int) (h0_0 : Int) (h0_1 : Nat → Int) (h0_2 : Nat → Int) (h1 : Int) (h2 : List (Nat × Nat)) (h3 : List (List Int)) (h4 : List (List Int)) (h5 : List (Nat × Nat)) (h6 : List Int) (K : AExit → St → Option α) : ∀ (m : Nat) (t5_n : Nat) (t5_l : Nat) (t5_c : Nat) (t24 : Int) (h7 : List (List Int)) (h8 : List (Nat × Nat)),
    loopN (trimSt ((E_i_ColouringBasis_1_l1 α N).ann 103 4).head ((E_i_ColouringBasis_1_l1 α N).ann 103 4).grow 9) (bodyK Try.prog (E_i_ColouringBasis_1_l1 α N) 1 2 103 Try.f103 4) m (buildS i_ColouringBasis_1_l0_p [.n t3_n, .n t3_l, .n t3_c, .n t4_n, .n t4_l, .n t4_c, .n t5_n, .n t5_l, .n t5_c, .i t23, .i t24, .i h0_0, .f h0_1, .f h0_2, .i h1, .p h2, .r h3, .r h4, .p h5, .l h6, .r h7, .p h8]) (leaveLoop ((E_i_ColouringBasis_1_l1 α N).ann 103 4) 9 K) = i_ColouringBasis_1_l0 none N t3_n t3_l t3_c t4_n t4_l t4_c t23 h0_0 h0_1 h0_2 h1 h2 h3 h4 h5 h6 m t5_n t5_l t5_c t24 h7 h8 (fun t5_n_ t5_l_ t5_c_ h7_ h8_ => K (.exit 0) (buildS i_ColouringBasis_1_l0_o0 [.n t5_n_, .n t5_l_, .n t5_c_, .i h0_0, .f h0_1, .f h0_2, .i h1, .p h2, .r h3, .r h4, .p h5, .l h6, .r h7_, .p h8_])) := by
  intro m
  induction m with
  | zero => intros; rfl
  | succ m ih =>
    intro t5_n t5_l t5_c t24 h7 h8
    rw [loopN_round]
    refine (i_ColouringBasis_1_l0_round N t3_n t3_l t3_c t4_n t4_l t4_c t5_n t5_l t5_c t23 t24 h0_0 h0_1 h0_2 h1 h2 h3 h4 h5 h6 h7 h8 _ K).trans ?_
    simp only [ih]
    rfl
def E_i_ColouringBasis_1_l0 (α : Type) (N : Nat) : Env α := (E_i_ColouringBasis_1_l1 α N).addLoop2 103 4 (loopSum2 ((E_i_ColouringBasis_1_l1 α N).ann 103 4) 2 i_ColouringBasis_1_l0_p (fun l K => match l with
    | [.n t3_n, .n t3_l, .n t3_c, .n t4_n, .n t4_l, .n t4_c, .n t5_n, .n t5_l, .n t5_c, .i t23, .i t24, .i h0_0, .f h0_1, .f h0_2, .i h1, .p h2, .r h3, .r h4, .p h5, .l h6, .r h7, .p h8] => i_ColouringBasis_1_l0 none N t3_n t3_l t3_c t4_n t4_l t4_c t23 h0_0 h0_1 h0_2 h1 h2 h3 h4 h5 h6 N t5_n t5_l t5_c t24 h7 h8 (fun t5_n_ t5_l_ t5_c_ h7_ h8_ => K (.exit 0) (buildS i_ColouringBasis_1_l0_o0 [.n t5_n_, .n t5_l_, .n t5_c_, .i h0_0, .f h0_1, .f h0_2, .i h1, .p h2, .r h3, .r h4, .p h5, .l h6, .r h7_, .p h8_]))
    | _ => none) ((E_i_ColouringBasis_1_l1 α N).ls 103 4))
theorem E_i_ColouringBasis_1_l0_ok {α : Type} (N : Nat) : EnvOk Try.prog (E_i_ColouringBasis_1_l0 α N) := (E_i_ColouringBasis_1_l1_ok N).addLoop2 Try.func103 (by kernel_rfl) (loopSum_ok prog_mixed prog_names (E_i_ColouringBasis_1_l1_ok N) Try.func103 (by kernel_rfl) (d := 1) (ro := 2) fun l K r h => by
  split at h
  · exact (i_ColouringBasis_1_l0_loop N _ _ _ _ _ _ _ _ _ _ _ _ _ _ _ _ K N _ _ _ _ _ _).trans h
  · cases h)

/-- slices.Clone[[][]int64,[]int64] -/
def slices_Clone_int64_int64_a : SPat := ⟨[.sliceV 0 0 0 1 false], [[.hdr 1], [.pool .i64]]⟩
def slices_Clone_int64_int64_r0 : SPat := ⟨[.slice ⟨⟨3, 0⟩, 0, 0, 0⟩ 0 0 1 true], [[.hdr 1], [.pool .i64], [.pool .i64], [.hdr 2]]⟩
def slices_Clone_int64_int64_r1 : SPat := ⟨[.sliceV 2 0 0 1 false], [[.hdr 1], [.pool .i64], [.hdr 1]]⟩
theorem slices_Clone_int64_int64_run {α : Type} (N : Nat) (s_n : Nat) (s_l : Nat) (s_c : Nat) (h0 : List (Nat × Nat)) (h1 : List (List Int)) (K : AV → Heap → Option α) :
    callK Try.prog (E_i_ColouringBasis_1_l0 α N) 1 105 2 (buildS slices_Clone_int64_int64_a [.n s_n, .n s_l, .n s_c, .p h0, .r h1]).t (buildS slices_Clone_int64_int64_a [.n s_n, .n s_l, .n s_c, .p h0, .r h1]).h K = slices_Clone_int64_int64 none N s_n s_l s_c h0 h1 (fun h2_ h3_ => retK (buildS slices_Clone_int64_int64_r0 [.p h0, .r h1, .r h2_, .p h3_]) K) (fun r_n_ r_l_ r_c_ h2_ => retK (buildS slices_Clone_int64_int64_r1 [.n r_n_, .n r_l_, .n r_c_, .p h0, .r h1, .p h2_]) K) := by kernel_rfl
def E_slices_Clone_int64_int64 (α : Type) (N : Nat) : Env α := (E_i_ColouringBasis_1_l0 α N).addFun 105 true 2 slices_Clone_int64_int64_a (fun l K => match l with
    | [.n s_n, .n s_l, .n s_c, .p h0, .r h1] => slices_Clone_int64_int64 none N s_n s_l s_c h0 h1 (fun h2_ h3_ => retK (buildS slices_Clone_int64_int64_r0 [.p h0, .r h1, .r h2_, .p h3_]) K) (fun r_n_ r_l_ r_c_ h2_ => retK (buildS slices_Clone_int64_int64_r1 [.n r_n_, .n r_l_, .n r_c_, .p h0, .r h1, .p h2_]) K)
    | _ => none)
theorem E_slices_Clone_int64_int64_ok {α : Type} (N : Nat) : EnvOk Try.prog (E_slices_Clone_int64_int64 α N) := (E_i_ColouringBasis_1_l0_ok N).addFun prog_mixed prog_names (d := 1) fun l K r h => by
  split at h
  · exact (slices_Clone_int64_int64_run N _ _ _ _ _ K).trans h
  · cases h

/-- impl.ColouringBasis$1 -/
def i_ColouringBasis_1_a : SPat := ⟨[.ptr ⟨⟨0, 0⟩, 0, 0, 1⟩, .ptr ⟨⟨1, 0⟩, 0, 0, 1⟩], [[.vals [.int .i64], .ints .u8 8, .ints .u8 8], [.vals [.int .i64]]]⟩
def i_ColouringBasis_1_r0 : SPat := ⟨[.slice ⟨⟨2, 0⟩, 0, 0, 0⟩ 0 0 1 true], [[.vals [.int .i64], .ints .u8 8, .ints .u8 8], [.vals [.int .i64]], [.hdr 3], [.pool .i64]]⟩
def i_ColouringBasis_1_r1 : SPat := ⟨[.sliceV 2 0 0 1 false], [[.vals [.int .i64], .ints .u8 8, .ints .u8 8], [.vals [.int .i64]], [.hdr 3], [.pool .i64]]⟩
theorem i_ColouringBasis_1_run {α : Type} (N : Nat) (h0_0 : Int) (h0_1 : Nat → Int) (h0_2 : Nat → Int) (h1 : Int) (K : AV → Heap → Option α) :
    callK Try.prog (E_slices_Clone_int64_int64 α N) 1 103 2 (buildS i_ColouringBasis_1_a [.i h0_0, .f h0_1, .f h0_2, .i h1]).t (buildS i_ColouringBasis_1_a [.i h0_0, .f h0_1, .f h0_2, .i h1]).h K = i_ColouringBasis_1 none N h0_0 h0_1 h0_2 h1 (fun h2_ h3_ => retK (buildS i_ColouringBasis_1_r0 [.i h0_0, .f h0_1, .f h0_2, .i h1, .p h2_, .r h3_]) K) (fun r_n_ r_l_ r_c_ h2_ h3_ => retK (buildS i_ColouringBasis_1_r1 [.n r_n_, .n r_l_, .n r_c_, .i h0_0, .f h0_1, .f h0_2, .i h1, .p h2_, .r h3_]) K) := by kernel_rfl
def E_i_ColouringBasis_1 (α : Type) (N : Nat) : Env α := (E_slices_Clone_int64_int64 α N).addFun 103 true 2 i_ColouringBasis_1_a (fun l K => match l with
    | [.i h0_0, .f h0_1, .f h0_2, .i h1] => i_ColouringBasis_1 none N h0_0 h0_1 h0_2 h1 (fun h2_ h3_ => retK (buildS i_ColouringBasis_1_r0 [.i h0_0, .f h0_1, .f h0_2, .i h1, .p h2_, .r h3_]) K) (fun r_n_ r_l_ r_c_ h2_ h3_ => retK (buildS i_ColouringBasis_1_r1 [.n r_n_, .n r_l_, .n r_c_, .i h0_0, .f h0_1, .f h0_2, .i h1, .p h2_, .r h3_]) K)
    | _ => none)
theorem E_i_ColouringBasis_1_ok {α : Type} (N : Nat) : EnvOk Try.prog (E_i_ColouringBasis_1 α N) := (E_slices_Clone_int64_int64_ok N).addFun prog_mixed prog_names (d := 1) fun l K r h => by
  split at h
  · exact (i_ColouringBasis_1_run N _ _ _ _ K).trans h
  · cases h

/-- impl.coloured[[][]int64] -/
def i_coloured_int64_v1_a : SPat := ⟨[.agg [.vals [.int .i64], .ints .u8 8, .ints .u8 8], .int .i64, .func 103 [.ptr ⟨⟨0, 0⟩, 0, 0, 1⟩, .ptr ⟨⟨1, 0⟩, 0, 0, 1⟩]], [[.vals [.int .i64], .ints .u8 8, .ints .u8 8], [.vals [.int .i64]]]⟩
def i_coloured_int64_v1_r0 : SPat := ⟨[.tuple [.nils, .int .i64]], [[.vals [.int .i64], .ints .u8 8, .ints .u8 8], [.vals [.int .i64]]]⟩
def i_coloured_int64_v1_r1 : SPat := ⟨[.tuple [.slice ⟨⟨2, 0⟩, 0, 0, 0⟩ 0 0 1 true, .int .i64]], [[.vals [.int .i64], .ints .u8 8, .ints .u8 8], [.vals [.int .i64]], [.hdr 3], [.pool .i64]]⟩
def i_coloured_int64_v1_r2 : SPat := ⟨[.tuple [.sliceV 2 0 0 1 false, .int .i64]], [[.vals [.int .i64], .ints .u8 8, .ints .u8 8], [.vals [.int .i64]], [.hdr 3], [.pool .i64]]⟩
theorem i_coloured_int64_v1_run {α : Type} (N : Nat) (g_0 : Int) (g_1 : Nat → Int) (g_2 : Nat → Int) (p : Int) (h0_0 : Int) (h0_1 : Nat → Int) (h0_2 : Nat → Int) (h1 : Int) (K : AV → Heap → Option α) :
    callK Try.prog (E_i_ColouringBasis_1 α N) 1 102 2 (buildS i_coloured_int64_v1_a [.i g_0, .f g_1, .f g_2, .i p, .i h0_0, .f h0_1, .f h0_2, .i h1]).t (buildS i_coloured_int64_v1_a [.i g_0, .f g_1, .f g_2, .i p, .i h0_0, .f h0_1, .f h0_2, .i h1]).h K = i_coloured_int64_v1 none N g_0 g_1 g_2 p h0_0 h0_1 h0_2 h1 (fun r_1_ => retK (buildS i_coloured_int64_v1_r0 [.i r_1_, .i h0_0, .f h0_1, .f h0_2, .i h1]) K) (fun r_1_ h2_ h3_ => retK (buildS i_coloured_int64_v1_r1 [.i r_1_, .i h0_0, .f h0_1, .f h0_2, .i h1, .p h2_, .r h3_]) K) (fun r_0_n_ r_0_l_ r_0_c_ r_1_ h2_ h3_ => retK (buildS i_coloured_int64_v1_r2 [.n r_0_n_, .n r_0_l_, .n r_0_c_, .i r_1_, .i h0_0, .f h0_1, .f h0_2, .i h1, .p h2_, .r h3_]) K) := by kernel_rfl
def E_i_coloured_int64_v1 (α : Type) (N : Nat) : Env α := (E_i_ColouringBasis_1 α N).addFun 102 true 2 i_coloured_int64_v1_a (fun l K => match l with
    | [.i g_0, .f g_1, .f g_2, .i p, .i h0_0, .f h0_1, .f h0_2, .i h1] => i_coloured_int64_v1 none N g_0 g_1 g_2 p h0_0 h0_1 h0_2 h1 (fun r_1_ => retK (buildS i_coloured_int64_v1_r0 [.i r_1_, .i h0_0, .f h0_1, .f h0_2, .i h1]) K) (fun r_1_ h2_ h3_ => retK (buildS i_coloured_int64_v1_r1 [.i r_1_, .i h0_0, .f h0_1, .f h0_2, .i h1, .p h2_, .r h3_]) K) (fun r_0_n_ r_0_l_ r_0_c_ r_1_ h2_ h3_ => retK (buildS i_coloured_int64_v1_r2 [.n r_0_n_, .n r_0_l_, .n r_0_c_, .i r_1_, .i h0_0, .f h0_1, .f h0_2, .i h1, .p h2_, .r h3_]) K)
    | _ => none)
theorem E_i_coloured_int64_v1_ok {α : Type} (N : Nat) : EnvOk Try.prog (E_i_coloured_int64_v1 α N) := (E_i_ColouringBasis_1_ok N).addFun prog_mixed prog_names (d := 1) fun l K r h => by
  split at h
  · exact (i_coloured_int64_v1_run N _ _ _ _ _ _ _ _ K).trans h
  · cases h

/-- impl.ColouringBasis -/
def i_ColouringBasis_a : SPat := ⟨[.agg [.vals [.int .i64], .ints .u8 8, .ints .u8 8], .int .i64], []⟩
def i_ColouringBasis_r0 : SPat := ⟨[.tuple [.nils, .int .i64]], []⟩
def i_ColouringBasis_r1 : SPat := ⟨[.tuple [.slice ⟨⟨0, 0⟩, 0, 0, 0⟩ 0 0 1 true, .int .i64]], [[.hdr 1], [.pool .i64]]⟩
def i_ColouringBasis_r2 : SPat := ⟨[.tuple [.sliceV 0 0 0 1 false, .int .i64]], [[.hdr 1], [.pool .i64]]⟩
theorem i_ColouringBasis_run {α : Type} (N : Nat) (g_0 : Int) (g_1 : Nat → Int) (g_2 : Nat → Int) (p : Int) (K : AV → Heap → Option α) :
    callK Try.prog (E_i_coloured_int64_v1 α N) 1 47 0 (buildS i_ColouringBasis_a [.i g_0, .f g_1, .f g_2, .i p]).t (buildS i_ColouringBasis_a [.i g_0, .f g_1, .f g_2, .i p]).h K = i_ColouringBasis none N g_0 g_1 g_2 p (fun r_1_ => retK (buildS i_ColouringBasis_r0 [.i r_1_]) K) (fun r_1_ h0_ h1_ => retK (buildS i_ColouringBasis_r1 [.i r_1_, .p h0_, .r h1_]) K) (fun r_0_n_ r_0_l_ r_0_c_ r_1_ h0_ h1_ => retK (buildS i_ColouringBasis_r2 [.n r_0_n_, .n r_0_l_, .n r_0_c_, .i r_1_, .p h0_, .r h1_]) K) := by kernel_rfl
def E_i_ColouringBasis (α : Type) (N : Nat) : Env α := (E_i_coloured_int64_v1 α N).addFun 47 true 0 i_ColouringBasis_a (fun l K => match l with
    | [.i g_0, .f g_1, .f g_2, .i p] => i_ColouringBasis none N g_0 g_1 g_2 p (fun r_1_ => retK (buildS i_ColouringBasis_r0 [.i r_1_]) K) (fun r_1_ h0_ h1_ => retK (buildS i_ColouringBasis_r1 [.i r_1_, .p h0_, .r h1_]) K) (fun r_0_n_ r_0_l_ r_0_c_ r_1_ h0_ h1_ => retK (buildS i_ColouringBasis_r2 [.n r_0_n_, .n r_0_l_, .n r_0_c_, .i r_1_, .p h0_, .r h1_]) K)
    | _ => none)
theorem E_i_ColouringBasis_ok {α : Type} (N : Nat) : EnvOk Try.prog (E_i_ColouringBasis α N) := (E_i_coloured_int64_v1_ok N).addFun prog_mixed prog_names (d := 1) fun l K r h => by
  split at h
  · exact (i_ColouringBasis_run N _ _ _ _ K).trans h
  · cases h

def A_w_eqInt64SS_l0 (α : Type) (N : Nat) : Env α := (E_i_ColouringBasis α N).addAnn 23 4 { head := [0, 1, 5], grow := [], out := [], ret := [4] }
theorem A_w_eqInt64SS_l0_ok {α : Type} (N : Nat) : EnvOk Try.prog (A_w_eqInt64SS_l0 α N) := (E_i_ColouringBasis_ok N).addAnn

/-- laws.eqInt64SS, loop -/
def w_eqInt64SS_l0_p : SPat := ⟨[.nils, .nils, .undef, .undef, .undef, .int .i64] ++ List.replicate 21 .undef, []⟩
def w_eqInt64SS_l0_o0 : SPat := ⟨[] ++ List.replicate 27 .undef, []⟩
theorem w_eqInt64SS_l0_round {α : Type} (N : Nat) (i : Int) (kn : St → Option α) (K : AExit → St → Option α) :
    roundK Try.prog (A_w_eqInt64SS_l0 α N) 1 0 23 Try.f23 4 0 (buildS w_eqInt64SS_l0_p [.i i]) kn K = w_eqInt64SS_l0_s none i  (kn (buildS w_eqInt64SS_l0_p [.i i])) (K (.exit 0) (buildS w_eqInt64SS_l0_o0 [])) := by kernel_rfl
theorem w_eqInt64SS_l0_loop {α : Type} (N : Nat) (i : Int) (K : AExit → St → Option α) : ∀ (m : Nat),
    loopN (trimSt ((A_w_eqInt64SS_l0 α N).ann 23 4).head ((A_w_eqInt64SS_l0 α N).ann 23 4).grow 0) (bodyK Try.prog (A_w_eqInt64SS_l0 α N) 1 0 23 Try.f23 4) m (buildS w_eqInt64SS_l0_p [.i i]) (leaveLoop ((A_w_eqInt64SS_l0 α N).ann 23 4) 0 K) = w_eqInt64SS_l0 none i m  (K (.exit 0) (buildS w_eqInt64SS_l0_o0 [])) := by
  intro m
  induction m with
  | zero => intros; rfl
  | succ m ih =>
    rw [loopN_round]
    refine (w_eqInt64SS_l0_round N i _ K).trans ?_
    simp only [ih]
    rfl
def E_w_eqInt64SS_l0 (α : Type) (N : Nat) : Env α := (A_w_eqInt64SS_l0 α N).addLoop2 23 4 (loopSum2 ((A_w_eqInt64SS_l0 α N).ann 23 4) 0 w_eqInt64SS_l0_p (fun l K => match l with
    | [.i i] => w_eqInt64SS_l0 none i N  (K (.exit 0) (buildS w_eqInt64SS_l0_o0 []))
    | _ => none) ((A_w_eqInt64SS_l0 α N).ls 23 4))
theorem E_w_eqInt64SS_l0_ok {α : Type} (N : Nat) : EnvOk Try.prog (E_w_eqInt64SS_l0 α N) := (A_w_eqInt64SS_l0_ok N).addLoop2 Try.func23 (by kernel_rfl) (loopSum_ok prog_mixed prog_names (A_w_eqInt64SS_l0_ok N) Try.func23 (by kernel_rfl) (d := 1) (ro := 0) fun l K r h => by
  split at h
  · exact (w_eqInt64SS_l0_loop N _ K N ).trans h
  · cases h)

/-- laws.eqInt64SS -/
def w_eqInt64SS_a : SPat := ⟨[.nils, .nils], []⟩
def w_eqInt64SS_r0 : SPat := ⟨[.bool], []⟩
theorem w_eqInt64SS_run {α : Type} (N : Nat)  (K : AV → Heap → Option α) :
    callK Try.prog (E_w_eqInt64SS_l0 α N) 1 23 0 (buildS w_eqInt64SS_a []).t (buildS w_eqInt64SS_a []).h K = w_eqInt64SS none N  (fun r__ => retK (buildS w_eqInt64SS_r0 [.b r__]) K) := by kernel_rfl
def E_w_eqInt64SS (α : Type) (N : Nat) : Env α := (E_w_eqInt64SS_l0 α N).addFun 23 true 0 w_eqInt64SS_a (fun l K => match l with
    | [] => w_eqInt64SS none N  (fun r__ => retK (buildS w_eqInt64SS_r0 [.b r__]) K)
    | _ => none)
theorem E_w_eqInt64SS_ok {α : Type} (N : Nat) : EnvOk Try.prog (E_w_eqInt64SS α N) := (E_w_eqInt64SS_l0_ok N).addFun prog_mixed prog_names (d := 1) fun l K r h => by
  split at h
  · exact (w_eqInt64SS_run N  K).trans h
  · cases h

def A_w_markInt64SS_l0 (α : Type) (N : Nat) : Env α := (E_w_eqInt64SS α N).addAnn 24 2 { head := [0, 1, 5], grow := [], out := [1], ret := [4] }
theorem A_w_markInt64SS_l0_ok {α : Type} (N : Nat) : EnvOk Try.prog (A_w_markInt64SS_l0 α N) := (E_w_eqInt64SS_ok N).addAnn

/-- laws.markInt64SS, loop -/
def w_markInt64SS_l0_p : SPat := ⟨[.nils, .int .i64, .undef, .undef, .undef, .int .i64] ++ List.replicate 13 .undef, []⟩
def w_markInt64SS_l0_o0 : SPat := ⟨[.undef, .int .i64] ++ List.replicate 17 .undef, []⟩
theorem w_markInt64SS_l0_round {α : Type} (N : Nat) (k : Int) (i : Int) (kn : St → Option α) (K : AExit → St → Option α) :
    roundK Try.prog (A_w_markInt64SS_l0 α N) 1 0 24 Try.f24 2 0 (buildS w_markInt64SS_l0_p [.i k, .i i]) kn K = w_markInt64SS_l0_s none k i  (kn (buildS w_markInt64SS_l0_p [.i k, .i i])) (K (.exit 0) (buildS w_markInt64SS_l0_o0 [.i k])) := by kernel_rfl
theorem w_markInt64SS_l0_loop {α : Type} (N : Nat) (k : Int) (i : Int) (K : AExit → St → Option α) : ∀ (m : Nat),
    loopN (trimSt ((A_w_markInt64SS_l0 α N).ann 24 2).head ((A_w_markInt64SS_l0 α N).ann 24 2).grow 0) (bodyK Try.prog (A_w_markInt64SS_l0 α N) 1 0 24 Try.f24 2) m (buildS w_markInt64SS_l0_p [.i k, .i i]) (leaveLoop ((A_w_markInt64SS_l0 α N).ann 24 2) 0 K) = w_markInt64SS_l0 none k i m  (K (.exit 0) (buildS w_markInt64SS_l0_o0 [.i k])) := by
  intro m
  induction m with
  | zero => intros; rfl
  | succ m ih =>
    rw [loopN_round]
    refine (w_markInt64SS_l0_round N k i _ K).trans ?_
    simp only [ih]
    rfl
def E_w_markInt64SS_l0 (α : Type) (N : Nat) : Env α := (A_w_markInt64SS_l0 α N).addLoop2 24 2 (loopSum2 ((A_w_markInt64SS_l0 α N).ann 24 2) 0 w_markInt64SS_l0_p (fun l K => match l with
    | [.i k, .i i] => w_markInt64SS_l0 none k i N  (K (.exit 0) (buildS w_markInt64SS_l0_o0 [.i k]))
    | _ => none) ((A_w_markInt64SS_l0 α N).ls 24 2))
theorem E_w_markInt64SS_l0_ok {α : Type} (N : Nat) : EnvOk Try.prog (E_w_markInt64SS_l0 α N) := (A_w_markInt64SS_l0_ok N).addLoop2 Try.func24 (by kernel_rfl) (loopSum_ok prog_mixed prog_names (A_w_markInt64SS_l0_ok N) Try.func24 (by kernel_rfl) (d := 1) (ro := 0) fun l K r h => by
  split at h
  · exact (w_markInt64SS_l0_loop N _ _ K N ).trans h
  · cases h)

/-- laws.markInt64SS -/
def w_markInt64SS_a : SPat := ⟨[.nils, .int .i64], []⟩
def w_markInt64SS_r0 : SPat := ⟨[.int .i64], []⟩
theorem w_markInt64SS_run {α : Type} (N : Nat) (k : Int) (K : AV → Heap → Option α) :
    callK Try.prog (E_w_markInt64SS_l0 α N) 1 24 0 (buildS w_markInt64SS_a [.i k]).t (buildS w_markInt64SS_a [.i k]).h K = w_markInt64SS none N k (retK (buildS w_markInt64SS_r0 [.i k]) K) := by kernel_rfl
def E_w_markInt64SS (α : Type) (N : Nat) : Env α := (E_w_markInt64SS_l0 α N).addFun 24 false 0 w_markInt64SS_a (fun l K => match l with
    | [.i k] => w_markInt64SS none N k (retK (buildS w_markInt64SS_r0 [.i k]) K)
    | _ => none)
theorem E_w_markInt64SS_ok {α : Type} (N : Nat) : EnvOk Try.prog (E_w_markInt64SS α N) := (E_w_markInt64SS_l0_ok N).addFun prog_mixed prog_names (d := 1) fun l K r h => by
  split at h
  · exact (w_markInt64SS_run N _ K).trans h
  · cases h

def A_w_heldInt64SS_l0 (α : Type) (N : Nat) : Env α := (E_w_markInt64SS α N).addAnn 25 2 { head := [0, 1, 5], grow := [], out := [1], ret := [4] }
theorem A_w_heldInt64SS_l0_ok {α : Type} (N : Nat) : EnvOk Try.prog (A_w_heldInt64SS_l0 α N) := (E_w_markInt64SS_ok N).addAnn

/-- laws.heldInt64SS, loop -/
def w_heldInt64SS_l0_p : SPat := ⟨[.nils, .int .i64, .undef, .undef, .undef, .int .i64] ++ List.replicate 15 .undef, []⟩
def w_heldInt64SS_l0_o0 : SPat := ⟨[.undef, .int .i64] ++ List.replicate 19 .undef, []⟩
theorem w_heldInt64SS_l0_round {α : Type} (N : Nat) (k : Int) (i : Int) (kn : St → Option α) (K : AExit → St → Option α) :
    roundK Try.prog (A_w_heldInt64SS_l0 α N) 1 0 25 Try.f25 2 0 (buildS w_heldInt64SS_l0_p [.i k, .i i]) kn K = w_heldInt64SS_l0_s none k i  (kn (buildS w_heldInt64SS_l0_p [.i k, .i i])) (K (.exit 0) (buildS w_heldInt64SS_l0_o0 [.i k])) := by kernel_rfl
theorem w_heldInt64SS_l0_loop {α : Type} (N : Nat) (k : Int) (i : Int) (K : AExit → St → Option α) : ∀ (m : Nat),
    loopN (trimSt ((A_w_heldInt64SS_l0 α N).ann 25 2).head ((A_w_heldInt64SS_l0 α N).ann 25 2).grow 0) (bodyK Try.prog (A_w_heldInt64SS_l0 α N) 1 0 25 Try.f25 2) m (buildS w_heldInt64SS_l0_p [.i k, .i i]) (leaveLoop ((A_w_heldInt64SS_l0 α N).ann 25 2) 0 K) = w_heldInt64SS_l0 none k i m  (K (.exit 0) (buildS w_heldInt64SS_l0_o0 [.i k])) := by
  intro m
  induction m with
  | zero => intros; rfl
  | succ m ih =>
    rw [loopN_round]
    refine (w_heldInt64SS_l0_round N k i _ K).trans ?_
    simp only [ih]
    rfl
def E_w_heldInt64SS_l0 (α : Type) (N : Nat) : Env α := (A_w_heldInt64SS_l0 α N).addLoop2 25 2 (loopSum2 ((A_w_heldInt64SS_l0 α N).ann 25 2) 0 w_heldInt64SS_l0_p (fun l K => match l with
    | [.i k, .i i] => w_heldInt64SS_l0 none k i N  (K (.exit 0) (buildS w_heldInt64SS_l0_o0 [.i k]))
    | _ => none) ((A_w_heldInt64SS_l0 α N).ls 25 2))
theorem E_w_heldInt64SS_l0_ok {α : Type} (N : Nat) : EnvOk Try.prog (E_w_heldInt64SS_l0 α N) := (A_w_heldInt64SS_l0_ok N).addLoop2 Try.func25 (by kernel_rfl) (loopSum_ok prog_mixed prog_names (A_w_heldInt64SS_l0_ok N) Try.func25 (by kernel_rfl) (d := 1) (ro := 0) fun l K r h => by
  split at h
  · exact (w_heldInt64SS_l0_loop N _ _ K N ).trans h
  · cases h)

/-- laws.heldInt64SS -/
def w_heldInt64SS_a : SPat := ⟨[.nils, .int .i64], []⟩
def w_heldInt64SS_r0 : SPat := ⟨[.int .i64], []⟩
theorem w_heldInt64SS_run {α : Type} (N : Nat) (k : Int) (K : AV → Heap → Option α) :
    callK Try.prog (E_w_heldInt64SS_l0 α N) 1 25 0 (buildS w_heldInt64SS_a [.i k]).t (buildS w_heldInt64SS_a [.i k]).h K = w_heldInt64SS none N k (retK (buildS w_heldInt64SS_r0 [.i k]) K) := by kernel_rfl
def E_w_heldInt64SS (α : Type) (N : Nat) : Env α := (E_w_heldInt64SS_l0 α N).addFun 25 true 0 w_heldInt64SS_a (fun l K => match l with
    | [.i k] => w_heldInt64SS none N k (retK (buildS w_heldInt64SS_r0 [.i k]) K)
    | _ => none)
theorem E_w_heldInt64SS_ok {α : Type} (N : Nat) : EnvOk Try.prog (E_w_heldInt64SS α N) := (E_w_heldInt64SS_l0_ok N).addFun prog_mixed prog_names (d := 1) fun l K r h => by
  split at h
  · exact (w_heldInt64SS_run N _ K).trans h
  · cases h

/-- laws.eqInt64SS, loop -/
def w_eqInt64SS_l0_s5_p : SPat := ⟨[.sliceV 0 0 0 1 true, .nils, .undef, .undef, .undef, .int .i64] ++ List.replicate 21 .undef, [[.hdr 1], [.pool .i64]]⟩
def w_eqInt64SS_l0_s5_o0 : SPat := ⟨[] ++ List.replicate 27 .undef, [[.hdr 1], [.pool .i64]]⟩
theorem w_eqInt64SS_l0_s5_round {α : Type} (N : Nat) (a_n : Nat) (a_l : Nat) (a_c : Nat) (i : Int) (h0 : List (Nat × Nat)) (h1 : List (List Int)) (kn : St → Option α) (K : AExit → St → Option α) :
    roundK Try.prog (E_w_heldInt64SS α N) 1 2 23 Try.f23 4 2 (buildS w_eqInt64SS_l0_s5_p [.n a_n, .n a_l, .n a_c, .i i, .p h0, .r h1]) kn K = w_eqInt64SS_l0_s5_s none a_n a_l a_c i h0 h1  (kn (buildS w_eqInt64SS_l0_s5_p [.n a_n, .n a_l, .n a_c, .i i, .p h0, .r h1])) (K (.exit 0) (buildS w_eqInt64SS_l0_s5_o0 [.p h0, .r h1])) := by kernel_rfl
theorem w_eqInt64SS_l0_s5_loop {α : Type} (N : Nat) (a_n : Nat) (a_l : Nat) (a_c : Nat) (i : Int) (h0 : List (Nat × Nat)) (h1 : List (List Int)) (K : AExit → St → Option α) : ∀ (m : Nat),
    loopN (trimSt ((E_w_heldInt64SS α N).ann 23 4).head ((E_w_heldInt64SS α N).ann 23 4).grow 2) (bodyK Try.prog (E_w_heldInt64SS α N) 1 2 23 Try.f23 4) m (buildS w_eqInt64SS_l0_s5_p [.n a_n, .n a_l, .n a_c, .i i, .p h0, .r h1]) (leaveLoop ((E_w_heldInt64SS α N).ann 23 4) 2 K) = w_eqInt64SS_l0_s5 none a_n a_l a_c i h0 h1 m  (K (.exit 0) (buildS w_eqInt64SS_l0_s5_o0 [.p h0, .r h1])) := by
  intro m
  induction m with
  | zero => intros; rfl
  | succ m ih =>
    rw [loopN_round]
    refine (w_eqInt64SS_l0_s5_round N a_n a_l a_c i h0 h1 _ K).trans ?_
    simp only [ih]
    rfl
def E_w_eqInt64SS_l0_s5 (α : Type) (N : Nat) : Env α := (E_w_heldInt64SS α N).addLoop2 23 4 (loopSum2 ((E_w_heldInt64SS α N).ann 23 4) 2 w_eqInt64SS_l0_s5_p (fun l K => match l with
    | [.n a_n, .n a_l, .n a_c, .i i, .p h0, .r h1] => w_eqInt64SS_l0_s5 none a_n a_l a_c i h0 h1 N  (K (.exit 0) (buildS w_eqInt64SS_l0_s5_o0 [.p h0, .r h1]))
    | _ => none) ((E_w_heldInt64SS α N).ls 23 4))
theorem E_w_eqInt64SS_l0_s5_ok {α : Type} (N : Nat) : EnvOk Try.prog (E_w_eqInt64SS_l0_s5 α N) := (E_w_heldInt64SS_ok N).addLoop2 Try.func23 (by kernel_rfl) (loopSum_ok prog_mixed prog_names (E_w_heldInt64SS_ok N) Try.func23 (by kernel_rfl) (d := 1) (ro := 2) fun l K r h => by
  split at h
  · exact (w_eqInt64SS_l0_s5_loop N _ _ _ _ _ _ K N ).trans h
  · cases h)

/-- laws.eqInt64SS -/
def w_eqInt64SS_s5_a : SPat := ⟨[.sliceV 0 0 0 1 true, .nils], [[.hdr 1], [.pool .i64]]⟩
def w_eqInt64SS_s5_r0 : SPat := ⟨[.bool], [[.hdr 1], [.pool .i64]]⟩
theorem w_eqInt64SS_s5_run {α : Type} (N : Nat) (a_n : Nat) (a_l : Nat) (a_c : Nat) (h0 : List (Nat × Nat)) (h1 : List (List Int)) (K : AV → Heap → Option α) :
    callK Try.prog (E_w_eqInt64SS_l0_s5 α N) 1 23 2 (buildS w_eqInt64SS_s5_a [.n a_n, .n a_l, .n a_c, .p h0, .r h1]).t (buildS w_eqInt64SS_s5_a [.n a_n, .n a_l, .n a_c, .p h0, .r h1]).h K = w_eqInt64SS_s5 none N a_n a_l a_c h0 h1 (fun r__ => retK (buildS w_eqInt64SS_s5_r0 [.b r__, .p h0, .r h1]) K) := by kernel_rfl
def E_w_eqInt64SS_s5 (α : Type) (N : Nat) : Env α := (E_w_eqInt64SS_l0_s5 α N).addFun 23 true 2 w_eqInt64SS_s5_a (fun l K => match l with
    | [.n a_n, .n a_l, .n a_c, .p h0, .r h1] => w_eqInt64SS_s5 none N a_n a_l a_c h0 h1 (fun r__ => retK (buildS w_eqInt64SS_s5_r0 [.b r__, .p h0, .r h1]) K)
    | _ => none)
theorem E_w_eqInt64SS_s5_ok {α : Type} (N : Nat) : EnvOk Try.prog (E_w_eqInt64SS_s5 α N) := (E_w_eqInt64SS_l0_s5_ok N).addFun prog_mixed prog_names (d := 1) fun l K r h => by
  split at h
  · exact (w_eqInt64SS_s5_run N _ _ _ _ _ K).trans h
  · cases h

/-- laws.eqInt64SS, loop -/
def w_eqInt64SS_l0_s2_p : SPat := ⟨[.sliceV 0 0 0 1 false, .nils, .undef, .undef, .undef, .int .i64] ++ List.replicate 21 .undef, [[.hdr 1], [.pool .i64]]⟩
def w_eqInt64SS_l0_s2_o0 : SPat := ⟨[] ++ List.replicate 27 .undef, [[.hdr 1], [.pool .i64]]⟩
theorem w_eqInt64SS_l0_s2_round {α : Type} (N : Nat) (a_n : Nat) (a_l : Nat) (a_c : Nat) (i : Int) (h0 : List (Nat × Nat)) (h1 : List (List Int)) (kn : St → Option α) (K : AExit → St → Option α) :
    roundK Try.prog (E_w_eqInt64SS_s5 α N) 1 2 23 Try.f23 4 2 (buildS w_eqInt64SS_l0_s2_p [.n a_n, .n a_l, .n a_c, .i i, .p h0, .r h1]) kn K = w_eqInt64SS_l0_s2_s none a_n a_l a_c i h0 h1  (kn (buildS w_eqInt64SS_l0_s2_p [.n a_n, .n a_l, .n a_c, .i i, .p h0, .r h1])) (K (.exit 0) (buildS w_eqInt64SS_l0_s2_o0 [.p h0, .r h1])) := by kernel_rfl
theorem w_eqInt64SS_l0_s2_loop {α : Type} (N : Nat) (a_n : Nat) (a_l : Nat) (a_c : Nat) (i : Int) (h0 : List (Nat × Nat)) (h1 : List (List Int)) (K : AExit → St → Option α) : ∀ (m : Nat),
    loopN (trimSt ((E_w_eqInt64SS_s5 α N).ann 23 4).head ((E_w_eqInt64SS_s5 α N).ann 23 4).grow 2) (bodyK Try.prog (E_w_eqInt64SS_s5 α N) 1 2 23 Try.f23 4) m (buildS w_eqInt64SS_l0_s2_p [.n a_n, .n a_l, .n a_c, .i i, .p h0, .r h1]) (leaveLoop ((E_w_eqInt64SS_s5 α N).ann 23 4) 2 K) = w_eqInt64SS_l0_s2 none a_n a_l a_c i h0 h1 m  (K (.exit 0) (buildS w_eqInt64SS_l0_s2_o0 [.p h0, .r h1])) := by
  intro m
  induction m with
  | zero => intros; rfl
  | succ m ih =>
    rw [loopN_round]
    refine (w_eqInt64SS_l0_s2_round N a_n a_l a_c i h0 h1 _ K).trans ?_
    simp only [ih]
    rfl
def E_w_eqInt64SS_l0_s2 (α : Type) (N : Nat) : Env α := (E_w_eqInt64SS_s5 α N).addLoop2 23 4 (loopSum2 ((E_w_eqInt64SS_s5 α N).ann 23 4) 2 w_eqInt64SS_l0_s2_p (fun l K => match l with
    | [.n a_n, .n a_l, .n a_c, .i i, .p h0, .r h1] => w_eqInt64SS_l0_s2 none a_n a_l a_c i h0 h1 N  (K (.exit 0) (buildS w_eqInt64SS_l0_s2_o0 [.p h0, .r h1]))
    | _ => none) ((E_w_eqInt64SS_s5 α N).ls 23 4))
theorem E_w_eqInt64SS_l0_s2_ok {α : Type} (N : Nat) : EnvOk Try.prog (E_w_eqInt64SS_l0_s2 α N) := (E_w_eqInt64SS_s5_ok N).addLoop2 Try.func23 (by kernel_rfl) (loopSum_ok prog_mixed prog_names (E_w_eqInt64SS_s5_ok N) Try.func23 (by kernel_rfl) (d := 1) (ro := 2) fun l K r h => by
  split at h
  · exact (w_eqInt64SS_l0_s2_loop N _ _ _ _ _ _ K N ).trans h
  · cases h)

/-- laws.eqInt64SS -/
def w_eqInt64SS_s2_a : SPat := ⟨[.sliceV 0 0 0 1 false, .nils], [[.hdr 1], [.pool .i64]]⟩
def w_eqInt64SS_s2_r0 : SPat := ⟨[.bool], [[.hdr 1], [.pool .i64]]⟩
theorem w_eqInt64SS_s2_run {α : Type} (N : Nat) (a_n : Nat) (a_l : Nat) (a_c : Nat) (h0 : List (Nat × Nat)) (h1 : List (List Int)) (K : AV → Heap → Option α) :
    callK Try.prog (E_w_eqInt64SS_l0_s2 α N) 1 23 2 (buildS w_eqInt64SS_s2_a [.n a_n, .n a_l, .n a_c, .p h0, .r h1]).t (buildS w_eqInt64SS_s2_a [.n a_n, .n a_l, .n a_c, .p h0, .r h1]).h K = w_eqInt64SS_s2 none N a_n a_l a_c h0 h1 (fun r__ => retK (buildS w_eqInt64SS_s2_r0 [.b r__, .p h0, .r h1]) K) := by kernel_rfl
def E_w_eqInt64SS_s2 (α : Type) (N : Nat) : Env α := (E_w_eqInt64SS_l0_s2 α N).addFun 23 true 2 w_eqInt64SS_s2_a (fun l K => match l with
    | [.n a_n, .n a_l, .n a_c, .p h0, .r h1] => w_eqInt64SS_s2 none N a_n a_l a_c h0 h1 (fun r__ => retK (buildS w_eqInt64SS_s2_r0 [.b r__, .p h0, .r h1]) K)
    | _ => none)
theorem E_w_eqInt64SS_s2_ok {α : Type} (N : Nat) : EnvOk Try.prog (E_w_eqInt64SS_s2 α N) := (E_w_eqInt64SS_l0_s2_ok N).addFun prog_mixed prog_names (d := 1) fun l K r h => by
  split at h
  · exact (w_eqInt64SS_s2_run N _ _ _ _ _ K).trans h
  · cases h

def A_w_markInt64S_l0 (α : Type) (N : Nat) : Env α := (E_w_eqInt64SS_s2 α N).addAnn 40 2 { head := [0, 1, 5], grow := [], out := [1], ret := [4] }
theorem A_w_markInt64S_l0_ok {α : Type} (N : Nat) : EnvOk Try.prog (A_w_markInt64S_l0 α N) := (E_w_eqInt64SS_s2_ok N).addAnn

/-- laws.markInt64S, loop -/
def w_markInt64S_l0_s6_p : SPat := ⟨[.sliceR 0 1 false, .int .i64, .undef, .undef, .undef, .int .i64] ++ List.replicate 13 .undef, [[.pool .i64]]⟩
def w_markInt64S_l0_s6_o0 : SPat := ⟨[.undef, .int .i64] ++ List.replicate 17 .undef, [[.pool .i64]]⟩
theorem w_markInt64S_l0_s6_round {α : Type} (N : Nat) (a_r : Nat) (a_o : Nat) (a_n : Nat) (a_l : Nat) (a_c : Nat) (k : Int) (i : Int) (h0 : List (List Int)) (kn : St → Option α) (K : AExit → St → Option α) :
    roundK Try.prog (A_w_markInt64S_l0 α N) 1 0 40 Try.f40 2 1 (buildS w_markInt64S_l0_s6_p [.n a_r, .n a_o, .n a_n, .n a_l, .n a_c, .i k, .i i, .r h0]) kn K = w_markInt64S_l0_s6_s none a_r a_o a_n a_l a_c k i h0 (fun k i h0 => kn (buildS w_markInt64S_l0_s6_p [.n a_r, .n a_o, .n a_n, .n a_l, .n a_c, .i k, .i i, .r h0])) (fun k_ h0_ => K (.exit 0) (buildS w_markInt64S_l0_s6_o0 [.i k_, .r h0_])) := by kernel_rfl
theorem w_markInt64S_l0_s6_loop {α : Type} (N : Nat) (a_r : Nat) (a_o : Nat) (a_n : Nat) (a_l : Nat) (a_c : Nat) (K : AExit → St → Option α) : ∀ (m : Nat) (k : Int) (i : Int) (h0 : List (List Int)),
    loopN (trimSt ((A_w_markInt64S_l0 α N).ann 40 2).head ((A_w_markInt64S_l0 α N).ann 40 2).grow 1) (bodyK Try.prog (A_w_markInt64S_l0 α N) 1 0 40 Try.f40 2) m (buildS w_markInt64S_l0_s6_p [.n a_r, .n a_o, .n a_n, .n a_l, .n a_c, .i k, .i i, .r h0]) (leaveLoop ((A_w_markInt64S_l0 α N).ann 40 2) 1 K) = w_markInt64S_l0_s6 none a_r a_o a_n a_l a_c m k i h0 (fun k_ h0_ => K (.exit 0) (buildS w_markInt64S_l0_s6_o0 [.i k_, .r h0_])) := by
  intro m
  induction m with
  | zero => intros; rfl
  | succ m ih =>
    intro k i h0
    rw [loopN_round]
    refine (w_markInt64S_l0_s6_round N a_r a_o a_n a_l a_c k i h0 _ K).trans ?_
    simp only [ih]
    rfl
def E_w_markInt64S_l0_s6 (α : Type) (N : Nat) : Env α := (A_w_markInt64S_l0 α N).addLoop2 40 2 (loopSum2 ((A_w_markInt64S_l0 α N).ann 40 2) 0 w_markInt64S_l0_s6_p (fun l K => match l with
    | [.n a_r, .n a_o, .n a_n, .n a_l, .n a_c, .i k, .i i, .r h0] => w_markInt64S_l0_s6 none a_r a_o a_n a_l a_c N k i h0 (fun k_ h0_ => K (.exit 0) (buildS w_markInt64S_l0_s6_o0 [.i k_, .r h0_]))
    | _ => none) ((A_w_markInt64S_l0 α N).ls 40 2))
theorem E_w_markInt64S_l0_s6_ok {α : Type} (N : Nat) : EnvOk Try.prog (E_w_markInt64S_l0_s6 α N) := (A_w_markInt64S_l0_ok N).addLoop2 Try.func40 (by kernel_rfl) (loopSum_ok prog_mixed prog_names (A_w_markInt64S_l0_ok N) Try.func40 (by kernel_rfl) (d := 1) (ro := 0) fun l K r h => by
  split at h
  · exact (w_markInt64S_l0_s6_loop N _ _ _ _ _ K N _ _ _).trans h
  · cases h)

/-- laws.markInt64S -/
def w_markInt64S_s6_a : SPat := ⟨[.sliceR 0 1 false, .int .i64], [[.pool .i64]]⟩
def w_markInt64S_s6_r0 : SPat := ⟨[.int .i64], [[.pool .i64]]⟩
theorem w_markInt64S_s6_run {α : Type} (N : Nat) (a_r : Nat) (a_o : Nat) (a_n : Nat) (a_l : Nat) (a_c : Nat) (k : Int) (h0 : List (List Int)) (K : AV → Heap → Option α) :
    callK Try.prog (E_w_markInt64S_l0_s6 α N) 1 40 0 (buildS w_markInt64S_s6_a [.n a_r, .n a_o, .n a_n, .n a_l, .n a_c, .i k, .r h0]).t (buildS w_markInt64S_s6_a [.n a_r, .n a_o, .n a_n, .n a_l, .n a_c, .i k, .r h0]).h K = w_markInt64S_s6 none N a_r a_o a_n a_l a_c k h0 (fun r__ h0_ => retK (buildS w_markInt64S_s6_r0 [.i r__, .r h0_]) K) := by kernel_rfl
def E_w_markInt64S_s6 (α : Type) (N : Nat) : Env α := (E_w_markInt64S_l0_s6 α N).addFun 40 false 0 w_markInt64S_s6_a (fun l K => match l with
    | [.n a_r, .n a_o, .n a_n, .n a_l, .n a_c, .i k, .r h0] => w_markInt64S_s6 none N a_r a_o a_n a_l a_c k h0 (fun r__ h0_ => retK (buildS w_markInt64S_s6_r0 [.i r__, .r h0_]) K)
    | _ => none)
theorem E_w_markInt64S_s6_ok {α : Type} (N : Nat) : EnvOk Try.prog (E_w_markInt64S_s6 α N) := (E_w_markInt64S_l0_s6_ok N).addFun prog_mixed prog_names (d := 1) fun l K r h => by
  split at h
  · exact (w_markInt64S_s6_run N _ _ _ _ _ _ _ K).trans h
  · cases h

/-- laws.markInt64SS, loop -/
def w_markInt64SS_l0_s3_p : SPat := ⟨[.sliceV 0 0 0 1 true, .int .i64, .undef, .undef, .undef, .int .i64] ++ List.replicate 13 .undef, [[.hdr 1], [.pool .i64]]⟩
def w_markInt64SS_l0_s3_o0 : SPat := ⟨[.undef, .int .i64] ++ List.replicate 17 .undef, [[.hdr 1], [.pool .i64]]⟩
theorem w_markInt64SS_l0_s3_round {α : Type} (N : Nat) (a_n : Nat) (a_l : Nat) (a_c : Nat) (k : Int) (i : Int) (h0 : List (Nat × Nat)) (h1 : List (List Int)) (kn : St → Option α) (K : AExit → St → Option α) :
    roundK Try.prog (E_w_markInt64S_s6 α N) 1 0 24 Try.f24 2 2 (buildS w_markInt64SS_l0_s3_p [.n a_n, .n a_l, .n a_c, .i k, .i i, .p h0, .r h1]) kn K = w_markInt64SS_l0_s3_s none N a_n a_l a_c h0 k i h1 (fun k i h1 => kn (buildS w_markInt64SS_l0_s3_p [.n a_n, .n a_l, .n a_c, .i k, .i i, .p h0, .r h1])) (fun k_ h1_ => K (.exit 0) (buildS w_markInt64SS_l0_s3_o0 [.i k_, .p h0, .r h1_])) := by kernel_rfl
theorem w_markInt64SS_l0_s3_loop {α : Type} (N : Nat) (a_n : Nat) (a_l : Nat) (a_c : Nat) (h0 : List (Nat × Nat)) (K : AExit → St → Option α) : ∀ (m : Nat) (k : Int) (i : Int) (h1 : List (List Int)),
    loopN (trimSt ((E_w_markInt64S_s6 α N).ann 24 2).head ((E_w_markInt64S_s6 α N).ann 24 2).grow 2) (bodyK Try.prog (E_w_markInt64S_s6 α N) 1 0 24 Try.f24 2) m (buildS w_markInt64SS_l0_s3_p [.n a_n, .n a_l, .n a_c, .i k, .i i, .p h0, .r h1]) (leaveLoop ((E_w_markInt64S_s6 α N).ann 24 2) 2 K) = w_markInt64SS_l0_s3 none N a_n a_l a_c h0 m k i h1 (fun k_ h1_ => K (.exit 0) (buildS w_markInt64SS_l0_s3_o0 [.i k_, .p h0, .r h1_])) := by
  intro m
  induction m with
  | zero => intros; rfl
  | succ m ih =>
    intro k i h1
    rw [loopN_round]
    refine (w_markInt64SS_l0_s3_round N a_n a_l a_c k i h0 h1 _ K).trans ?_
    simp only [ih]
    rfl
def E_w_markInt64SS_l0_s3 (α : Type) (N : Nat) : Env α := (E_w_markInt64S_s6 α N).addLoop2 24 2 (loopSum2 ((E_w_markInt64S_s6 α N).ann 24 2) 0 w_markInt64SS_l0_s3_p (fun l K => match l with
    | [.n a_n, .n a_l, .n a_c, .i k, .i i, .p h0, .r h1] => w_markInt64SS_l0_s3 none N a_n a_l a_c h0 N k i h1 (fun k_ h1_ => K (.exit 0) (buildS w_markInt64SS_l0_s3_o0 [.i k_, .p h0, .r h1_]))
    | _ => none) ((E_w_markInt64S_s6 α N).ls 24 2))
theorem E_w_markInt64SS_l0_s3_ok {α : Type} (N : Nat) : EnvOk Try.prog (E_w_markInt64SS_l0_s3 α N) := (E_w_markInt64S_s6_ok N).addLoop2 Try.func24 (by kernel_rfl) (loopSum_ok prog_mixed prog_names (E_w_markInt64S_s6_ok N) Try.func24 (by kernel_rfl) (d := 1) (ro := 0) fun l K r h => by
  split at h
  · exact (w_markInt64SS_l0_s3_loop N _ _ _ _ K N _ _ _).trans h
  · cases h)

/-- laws.markInt64SS -/
def w_markInt64SS_s3_a : SPat := ⟨[.sliceV 0 0 0 1 true, .int .i64], [[.hdr 1], [.pool .i64]]⟩
def w_markInt64SS_s3_r0 : SPat := ⟨[.int .i64], [[.hdr 1], [.pool .i64]]⟩
theorem w_markInt64SS_s3_run {α : Type} (N : Nat) (a_n : Nat) (a_l : Nat) (a_c : Nat) (k : Int) (h0 : List (Nat × Nat)) (h1 : List (List Int)) (K : AV → Heap → Option α) :
    callK Try.prog (E_w_markInt64SS_l0_s3 α N) 1 24 0 (buildS w_markInt64SS_s3_a [.n a_n, .n a_l, .n a_c, .i k, .p h0, .r h1]).t (buildS w_markInt64SS_s3_a [.n a_n, .n a_l, .n a_c, .i k, .p h0, .r h1]).h K = w_markInt64SS_s3 none N a_n a_l a_c k h0 h1 (fun r__ h1_ => retK (buildS w_markInt64SS_s3_r0 [.i r__, .p h0, .r h1_]) K) := by kernel_rfl
def E_w_markInt64SS_s3 (α : Type) (N : Nat) : Env α := (E_w_markInt64SS_l0_s3 α N).addFun 24 false 0 w_markInt64SS_s3_a (fun l K => match l with
    | [.n a_n, .n a_l, .n a_c, .i k, .p h0, .r h1] => w_markInt64SS_s3 none N a_n a_l a_c k h0 h1 (fun r__ h1_ => retK (buildS w_markInt64SS_s3_r0 [.i r__, .p h0, .r h1_]) K)
    | _ => none)
theorem E_w_markInt64SS_s3_ok {α : Type} (N : Nat) : EnvOk Try.prog (E_w_markInt64SS_s3 α N) := (E_w_markInt64SS_l0_s3_ok N).addFun prog_mixed prog_names (d := 1) fun l K r h => by
  split at h
  · exact (w_markInt64SS_s3_run N _ _ _ _ _ _ K).trans h
  · cases h

def A_w_heldInt64S_l0 (α : Type) (N : Nat) : Env α := (E_w_markInt64SS_s3 α N).addAnn 41 2 { head := [0, 1, 5], grow := [], out := [1], ret := [4] }
theorem A_w_heldInt64S_l0_ok {α : Type} (N : Nat) : EnvOk Try.prog (A_w_heldInt64S_l0 α N) := (E_w_markInt64SS_s3_ok N).addAnn

/-- laws.heldInt64S, loop -/
def w_heldInt64S_l0_s6_p : SPat := ⟨[.sliceR 0 1 false, .int .i64, .undef, .undef, .undef, .int .i64] ++ List.replicate 15 .undef, [[.pool .i64]]⟩
def w_heldInt64S_l0_s6_o0 : SPat := ⟨[.undef, .undef, .undef, .undef, .intC .i64 (-1)] ++ List.replicate 16 .undef, [[.pool .i64]]⟩
def w_heldInt64S_l0_s6_o1 : SPat := ⟨[.undef, .int .i64] ++ List.replicate 19 .undef, [[.pool .i64]]⟩
theorem w_heldInt64S_l0_s6_round {α : Type} (N : Nat) (a_r : Nat) (a_o : Nat) (a_n : Nat) (a_l : Nat) (a_c : Nat) (k : Int) (i : Int) (h0 : List (List Int)) (kn : St → Option α) (K : AExit → St → Option α) :
    roundK Try.prog (A_w_heldInt64S_l0 α N) 1 1 41 Try.f41 2 1 (buildS w_heldInt64S_l0_s6_p [.n a_r, .n a_o, .n a_n, .n a_l, .n a_c, .i k, .i i, .r h0]) kn K = w_heldInt64S_l0_s6_s none a_r a_o a_n a_l a_c h0 k i (fun k i => kn (buildS w_heldInt64S_l0_s6_p [.n a_r, .n a_o, .n a_n, .n a_l, .n a_c, .i k, .i i, .r h0])) (K .ret (buildS w_heldInt64S_l0_s6_o0 [.r h0])) (fun k_ => K (.exit 0) (buildS w_heldInt64S_l0_s6_o1 [.i k_, .r h0])) := by kernel_rfl
theorem w_heldInt64S_l0_s6_loop {α : Type} (N : Nat) (a_r : Nat) (a_o : Nat) (a_n : Nat) (a_l : Nat) (a_c : Nat) (h0 : List (List Int)) (K : AExit → St → Option α) : ∀ (m : Nat) (k : Int) (i : Int),
    loopN (trimSt ((A_w_heldInt64S_l0 α N).ann 41 2).head ((A_w_heldInt64S_l0 α N).ann 41 2).grow 1) (bodyK Try.prog (A_w_heldInt64S_l0 α N) 1 1 41 Try.f41 2) m (buildS w_heldInt64S_l0_s6_p [.n a_r, .n a_o, .n a_n, .n a_l, .n a_c, .i k, .i i, .r h0]) (leaveLoop ((A_w_heldInt64S_l0 α N).ann 41 2) 1 K) = w_heldInt64S_l0_s6 none a_r a_o a_n a_l a_c h0 m k i (K .ret (buildS w_heldInt64S_l0_s6_o0 [.r h0])) (fun k_ => K (.exit 0) (buildS w_heldInt64S_l0_s6_o1 [.i k_, .r h0])) := by
  intro m
  induction m with
  | zero => intros; rfl
  | succ m ih =>
    intro k i
    rw [loopN_round]
    refine (w_heldInt64S_l0_s6_round N a_r a_o a_n a_l a_c k i h0 _ K).trans ?_
    simp only [ih]
    rfl
def E_w_heldInt64S_l0_s6 (α : Type) (N : Nat) : Env α := (A_w_heldInt64S_l0 α N).addLoop2 41 2 (loopSum2 ((A_w_heldInt64S_l0 α N).ann 41 2) 1 w_heldInt64S_l0_s6_p (fun l K => match l with
    | [.n a_r, .n a_o, .n a_n, .n a_l, .n a_c, .i k, .i i, .r h0] => w_heldInt64S_l0_s6 none a_r a_o a_n a_l a_c h0 N k i (K .ret (buildS w_heldInt64S_l0_s6_o0 [.r h0])) (fun k_ => K (.exit 0) (buildS w_heldInt64S_l0_s6_o1 [.i k_, .r h0]))
    | _ => none) ((A_w_heldInt64S_l0 α N).ls 41 2))
theorem E_w_heldInt64S_l0_s6_ok {α : Type} (N : Nat) : EnvOk Try.prog (E_w_heldInt64S_l0_s6 α N) := (A_w_heldInt64S_l0_ok N).addLoop2 Try.func41 (by kernel_rfl) (loopSum_ok prog_mixed prog_names (A_w_heldInt64S_l0_ok N) Try.func41 (by kernel_rfl) (d := 1) (ro := 1) fun l K r h => by
  split at h
  · exact (w_heldInt64S_l0_s6_loop N _ _ _ _ _ _ K N _ _).trans h
  · cases h)

/-- laws.heldInt64S -/
def w_heldInt64S_s6_a : SPat := ⟨[.sliceR 0 1 false, .int .i64], [[.pool .i64]]⟩
def w_heldInt64S_s6_r0 : SPat := ⟨[.int .i64], [[.pool .i64]]⟩
theorem w_heldInt64S_s6_run {α : Type} (N : Nat) (a_r : Nat) (a_o : Nat) (a_n : Nat) (a_l : Nat) (a_c : Nat) (k : Int) (h0 : List (List Int)) (K : AV → Heap → Option α) :
    callK Try.prog (E_w_heldInt64S_l0_s6 α N) 1 41 1 (buildS w_heldInt64S_s6_a [.n a_r, .n a_o, .n a_n, .n a_l, .n a_c, .i k, .r h0]).t (buildS w_heldInt64S_s6_a [.n a_r, .n a_o, .n a_n, .n a_l, .n a_c, .i k, .r h0]).h K = w_heldInt64S_s6 none N a_r a_o a_n a_l a_c k h0 (fun r__ => retK (buildS w_heldInt64S_s6_r0 [.i r__, .r h0]) K) := by kernel_rfl
def E_w_heldInt64S_s6 (α : Type) (N : Nat) : Env α := (E_w_heldInt64S_l0_s6 α N).addFun 41 true 1 w_heldInt64S_s6_a (fun l K => match l with
    | [.n a_r, .n a_o, .n a_n, .n a_l, .n a_c, .i k, .r h0] => w_heldInt64S_s6 none N a_r a_o a_n a_l a_c k h0 (fun r__ => retK (buildS w_heldInt64S_s6_r0 [.i r__, .r h0]) K)
    | _ => none)
theorem E_w_heldInt64S_s6_ok {α : Type} (N : Nat) : EnvOk Try.prog (E_w_heldInt64S_s6 α N) := (E_w_heldInt64S_l0_s6_ok N).addFun prog_mixed prog_names (d := 1) fun l K r h => by
  split at h
  · exact (w_heldInt64S_s6_run N _ _ _ _ _ _ _ K).trans h
  · cases h

/-- laws.heldInt64SS, loop -/
def w_heldInt64SS_l0_s3_p : SPat := ⟨[.sliceV 0 0 0 1 true, .int .i64, .undef, .undef, .undef, .int .i64] ++ List.replicate 15 .undef, [[.hdr 1], [.pool .i64]]⟩
def w_heldInt64SS_l0_s3_o0 : SPat := ⟨[.undef, .undef, .undef, .undef, .intC .i64 (-1)] ++ List.replicate 16 .undef, [[.hdr 1], [.pool .i64]]⟩
def w_heldInt64SS_l0_s3_o1 : SPat := ⟨[.undef, .int .i64] ++ List.replicate 19 .undef, [[.hdr 1], [.pool .i64]]⟩
theorem w_heldInt64SS_l0_s3_round {α : Type} (N : Nat) (a_n : Nat) (a_l : Nat) (a_c : Nat) (k : Int) (i : Int) (h0 : List (Nat × Nat)) (h1 : List (List Int)) (kn : St → Option α) (K : AExit → St → Option α) :
    roundK Try.prog (E_w_heldInt64S_s6 α N) 1 2 25 Try.f25 2 2 (buildS w_heldInt64SS_l0_s3_p [.n a_n, .n a_l, .n a_c, .i k, .i i, .p h0, .r h1]) kn K = w_heldInt64SS_l0_s3_s none N a_n a_l a_c h0 h1 k i (fun k i => kn (buildS w_heldInt64SS_l0_s3_p [.n a_n, .n a_l, .n a_c, .i k, .i i, .p h0, .r h1])) (K .ret (buildS w_heldInt64SS_l0_s3_o0 [.p h0, .r h1])) (fun k_ => K (.exit 0) (buildS w_heldInt64SS_l0_s3_o1 [.i k_, .p h0, .r h1])) := by kernel_rfl
theorem w_heldInt64SS_l0_s3_loop {α : Type} (N : Nat) (a_n : Nat) (a_l : Nat) (a_c : Nat) (h0 : List (Nat × Nat)) (h1 : List (List Int)) (K : AExit → St → Option α) : ∀ (m : Nat) (k : Int) (i : Int),
    loopN (trimSt ((E_w_heldInt64S_s6 α N).ann 25 2).head ((E_w_heldInt64S_s6 α N).ann 25 2).grow 2) (bodyK Try.prog (E_w_heldInt64S_s6 α N) 1 2 25 Try.f25 2) m (buildS w_heldInt64SS_l0_s3_p [.n a_n, .n a_l, .n a_c, .i k, .i i, .p h0, .r h1]) (leaveLoop ((E_w_heldInt64S_s6 α N).ann 25 2) 2 K) = w_heldInt64SS_l0_s3 none N a_n a_l a_c h0 h1 m k i (K .ret (buildS w_heldInt64SS_l0_s3_o0 [.p h0, .r h1])) (fun k_ => K (.exit 0) (buildS w_heldInt64SS_l0_s3_o1 [.i k_, .p h0, .r h1])) := by
  intro m
  induction m with
  | zero => intros; rfl
  | succ m ih =>
    intro k i
    rw [loopN_round]
    refine (w_heldInt64SS_l0_s3_round N a_n a_l a_c k i h0 h1 _ K).trans ?_
    simp only [ih]
    rfl
def E_w_heldInt64SS_l0_s3 (α : Type) (N : Nat) : Env α := (E_w_heldInt64S_s6 α N).addLoop2 25 2 (loopSum2 ((E_w_heldInt64S_s6 α N).ann 25 2) 2 w_heldInt64SS_l0_s3_p (fun l K => match l with
    | [.n a_n, .n a_l, .n a_c, .i k, .i i, .p h0, .r h1] => w_heldInt64SS_l0_s3 none N a_n a_l a_c h0 h1 N k i (K .ret (buildS w_heldInt64SS_l0_s3_o0 [.p h0, .r h1])) (fun k_ => K (.exit 0) (buildS w_heldInt64SS_l0_s3_o1 [.i k_, .p h0, .r h1]))
    | _ => none) ((E_w_heldInt64S_s6 α N).ls 25 2))
theorem E_w_heldInt64SS_l0_s3_ok {α : Type} (N : Nat) : EnvOk Try.prog (E_w_heldInt64SS_l0_s3 α N) := (E_w_heldInt64S_s6_ok N).addLoop2 Try.func25 (by kernel_rfl) (loopSum_ok prog_mixed prog_names (E_w_heldInt64S_s6_ok N) Try.func25 (by kernel_rfl) (d := 1) (ro := 2) fun l K r h => by
  split at h
  · exact (w_heldInt64SS_l0_s3_loop N _ _ _ _ _ K N _ _).trans h
  · cases h)

/-- laws.heldInt64SS -/
def w_heldInt64SS_s3_a : SPat := ⟨[.sliceV 0 0 0 1 true, .int .i64], [[.hdr 1], [.pool .i64]]⟩
def w_heldInt64SS_s3_r0 : SPat := ⟨[.int .i64], [[.hdr 1], [.pool .i64]]⟩
theorem w_heldInt64SS_s3_run {α : Type} (N : Nat) (a_n : Nat) (a_l : Nat) (a_c : Nat) (k : Int) (h0 : List (Nat × Nat)) (h1 : List (List Int)) (K : AV → Heap → Option α) :
    callK Try.prog (E_w_heldInt64SS_l0_s3 α N) 1 25 2 (buildS w_heldInt64SS_s3_a [.n a_n, .n a_l, .n a_c, .i k, .p h0, .r h1]).t (buildS w_heldInt64SS_s3_a [.n a_n, .n a_l, .n a_c, .i k, .p h0, .r h1]).h K = w_heldInt64SS_s3 none N a_n a_l a_c k h0 h1 (fun r__ => retK (buildS w_heldInt64SS_s3_r0 [.i r__, .p h0, .r h1]) K) := by kernel_rfl
def E_w_heldInt64SS_s3 (α : Type) (N : Nat) : Env α := (E_w_heldInt64SS_l0_s3 α N).addFun 25 true 2 w_heldInt64SS_s3_a (fun l K => match l with
    | [.n a_n, .n a_l, .n a_c, .i k, .p h0, .r h1] => w_heldInt64SS_s3 none N a_n a_l a_c k h0 h1 (fun r__ => retK (buildS w_heldInt64SS_s3_r0 [.i r__, .p h0, .r h1]) K)
    | _ => none)
theorem E_w_heldInt64SS_s3_ok {α : Type} (N : Nat) : EnvOk Try.prog (E_w_heldInt64SS_s3 α N) := (E_w_heldInt64SS_l0_s3_ok N).addFun prog_mixed prog_names (d := 1) fun l K r h => by
  split at h
  · exact (w_heldInt64SS_s3_run N _ _ _ _ _ _ K).trans h
  · cases h

/-- laws.markInt64SS, loop -/
def w_markInt64SS_l0_s2_p : SPat := ⟨[.sliceV 0 0 0 1 false, .int .i64, .undef, .undef, .undef, .int .i64] ++ List.replicate 13 .undef, [[.hdr 1], [.pool .i64]]⟩
def w_markInt64SS_l0_s2_o0 : SPat := ⟨[.undef, .int .i64] ++ List.replicate 17 .undef, [[.hdr 1], [.pool .i64]]⟩
theorem w_markInt64SS_l0_s2_round {α : Type} (N : Nat) (a_n : Nat) (a_l : Nat) (a_c : Nat) (k : Int) (i : Int) (h0 : List (Nat × Nat)) (h1 : List (List Int)) (kn : St → Option α) (K : AExit → St → Option α) :
    roundK Try.prog (E_w_heldInt64SS_s3 α N) 1 0 24 Try.f24 2 2 (buildS w_markInt64SS_l0_s2_p [.n a_n, .n a_l, .n a_c, .i k, .i i, .p h0, .r h1]) kn K = w_markInt64SS_l0_s2_s none N a_n a_l a_c h0 k i h1 (fun k i h1 => kn (buildS w_markInt64SS_l0_s2_p [.n a_n, .n a_l, .n a_c, .i k, .i i, .p h0, .r h1])) (fun k_ h1_ => K (.exit 0) (buildS w_markInt64SS_l0_s2_o0 [.i k_, .p h0, .r h1_])) := by kernel_rfl
theorem w_markInt64SS_l0_s2_loop {α : Type} (N : Nat) (a_n : Nat) (a_l : Nat) (a_c : Nat) (h0 : List (Nat × Nat)) (K : AExit → St → Option α) : ∀ (m : Nat) (k : Int) (i : Int) (h1 : List (List Int)),
    loopN (trimSt ((E_w_heldInt64SS_s3 α N).ann 24 2).head ((E_w_heldInt64SS_s3 α N).ann 24 2).grow 2) (bodyK Try.prog (E_w_heldInt64SS_s3 α N) 1 0 24 Try.f24 2) m (buildS w_markInt64SS_l0_s2_p [.n a_n, .n a_l, .n a_c, .i k, .i i, .p h0, .r h1]) (leaveLoop ((E_w_heldInt64SS_s3 α N).ann 24 2) 2 K) = w_markInt64SS_l0_s2 none N a_n a_l a_c h0 m k i h1 (fun k_ h1_ => K (.exit 0) (buildS w_markInt64SS_l0_s2_o0 [.i k_, .p h0, .r h1_])) := by
  intro m
  induction m with
  | zero => intros; rfl
  | succ m ih =>
    intro k i h1
    rw [loopN_round]
    refine (w_markInt64SS_l0_s2_round N a_n a_l a_c k i h0 h1 _ K).trans ?_
    simp only [ih]
    rfl
def E_w_markInt64SS_l0_s2 (α : Type) (N : Nat) : Env α := (E_w_heldInt64SS_s3 α N).addLoop2 24 2 (loopSum2 ((E_w_heldInt64SS_s3 α N).ann 24 2) 0 w_markInt64SS_l0_s2_p (fun l K => match l with
    | [.n a_n, .n a_l, .n a_c, .i k, .i i, .p h0, .r h1] => w_markInt64SS_l0_s2 none N a_n a_l a_c h0 N k i h1 (fun k_ h1_ => K (.exit 0) (buildS w_markInt64SS_l0_s2_o0 [.i k_, .p h0, .r h1_]))
    | _ => none) ((E_w_heldInt64SS_s3 α N).ls 24 2))
theorem E_w_markInt64SS_l0_s2_ok {α : Type} (N : Nat) : EnvOk Try.prog (E_w_markInt64SS_l0_s2 α N) := (E_w_heldInt64SS_s3_ok N).addLoop2 Try.func24 (by kernel_rfl) (loopSum_ok prog_mixed prog_names (E_w_heldInt64SS_s3_ok N) Try.func24 (by kernel_rfl) (d := 1) (ro := 0) fun l K r h => by
  split at h
  · exact (w_markInt64SS_l0_s2_loop N _ _ _ _ K N _ _ _).trans h
  · cases h)

/-- laws.markInt64SS -/
def w_markInt64SS_s2_a : SPat := ⟨[.sliceV 0 0 0 1 false, .int .i64], [[.hdr 1], [.pool .i64]]⟩
def w_markInt64SS_s2_r0 : SPat := ⟨[.int .i64], [[.hdr 1], [.pool .i64]]⟩
theorem w_markInt64SS_s2_run {α : Type} (N : Nat) (a_n : Nat) (a_l : Nat) (a_c : Nat) (k : Int) (h0 : List (Nat × Nat)) (h1 : List (List Int)) (K : AV → Heap → Option α) :
    callK Try.prog (E_w_markInt64SS_l0_s2 α N) 1 24 0 (buildS w_markInt64SS_s2_a [.n a_n, .n a_l, .n a_c, .i k, .p h0, .r h1]).t (buildS w_markInt64SS_s2_a [.n a_n, .n a_l, .n a_c, .i k, .p h0, .r h1]).h K = w_markInt64SS_s2 none N a_n a_l a_c k h0 h1 (fun r__ h1_ => retK (buildS w_markInt64SS_s2_r0 [.i r__, .p h0, .r h1_]) K) := by kernel_rfl
def E_w_markInt64SS_s2 (α : Type) (N : Nat) : Env α := (E_w_markInt64SS_l0_s2 α N).addFun 24 false 0 w_markInt64SS_s2_a (fun l K => match l with
    | [.n a_n, .n a_l, .n a_c, .i k, .p h0, .r h1] => w_markInt64SS_s2 none N a_n a_l a_c k h0 h1 (fun r__ h1_ => retK (buildS w_markInt64SS_s2_r0 [.i r__, .p h0, .r h1_]) K)
    | _ => none)
theorem E_w_markInt64SS_s2_ok {α : Type} (N : Nat) : EnvOk Try.prog (E_w_markInt64SS_s2 α N) := (E_w_markInt64SS_l0_s2_ok N).addFun prog_mixed prog_names (d := 1) fun l K r h => by
  split at h
  · exact (w_markInt64SS_s2_run N _ _ _ _ _ _ K).trans h
  · cases h

/-- laws.heldInt64SS, loop -/
def w_heldInt64SS_l0_s2_p : SPat := ⟨[.sliceV 0 0 0 1 false, .int .i64, .undef, .undef, .undef, .int .i64] ++ List.replicate 15 .undef, [[.hdr 1], [.pool .i64]]⟩
def w_heldInt64SS_l0_s2_o0 : SPat := ⟨[.undef, .undef, .undef, .undef, .intC .i64 (-1)] ++ List.replicate 16 .undef, [[.hdr 1], [.pool .i64]]⟩
def w_heldInt64SS_l0_s2_o1 : SPat := ⟨[.undef, .int .i64] ++ List.replicate 19 .undef, [[.hdr 1], [.pool .i64]]⟩
theorem w_heldInt64SS_l0_s2_round {α : Type} (N : Nat) (a_n : Nat) (a_l : Nat) (a_c : Nat) (k : Int) (i : Int) (h0 : List (Nat × Nat)) (h1 : List (List Int)) (kn : St → Option α) (K : AExit → St → Option α) :
    roundK Try.prog (E_w_markInt64SS_s2 α N) 1 2 25 Try.f25 2 2 (buildS w_heldInt64SS_l0_s2_p [.n a_n, .n a_l, .n a_c, .i k, .i i, .p h0, .r h1]) kn K = w_heldInt64SS_l0_s2_s none N a_n a_l a_c h0 h1 k i (fun k i => kn (buildS w_heldInt64SS_l0_s2_p [.n a_n, .n a_l, .n a_c, .i k, .i i, .p h0, .r h1])) (K .ret (buildS w_heldInt64SS_l0_s2_o0 [.p h0, .r h1])) (fun k_ => K (.exit 0) (buildS w_heldInt64SS_l0_s2_o1 [.i k_, .p h0, .r h1])) := by kernel_rfl
theorem w_heldInt64SS_l0_s2_loop {α : Type} (N : Nat) (a_n : Nat) (a_l : Nat) (a_c : Nat) (h0 : List (Nat × Nat)) (h1 : List (List Int)) (K : AExit → St → Option α) : ∀ (m : Nat) (k : Int) (i : Int),
    loopN (trimSt ((E_w_markInt64SS_s2 α N).ann 25 2).head ((E_w_markInt64SS_s2 α N).ann 25 2).grow 2) (bodyK Try.prog (E_w_markInt64SS_s2 α N) 1 2 25 Try.f25 2) m (buildS w_heldInt64SS_l0_s2_p [.n a_n, .n a_l, .n a_c, .i k, .i i, .p h0, .r h1]) (leaveLoop ((E_w_markInt64SS_s2 α N).ann 25 2) 2 K) = w_heldInt64SS_l0_s2 none N a_n a_l a_c h0 h1 m k i (K .ret (buildS w_heldInt64SS_l0_s2_o0 [.p h0, .r h1])) (fun k_ => K (.exit 0) (buildS w_heldInt64SS_l0_s2_o1 [.i k_, .p h0, .r h1])) := by
  intro m
  induction m with
  | zero => intros; rfl
  | succ m ih =>
    intro k i
    rw [loopN_round]
    refine (w_heldInt64SS_l0_s2_round N a_n a_l a_c k i h0 h1 _ K).trans ?_
    simp only [ih]
    rfl
def E_w_heldInt64SS_l0_s2 (α : Type) (N : Nat) : Env α := (E_w_markInt64SS_s2 α N).addLoop2 25 2 (loopSum2 ((E_w_markInt64SS_s2 α N).ann 25 2) 2 w_heldInt64SS_l0_s2_p (fun l K => match l with
    | [.n a_n, .n a_l, .n a_c, .i k, .i i, .p h0, .r h1] => w_heldInt64SS_l0_s2 none N a_n a_l a_c h0 h1 N k i (K .ret (buildS w_heldInt64SS_l0_s2_o0 [.p h0, .r h1])) (fun k_ => K (.exit 0) (buildS w_heldInt64SS_l0_s2_o1 [.i k_, .p h0, .r h1]))
    | _ => none) ((E_w_markInt64SS_s2 α N).ls 25 2))
theorem E_w_heldInt64SS_l0_s2_ok {α : Type} (N : Nat) : EnvOk Try.prog (E_w_heldInt64SS_l0_s2 α N) := (E_w_markInt64SS_s2_ok N).addLoop2 Try.func25 (by kernel_rfl) (loopSum_ok prog_mixed prog_names (E_w_markInt64SS_s2_ok N) Try.func25 (by kernel_rfl) (d := 1) (ro := 2) fun l K r h => by
  split at h
  · exact (w_heldInt64SS_l0_s2_loop N _ _ _ _ _ K N _ _).trans h
  · cases h)

/-- laws.heldInt64SS -/
def w_heldInt64SS_s2_a : SPat := ⟨[.sliceV 0 0 0 1 false, .int .i64], [[.hdr 1], [.pool .i64]]⟩
def w_heldInt64SS_s2_r0 : SPat := ⟨[.int .i64], [[.hdr 1], [.pool .i64]]⟩
theorem w_heldInt64SS_s2_run {α : Type} (N : Nat) (a_n : Nat) (a_l : Nat) (a_c : Nat) (k : Int) (h0 : List (Nat × Nat)) (h1 : List (List Int)) (K : AV → Heap → Option α) :
    callK Try.prog (E_w_heldInt64SS_l0_s2 α N) 1 25 2 (buildS w_heldInt64SS_s2_a [.n a_n, .n a_l, .n a_c, .i k, .p h0, .r h1]).t (buildS w_heldInt64SS_s2_a [.n a_n, .n a_l, .n a_c, .i k, .p h0, .r h1]).h K = w_heldInt64SS_s2 none N a_n a_l a_c k h0 h1 (fun r__ => retK (buildS w_heldInt64SS_s2_r0 [.i r__, .p h0, .r h1]) K) := by kernel_rfl
def E_w_heldInt64SS_s2 (α : Type) (N : Nat) : Env α := (E_w_heldInt64SS_l0_s2 α N).addFun 25 true 2 w_heldInt64SS_s2_a (fun l K => match l with
    | [.n a_n, .n a_l, .n a_c, .i k, .p h0, .r h1] => w_heldInt64SS_s2 none N a_n a_l a_c k h0 h1 (fun r__ => retK (buildS w_heldInt64SS_s2_r0 [.i r__, .p h0, .r h1]) K)
    | _ => none)
theorem E_w_heldInt64SS_s2_ok {α : Type} (N : Nat) : EnvOk Try.prog (E_w_heldInt64SS_s2 α N) := (E_w_heldInt64SS_l0_s2_ok N).addFun prog_mixed prog_names (d := 1) fun l K r h => by
  split at h
  · exact (w_heldInt64SS_s2_run N _ _ _ _ _ _ K).trans h
  · cases h

/-- laws.eqInt64SS, loop -/
def w_eqInt64SS_l0_s3_p : SPat := ⟨[.nils, .sliceV 0 0 0 1 false, .undef, .undef, .undef, .int .i64] ++ List.replicate 21 .undef, [[.hdr 1], [.pool .i64]]⟩
def w_eqInt64SS_l0_s3_o0 : SPat := ⟨[] ++ List.replicate 27 .undef, [[.hdr 1], [.pool .i64]]⟩
theorem w_eqInt64SS_l0_s3_round {α : Type} (N : Nat) (b_n : Nat) (b_l : Nat) (b_c : Nat) (i : Int) (h0 : List (Nat × Nat)) (h1 : List (List Int)) (kn : St → Option α) (K : AExit → St → Option α) :
    roundK Try.prog (E_w_heldInt64SS_s2 α N) 1 2 23 Try.f23 4 2 (buildS w_eqInt64SS_l0_s3_p [.n b_n, .n b_l, .n b_c, .i i, .p h0, .r h1]) kn K = w_eqInt64SS_l0_s3_s none b_n b_l b_c i h0 h1  (kn (buildS w_eqInt64SS_l0_s3_p [.n b_n, .n b_l, .n b_c, .i i, .p h0, .r h1])) (K (.exit 0) (buildS w_eqInt64SS_l0_s3_o0 [.p h0, .r h1])) := by kernel_rfl
theorem w_eqInt64SS_l0_s3_loop {α : Type} (N : Nat) (b_n : Nat) (b_l : Nat) (b_c : Nat) (i : Int) (h0 : List (Nat × Nat)) (h1 : List (List Int)) (K : AExit → St → Option α) : ∀ (m : Nat),
    loopN (trimSt ((E_w_heldInt64SS_s2 α N).ann 23 4).head ((E_w_heldInt64SS_s2 α N).ann 23 4).grow 2) (bodyK Try.prog (E_w_heldInt64SS_s2 α N) 1 2 23 Try.f23 4) m (buildS w_eqInt64SS_l0_s3_p [.n b_n, .n b_l, .n b_c, .i i, .p h0, .r h1]) (leaveLoop ((E_w_heldInt64SS_s2 α N).ann 23 4) 2 K) = w_eqInt64SS_l0_s3 none b_n b_l b_c i h0 h1 m  (K (.exit 0) (buildS w_eqInt64SS_l0_s3_o0 [.p h0, .r h1])) := by
  intro m
  induction m with
  | zero => intros; rfl
  | succ m ih =>
    rw [loopN_round]
    refine (w_eqInt64SS_l0_s3_round N b_n b_l b_c i h0 h1 _ K).trans ?_
    simp only [ih]
    rfl
def E_w_eqInt64SS_l0_s3 (α : Type) (N : Nat) : Env α := (E_w_heldInt64SS_s2 α N).addLoop2 23 4 (loopSum2 ((E_w_heldInt64SS_s2 α N).ann 23 4) 2 w_eqInt64SS_l0_s3_p (fun l K => match l with
    | [.n b_n, .n b_l, .n b_c, .i i, .p h0, .r h1] => w_eqInt64SS_l0_s3 none b_n b_l b_c i h0 h1 N  (K (.exit 0) (buildS w_eqInt64SS_l0_s3_o0 [.p h0, .r h1]))
    | _ => none) ((E_w_heldInt64SS_s2 α N).ls 23 4))
theorem E_w_eqInt64SS_l0_s3_ok {α : Type} (N : Nat) : EnvOk Try.prog (E_w_eqInt64SS_l0_s3 α N) := (E_w_heldInt64SS_s2_ok N).addLoop2 Try.func23 (by kernel_rfl) (loopSum_ok prog_mixed prog_names (E_w_heldInt64SS_s2_ok N) Try.func23 (by kernel_rfl) (d := 1) (ro := 2) fun l K r h => by
  split at h
  · exact (w_eqInt64SS_l0_s3_loop N _ _ _ _ _ _ K N ).trans h
  · cases h)

/-- laws.eqInt64SS -/
def w_eqInt64SS_s3_a : SPat := ⟨[.nils, .sliceV 0 0 0 1 false], [[.hdr 1], [.pool .i64]]⟩
def w_eqInt64SS_s3_r0 : SPat := ⟨[.bool], [[.hdr 1], [.pool .i64]]⟩
theorem w_eqInt64SS_s3_run {α : Type} (N : Nat) (b_n : Nat) (b_l : Nat) (b_c : Nat) (h0 : List (Nat × Nat)) (h1 : List (List Int)) (K : AV → Heap → Option α) :
    callK Try.prog (E_w_eqInt64SS_l0_s3 α N) 1 23 2 (buildS w_eqInt64SS_s3_a [.n b_n, .n b_l, .n b_c, .p h0, .r h1]).t (buildS w_eqInt64SS_s3_a [.n b_n, .n b_l, .n b_c, .p h0, .r h1]).h K = w_eqInt64SS_s3 none N b_n b_l b_c h0 h1 (fun r__ => retK (buildS w_eqInt64SS_s3_r0 [.b r__, .p h0, .r h1]) K) := by kernel_rfl
def E_w_eqInt64SS_s3 (α : Type) (N : Nat) : Env α := (E_w_eqInt64SS_l0_s3 α N).addFun 23 true 2 w_eqInt64SS_s3_a (fun l K => match l with
    | [.n b_n, .n b_l, .n b_c, .p h0, .r h1] => w_eqInt64SS_s3 none N b_n b_l b_c h0 h1 (fun r__ => retK (buildS w_eqInt64SS_s3_r0 [.b r__, .p h0, .r h1]) K)
    | _ => none)
theorem E_w_eqInt64SS_s3_ok {α : Type} (N : Nat) : EnvOk Try.prog (E_w_eqInt64SS_s3 α N) := (E_w_eqInt64SS_l0_s3_ok N).addFun prog_mixed prog_names (d := 1) fun l K r h => by
  split at h
  · exact (w_eqInt64SS_s3_run N _ _ _ _ _ K).trans h
  · cases h

def A_w_eqInt64S_l0 (α : Type) (N : Nat) : Env α := (E_w_eqInt64SS_s3 α N).addAnn 39 4 { head := [0, 1, 5], grow := [], out := [], ret := [4] }
theorem A_w_eqInt64S_l0_ok {α : Type} (N : Nat) : EnvOk Try.prog (A_w_eqInt64S_l0 α N) := (E_w_eqInt64SS_s3_ok N).addAnn

/-- laws.eqInt64S, loop -/
def w_eqInt64S_l0_s12_p : SPat := ⟨[.sliceR 0 1 false, .sliceR 1 1 false, .undef, .undef, .undef, .int .i64] ++ List.replicate 20 .undef, [[.pool .i64], [.pool .i64]]⟩
def w_eqInt64S_l0_s12_o0 : SPat := ⟨[.undef, .undef, .undef, .undef, .boolC false] ++ List.replicate 21 .undef, [[.pool .i64], [.pool .i64]]⟩
def w_eqInt64S_l0_s12_o1 : SPat := ⟨[] ++ List.replicate 26 .undef, [[.pool .i64], [.pool .i64]]⟩
theorem w_eqInt64S_l0_s12_round {α : Type} (N : Nat) (a_r : Nat) (a_o : Nat) (a_n : Nat) (a_l : Nat) (a_c : Nat) (b_r : Nat) (b_o : Nat) (b_n : Nat) (b_l : Nat) (b_c : Nat) (i : Int) (h0 : List (List Int)) (h1 : List (List Int)) (kn : St → Option α) (K : AExit → St → Option α) :
    roundK Try.prog (A_w_eqInt64S_l0 α N) 1 2 39 Try.f39 4 2 (buildS w_eqInt64S_l0_s12_p [.n a_r, .n a_o, .n a_n, .n a_l, .n a_c, .n b_r, .n b_o, .n b_n, .n b_l, .n b_c, .i i, .r h0, .r h1]) kn K = w_eqInt64S_l0_s12_s none a_r a_o a_n a_l a_c b_r b_o b_n b_l b_c h0 h1 i (fun i => kn (buildS w_eqInt64S_l0_s12_p [.n a_r, .n a_o, .n a_n, .n a_l, .n a_c, .n b_r, .n b_o, .n b_n, .n b_l, .n b_c, .i i, .r h0, .r h1])) (K .ret (buildS w_eqInt64S_l0_s12_o0 [.r h0, .r h1])) (K (.exit 0) (buildS w_eqInt64S_l0_s12_o1 [.r h0, .r h1])) := by kernel_rfl
theorem w_eqInt64S_l0_s12_loop {α : Type} (N : Nat) (a_r : Nat) (a_o : Nat) (a_n : Nat) (a_l : Nat) (a_c : Nat) (b_r : Nat) (b_o : Nat) (b_n : Nat) (b_l : Nat) (b_c : Nat) (h0 : List (List Int)) (h1 : List (List Int)) (K : AExit → St → Option α) : ∀ (m : Nat) (i : Int),
    loopN (trimSt ((A_w_eqInt64S_l0 α N).ann 39 4).head ((A_w_eqInt64S_l0 α N).ann 39 4).grow 2) (bodyK Try.prog (A_w_eqInt64S_l0 α N) 1 2 39 Try.f39 4) m (buildS w_eqInt64S_l0_s12_p [.n a_r, .n a_o, .n a_n, .n a_l, .n a_c, .n b_r, .n b_o, .n b_n, .n b_l, .n b_c, .i i, .r h0, .r h1]) (leaveLoop ((A_w_eqInt64S_l0 α N).ann 39 4) 2 K) = w_eqInt64S_l0_s12 none a_r a_o a_n a_l a_c b_r b_o b_n b_l b_c h0 h1 m i (K .ret (buildS w_eqInt64S_l0_s12_o0 [.r h0, .r h1])) (K (.exit 0) (buildS w_eqInt64S_l0_s12_o1 [.r h0, .r h1])) := by
  intro m
  induction m with
  | zero => intros; rfl
  | succ m ih =>
    intro i
    rw [loopN_round]
    refine (w_eqInt64S_l0_s12_round N a_r a_o a_n a_l a_c b_r b_o b_n b_l b_c i h0 h1 _ K).trans ?_
    simp only [ih]
    rfl
def E_w_eqInt64S_l0_s12 (α : Type) (N : Nat) : Env α := (A_w_eqInt64S_l0 α N).addLoop2 39 4 (loopSum2 ((A_w_eqInt64S_l0 α N).ann 39 4) 2 w_eqInt64S_l0_s12_p (fun l K => match l with
    | [.n a_r, .n a_o, .n a_n, .n a_l, .n a_c, .n b_r, .n b_o, .n b_n, .n b_l, .n b_c, .i i, .r h0, .r h1] => w_eqInt64S_l0_s12 none a_r a_o a_n a_l a_c b_r b_o b_n b_l b_c h0 h1 N i (K .ret (buildS w_eqInt64S_l0_s12_o0 [.r h0, .r h1])) (K (.exit 0) (buildS w_eqInt64S_l0_s12_o1 [.r h0, .r h1]))
    | _ => none) ((A_w_eqInt64S_l0 α N).ls 39 4))
theorem E_w_eqInt64S_l0_s12_ok {α : Type} (N : Nat) : EnvOk Try.prog (E_w_eqInt64S_l0_s12 α N) := (A_w_eqInt64S_l0_ok N).addLoop2 Try.func39 (by kernel_rfl) (loopSum_ok prog_mixed prog_names (A_w_eqInt64S_l0_ok N) Try.func39 (by kernel_rfl) (d := 1) (ro := 2) fun l K r h => by
  split at h
  · exact (w_eqInt64S_l0_s12_loop N _ _ _ _ _ _ _ _ _ _ _ _ K N _).trans h
  · cases h)

/-- laws.eqInt64S -/
def w_eqInt64S_s14_a : SPat := ⟨[.sliceR 0 1 false, .sliceR 1 1 false], [[.pool .i64], [.pool .i64]]⟩
def w_eqInt64S_s14_r0 : SPat := ⟨[.bool], [[.pool .i64], [.pool .i64]]⟩
theorem w_eqInt64S_s14_run {α : Type} (N : Nat) (a_r : Nat) (a_o : Nat) (a_n : Nat) (a_l : Nat) (a_c : Nat) (b_r : Nat) (b_o : Nat) (b_n : Nat) (b_l : Nat) (b_c : Nat) (h0 : List (List Int)) (h1 : List (List Int)) (K : AV → Heap → Option α) :
    callK Try.prog (E_w_eqInt64S_l0_s12 α N) 1 39 2 (buildS w_eqInt64S_s14_a [.n a_r, .n a_o, .n a_n, .n a_l, .n a_c, .n b_r, .n b_o, .n b_n, .n b_l, .n b_c, .r h0, .r h1]).t (buildS w_eqInt64S_s14_a [.n a_r, .n a_o, .n a_n, .n a_l, .n a_c, .n b_r, .n b_o, .n b_n, .n b_l, .n b_c, .r h0, .r h1]).h K = w_eqInt64S_s14 none N a_r a_o a_n a_l a_c b_r b_o b_n b_l b_c h0 h1 (fun r__ => retK (buildS w_eqInt64S_s14_r0 [.b r__, .r h0, .r h1]) K) := by kernel_rfl
def E_w_eqInt64S_s14 (α : Type) (N : Nat) : Env α := (E_w_eqInt64S_l0_s12 α N).addFun 39 true 2 w_eqInt64S_s14_a (fun l K => match l with
    | [.n a_r, .n a_o, .n a_n, .n a_l, .n a_c, .n b_r, .n b_o, .n b_n, .n b_l, .n b_c, .r h0, .r h1] => w_eqInt64S_s14 none N a_r a_o a_n a_l a_c b_r b_o b_n b_l b_c h0 h1 (fun r__ => retK (buildS w_eqInt64S_s14_r0 [.b r__, .r h0, .r h1]) K)
    | _ => none)
theorem E_w_eqInt64S_s14_ok {α : Type} (N : Nat) : EnvOk Try.prog (E_w_eqInt64S_s14 α N) := (E_w_eqInt64S_l0_s12_ok N).addFun prog_mixed prog_names (d := 1) fun l K r h => by
  split at h
  · exact (w_eqInt64S_s14_run N _ _ _ _ _ _ _ _ _ _ _ _ K).trans h
  · cases h

/-- laws.eqInt64SS, loop -/
def w_eqInt64SS_l0_s6_p : SPat := ⟨[.sliceV 0 0 0 1 true, .sliceV 1 0 0 1 false, .undef, .undef, .undef, .int .i64] ++ List.replicate 21 .undef, [[.hdr 2], [.hdr 3], [.pool .i64], [.pool .i64]]⟩
def w_eqInt64SS_l0_s6_o0 : SPat := ⟨[.undef, .undef, .undef, .undef, .boolC false] ++ List.replicate 22 .undef, [[.hdr 2], [.hdr 3], [.pool .i64], [.pool .i64]]⟩
def w_eqInt64SS_l0_s6_o1 : SPat := ⟨[] ++ List.replicate 27 .undef, [[.hdr 2], [.hdr 3], [.pool .i64], [.pool .i64]]⟩
theorem w_eqInt64SS_l0_s6_round {α : Type} (N : Nat) (a_n : Nat) (a_l : Nat) (a_c : Nat) (b_n : Nat) (b_l : Nat) (b_c : Nat) (i : Int) (h0 : List (Nat × Nat)) (h1 : List (Nat × Nat)) (h2 : List (List Int)) (h3 : List (List Int)) (kn : St → Option α) (K : AExit → St → Option α) :
    roundK Try.prog (E_w_eqInt64S_s14 α N) 1 4 23 Try.f23 4 4 (buildS w_eqInt64SS_l0_s6_p [.n a_n, .n a_l, .n a_c, .n b_n, .n b_l, .n b_c, .i i, .p h0, .p h1, .r h2, .r h3]) kn K = w_eqInt64SS_l0_s6_s none N a_n a_l a_c b_n b_l b_c h0 h1 h2 h3 i (fun i => kn (buildS w_eqInt64SS_l0_s6_p [.n a_n, .n a_l, .n a_c, .n b_n, .n b_l, .n b_c, .i i, .p h0, .p h1, .r h2, .r h3])) (K .ret (buildS w_eqInt64SS_l0_s6_o0 [.p h0, .p h1, .r h2, .r h3])) (K (.exit 0) (buildS w_eqInt64SS_l0_s6_o1 [.p h0, .p h1, .r h2, .r h3])) := by kernel_rfl
theorem w_eqInt64SS_l0_s6_loop {α : Type} (N : Nat) (a_n : Nat) (a_l : Nat) (a_c : Nat) (b_n : Nat) (b_l : Nat) (b_c : Nat) (h0 : List (Nat × Nat)) (h1 : List (Nat × Nat)) (h2 : List (List Int)) (h3 : List (List Int)) (K : AExit → St → Option α) : ∀ (m : Nat) (i : Int),
    loopN (trimSt ((E_w_eqInt64S_s14 α N).ann 23 4).head ((E_w_eqInt64S_s14 α N).ann 23 4).grow 4) (bodyK Try.prog (E_w_eqInt64S_s14 α N) 1 4 23 Try.f23 4) m (buildS w_eqInt64SS_l0_s6_p [.n a_n, .n a_l, .n a_c, .n b_n, .n b_l, .n b_c, .i i, .p h0, .p h1, .r h2, .r h3]) (leaveLoop ((E_w_eqInt64S_s14 α N).ann 23 4) 4 K) = w_eqInt64SS_l0_s6 none N a_n a_l a_c b_n b_l b_c h0 h1 h2 h3 m i (K .ret (buildS w_eqInt64SS_l0_s6_o0 [.p h0, .p h1, .r h2, .r h3])) (K (.exit 0) (buildS w_eqInt64SS_l0_s6_o1 [.p h0, .p h1, .r h2, .r h3])) := by
  intro m
  induction m with
  | zero => intros; rfl
  | succ m ih =>
    intro i
    rw [loopN_round]
    refine (w_eqInt64SS_l0_s6_round N a_n a_l a_c b_n b_l b_c i h0 h1 h2 h3 _ K).trans ?_
    simp only [ih]
    rfl
def E_w_eqInt64SS_l0_s6 (α : Type) (N : Nat) : Env α := (E_w_eqInt64S_s14 α N).addLoop2 23 4 (loopSum2 ((E_w_eqInt64S_s14 α N).ann 23 4) 4 w_eqInt64SS_l0_s6_p (fun l K => match l with
    | [.n a_n, .n a_l, .n a_c, .n b_n, .n b_l, .n b_c, .i i, .p h0, .p h1, .r h2, .r h3] => w_eqInt64SS_l0_s6 none N a_n a_l a_c b_n b_l b_c h0 h1 h2 h3 N i (K .ret (buildS w_eqInt64SS_l0_s6_o0 [.p h0, .p h1, .r h2, .r h3])) (K (.exit 0) (buildS w_eqInt64SS_l0_s6_o1 [.p h0, .p h1, .r h2, .r h3]))
    | _ => none) ((E_w_eqInt64S_s14 α N).ls 23 4))
theorem E_w_eqInt64SS_l0_s6_ok {α : Type} (N : Nat) : EnvOk Try.prog (E_w_eqInt64SS_l0_s6 α N) := (E_w_eqInt64S_s14_ok N).addLoop2 Try.func23 (by kernel_rfl) (loopSum_ok prog_mixed prog_names (E_w_eqInt64S_s14_ok N) Try.func23 (by kernel_rfl) (d := 1) (ro := 4) fun l K r h => by
  split at h
  · exact (w_eqInt64SS_l0_s6_loop N _ _ _ _ _ _ _ _ _ _ K N _).trans h
  · cases h)

/-- laws.eqInt64SS -/
def w_eqInt64SS_s6_a : SPat := ⟨[.sliceV 0 0 0 1 true, .sliceV 1 0 0 1 false], [[.hdr 2], [.hdr 3], [.pool .i64], [.pool .i64]]⟩
def w_eqInt64SS_s6_r0 : SPat := ⟨[.bool], [[.hdr 2], [.hdr 3], [.pool .i64], [.pool .i64]]⟩
theorem w_eqInt64SS_s6_run {α : Type} (N : Nat) (a_n : Nat) (a_l : Nat) (a_c : Nat) (b_n : Nat) (b_l : Nat) (b_c : Nat) (h0 : List (Nat × Nat)) (h1 : List (Nat × Nat)) (h2 : List (List Int)) (h3 : List (List Int)) (K : AV → Heap → Option α) :
    callK Try.prog (E_w_eqInt64SS_l0_s6 α N) 1 23 4 (buildS w_eqInt64SS_s6_a [.n a_n, .n a_l, .n a_c, .n b_n, .n b_l, .n b_c, .p h0, .p h1, .r h2, .r h3]).t (buildS w_eqInt64SS_s6_a [.n a_n, .n a_l, .n a_c, .n b_n, .n b_l, .n b_c, .p h0, .p h1, .r h2, .r h3]).h K = w_eqInt64SS_s6 none N a_n a_l a_c b_n b_l b_c h0 h1 h2 h3 (fun r__ => retK (buildS w_eqInt64SS_s6_r0 [.b r__, .p h0, .p h1, .r h2, .r h3]) K) := by kernel_rfl
def E_w_eqInt64SS_s6 (α : Type) (N : Nat) : Env α := (E_w_eqInt64SS_l0_s6 α N).addFun 23 true 4 w_eqInt64SS_s6_a (fun l K => match l with
    | [.n a_n, .n a_l, .n a_c, .n b_n, .n b_l, .n b_c, .p h0, .p h1, .r h2, .r h3] => w_eqInt64SS_s6 none N a_n a_l a_c b_n b_l b_c h0 h1 h2 h3 (fun r__ => retK (buildS w_eqInt64SS_s6_r0 [.b r__, .p h0, .p h1, .r h2, .r h3]) K)
    | _ => none)
theorem E_w_eqInt64SS_s6_ok {α : Type} (N : Nat) : EnvOk Try.prog (E_w_eqInt64SS_s6 α N) := (E_w_eqInt64SS_l0_s6_ok N).addFun prog_mixed prog_names (d := 1) fun l K r h => by
  split at h
  · exact (w_eqInt64SS_s6_run N _ _ _ _ _ _ _ _ _ _ K).trans h
  · cases h

/-- laws.eqInt64SS, loop -/
def w_eqInt64SS_l0_s4_p : SPat := ⟨[.sliceV 0 0 0 1 false, .sliceV 1 0 0 1 false, .undef, .undef, .undef, .int .i64] ++ List.replicate 21 .undef, [[.hdr 2], [.hdr 3], [.pool .i64], [.pool .i64]]⟩
def w_eqInt64SS_l0_s4_o0 : SPat := ⟨[.undef, .undef, .undef, .undef, .boolC false] ++ List.replicate 22 .undef, [[.hdr 2], [.hdr 3], [.pool .i64], [.pool .i64]]⟩
def w_eqInt64SS_l0_s4_o1 : SPat := ⟨[] ++ List.replicate 27 .undef, [[.hdr 2], [.hdr 3], [.pool .i64], [.pool .i64]]⟩
theorem w_eqInt64SS_l0_s4_round {α : Type} (N : Nat) (a_n : Nat) (a_l : Nat) (a_c : Nat) (b_n : Nat) (b_l : Nat) (b_c : Nat) (i : Int) (h0 : List (Nat × Nat)) (h1 : List (Nat × Nat)) (h2 : List (List Int)) (h3 : List (List Int)) (kn : St → Option α) (K : AExit → St → Option α) :
    roundK Try.prog (E_w_eqInt64SS_s6 α N) 1 4 23 Try.f23 4 4 (buildS w_eqInt64SS_l0_s4_p [.n a_n, .n a_l, .n a_c, .n b_n, .n b_l, .n b_c, .i i, .p h0, .p h1, .r h2, .r h3]) kn K = w_eqInt64SS_l0_s4_s none N a_n a_l a_c b_n b_l b_c h0 h1 h2 h3 i (fun i => kn (buildS w_eqInt64SS_l0_s4_p [.n a_n, .n a_l, .n a_c, .n b_n, .n b_l, .n b_c, .i i, .p h0, .p h1, .r h2, .r h3])) (K .ret (buildS w_eqInt64SS_l0_s4_o0 [.p h0, .p h1, .r h2, .r h3])) (K (.exit 0) (buildS w_eqInt64SS_l0_s4_o1 [.p h0, .p h1, .r h2, .r h3])) := by kernel_rfl
theorem w_eqInt64SS_l0_s4_loop {α : Type} (N : Nat) (a_n : Nat) (a_l : Nat) (a_c : Nat) (b_n : Nat) (b_l : Nat) (b_c : Nat) (h0 : List (Nat × Nat)) (h1 : List (Nat × Nat)) (h2 : List (List Int)) (h3 : List (List Int)) (K : AExit → St → Option α) : ∀ (m : Nat) (i : Int),
    loopN (trimSt ((E_w_eqInt64SS_s6 α N).ann 23 4).head ((E_w_eqInt64SS_s6 α N).ann 23 4).grow 4) (bodyK Try.prog (E_w_eqInt64SS_s6 α N) 1 4 23 Try.f23 4) m (buildS w_eqInt64SS_l0_s4_p [.n a_n, .n a_l, .n a_c, .n b_n, .n b_l, .n b_c, .i i, .p h0, .p h1, .r h2, .r h3]) (leaveLoop ((E_w_eqInt64SS_s6 α N).ann 23 4) 4 K) = w_eqInt64SS_l0_s4 none N a_n a_l a_c b_n b_l b_c h0 h1 h2 h3 m i (K .ret (buildS w_eqInt64SS_l0_s4_o0 [.p h0, .p h1, .r h2, .r h3])) (K (.exit 0) (buildS w_eqInt64SS_l0_s4_o1 [.p h0, .p h1, .r h2, .r h3])) := by
  intro m
  induction m with
  | zero => intros; rfl
  | succ m ih =>
    intro i
    rw [loopN_round]
    refine (w_eqInt64SS_l0_s4_round N a_n a_l a_c b_n b_l b_c i h0 h1 h2 h3 _ K).trans ?_
    simp only [ih]
    rfl
def E_w_eqInt64SS_l0_s4 (α : Type) (N : Nat) : Env α := (E_w_eqInt64SS_s6 α N).addLoop2 23 4 (loopSum2 ((E_w_eqInt64SS_s6 α N).ann 23 4) 4 w_eqInt64SS_l0_s4_p (fun l K => match l with
    | [.n a_n, .n a_l, .n a_c, .n b_n, .n b_l, .n b_c, .i i, .p h0, .p h1, .r h2, .r h3] => w_eqInt64SS_l0_s4 none N a_n a_l a_c b_n b_l b_c h0 h1 h2 h3 N i (K .ret (buildS w_eqInt64SS_l0_s4_o0 [.p h0, .p h1, .r h2, .r h3])) (K (.exit 0) (buildS w_eqInt64SS_l0_s4_o1 [.p h0, .p h1, .r h2, .r h3]))
    | _ => none) ((E_w_eqInt64SS_s6 α N).ls 23 4))
theorem E_w_eqInt64SS_l0_s4_ok {α : Type} (N : Nat) : EnvOk Try.prog (E_w_eqInt64SS_l0_s4 α N) := (E_w_eqInt64SS_s6_ok N).addLoop2 Try.func23 (by kernel_rfl) (loopSum_ok prog_mixed prog_names (E_w_eqInt64SS_s6_ok N) Try.func23 (by kernel_rfl) (d := 1) (ro := 4) fun l K r h => by
  split at h
  · exact (w_eqInt64SS_l0_s4_loop N _ _ _ _ _ _ _ _ _ _ K N _).trans h
  · cases h)

/-- laws.eqInt64SS -/
def w_eqInt64SS_s4_a : SPat := ⟨[.sliceV 0 0 0 1 false, .sliceV 1 0 0 1 false], [[.hdr 2], [.hdr 3], [.pool .i64], [.pool .i64]]⟩
def w_eqInt64SS_s4_r0 : SPat := ⟨[.bool], [[.hdr 2], [.hdr 3], [.pool .i64], [.pool .i64]]⟩
theorem w_eqInt64SS_s4_run {α : Type} (N : Nat) (a_n : Nat) (a_l : Nat) (a_c : Nat) (b_n : Nat) (b_l : Nat) (b_c : Nat) (h0 : List (Nat × Nat)) (h1 : List (Nat × Nat)) (h2 : List (List Int)) (h3 : List (List Int)) (K : AV → Heap → Option α) :
    callK Try.prog (E_w_eqInt64SS_l0_s4 α N) 1 23 4 (buildS w_eqInt64SS_s4_a [.n a_n, .n a_l, .n a_c, .n b_n, .n b_l, .n b_c, .p h0, .p h1, .r h2, .r h3]).t (buildS w_eqInt64SS_s4_a [.n a_n, .n a_l, .n a_c, .n b_n, .n b_l, .n b_c, .p h0, .p h1, .r h2, .r h3]).h K = w_eqInt64SS_s4 none N a_n a_l a_c b_n b_l b_c h0 h1 h2 h3 (fun r__ => retK (buildS w_eqInt64SS_s4_r0 [.b r__, .p h0, .p h1, .r h2, .r h3]) K) := by kernel_rfl
def E_w_eqInt64SS_s4 (α : Type) (N : Nat) : Env α := (E_w_eqInt64SS_l0_s4 α N).addFun 23 true 4 w_eqInt64SS_s4_a (fun l K => match l with
    | [.n a_n, .n a_l, .n a_c, .n b_n, .n b_l, .n b_c, .p h0, .p h1, .r h2, .r h3] => w_eqInt64SS_s4 none N a_n a_l a_c b_n b_l b_c h0 h1 h2 h3 (fun r__ => retK (buildS w_eqInt64SS_s4_r0 [.b r__, .p h0, .p h1, .r h2, .r h3]) K)
    | _ => none)
theorem E_w_eqInt64SS_s4_ok {α : Type} (N : Nat) : EnvOk Try.prog (E_w_eqInt64SS_s4 α N) := (E_w_eqInt64SS_l0_s4_ok N).addFun prog_mixed prog_names (d := 1) fun l K r h => by
  split at h
  · exact (w_eqInt64SS_s4_run N _ _ _ _ _ _ _ _ _ _ K).trans h
  · cases h

/-- laws.FnExactColouringBasis -/
def w_FnExactColouringBasis_a : SPat := ⟨[.agg [.vals [.int .i64], .ints .u8 8, .ints .u8 8], .int .i64], []⟩
def w_FnExactColouringBasis_r0 : SPat := ⟨[.bool], []⟩
theorem w_FnExactColouringBasis_run {α : Type} (N : Nat) (aG_0 : Int) (aG_1 : Nat → Int) (aG_2 : Nat → Int) (a1 : Int) (K : AV → Heap → Option α) :
    callK Try.prog (E_w_eqInt64SS_s4 α N) 1 12 0 (buildS w_FnExactColouringBasis_a [.i aG_0, .f aG_1, .f aG_2, .i a1]).t (buildS w_FnExactColouringBasis_a [.i aG_0, .f aG_1, .f aG_2, .i a1]).h K = w_FnExactColouringBasis none N aG_0 aG_1 aG_2 a1 (fun r__ => retK (buildS w_FnExactColouringBasis_r0 [.b r__]) K) := by kernel_rfl
def E_w_FnExactColouringBasis (α : Type) (N : Nat) : Env α := (E_w_eqInt64SS_s4 α N).addFun 12 true 0 w_FnExactColouringBasis_a (fun l K => match l with
    | [.i aG_0, .f aG_1, .f aG_2, .i a1] => w_FnExactColouringBasis none N aG_0 aG_1 aG_2 a1 (fun r__ => retK (buildS w_FnExactColouringBasis_r0 [.b r__]) K)
    | _ => none)
theorem E_w_FnExactColouringBasis_ok {α : Type} (N : Nat) : EnvOk Try.prog (E_w_FnExactColouringBasis α N) := (E_w_eqInt64SS_s4_ok N).addFun prog_mixed prog_names (d := 1) fun l K r h => by
  split at h
  · exact (w_FnExactColouringBasis_run N _ _ _ _ K).trans h
  · cases h
end Go.AM
