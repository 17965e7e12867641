/- A part of a proof about the given program: an abstract machine, what the given functions come to, and plain laws. -/
import Derived.Test.YtkboldcnkkolkaaMachG
import Derived.Test.YtkboldcnkkolkaaDallCuspWords1
import Derived.Test.YtkboldcnkkolkaaProg
set_option linter.unusedVariables false
set_option linter.unusedSimpArgs false
set_option maxRecDepth 100000
namespace Go.AM
open Go.Proofs

def E0 (α : Type) (N : Nat) : Env α := Env.base (fun _ _ => {}) N
theorem E0_ok {α : Type} (N : Nat) : EnvOk Try.prog (E0 α N) := .base
theorem prog_mixed : Try.prog.follows .mixedOrders = true := by kernel_rfl
theorem prog_names : NamesOk Try.prog := .of_all (by kernel_rfl)
def A_w_toByteA8_l0 (α : Type) (N : Nat) : Env α := (E0 α N).addAnn 55 3 { head := [1, 2, 3, 4], grow := [], out := [2, 3], ret := [2] }
theorem A_w_toByteA8_l0_ok {α : Type} (N : Nat) : EnvOk Try.prog (A_w_toByteA8_l0 α N) := (E0_ok N).addAnn

/-- laws.toByteA8, loop -/
def w_toByteA8_l0_p : SPat := ⟨[.undef, .ptr ⟨⟨0, 0⟩, 0, 0, 8⟩, .ptr ⟨⟨1, 0⟩, 0, 0, 8⟩, .ptr ⟨⟨2, 0⟩, 0, 0, 8⟩, .int .i64] ++ List.replicate 10 .undef, [[.ints .u8 8], [.ints .u8 8], [.ints .u8 8]]⟩
def w_toByteA8_l0_o0 : SPat := ⟨[.undef, .undef, .ptr ⟨⟨1, 0⟩, 0, 0, 8⟩, .ptr ⟨⟨2, 0⟩, 0, 0, 8⟩] ++ List.replicate 11 .undef, [[.ints .u8 8], [.ints .u8 8], [.ints .u8 8]]⟩
theorem w_toByteA8_l0_round {α : Type} (N : Nat) (i : Int) (h0 : Nat → Int) (h1 : Nat → Int) (h2 : Nat → Int) (kn : St → Option α) (K : AExit → St → Option α) :
    roundK Try.prog (A_w_toByteA8_l0 α N) 1 0 55 Try.f55 3 3 (buildS w_toByteA8_l0_p [.i i, .f h0, .f h1, .f h2]) kn K = w_toByteA8_l0_s none h0 h1 i h2 (fun i h2 => kn (buildS w_toByteA8_l0_p [.i i, .f h0, .f h1, .f h2])) (fun h2_ => K (.exit 0) (buildS w_toByteA8_l0_o0 [.f h0, .f h1, .f h2_])) := by kernel_rfl
theorem w_toByteA8_l0_loop {α : Type} (N : Nat) (h0 : Nat → Int) (h1 : Nat → Int) (K : AExit → St → Option α) : ∀ (m : Nat) (i : Int) (h2 : Nat → Int),
    loopN (trimSt ((A_w_toByteA8_l0 α N).ann 55 3).head ((A_w_toByteA8_l0 α N).ann 55 3).grow 3) (bodyK Try.prog (A_w_toByteA8_l0 α N) 1 0 55 Try.f55 3) m (buildS w_toByteA8_l0_p [.i i, .f h0, .f h1, .f h2]) (leaveLoop ((A_w_toByteA8_l0 α N).ann 55 3) 3 K) = w_toByteA8_l0 none h0 h1 m i h2 (fun h2_ => K (.exit 0) (buildS w_toByteA8_l0_o0 [.f h0, .f h1, .f h2_])) := by
  intro m
  induction m with
  | zero => intros; rfl
  | succ m ih =>
    intro i h2
    rw [loopN_round]
    refine (w_toByteA8_l0_round N i h0 h1 h2 _ K).trans ?_
    simp only [ih]
    rfl
def E_w_toByteA8_l0 (α : Type) (N : Nat) : Env α := (A_w_toByteA8_l0 α N).addLoop2 55 3 (loopSum2 ((A_w_toByteA8_l0 α N).ann 55 3) 0 w_toByteA8_l0_p (fun l K => match l with
    | [.i i, .f h0, .f h1, .f h2] => w_toByteA8_l0 none h0 h1 N i h2 (fun h2_ => K (.exit 0) (buildS w_toByteA8_l0_o0 [.f h0, .f h1, .f h2_]))
    | _ => none) ((A_w_toByteA8_l0 α N).ls 55 3))
theorem E_w_toByteA8_l0_ok {α : Type} (N : Nat) : EnvOk Try.prog (E_w_toByteA8_l0 α N) := (A_w_toByteA8_l0_ok N).addLoop2 Try.func55 (by kernel_rfl) (loopSum_ok prog_mixed prog_names (A_w_toByteA8_l0_ok N) Try.func55 (by kernel_rfl) (d := 1) (ro := 0) fun l K r h => by
  split at h
  · exact (w_toByteA8_l0_loop N _ _ K N _ _).trans h
  · cases h)

/-- laws.toByteA8 -/
def w_toByteA8_a : SPat := ⟨[.agg [.ints .u8 8]], []⟩
def w_toByteA8_r0 : SPat := ⟨[.agg [.ints .u8 8]], []⟩
theorem w_toByteA8_run {α : Type} (N : Nat) (a : Nat → Int) (K : AV → Heap → Option α) :
    callK Try.prog (E_w_toByteA8_l0 α N) 1 55 0 (buildS w_toByteA8_a [.f a]).t (buildS w_toByteA8_a [.f a]).h K = w_toByteA8 none N a (fun r__ => retK (buildS w_toByteA8_r0 [.f r__]) K) := by kernel_rfl
def E_w_toByteA8 (α : Type) (N : Nat) : Env α := (E_w_toByteA8_l0 α N).addFun 55 true 0 w_toByteA8_a (fun l K => match l with
    | [.f a] => w_toByteA8 none N a (fun r__ => retK (buildS w_toByteA8_r0 [.f r__]) K)
    | _ => none)
theorem E_w_toByteA8_ok {α : Type} (N : Nat) : EnvOk Try.prog (E_w_toByteA8 α N) := (E_w_toByteA8_l0_ok N).addFun prog_mixed prog_names (d := 1) fun l K r h => by
  split at h
  · exact (w_toByteA8_run N _ K).trans h
  · cases h

/-- laws.toGrid -/
def w_toGrid_a : SPat := ⟨[.agg [.vals [.int .i64], .ints .u8 8, .ints .u8 8]], []⟩
def w_toGrid_r0 : SPat := ⟨[.agg [.vals [.int .i64], .ints .u8 8, .ints .u8 8]], []⟩
theorem w_toGrid_run {α : Type} (N : Nat) (a_0 : Int) (a_1 : Nat → Int) (a_2 : Nat → Int) (K : AV → Heap → Option α) :
    callK Try.prog (E_w_toByteA8 α N) 1 17 0 (buildS w_toGrid_a [.i a_0, .f a_1, .f a_2]).t (buildS w_toGrid_a [.i a_0, .f a_1, .f a_2]).h K = w_toGrid none N a_0 a_1 a_2 (fun r_1_ r_2_ => retK (buildS w_toGrid_r0 [.i a_0, .f r_1_, .f r_2_]) K) := by kernel_rfl
def E_w_toGrid (α : Type) (N : Nat) : Env α := (E_w_toByteA8 α N).addFun 17 true 0 w_toGrid_a (fun l K => match l with
    | [.i a_0, .f a_1, .f a_2] => w_toGrid none N a_0 a_1 a_2 (fun r_1_ r_2_ => retK (buildS w_toGrid_r0 [.i a_0, .f r_1_, .f r_2_]) K)
    | _ => none)
theorem E_w_toGrid_ok {α : Type} (N : Nat) : EnvOk Try.prog (E_w_toGrid α N) := (E_w_toByteA8_ok N).addFun prog_mixed prog_names (d := 1) fun l K r h => by
  split at h
  · exact (w_toGrid_run N _ _ _ K).trans h
  · cases h

/-- spec.l01In -/
def s_l01In_a : SPat := ⟨[.int .i64, .int .i64, .int .i64], []⟩
def s_l01In_r0 : SPat := ⟨[.bool], []⟩
theorem s_l01In_run {α : Type} (N : Nat) (n : Int) (low : Int) (high : Int) (K : AV → Heap → Option α) :
    callK Try.prog (E_w_toGrid α N) 1 98 0 (buildS s_l01In_a [.i n, .i low, .i high]).t (buildS s_l01In_a [.i n, .i low, .i high]).h K = s_l01In none N n low high (fun r__ => retK (buildS s_l01In_r0 [.b r__]) K) := by kernel_rfl
def E_s_l01In (α : Type) (N : Nat) : Env α := (E_w_toGrid α N).addFun 98 true 0 s_l01In_a (fun l K => match l with
    | [.i n, .i low, .i high] => s_l01In none N n low high (fun r__ => retK (buildS s_l01In_r0 [.b r__]) K)
    | _ => none)
theorem E_s_l01In_ok {α : Type} (N : Nat) : EnvOk Try.prog (E_s_l01In α N) := (E_w_toGrid_ok N).addFun prog_mixed prog_names (d := 1) fun l K r h => by
  split at h
  · exact (s_l01In_run N _ _ _ K).trans h
  · cases h

def A_s_l01Perm_l0 (α : Type) (N : Nat) : Env α := (E_s_l01In α N).addAnn 114 3 { head := [1, 2, 5, 6], grow := [], out := [], ret := [4] }
theorem A_s_l01Perm_l0_ok {α : Type} (N : Nat) : EnvOk Try.prog (A_s_l01Perm_l0 α N) := (E_s_l01In_ok N).addAnn

/-- spec.l01Perm, loop -/
def s_l01Perm_l0_p : SPat := ⟨[.undef, .int .i64, .ptr ⟨⟨0, 0⟩, 0, 0, 8⟩, .undef, .undef, .ptr ⟨⟨1, 0⟩, 0, 0, 8⟩, .int .i64] ++ List.replicate 29 .undef, [[.ints .u8 8], [.bools 8]]⟩
def s_l01Perm_l0_o0 : SPat := ⟨[.undef, .undef, .undef, .undef, .boolC false] ++ List.replicate 31 .undef, [[.ints .u8 8], [.bools 8]]⟩
def s_l01Perm_l0_o1 : SPat := ⟨[] ++ List.replicate 36 .undef, [[.ints .u8 8], [.bools 8]]⟩
theorem s_l01Perm_l0_round {α : Type} (N : Nat) (n : Int) (i : Int) (h0 : Nat → Int) (h1 : Nat → Bool) (kn : St → Option α) (K : AExit → St → Option α) :
    roundK Try.prog (A_s_l01Perm_l0 α N) 1 0 114 Try.f114 3 2 (buildS s_l01Perm_l0_p [.i n, .i i, .f h0, .g h1]) kn K = s_l01Perm_l0_s none n h0 i h1 (fun i h1 => kn (buildS s_l01Perm_l0_p [.i n, .i i, .f h0, .g h1])) (fun h1_ => K .ret (buildS s_l01Perm_l0_o0 [.f h0, .g h1_])) (fun h1_ => K (.exit 0) (buildS s_l01Perm_l0_o1 [.f h0, .g h1_])) := by kernel_rfl
theorem s_l01Perm_l0_loop {α : Type} (N : Nat) (n : Int) (h0 : Nat → Int) (K : AExit → St → Option α) : ∀ (m : Nat) (i : Int) (h1 : Nat → Bool),
    loopN (trimSt ((A_s_l01Perm_l0 α N).ann 114 3).head ((A_s_l01Perm_l0 α N).ann 114 3).grow 2) (bodyK Try.prog (A_s_l01Perm_l0 α N) 1 0 114 Try.f114 3) m (buildS s_l01Perm_l0_p [.i n, .i i, .f h0, .g h1]) (leaveLoop ((A_s_l01Perm_l0 α N).ann 114 3) 2 K) = s_l01Perm_l0 none n h0 m i h1 (fun h1_ => K .ret (buildS s_l01Perm_l0_o0 [.f h0, .g h1_])) (fun h1_ => K (.exit 0) (buildS s_l01Perm_l0_o1 [.f h0, .g h1_])) := by
  intro m
  induction m with
  | zero => intros; rfl
  | succ m ih =>
    intro i h1
    rw [loopN_round]
    refine (s_l01Perm_l0_round N n i h0 h1 _ K).trans ?_
    simp only [ih]
    rfl
def E_s_l01Perm_l0 (α : Type) (N : Nat) : Env α := (A_s_l01Perm_l0 α N).addLoop2 114 3 (loopSum2 ((A_s_l01Perm_l0 α N).ann 114 3) 0 s_l01Perm_l0_p (fun l K => match l with
    | [.i n, .i i, .f h0, .g h1] => s_l01Perm_l0 none n h0 N i h1 (fun h1_ => K .ret (buildS s_l01Perm_l0_o0 [.f h0, .g h1_])) (fun h1_ => K (.exit 0) (buildS s_l01Perm_l0_o1 [.f h0, .g h1_]))
    | _ => none) ((A_s_l01Perm_l0 α N).ls 114 3))
theorem E_s_l01Perm_l0_ok {α : Type} (N : Nat) : EnvOk Try.prog (E_s_l01Perm_l0 α N) := (A_s_l01Perm_l0_ok N).addLoop2 Try.func114 (by kernel_rfl) (loopSum_ok prog_mixed prog_names (A_s_l01Perm_l0_ok N) Try.func114 (by kernel_rfl) (d := 1) (ro := 0) fun l K r h => by
  split at h
  · exact (s_l01Perm_l0_loop N _ _ K N _ _).trans h
  · cases h)

/-- spec.l01Perm -/
def s_l01Perm_a : SPat := ⟨[.agg [.ints .u8 8], .int .i64], []⟩
def s_l01Perm_r0 : SPat := ⟨[.bool], []⟩
theorem s_l01Perm_run {α : Type} (N : Nat) (list : Nat → Int) (n : Int) (K : AV → Heap → Option α) :
    callK Try.prog (E_s_l01Perm_l0 α N) 1 114 0 (buildS s_l01Perm_a [.f list, .i n]).t (buildS s_l01Perm_a [.f list, .i n]).h K = s_l01Perm none N list n (fun r__ => retK (buildS s_l01Perm_r0 [.b r__]) K) := by kernel_rfl
def E_s_l01Perm (α : Type) (N : Nat) : Env α := (E_s_l01Perm_l0 α N).addFun 114 true 0 s_l01Perm_a (fun l K => match l with
    | [.f list, .i n] => s_l01Perm none N list n (fun r__ => retK (buildS s_l01Perm_r0 [.b r__]) K)
    | _ => none)
theorem E_s_l01Perm_ok {α : Type} (N : Nat) : EnvOk Try.prog (E_s_l01Perm α N) := (E_s_l01Perm_l0_ok N).addFun prog_mixed prog_names (d := 1) fun l K r h => by
  split at h
  · exact (s_l01Perm_run N _ _ K).trans h
  · cases h

def A_s_l01Is_l0 (α : Type) (N : Nat) : Env α := (E_s_l01Perm α N).addAnn 52 4 { head := [1, 3], grow := [], out := [], ret := [2] }
theorem A_s_l01Is_l0_ok {α : Type} (N : Nat) : EnvOk Try.prog (A_s_l01Is_l0 α N) := (E_s_l01Perm_ok N).addAnn

/-- spec.l01Is, loop -/
def s_l01Is_l0_p : SPat := ⟨[.undef, .ptr ⟨⟨0, 0⟩, 0, 0, 1⟩, .undef, .int .i64] ++ List.replicate 35 .undef, [[.vals [.int .i64], .ints .u8 8, .ints .u8 8]]⟩
def s_l01Is_l0_o0 : SPat := ⟨[.undef, .undef, .boolC false] ++ List.replicate 36 .undef, [[.vals [.int .i64], .ints .u8 8, .ints .u8 8]]⟩
def s_l01Is_l0_o1 : SPat := ⟨[] ++ List.replicate 39 .undef, [[.vals [.int .i64], .ints .u8 8, .ints .u8 8]]⟩
theorem s_l01Is_l0_round {α : Type} (N : Nat) (i : Int) (h0_0 : Int) (h0_1 : Nat → Int) (h0_2 : Nat → Int) (kn : St → Option α) (K : AExit → St → Option α) :
    roundK Try.prog (A_s_l01Is_l0 α N) 1 0 52 Try.f52 4 1 (buildS s_l01Is_l0_p [.i i, .i h0_0, .f h0_1, .f h0_2]) kn K = s_l01Is_l0_s none h0_0 h0_1 h0_2 i (fun i => kn (buildS s_l01Is_l0_p [.i i, .i h0_0, .f h0_1, .f h0_2])) (K .ret (buildS s_l01Is_l0_o0 [.i h0_0, .f h0_1, .f h0_2])) (K (.exit 0) (buildS s_l01Is_l0_o1 [.i h0_0, .f h0_1, .f h0_2])) := by kernel_rfl
theorem s_l01Is_l0_loop {α : Type} (N : Nat) (h0_0 : Int) (h0_1 : Nat → Int) (h0_2 : Nat → Int) (K : AExit → St → Option α) : ∀ (m : Nat) (i : Int),
    loopN (trimSt ((A_s_l01Is_l0 α N).ann 52 4).head ((A_s_l01Is_l0 α N).ann 52 4).grow 1) (bodyK Try.prog (A_s_l01Is_l0 α N) 1 0 52 Try.f52 4) m (buildS s_l01Is_l0_p [.i i, .i h0_0, .f h0_1, .f h0_2]) (leaveLoop ((A_s_l01Is_l0 α N).ann 52 4) 1 K) = s_l01Is_l0 none h0_0 h0_1 h0_2 m i (K .ret (buildS s_l01Is_l0_o0 [.i h0_0, .f h0_1, .f h0_2])) (K (.exit 0) (buildS s_l01Is_l0_o1 [.i h0_0, .f h0_1, .f h0_2])) := by
  intro m
  induction m with
  | zero => intros; rfl
  | succ m ih =>
    intro i
    rw [loopN_round]
    refine (s_l01Is_l0_round N i h0_0 h0_1 h0_2 _ K).trans ?_
    simp only [ih]
    rfl
def E_s_l01Is_l0 (α : Type) (N : Nat) : Env α := (A_s_l01Is_l0 α N).addLoop2 52 4 (loopSum2 ((A_s_l01Is_l0 α N).ann 52 4) 0 s_l01Is_l0_p (fun l K => match l with
    | [.i i, .i h0_0, .f h0_1, .f h0_2] => s_l01Is_l0 none h0_0 h0_1 h0_2 N i (K .ret (buildS s_l01Is_l0_o0 [.i h0_0, .f h0_1, .f h0_2])) (K (.exit 0) (buildS s_l01Is_l0_o1 [.i h0_0, .f h0_1, .f h0_2]))
    | _ => none) ((A_s_l01Is_l0 α N).ls 52 4))
theorem E_s_l01Is_l0_ok {α : Type} (N : Nat) : EnvOk Try.prog (E_s_l01Is_l0 α N) := (A_s_l01Is_l0_ok N).addLoop2 Try.func52 (by kernel_rfl) (loopSum_ok prog_mixed prog_names (A_s_l01Is_l0_ok N) Try.func52 (by kernel_rfl) (d := 1) (ro := 0) fun l K r h => by
  split at h
  · exact (s_l01Is_l0_loop N _ _ _ K N _).trans h
  · cases h)

/-- spec.l01Is -/
def s_l01Is_a : SPat := ⟨[.agg [.vals [.int .i64], .ints .u8 8, .ints .u8 8]], []⟩
def s_l01Is_r0 : SPat := ⟨[.bool], []⟩
theorem s_l01Is_run {α : Type} (N : Nat) (g_0 : Int) (g_1 : Nat → Int) (g_2 : Nat → Int) (K : AV → Heap → Option α) :
    callK Try.prog (E_s_l01Is_l0 α N) 1 52 0 (buildS s_l01Is_a [.i g_0, .f g_1, .f g_2]).t (buildS s_l01Is_a [.i g_0, .f g_1, .f g_2]).h K = s_l01Is none N g_0 g_1 g_2 (fun r__ => retK (buildS s_l01Is_r0 [.b r__]) K) := by kernel_rfl
def E_s_l01Is (α : Type) (N : Nat) : Env α := (E_s_l01Is_l0 α N).addFun 52 true 0 s_l01Is_a (fun l K => match l with
    | [.i g_0, .f g_1, .f g_2] => s_l01Is none N g_0 g_1 g_2 (fun r__ => retK (buildS s_l01Is_r0 [.b r__]) K)
    | _ => none)
theorem E_s_l01Is_ok {α : Type} (N : Nat) : EnvOk Try.prog (E_s_l01Is α N) := (E_s_l01Is_l0_ok N).addFun prog_mixed prog_names (d := 1) fun l K r h => by
  split at h
  · exact (s_l01Is_run N _ _ _ K).trans h
  · cases h

def A_s_l01Components_l0 (α : Type) (N : Nat) : Env α := (E_s_l01Is α N).addAnn 66 3 { head := [1, 2, 4, 5, 6], grow := [], out := [1, 2, 4, 5], ret := [2, 3] }
theorem A_s_l01Components_l0_ok {α : Type} (N : Nat) : EnvOk Try.prog (A_s_l01Components_l0 α N) := (E_s_l01Is_ok N).addAnn

/-- spec.l01Components, loop -/
def s_l01Components_l0_p : SPat := ⟨[.undef, .ptr ⟨⟨0, 0⟩, 0, 0, 1⟩, .ptr ⟨⟨1, 0⟩, 0, 0, 8⟩, .undef, .ptr ⟨⟨2, 0⟩, 0, 0, 8⟩, .intC .i64 0, .int .i64] ++ List.replicate 34 .undef, [[.vals [.int .i64], .ints .u8 8, .ints .u8 8], [.ints .i64 8], [.ints .i64 8]]⟩
def s_l01Components_l0_o0 : SPat := ⟨[.undef, .ptr ⟨⟨0, 0⟩, 0, 0, 1⟩, .ptr ⟨⟨1, 0⟩, 0, 0, 8⟩, .undef, .ptr ⟨⟨2, 0⟩, 0, 0, 8⟩, .intC .i64 0] ++ List.replicate 35 .undef, [[.vals [.int .i64], .ints .u8 8, .ints .u8 8], [.ints .i64 8], [.ints .i64 8]]⟩
theorem s_l01Components_l0_round {α : Type} (N : Nat) (i : Int) (h0_0 : Int) (h0_1 : Nat → Int) (h0_2 : Nat → Int) (h1 : Nat → Int) (h2 : Nat → Int) (kn : St → Option α) (K : AExit → St → Option α) :
    roundK Try.prog (A_s_l01Components_l0 α N) 1 0 66 Try.f66 3 3 (buildS s_l01Components_l0_p [.i i, .i h0_0, .f h0_1, .f h0_2, .f h1, .f h2]) kn K = s_l01Components_l0_s none h0_0 h0_1 h0_2 h1 i h2 (fun i h2 => kn (buildS s_l01Components_l0_p [.i i, .i h0_0, .f h0_1, .f h0_2, .f h1, .f h2])) (fun h2_ => K (.exit 0) (buildS s_l01Components_l0_o0 [.i h0_0, .f h0_1, .f h0_2, .f h1, .f h2_])) := by kernel_rfl
theorem s_l01Components_l0_loop {α : Type} (N : Nat) (h0_0 : Int) (h0_1 : Nat → Int) (h0_2 : Nat → Int) (h1 : Nat → Int) (K : AExit → St → Option α) : ∀ (m : Nat) (i : Int) (h2 : Nat → Int),
    loopN (trimSt ((A_s_l01Components_l0 α N).ann 66 3).head ((A_s_l01Components_l0 α N).ann 66 3).grow 3) (bodyK Try.prog (A_s_l01Components_l0 α N) 1 0 66 Try.f66 3) m (buildS s_l01Components_l0_p [.i i, .i h0_0, .f h0_1, .f h0_2, .f h1, .f h2]) (leaveLoop ((A_s_l01Components_l0 α N).ann 66 3) 3 K) = s_l01Components_l0 none h0_0 h0_1 h0_2 h1 m i h2 (fun h2_ => K (.exit 0) (buildS s_l01Components_l0_o0 [.i h0_0, .f h0_1, .f h0_2, .f h1, .f h2_])) := by
  intro m
  induction m with
  | zero => intros; rfl
  | succ m ih =>
    intro i h2
    rw [loopN_round]
    refine (s_l01Components_l0_round N i h0_0 h0_1 h0_2 h1 h2 _ K).trans ?_
    simp only [ih]
    rfl
def E_s_l01Components_l0 (α : Type) (N : Nat) : Env α := (A_s_l01Components_l0 α N).addLoop2 66 3 (loopSum2 ((A_s_l01Components_l0 α N).ann 66 3) 0 s_l01Components_l0_p (fun l K => match l with
    | [.i i, .i h0_0, .f h0_1, .f h0_2, .f h1, .f h2] => s_l01Components_l0 none h0_0 h0_1 h0_2 h1 N i h2 (fun h2_ => K (.exit 0) (buildS s_l01Components_l0_o0 [.i h0_0, .f h0_1, .f h0_2, .f h1, .f h2_]))
    | _ => none) ((A_s_l01Components_l0 α N).ls 66 3))
theorem E_s_l01Components_l0_ok {α : Type} (N : Nat) : EnvOk Try.prog (E_s_l01Components_l0 α N) := (A_s_l01Components_l0_ok N).addLoop2 Try.func66 (by kernel_rfl) (loopSum_ok prog_mixed prog_names (A_s_l01Components_l0_ok N) Try.func66 (by kernel_rfl) (d := 1) (ro := 0) fun l K r h => by
  split at h
  · exact (s_l01Components_l0_loop N _ _ _ _ K N _ _).trans h
  · cases h)

def A_s_l01Components_l1 (α : Type) (N : Nat) : Env α := (E_s_l01Components_l0 α N).addAnn 66 7 { head := [1, 2, 4, 5, 7], grow := [], out := [2, 4, 5], ret := [2, 3] }
theorem A_s_l01Components_l1_ok {α : Type} (N : Nat) : EnvOk Try.prog (A_s_l01Components_l1 α N) := (E_s_l01Components_l0_ok N).addAnn

def A_s_l01Components_l2 (α : Type) (N : Nat) : Env α := (A_s_l01Components_l1 α N).addAnn 66 11 { head := [1, 2, 4, 5, 7, 8], grow := [], out := [1, 2, 4, 5, 7], ret := [2, 3] }
theorem A_s_l01Components_l2_ok {α : Type} (N : Nat) : EnvOk Try.prog (A_s_l01Components_l2 α N) := (A_s_l01Components_l1_ok N).addAnn

def A_s_l01Row_l0 (α : Type) (N : Nat) : Env α := (A_s_l01Components_l2 α N).addAnn 133 2 { head := [1, 2, 3, 7], grow := [], out := [], ret := [6] }
theorem A_s_l01Row_l0_ok {α : Type} (N : Nat) : EnvOk Try.prog (A_s_l01Row_l0 α N) := (A_s_l01Components_l2_ok N).addAnn

/-- spec.l01Row, loop -/
def s_l01Row_l0_p : SPat := ⟨[.undef, .int .i64, .int .i64, .ptr ⟨⟨0, 0⟩, 0, 0, 8⟩, .undef, .undef, .undef, .int .i64] ++ List.replicate 12 .undef, [[.ints .u8 8]]⟩
def s_l01Row_l0_o0 : SPat := ⟨[.undef, .undef, .undef, .undef, .undef, .undef, .int .i64] ++ List.replicate 13 .undef, [[.ints .u8 8]]⟩
def s_l01Row_l0_o1 : SPat := ⟨[] ++ List.replicate 20 .undef, [[.ints .u8 8]]⟩
theorem s_l01Row_l0_round {α : Type} (N : Nat) (n : Int) (r_ : Int) (i : Int) (h0 : Nat → Int) (kn : St → Option α) (K : AExit → St → Option α) :
    roundK Try.prog (A_s_l01Row_l0 α N) 1 0 133 Try.f133 2 1 (buildS s_l01Row_l0_p [.i n, .i r_, .i i, .f h0]) kn K = s_l01Row_l0_s none n r_ h0 i (fun i => kn (buildS s_l01Row_l0_p [.i n, .i r_, .i i, .f h0])) (fun t6_ => K .ret (buildS s_l01Row_l0_o0 [.i t6_, .f h0])) (K (.exit 0) (buildS s_l01Row_l0_o1 [.f h0])) := by kernel_rfl
theorem s_l01Row_l0_loop {α : Type} (N : Nat) (n : Int) (r_ : Int) (h0 : Nat → Int) (K : AExit → St → Option α) : ∀ (m : Nat) (i : Int),
    loopN (trimSt ((A_s_l01Row_l0 α N).ann 133 2).head ((A_s_l01Row_l0 α N).ann 133 2).grow 1) (bodyK Try.prog (A_s_l01Row_l0 α N) 1 0 133 Try.f133 2) m (buildS s_l01Row_l0_p [.i n, .i r_, .i i, .f h0]) (leaveLoop ((A_s_l01Row_l0 α N).ann 133 2) 1 K) = s_l01Row_l0 none n r_ h0 m i (fun t6_ => K .ret (buildS s_l01Row_l0_o0 [.i t6_, .f h0])) (K (.exit 0) (buildS s_l01Row_l0_o1 [.f h0])) := by
  intro m
  induction m with
  | zero => intros; rfl
  | succ m ih =>
    intro i
    rw [loopN_round]
    refine (s_l01Row_l0_round N n r_ i h0 _ K).trans ?_
    simp only [ih]
    rfl
def E_s_l01Row_l0 (α : Type) (N : Nat) : Env α := (A_s_l01Row_l0 α N).addLoop2 133 2 (loopSum2 ((A_s_l01Row_l0 α N).ann 133 2) 0 s_l01Row_l0_p (fun l K => match l with
    | [.i n, .i r_, .i i, .f h0] => s_l01Row_l0 none n r_ h0 N i (fun t6_ => K .ret (buildS s_l01Row_l0_o0 [.i t6_, .f h0])) (K (.exit 0) (buildS s_l01Row_l0_o1 [.f h0]))
    | _ => none) ((A_s_l01Row_l0 α N).ls 133 2))
theorem E_s_l01Row_l0_ok {α : Type} (N : Nat) : EnvOk Try.prog (E_s_l01Row_l0 α N) := (A_s_l01Row_l0_ok N).addLoop2 Try.func133 (by kernel_rfl) (loopSum_ok prog_mixed prog_names (A_s_l01Row_l0_ok N) Try.func133 (by kernel_rfl) (d := 1) (ro := 0) fun l K r h => by
  split at h
  · exact (s_l01Row_l0_loop N _ _ _ K N _).trans h
  · cases h)

/-- spec.l01Row -/
def s_l01Row_a : SPat := ⟨[.agg [.ints .u8 8], .int .i64, .int .i64], []⟩
def s_l01Row_r0 : SPat := ⟨[.int .i64], []⟩
theorem s_l01Row_run {α : Type} (N : Nat) (list : Nat → Int) (n : Int) (r_ : Int) (K : AV → Heap → Option α) :
    callK Try.prog (E_s_l01Row_l0 α N) 1 133 0 (buildS s_l01Row_a [.f list, .i n, .i r_]).t (buildS s_l01Row_a [.f list, .i n, .i r_]).h K = s_l01Row none N list n r_ (fun r__ => retK (buildS s_l01Row_r0 [.i r__]) K) := by kernel_rfl
def E_s_l01Row (α : Type) (N : Nat) : Env α := (E_s_l01Row_l0 α N).addFun 133 true 0 s_l01Row_a (fun l K => match l with
    | [.f list, .i n, .i r_] => s_l01Row none N list n r_ (fun r__ => retK (buildS s_l01Row_r0 [.i r__]) K)
    | _ => none)
theorem E_s_l01Row_ok {α : Type} (N : Nat) : EnvOk Try.prog (E_s_l01Row α N) := (E_s_l01Row_l0_ok N).addFun prog_mixed prog_names (d := 1) fun l K r h => by
  split at h
  · exact (s_l01Row_run N _ _ _ K).trans h
  · cases h

/-- spec.l01Follow -/
def s_l01Follow_a : SPat := ⟨[.agg [.vals [.int .i64], .ints .u8 8, .ints .u8 8], .int .i64], []⟩
def s_l01Follow_r0 : SPat := ⟨[.int .i64], []⟩
theorem s_l01Follow_run {α : Type} (N : Nat) (g_0 : Int) (g_1 : Nat → Int) (g_2 : Nat → Int) (i : Int) (K : AV → Heap → Option α) :
    callK Try.prog (E_s_l01Row α N) 1 81 0 (buildS s_l01Follow_a [.i g_0, .f g_1, .f g_2, .i i]).t (buildS s_l01Follow_a [.i g_0, .f g_1, .f g_2, .i i]).h K = s_l01Follow none N g_0 g_1 g_2 i (fun r__ => retK (buildS s_l01Follow_r0 [.i r__]) K) := by kernel_rfl
def E_s_l01Follow (α : Type) (N : Nat) : Env α := (E_s_l01Row α N).addFun 81 true 0 s_l01Follow_a (fun l K => match l with
    | [.i g_0, .f g_1, .f g_2, .i i] => s_l01Follow none N g_0 g_1 g_2 i (fun r__ => retK (buildS s_l01Follow_r0 [.i r__]) K)
    | _ => none)
theorem E_s_l01Follow_ok {α : Type} (N : Nat) : EnvOk Try.prog (E_s_l01Follow α N) := (E_s_l01Row_ok N).addFun prog_mixed prog_names (d := 1) fun l K r h => by
  split at h
  · exact (s_l01Follow_run N _ _ _ _ K).trans h
  · cases h

/-- spec.l01Components, loop -/
def s_l01Components_l2_p : SPat := ⟨[.undef, .ptr ⟨⟨0, 0⟩, 0, 0, 1⟩, .ptr ⟨⟨1, 0⟩, 0, 0, 8⟩, .undef, .ptr ⟨⟨2, 0⟩, 0, 0, 8⟩, .int .i64, .undef, .int .i64, .int .i64] ++ List.replicate 32 .undef, [[.vals [.int .i64], .ints .u8 8, .ints .u8 8], [.ints .i64 8], [.ints .i64 8]]⟩
def s_l01Components_l2_o0 : SPat := ⟨[.undef, .ptr ⟨⟨0, 0⟩, 0, 0, 1⟩, .ptr ⟨⟨1, 0⟩, 0, 0, 8⟩, .undef, .ptr ⟨⟨2, 0⟩, 0, 0, 8⟩, .int .i64, .undef, .int .i64] ++ List.replicate 33 .undef, [[.vals [.int .i64], .ints .u8 8, .ints .u8 8], [.ints .i64 8], [.ints .i64 8]]⟩
theorem s_l01Components_l2_round {α : Type} (N : Nat) (count : Int) (i : Int) (k : Int) (h0_0 : Int) (h0_1 : Nat → Int) (h0_2 : Nat → Int) (h1 : Nat → Int) (h2 : Nat → Int) (kn : St → Option α) (K : AExit → St → Option α) :
    roundK Try.prog (E_s_l01Follow α N) 1 0 66 Try.f66 11 3 (buildS s_l01Components_l2_p [.i count, .i i, .i k, .i h0_0, .f h0_1, .f h0_2, .f h1, .f h2]) kn K = s_l01Components_l2_s none N count i h0_0 h0_1 h0_2 h1 k h2 (fun k h2 => kn (buildS s_l01Components_l2_p [.i count, .i i, .i k, .i h0_0, .f h0_1, .f h0_2, .f h1, .f h2])) (fun h2_ => K (.exit 4) (buildS s_l01Components_l2_o0 [.i count, .i i, .i h0_0, .f h0_1, .f h0_2, .f h1, .f h2_])) := by kernel_rfl
theorem s_l01Components_l2_loop {α : Type} (N : Nat) (count : Int) (i : Int) (h0_0 : Int) (h0_1 : Nat → Int) (h0_2 : Nat → Int) (h1 : Nat → Int) (K : AExit → St → Option α) : ∀ (m : Nat) (k : Int) (h2 : Nat → Int),
    loopN (trimSt ((E_s_l01Follow α N).ann 66 11).head ((E_s_l01Follow α N).ann 66 11).grow 3) (bodyK Try.prog (E_s_l01Follow α N) 1 0 66 Try.f66 11) m (buildS s_l01Components_l2_p [.i count, .i i, .i k, .i h0_0, .f h0_1, .f h0_2, .f h1, .f h2]) (leaveLoop ((E_s_l01Follow α N).ann 66 11) 3 K) = s_l01Components_l2 none N count i h0_0 h0_1 h0_2 h1 m k h2 (fun h2_ => K (.exit 4) (buildS s_l01Components_l2_o0 [.i count, .i i, .i h0_0, .f h0_1, .f h0_2, .f h1, .f h2_])) := by
  intro m
  induction m with
  | zero => intros; rfl
  | succ m ih =>
    intro k h2
    rw [loopN_round]
    refine (s_l01Components_l2_round N count i k h0_0 h0_1 h0_2 h1 h2 _ K).trans ?_
    simp only [ih]
    rfl
def E_s_l01Components_l2 (α : Type) (N : Nat) : Env α := (E_s_l01Follow α N).addLoop2 66 11 (loopSum2 ((E_s_l01Follow α N).ann 66 11) 0 s_l01Components_l2_p (fun l K => match l with
    | [.i count, .i i, .i k, .i h0_0, .f h0_1, .f h0_2, .f h1, .f h2] => s_l01Components_l2 none N count i h0_0 h0_1 h0_2 h1 N k h2 (fun h2_ => K (.exit 4) (buildS s_l01Components_l2_o0 [.i count, .i i, .i h0_0, .f h0_1, .f h0_2, .f h1, .f h2_]))
    | _ => none) ((E_s_l01Follow α N).ls 66 11))
theorem E_s_l01Components_l2_ok {α : Type} (N : Nat) : EnvOk Try.prog (E_s_l01Components_l2 α N) := (E_s_l01Follow_ok N).addLoop2 Try.func66 (by kernel_rfl) (loopSum_ok prog_mixed prog_names (E_s_l01Follow_ok N) Try.func66 (by kernel_rfl) (d := 1) (ro := 0) fun l K r h => by
  split at h
  · exact (s_l01Components_l2_loop N _ _ _ _ _ _ K N _ _).trans h
  · cases h)

/-- spec.l01Components, loop -/
def s_l01Components_l1_p : SPat := ⟨[.undef, .ptr ⟨⟨0, 0⟩, 0, 0, 1⟩, .ptr ⟨⟨1, 0⟩, 0, 0, 8⟩, .undef, .ptr ⟨⟨2, 0⟩, 0, 0, 8⟩, .int .i64, .undef, .int .i64] ++ List.replicate 33 .undef, [[.vals [.int .i64], .ints .u8 8, .ints .u8 8], [.ints .i64 8], [.ints .i64 8]]⟩
def s_l01Components_l1_o0 : SPat := ⟨[.undef, .undef, .ptr ⟨⟨1, 0⟩, 0, 0, 8⟩, .undef, .ptr ⟨⟨2, 0⟩, 0, 0, 8⟩, .int .i64] ++ List.replicate 35 .undef, [[.vals [.int .i64], .ints .u8 8, .ints .u8 8], [.ints .i64 8], [.ints .i64 8]]⟩
theorem s_l01Components_l1_round {α : Type} (N : Nat) (count : Int) (i : Int) (h0_0 : Int) (h0_1 : Nat → Int) (h0_2 : Nat → Int) (h1 : Nat → Int) (h2 : Nat → Int) (kn : St → Option α) (K : AExit → St → Option α) :
    roundK Try.prog (E_s_l01Components_l2 α N) 1 0 66 Try.f66 7 3 (buildS s_l01Components_l1_p [.i count, .i i, .i h0_0, .f h0_1, .f h0_2, .f h1, .f h2]) kn K = s_l01Components_l1_s none N h0_0 h0_1 h0_2 h1 count i h2 (fun count i h2 => kn (buildS s_l01Components_l1_p [.i count, .i i, .i h0_0, .f h0_1, .f h0_2, .f h1, .f h2])) (fun count_ h2_ => K (.exit 2) (buildS s_l01Components_l1_o0 [.i count_, .i h0_0, .f h0_1, .f h0_2, .f h1, .f h2_])) := by kernel_rfl
theorem s_l01Components_l1_loop {α : Type} (N : Nat) (h0_0 : Int) (h0_1 : Nat → Int) (h0_2 : Nat → Int) (h1 : Nat → Int) (K : AExit → St → Option α) : ∀ (m : Nat) (count : Int) (i : Int) (h2 : Nat → Int),
    loopN (trimSt ((E_s_l01Components_l2 α N).ann 66 7).head ((E_s_l01Components_l2 α N).ann 66 7).grow 3) (bodyK Try.prog (E_s_l01Components_l2 α N) 1 0 66 Try.f66 7) m (buildS s_l01Components_l1_p [.i count, .i i, .i h0_0, .f h0_1, .f h0_2, .f h1, .f h2]) (leaveLoop ((E_s_l01Components_l2 α N).ann 66 7) 3 K) = s_l01Components_l1 none N h0_0 h0_1 h0_2 h1 m count i h2 (fun count_ h2_ => K (.exit 2) (buildS s_l01Components_l1_o0 [.i count_, .i h0_0, .f h0_1, .f h0_2, .f h1, .f h2_])) := by
  intro m
  induction m with
  | zero => intros; rfl
  | succ m ih =>
    intro count i h2
    rw [loopN_round]
    refine (s_l01Components_l1_round N count i h0_0 h0_1 h0_2 h1 h2 _ K).trans ?_
    simp only [ih]
    rfl
def E_s_l01Components_l1 (α : Type) (N : Nat) : Env α := (E_s_l01Components_l2 α N).addLoop2 66 7 (loopSum2 ((E_s_l01Components_l2 α N).ann 66 7) 0 s_l01Components_l1_p (fun l K => match l with
    | [.i count, .i i, .i h0_0, .f h0_1, .f h0_2, .f h1, .f h2] => s_l01Components_l1 none N h0_0 h0_1 h0_2 h1 N count i h2 (fun count_ h2_ => K (.exit 2) (buildS s_l01Components_l1_o0 [.i count_, .i h0_0, .f h0_1, .f h0_2, .f h1, .f h2_]))
    | _ => none) ((E_s_l01Components_l2 α N).ls 66 7))
theorem E_s_l01Components_l1_ok {α : Type} (N : Nat) : EnvOk Try.prog (E_s_l01Components_l1 α N) := (E_s_l01Components_l2_ok N).addLoop2 Try.func66 (by kernel_rfl) (loopSum_ok prog_mixed prog_names (E_s_l01Components_l2_ok N) Try.func66 (by kernel_rfl) (d := 1) (ro := 0) fun l K r h => by
  split at h
  · exact (s_l01Components_l1_loop N _ _ _ _ K N _ _ _).trans h
  · cases h)

/-- spec.l01Components -/
def s_l01Components_a : SPat := ⟨[.agg [.vals [.int .i64], .ints .u8 8, .ints .u8 8]], []⟩
def s_l01Components_r0 : SPat := ⟨[.tuple [.agg [.ints .i64 8], .int .i64]], []⟩
theorem s_l01Components_run {α : Type} (N : Nat) (g_0 : Int) (g_1 : Nat → Int) (g_2 : Nat → Int) (K : AV → Heap → Option α) :
    callK Try.prog (E_s_l01Components_l1 α N) 1 66 0 (buildS s_l01Components_a [.i g_0, .f g_1, .f g_2]).t (buildS s_l01Components_a [.i g_0, .f g_1, .f g_2]).h K = s_l01Components none N g_0 g_1 g_2 (fun r_0_ r_1_ => retK (buildS s_l01Components_r0 [.f r_0_, .i r_1_]) K) := by kernel_rfl
def E_s_l01Components (α : Type) (N : Nat) : Env α := (E_s_l01Components_l1 α N).addFun 66 true 0 s_l01Components_a (fun l K => match l with
    | [.i g_0, .f g_1, .f g_2] => s_l01Components none N g_0 g_1 g_2 (fun r_0_ r_1_ => retK (buildS s_l01Components_r0 [.f r_0_, .i r_1_]) K)
    | _ => none)
theorem E_s_l01Components_ok {α : Type} (N : Nat) : EnvOk Try.prog (E_s_l01Components α N) := (E_s_l01Components_l1_ok N).addFun prog_mixed prog_names (d := 1) fun l K r h => by
  split at h
  · exact (s_l01Components_run N _ _ _ K).trans h
  · cases h

/-- spec.l07Kind -/
def s_l07Kind_a : SPat := ⟨[.agg [.vals [.int .i64], .ints .u8 8, .ints .u8 8], .int .i64, .int .i64, .bool], []⟩
def s_l07Kind_r0 : SPat := ⟨[.int .i64], []⟩
theorem s_l07Kind_run {α : Type} (N : Nat) (g_0 : Int) (g_1 : Nat → Int) (g_2 : Nat → Int) (i : Int) (r_ : Int) (isX : Bool) (K : AV → Heap → Option α) :
    callK Try.prog (E_s_l01Components α N) 1 132 0 (buildS s_l07Kind_a [.i g_0, .f g_1, .f g_2, .i i, .i r_, .b isX]).t (buildS s_l07Kind_a [.i g_0, .f g_1, .f g_2, .i i, .i r_, .b isX]).h K = s_l07Kind none N g_0 g_1 g_2 i r_ isX (fun r__ => retK (buildS s_l07Kind_r0 [.i r__]) K) := by kernel_rfl
def E_s_l07Kind (α : Type) (N : Nat) : Env α := (E_s_l01Components α N).addFun 132 true 0 s_l07Kind_a (fun l K => match l with
    | [.i g_0, .f g_1, .f g_2, .i i, .i r_, .b isX] => s_l07Kind none N g_0 g_1 g_2 i r_ isX (fun r__ => retK (buildS s_l07Kind_r0 [.i r__]) K)
    | _ => none)
theorem E_s_l07Kind_ok {α : Type} (N : Nat) : EnvOk Try.prog (E_s_l07Kind α N) := (E_s_l01Components_ok N).addFun prog_mixed prog_names (d := 1) fun l K r h => by
  split at h
  · exact (s_l07Kind_run N _ _ _ _ _ _ K).trans h
  · cases h

/-- impl.within -/
def i_within_a : SPat := ⟨[.int .i64, .int .i64, .int .i64], []⟩
def i_within_r0 : SPat := ⟨[.bool], []⟩
theorem i_within_run {α : Type} (N : Nat) (x : Int) (low : Int) (high : Int) (K : AV → Heap → Option α) :
    callK Try.prog (E_s_l07Kind α N) 1 118 0 (buildS i_within_a [.i x, .i low, .i high]).t (buildS i_within_a [.i x, .i low, .i high]).h K = i_within none N x low high (fun r__ => retK (buildS i_within_r0 [.b r__]) K) := by kernel_rfl
def E_i_within (α : Type) (N : Nat) : Env α := (E_s_l07Kind α N).addFun 118 true 0 i_within_a (fun l K => match l with
    | [.i x, .i low, .i high] => i_within none N x low high (fun r__ => retK (buildS i_within_r0 [.b r__]) K)
    | _ => none)
theorem E_i_within_ok {α : Type} (N : Nat) : EnvOk Try.prog (E_i_within α N) := (E_s_l07Kind_ok N).addFun prog_mixed prog_names (d := 1) fun l K r h => by
  split at h
  · exact (i_within_run N _ _ _ K).trans h
  · cases h

/-- (impl.Grid).n -/
def i_Grid_n_a : SPat := ⟨[.agg [.vals [.int .i64], .ints .u8 8, .ints .u8 8]], []⟩
def i_Grid_n_r0 : SPat := ⟨[.int .i64], []⟩
theorem i_Grid_n_run {α : Type} (N : Nat) (g_0 : Int) (g_1 : Nat → Int) (g_2 : Nat → Int) (K : AV → Heap → Option α) :
    callK Try.prog (E_i_within α N) 1 59 0 (buildS i_Grid_n_a [.i g_0, .f g_1, .f g_2]).t (buildS i_Grid_n_a [.i g_0, .f g_1, .f g_2]).h K = i_Grid_n none N g_0 g_1 g_2 (retK (buildS i_Grid_n_r0 [.i g_0]) K) := by kernel_rfl
def E_i_Grid_n (α : Type) (N : Nat) : Env α := (E_i_within α N).addFun 59 true 0 i_Grid_n_a (fun l K => match l with
    | [.i g_0, .f g_1, .f g_2] => i_Grid_n none N g_0 g_1 g_2 (retK (buildS i_Grid_n_r0 [.i g_0]) K)
    | _ => none)
theorem E_i_Grid_n_ok {α : Type} (N : Nat) : EnvOk Try.prog (E_i_Grid_n α N) := (E_i_within_ok N).addFun prog_mixed prog_names (d := 1) fun l K r h => by
  split at h
  · exact (i_Grid_n_run N _ _ _ K).trans h
  · cases h

def A_i_isOrder_l0 (α : Type) (N : Nat) : Env α := (E_i_Grid_n α N).addAnn 119 3 { head := [1, 5, 8, 9, 10], grow := [], out := [1, 5], ret := [4] }
theorem A_i_isOrder_l0_ok {α : Type} (N : Nat) : EnvOk Try.prog (A_i_isOrder_l0 α N) := (E_i_Grid_n_ok N).addAnn

/-- impl.isOrder, loop -/
def i_isOrder_l0_s2_p : SPat := ⟨[.undef, .int .i64, .undef, .undef, .undef, .int .i64, .undef, .undef, .slice ⟨⟨0, 0⟩, 1, 0, 8⟩ 8 8 1 true, .intC .i64 8, .int .i64] ++ List.replicate 30 .undef, [[.vals [.int .i64], .ints .u8 8, .ints .u8 8]]⟩
def i_isOrder_l0_s2_o0 : SPat := ⟨[.undef, .undef, .undef, .undef, .boolC false] ++ List.replicate 36 .undef, [[.vals [.int .i64], .ints .u8 8, .ints .u8 8]]⟩
def i_isOrder_l0_s2_o1 : SPat := ⟨[.undef, .int .i64, .undef, .undef, .undef, .int .i64] ++ List.replicate 35 .undef, [[.vals [.int .i64], .ints .u8 8, .ints .u8 8]]⟩
theorem i_isOrder_l0_s2_round {α : Type} (N : Nat) (n : Int) (seen : Int) (t10 : Int) (h0_0 : Int) (h0_1 : Nat → Int) (h0_2 : Nat → Int) (kn : St → Option α) (K : AExit → St → Option α) :
    roundK Try.prog (A_i_isOrder_l0 α N) 1 1 119 Try.f119 3 1 (buildS i_isOrder_l0_s2_p [.i n, .i seen, .i t10, .i h0_0, .f h0_1, .f h0_2]) kn K = i_isOrder_l0_s2_s none n h0_0 h0_1 h0_2 seen t10 (fun seen t10 => kn (buildS i_isOrder_l0_s2_p [.i n, .i seen, .i t10, .i h0_0, .f h0_1, .f h0_2])) (K .ret (buildS i_isOrder_l0_s2_o0 [.i h0_0, .f h0_1, .f h0_2])) (fun seen_ => K (.exit 0) (buildS i_isOrder_l0_s2_o1 [.i n, .i seen_, .i h0_0, .f h0_1, .f h0_2])) := by kernel_rfl
theorem i_isOrder_l0_s2_loop {α : Type} (N : Nat) (n : Int) (h0_0 : Int) (h0_1 : Nat → Int) (h0_2 : Nat → Int) (K : AExit → St → Option α) : ∀ (m : Nat) (seen : Int) (t10 : Int),
    loopN (trimSt ((A_i_isOrder_l0 α N).ann 119 3).head ((A_i_isOrder_l0 α N).ann 119 3).grow 1) (bodyK Try.prog (A_i_isOrder_l0 α N) 1 1 119 Try.f119 3) m (buildS i_isOrder_l0_s2_p [.i n, .i seen, .i t10, .i h0_0, .f h0_1, .f h0_2]) (leaveLoop ((A_i_isOrder_l0 α N).ann 119 3) 1 K) = i_isOrder_l0_s2 none n h0_0 h0_1 h0_2 m seen t10 (K .ret (buildS i_isOrder_l0_s2_o0 [.i h0_0, .f h0_1, .f h0_2])) (fun seen_ => K (.exit 0) (buildS i_isOrder_l0_s2_o1 [.i n, .i seen_, .i h0_0, .f h0_1, .f h0_2])) := by
  intro m
  induction m with
  | zero => intros; rfl
  | succ m ih =>
    intro seen t10
    rw [loopN_round]
    refine (i_isOrder_l0_s2_round N n seen t10 h0_0 h0_1 h0_2 _ K).trans ?_
    simp only [ih]
    rfl
def E_i_isOrder_l0_s2 (α : Type) (N : Nat) : Env α := (A_i_isOrder_l0 α N).addLoop2 119 3 (loopSum2 ((A_i_isOrder_l0 α N).ann 119 3) 1 i_isOrder_l0_s2_p (fun l K => match l with
    | [.i n, .i seen, .i t10, .i h0_0, .f h0_1, .f h0_2] => i_isOrder_l0_s2 none n h0_0 h0_1 h0_2 N seen t10 (K .ret (buildS i_isOrder_l0_s2_o0 [.i h0_0, .f h0_1, .f h0_2])) (fun seen_ => K (.exit 0) (buildS i_isOrder_l0_s2_o1 [.i n, .i seen_, .i h0_0, .f h0_1, .f h0_2]))
    | _ => none) ((A_i_isOrder_l0 α N).ls 119 3))
theorem E_i_isOrder_l0_s2_ok {α : Type} (N : Nat) : EnvOk Try.prog (E_i_isOrder_l0_s2 α N) := (A_i_isOrder_l0_ok N).addLoop2 Try.func119 (by kernel_rfl) (loopSum_ok prog_mixed prog_names (A_i_isOrder_l0_ok N) Try.func119 (by kernel_rfl) (d := 1) (ro := 1) fun l K r h => by
  split at h
  · exact (i_isOrder_l0_s2_loop N _ _ _ _ K N _ _).trans h
  · cases h)

/-- impl.isOrder -/
def i_isOrder_s2_a : SPat := ⟨[.slice ⟨⟨0, 0⟩, 1, 0, 8⟩ 8 8 1 true, .int .i64], [[.vals [.int .i64], .ints .u8 8, .ints .u8 8]]⟩
def i_isOrder_s2_r0 : SPat := ⟨[.bool], [[.vals [.int .i64], .ints .u8 8, .ints .u8 8]]⟩
theorem i_isOrder_s2_run {α : Type} (N : Nat) (n : Int) (h0_0 : Int) (h0_1 : Nat → Int) (h0_2 : Nat → Int) (K : AV → Heap → Option α) :
    callK Try.prog (E_i_isOrder_l0_s2 α N) 1 119 1 (buildS i_isOrder_s2_a [.i n, .i h0_0, .f h0_1, .f h0_2]).t (buildS i_isOrder_s2_a [.i n, .i h0_0, .f h0_1, .f h0_2]).h K = i_isOrder_s2 none N n h0_0 h0_1 h0_2 (fun r__ => retK (buildS i_isOrder_s2_r0 [.b r__, .i h0_0, .f h0_1, .f h0_2]) K) := by kernel_rfl
def E_i_isOrder_s2 (α : Type) (N : Nat) : Env α := (E_i_isOrder_l0_s2 α N).addFun 119 true 1 i_isOrder_s2_a (fun l K => match l with
    | [.i n, .i h0_0, .f h0_1, .f h0_2] => i_isOrder_s2 none N n h0_0 h0_1 h0_2 (fun r__ => retK (buildS i_isOrder_s2_r0 [.b r__, .i h0_0, .f h0_1, .f h0_2]) K)
    | _ => none)
theorem E_i_isOrder_s2_ok {α : Type} (N : Nat) : EnvOk Try.prog (E_i_isOrder_s2 α N) := (E_i_isOrder_l0_s2_ok N).addFun prog_mixed prog_names (d := 1) fun l K r h => by
  split at h
  · exact (i_isOrder_s2_run N _ _ _ _ K).trans h
  · cases h

/-- impl.isOrder, loop -/
def i_isOrder_l0_s3_p : SPat := ⟨[.undef, .int .i64, .undef, .undef, .undef, .int .i64, .undef, .undef, .slice ⟨⟨0, 0⟩, 2, 0, 8⟩ 8 8 1 true, .intC .i64 8, .int .i64] ++ List.replicate 30 .undef, [[.vals [.int .i64], .ints .u8 8, .ints .u8 8]]⟩
def i_isOrder_l0_s3_o0 : SPat := ⟨[.undef, .undef, .undef, .undef, .boolC false] ++ List.replicate 36 .undef, [[.vals [.int .i64], .ints .u8 8, .ints .u8 8]]⟩
def i_isOrder_l0_s3_o1 : SPat := ⟨[.undef, .int .i64, .undef, .undef, .undef, .int .i64] ++ List.replicate 35 .undef, [[.vals [.int .i64], .ints .u8 8, .ints .u8 8]]⟩
theorem i_isOrder_l0_s3_round {α : Type} (N : Nat) (n : Int) (seen : Int) (t10 : Int) (h0_0 : Int) (h0_1 : Nat → Int) (h0_2 : Nat → Int) (kn : St → Option α) (K : AExit → St → Option α) :
    roundK Try.prog (E_i_isOrder_s2 α N) 1 1 119 Try.f119 3 1 (buildS i_isOrder_l0_s3_p [.i n, .i seen, .i t10, .i h0_0, .f h0_1, .f h0_2]) kn K = i_isOrder_l0_s3_s none n h0_0 h0_1 h0_2 seen t10 (fun seen t10 => kn (buildS i_isOrder_l0_s3_p [.i n, .i seen, .i t10, .i h0_0, .f h0_1, .f h0_2])) (K .ret (buildS i_isOrder_l0_s3_o0 [.i h0_0, .f h0_1, .f h0_2])) (fun seen_ => K (.exit 0) (buildS i_isOrder_l0_s3_o1 [.i n, .i seen_, .i h0_0, .f h0_1, .f h0_2])) := by kernel_rfl
theorem i_isOrder_l0_s3_loop {α : Type} (N : Nat) (n : Int) (h0_0 : Int) (h0_1 : Nat → Int) (h0_2 : Nat → Int) (K : AExit → St → Option α) : ∀ (m : Nat) (seen : Int) (t10 : Int),
    loopN (trimSt ((E_i_isOrder_s2 α N).ann 119 3).head ((E_i_isOrder_s2 α N).ann 119 3).grow 1) (bodyK Try.prog (E_i_isOrder_s2 α N) 1 1 119 Try.f119 3) m (buildS i_isOrder_l0_s3_p [.i n, .i seen, .i t10, .i h0_0, .f h0_1, .f h0_2]) (leaveLoop ((E_i_isOrder_s2 α N).ann 119 3) 1 K) = i_isOrder_l0_s3 none n h0_0 h0_1 h0_2 m seen t10 (K .ret (buildS i_isOrder_l0_s3_o0 [.i h0_0, .f h0_1, .f h0_2])) (fun seen_ => K (.exit 0) (buildS i_isOrder_l0_s3_o1 [.i n, .i seen_, .i h0_0, .f h0_1, .f h0_2])) := by
  intro m
  induction m with
  | zero => intros; rfl
  | succ m ih =>
    intro seen t10
    rw [loopN_round]
    refine (i_isOrder_l0_s3_round N n seen t10 h0_0 h0_1 h0_2 _ K).trans ?_
    simp only [ih]
    rfl
def E_i_isOrder_l0_s3 (α : Type) (N : Nat) : Env α := (E_i_isOrder_s2 α N).addLoop2 119 3 (loopSum2 ((E_i_isOrder_s2 α N).ann 119 3) 1 i_isOrder_l0_s3_p (fun l K => match l with
    | [.i n, .i seen, .i t10, .i h0_0, .f h0_1, .f h0_2] => i_isOrder_l0_s3 none n h0_0 h0_1 h0_2 N seen t10 (K .ret (buildS i_isOrder_l0_s3_o0 [.i h0_0, .f h0_1, .f h0_2])) (fun seen_ => K (.exit 0) (buildS i_isOrder_l0_s3_o1 [.i n, .i seen_, .i h0_0, .f h0_1, .f h0_2]))
    | _ => none) ((E_i_isOrder_s2 α N).ls 119 3))
theorem E_i_isOrder_l0_s3_ok {α : Type} (N : Nat) : EnvOk Try.prog (E_i_isOrder_l0_s3 α N) := (E_i_isOrder_s2_ok N).addLoop2 Try.func119 (by kernel_rfl) (loopSum_ok prog_mixed prog_names (E_i_isOrder_s2_ok N) Try.func119 (by kernel_rfl) (d := 1) (ro := 1) fun l K r h => by
  split at h
  · exact (i_isOrder_l0_s3_loop N _ _ _ _ K N _ _).trans h
  · cases h)

/-- impl.isOrder -/
def i_isOrder_s3_a : SPat := ⟨[.slice ⟨⟨0, 0⟩, 2, 0, 8⟩ 8 8 1 true, .int .i64], [[.vals [.int .i64], .ints .u8 8, .ints .u8 8]]⟩
def i_isOrder_s3_r0 : SPat := ⟨[.bool], [[.vals [.int .i64], .ints .u8 8, .ints .u8 8]]⟩
theorem i_isOrder_s3_run {α : Type} (N : Nat) (n : Int) (h0_0 : Int) (h0_1 : Nat → Int) (h0_2 : Nat → Int) (K : AV → Heap → Option α) :
    callK Try.prog (E_i_isOrder_l0_s3 α N) 1 119 1 (buildS i_isOrder_s3_a [.i n, .i h0_0, .f h0_1, .f h0_2]).t (buildS i_isOrder_s3_a [.i n, .i h0_0, .f h0_1, .f h0_2]).h K = i_isOrder_s3 none N n h0_0 h0_1 h0_2 (fun r__ => retK (buildS i_isOrder_s3_r0 [.b r__, .i h0_0, .f h0_1, .f h0_2]) K) := by kernel_rfl
def E_i_isOrder_s3 (α : Type) (N : Nat) : Env α := (E_i_isOrder_l0_s3 α N).addFun 119 true 1 i_isOrder_s3_a (fun l K => match l with
    | [.i n, .i h0_0, .f h0_1, .f h0_2] => i_isOrder_s3 none N n h0_0 h0_1 h0_2 (fun r__ => retK (buildS i_isOrder_s3_r0 [.b r__, .i h0_0, .f h0_1, .f h0_2]) K)
    | _ => none)
theorem E_i_isOrder_s3_ok {α : Type} (N : Nat) : EnvOk Try.prog (E_i_isOrder_s3 α N) := (E_i_isOrder_l0_s3_ok N).addFun prog_mixed prog_names (d := 1) fun l K r h => by
  split at h
  · exact (i_isOrder_s3_run N _ _ _ _ K).trans h
  · cases h

def A_i_IsGrid_l0 (α : Type) (N : Nat) : Env α := (E_i_isOrder_s3 α N).addAnn 57 4 { head := [1, 25, 26], grow := [], out := [], ret := [2] }
theorem A_i_IsGrid_l0_ok {α : Type} (N : Nat) : EnvOk Try.prog (A_i_IsGrid_l0 α N) := (E_i_isOrder_s3_ok N).addAnn

/-- impl.IsGrid, loop -/
def i_IsGrid_l0_p : SPat := ⟨[.undef, .ptr ⟨⟨0, 0⟩, 0, 0, 1⟩, .undef, .undef, .undef, .undef, .undef, .undef, .undef, .undef, .undef, .undef, .undef, .undef, .undef, .undef, .undef, .undef, .undef, .undef, .undef, .undef, .undef, .undef, .undef, .int .i64, .int .i64] ++ List.replicate 12 .undef, [[.vals [.int .i64], .ints .u8 8, .ints .u8 8]]⟩
def i_IsGrid_l0_o0 : SPat := ⟨[.undef, .undef, .boolC false] ++ List.replicate 36 .undef, [[.vals [.int .i64], .ints .u8 8, .ints .u8 8]]⟩
def i_IsGrid_l0_o1 : SPat := ⟨[] ++ List.replicate 39 .undef, [[.vals [.int .i64], .ints .u8 8, .ints .u8 8]]⟩
theorem i_IsGrid_l0_round {α : Type} (N : Nat) (t25 : Int) (t26 : Int) (h0_0 : Int) (h0_1 : Nat → Int) (h0_2 : Nat → Int) (kn : St → Option α) (K : AExit → St → Option α) :
    roundK Try.prog (A_i_IsGrid_l0 α N) 1 0 57 Try.f57 4 1 (buildS i_IsGrid_l0_p [.i t25, .i t26, .i h0_0, .f h0_1, .f h0_2]) kn K = i_IsGrid_l0_s none t25 h0_0 h0_1 h0_2 t26 (fun t26 => kn (buildS i_IsGrid_l0_p [.i t25, .i t26, .i h0_0, .f h0_1, .f h0_2])) (K .ret (buildS i_IsGrid_l0_o0 [.i h0_0, .f h0_1, .f h0_2])) (K (.exit 0) (buildS i_IsGrid_l0_o1 [.i h0_0, .f h0_1, .f h0_2])) := by kernel_rfl
theorem i_IsGrid_l0_loop {α : Type} (N : Nat) (t25 : Int) (h0_0 : Int) (h0_1 : Nat → Int) (h0_2 : Nat → Int) (K : AExit → St → Option α) : ∀ (m : Nat) (t26 : Int),
    loopN (trimSt ((A_i_IsGrid_l0 α N).ann 57 4).head ((A_i_IsGrid_l0 α N).ann 57 4).grow 1) (bodyK Try.prog (A_i_IsGrid_l0 α N) 1 0 57 Try.f57 4) m (buildS i_IsGrid_l0_p [.i t25, .i t26, .i h0_0, .f h0_1, .f h0_2]) (leaveLoop ((A_i_IsGrid_l0 α N).ann 57 4) 1 K) = i_IsGrid_l0 none t25 h0_0 h0_1 h0_2 m t26 (K .ret (buildS i_IsGrid_l0_o0 [.i h0_0, .f h0_1, .f h0_2])) (K (.exit 0) (buildS i_IsGrid_l0_o1 [.i h0_0, .f h0_1, .f h0_2])) := by
  intro m
  induction m with
  | zero => intros; rfl
  | succ m ih =>
    intro t26
    rw [loopN_round]
    refine (i_IsGrid_l0_round N t25 t26 h0_0 h0_1 h0_2 _ K).trans ?_
    simp only [ih]
    rfl
def E_i_IsGrid_l0 (α : Type) (N : Nat) : Env α := (A_i_IsGrid_l0 α N).addLoop2 57 4 (loopSum2 ((A_i_IsGrid_l0 α N).ann 57 4) 0 i_IsGrid_l0_p (fun l K => match l with
    | [.i t25, .i t26, .i h0_0, .f h0_1, .f h0_2] => i_IsGrid_l0 none t25 h0_0 h0_1 h0_2 N t26 (K .ret (buildS i_IsGrid_l0_o0 [.i h0_0, .f h0_1, .f h0_2])) (K (.exit 0) (buildS i_IsGrid_l0_o1 [.i h0_0, .f h0_1, .f h0_2]))
    | _ => none) ((A_i_IsGrid_l0 α N).ls 57 4))
theorem E_i_IsGrid_l0_ok {α : Type} (N : Nat) : EnvOk Try.prog (E_i_IsGrid_l0 α N) := (A_i_IsGrid_l0_ok N).addLoop2 Try.func57 (by kernel_rfl) (loopSum_ok prog_mixed prog_names (A_i_IsGrid_l0_ok N) Try.func57 (by kernel_rfl) (d := 1) (ro := 0) fun l K r h => by
  split at h
  · exact (i_IsGrid_l0_loop N _ _ _ _ K N _).trans h
  · cases h)

/-- impl.IsGrid -/
def i_IsGrid_a : SPat := ⟨[.agg [.vals [.int .i64], .ints .u8 8, .ints .u8 8]], []⟩
def i_IsGrid_r0 : SPat := ⟨[.bool], []⟩
theorem i_IsGrid_run {α : Type} (N : Nat) (g_0 : Int) (g_1 : Nat → Int) (g_2 : Nat → Int) (K : AV → Heap → Option α) :
    callK Try.prog (E_i_IsGrid_l0 α N) 1 57 0 (buildS i_IsGrid_a [.i g_0, .f g_1, .f g_2]).t (buildS i_IsGrid_a [.i g_0, .f g_1, .f g_2]).h K = i_IsGrid none N g_0 g_1 g_2 (fun r__ => retK (buildS i_IsGrid_r0 [.b r__]) K) := by kernel_rfl
def E_i_IsGrid (α : Type) (N : Nat) : Env α := (E_i_IsGrid_l0 α N).addFun 57 true 0 i_IsGrid_a (fun l K => match l with
    | [.i g_0, .f g_1, .f g_2] => i_IsGrid none N g_0 g_1 g_2 (fun r__ => retK (buildS i_IsGrid_r0 [.b r__]) K)
    | _ => none)
theorem E_i_IsGrid_ok {α : Type} (N : Nat) : EnvOk Try.prog (E_i_IsGrid α N) := (E_i_IsGrid_l0_ok N).addFun prog_mixed prog_names (d := 1) fun l K r h => by
  split at h
  · exact (i_IsGrid_run N _ _ _ K).trans h
  · cases h

def A_i_Grid_places_l0 (α : Type) (N : Nat) : Env α := (E_i_IsGrid α N).addAnn 125 3 { head := [3, 4, 5, 9, 10], grow := [], out := [4, 5], ret := [4] }
theorem A_i_Grid_places_l0_ok {α : Type} (N : Nat) : EnvOk Try.prog (A_i_Grid_places_l0 α N) := (E_i_IsGrid_ok N).addAnn

/-- (impl.Grid).places, loop -/
def i_Grid_places_l0_p : SPat := ⟨[.undef, .undef, .undef, .ptr ⟨⟨1, 0⟩, 0, 0, 8⟩, .ptr ⟨⟨2, 0⟩, 0, 0, 8⟩, .ptr ⟨⟨3, 0⟩, 0, 0, 8⟩, .undef, .undef, .undef, .int .i64, .int .i64] ++ List.replicate 9 .undef, [[.vals [.int .i64], .ints .u8 8, .ints .u8 8], [.ints .u8 8], [.ints .i64 8], [.ints .i64 8]]⟩
def i_Grid_places_l0_o0 : SPat := ⟨[.undef, .undef, .undef, .undef, .ptr ⟨⟨2, 0⟩, 0, 0, 8⟩, .ptr ⟨⟨3, 0⟩, 0, 0, 8⟩] ++ List.replicate 14 .undef, [[.vals [.int .i64], .ints .u8 8, .ints .u8 8], [.ints .u8 8], [.ints .i64 8], [.ints .i64 8]]⟩
theorem i_Grid_places_l0_round {α : Type} (N : Nat) (t9 : Int) (t10 : Int) (h0_0 : Int) (h0_1 : Nat → Int) (h0_2 : Nat → Int) (h1 : Nat → Int) (h2 : Nat → Int) (h3 : Nat → Int) (kn : St → Option α) (K : AExit → St → Option α) :
    roundK Try.prog (A_i_Grid_places_l0 α N) 1 0 125 Try.f125 3 4 (buildS i_Grid_places_l0_p [.i t9, .i t10, .i h0_0, .f h0_1, .f h0_2, .f h1, .f h2, .f h3]) kn K = i_Grid_places_l0_s none t9 h0_0 h0_1 h0_2 h1 h2 t10 h3 (fun t10 h3 => kn (buildS i_Grid_places_l0_p [.i t9, .i t10, .i h0_0, .f h0_1, .f h0_2, .f h1, .f h2, .f h3])) (fun h3_ => K (.exit 0) (buildS i_Grid_places_l0_o0 [.i h0_0, .f h0_1, .f h0_2, .f h1, .f h2, .f h3_])) := by kernel_rfl
theorem i_Grid_places_l0_loop {α : Type} (N : Nat) (t9 : Int) (h0_0 : Int) (h0_1 : Nat → Int) (h0_2 : Nat → Int) (h1 : Nat → Int) (h2 : Nat → Int) (K : AExit → St → Option α) : ∀ (m : Nat) (t10 : Int) (h3 : Nat → Int),
    loopN (trimSt ((A_i_Grid_places_l0 α N).ann 125 3).head ((A_i_Grid_places_l0 α N).ann 125 3).grow 4) (bodyK Try.prog (A_i_Grid_places_l0 α N) 1 0 125 Try.f125 3) m (buildS i_Grid_places_l0_p [.i t9, .i t10, .i h0_0, .f h0_1, .f h0_2, .f h1, .f h2, .f h3]) (leaveLoop ((A_i_Grid_places_l0 α N).ann 125 3) 4 K) = i_Grid_places_l0 none t9 h0_0 h0_1 h0_2 h1 h2 m t10 h3 (fun h3_ => K (.exit 0) (buildS i_Grid_places_l0_o0 [.i h0_0, .f h0_1, .f h0_2, .f h1, .f h2, .f h3_])) := by
  intro m
  induction m with
  | zero => intros; rfl
  | succ m ih =>
    intro t10 h3
    rw [loopN_round]
    refine (i_Grid_places_l0_round N t9 t10 h0_0 h0_1 h0_2 h1 h2 h3 _ K).trans ?_
    simp only [ih]
    rfl
def E_i_Grid_places_l0 (α : Type) (N : Nat) : Env α := (A_i_Grid_places_l0 α N).addLoop2 125 3 (loopSum2 ((A_i_Grid_places_l0 α N).ann 125 3) 0 i_Grid_places_l0_p (fun l K => match l with
    | [.i t9, .i t10, .i h0_0, .f h0_1, .f h0_2, .f h1, .f h2, .f h3] => i_Grid_places_l0 none t9 h0_0 h0_1 h0_2 h1 h2 N t10 h3 (fun h3_ => K (.exit 0) (buildS i_Grid_places_l0_o0 [.i h0_0, .f h0_1, .f h0_2, .f h1, .f h2, .f h3_]))
    | _ => none) ((A_i_Grid_places_l0 α N).ls 125 3))
theorem E_i_Grid_places_l0_ok {α : Type} (N : Nat) : EnvOk Try.prog (E_i_Grid_places_l0 α N) := (A_i_Grid_places_l0_ok N).addLoop2 Try.func125 (by kernel_rfl) (loopSum_ok prog_mixed prog_names (A_i_Grid_places_l0_ok N) Try.func125 (by kernel_rfl) (d := 1) (ro := 0) fun l K r h => by
  split at h
  · exact (i_Grid_places_l0_loop N _ _ _ _ _ _ K N _ _).trans h
  · cases h)

/-- (impl.Grid).places -/
def i_Grid_places_a : SPat := ⟨[.agg [.vals [.int .i64], .ints .u8 8, .ints .u8 8], .agg [.ints .u8 8]], []⟩
def i_Grid_places_r0 : SPat := ⟨[.agg [.ints .i64 8]], []⟩
theorem i_Grid_places_run {α : Type} (N : Nat) (g_0 : Int) (g_1 : Nat → Int) (g_2 : Nat → Int) (rows : Nat → Int) (K : AV → Heap → Option α) :
    callK Try.prog (E_i_Grid_places_l0 α N) 1 125 0 (buildS i_Grid_places_a [.i g_0, .f g_1, .f g_2, .f rows]).t (buildS i_Grid_places_a [.i g_0, .f g_1, .f g_2, .f rows]).h K = i_Grid_places none N g_0 g_1 g_2 rows (fun r__ => retK (buildS i_Grid_places_r0 [.f r__]) K) := by kernel_rfl
def E_i_Grid_places (α : Type) (N : Nat) : Env α := (E_i_Grid_places_l0 α N).addFun 125 true 0 i_Grid_places_a (fun l K => match l with
    | [.i g_0, .f g_1, .f g_2, .f rows] => i_Grid_places none N g_0 g_1 g_2 rows (fun r__ => retK (buildS i_Grid_places_r0 [.f r__]) K)
    | _ => none)
theorem E_i_Grid_places_ok {α : Type} (N : Nat) : EnvOk Try.prog (E_i_Grid_places α N) := (E_i_Grid_places_l0_ok N).addFun prog_mixed prog_names (d := 1) fun l K r h => by
  split at h
  · exact (i_Grid_places_run N _ _ _ _ K).trans h
  · cases h

def A_i_Grid_corners_l0 (α : Type) (N : Nat) : Env α := (E_i_Grid_places α N).addAnn 84 3 { head := [1, 3, 4, 5, 19, 20], grow := [5], out := [5], ret := [2] }
theorem A_i_Grid_corners_l0_ok {α : Type} (N : Nat) : EnvOk Try.prog (A_i_Grid_corners_l0 α N) := (E_i_Grid_places_ok N).addAnn

/-- impl.kind -/
def i_kind_a : SPat := ⟨[.int .i64, .int .i64, .int .i64, .int .i64], []⟩
def i_kind_r0 : SPat := ⟨[.int .i64], []⟩
theorem i_kind_run {α : Type} (N : Nat) (column : Int) (row : Int) (otherRow : Int) (otherColumn : Int) (K : AV → Heap → Option α) :
    callK Try.prog (A_i_Grid_corners_l0 α N) 1 134 0 (buildS i_kind_a [.i column, .i row, .i otherRow, .i otherColumn]).t (buildS i_kind_a [.i column, .i row, .i otherRow, .i otherColumn]).h K = i_kind none N column row otherRow otherColumn (fun r__ => retK (buildS i_kind_r0 [.i r__]) K) := by kernel_rfl
def E_i_kind (α : Type) (N : Nat) : Env α := (A_i_Grid_corners_l0 α N).addFun 134 true 0 i_kind_a (fun l K => match l with
    | [.i column, .i row, .i otherRow, .i otherColumn] => i_kind none N column row otherRow otherColumn (fun r__ => retK (buildS i_kind_r0 [.i r__]) K)
    | _ => none)
theorem E_i_kind_ok {α : Type} (N : Nat) : EnvOk Try.prog (E_i_kind α N) := (A_i_Grid_corners_l0_ok N).addFun prog_mixed prog_names (d := 1) fun l K r h => by
  split at h
  · exact (i_kind_run N _ _ _ _ K).trans h
  · cases h

/-- (impl.Grid).corners, loop -/
def i_Grid_corners_l0_p : SPat := ⟨[.undef, .ptr ⟨⟨0, 0⟩, 0, 0, 1⟩, .undef, .ptr ⟨⟨2, 0⟩, 0, 0, 8⟩, .ptr ⟨⟨3, 0⟩, 0, 0, 8⟩, .sliceV 1 0 0 4 false, .undef, .undef, .undef, .undef, .undef, .undef, .undef, .undef, .undef, .undef, .undef, .undef, .undef, .int .i64, .int .i64] ++ List.replicate 40 .undef, [[.vals [.int .i64], .ints .u8 8, .ints .u8 8], [.recs [some IntKind.i64, some IntKind.i64, some IntKind.i64, none]], [.ints .i64 8], [.ints .i64 8]]⟩
def i_Grid_corners_l0_o0 : SPat := ⟨[.undef, .undef, .undef, .undef, .undef, .sliceV 1 0 0 4 false] ++ List.replicate 55 .undef, [[.vals [.int .i64], .ints .u8 8, .ints .u8 8], [.recs [some IntKind.i64, some IntKind.i64, some IntKind.i64, none]], [.ints .i64 8], [.ints .i64 8]]⟩
theorem i_Grid_corners_l0_round {α : Type} (N : Nat) (out_n : Nat) (out_l : Nat) (out_c : Nat) (t19 : Int) (t20 : Int) (h0_0 : Int) (h0_1 : Nat → Int) (h0_2 : Nat → Int) (h1 : List Int) (h2 : Nat → Int) (h3 : Nat → Int) (kn : St → Option α) (K : AExit → St → Option α) :
    roundK Try.prog (E_i_kind α N) 1 0 84 Try.f84 3 4 (buildS i_Grid_corners_l0_p [.n out_n, .n out_l, .n out_c, .i t19, .i t20, .i h0_0, .f h0_1, .f h0_2, .l h1, .f h2, .f h3]) kn K = i_Grid_corners_l0_s none N t19 h0_0 h0_1 h0_2 h2 h3 out_n out_l out_c t20 h1 (fun out_n out_l out_c t20 h1 => kn (buildS i_Grid_corners_l0_p [.n out_n, .n out_l, .n out_c, .i t19, .i t20, .i h0_0, .f h0_1, .f h0_2, .l h1, .f h2, .f h3])) (fun out_n_ out_l_ out_c_ h1_ => K (.exit 0) (buildS i_Grid_corners_l0_o0 [.n out_n_, .n out_l_, .n out_c_, .i h0_0, .f h0_1, .f h0_2, .l h1_, .f h2, .f h3])) := by kernel_rfl
theorem i_Grid_corners_l0_loop {α : Type} (N : Nat) (t19 : Int) (h0_0 : Int) (h0_1 : Nat → Int) (h0_2 : Nat → Int) (h2 : Nat → Int) (h3 : Nat → Int) (K : AExit → St → Option α) : ∀ (m : Nat) (out_n : Nat) (out_l : Nat) (out_c : Nat) (t20 : Int) (h1 : List Int),
    loopN (trimSt ((E_i_kind α N).ann 84 3).head ((E_i_kind α N).ann 84 3).grow 4) (bodyK Try.prog (E_i_kind α N) 1 0 84 Try.f84 3) m (buildS i_Grid_corners_l0_p [.n out_n, .n out_l, .n out_c, .i t19, .i t20, .i h0_0, .f h0_1, .f h0_2, .l h1, .f h2, .f h3]) (leaveLoop ((E_i_kind α N).ann 84 3) 4 K) = i_Grid_corners_l0 none N t19 h0_0 h0_1 h0_2 h2 h3 m out_n out_l out_c t20 h1 (fun out_n_ out_l_ out_c_ h1_ => K (.exit 0) (buildS i_Grid_corners_l0_o0 [.n out_n_, .n out_l_, .n out_c_, .i h0_0, .f h0_1, .f h0_2, .l h1_, .f h2, .f h3])) := by
  intro m
  induction m with
  | zero => intros; rfl
  | succ m ih =>
    intro out_n out_l out_c t20 h1
    rw [loopN_round]
    refine (i_Grid_corners_l0_round N out_n out_l out_c t19 t20 h0_0 h0_1 h0_2 h1 h2 h3 _ K).trans ?_
    simp only [ih]
    rfl
def E_i_Grid_corners_l0 (α : Type) (N : Nat) : Env α := (E_i_kind α N).addLoop2 84 3 (loopSum2 ((E_i_kind α N).ann 84 3) 0 i_Grid_corners_l0_p (fun l K => match l with
    | [.n out_n, .n out_l, .n out_c, .i t19, .i t20, .i h0_0, .f h0_1, .f h0_2, .l h1, .f h2, .f h3] => i_Grid_corners_l0 none N t19 h0_0 h0_1 h0_2 h2 h3 N out_n out_l out_c t20 h1 (fun out_n_ out_l_ out_c_ h1_ => K (.exit 0) (buildS i_Grid_corners_l0_o0 [.n out_n_, .n out_l_, .n out_c_, .i h0_0, .f h0_1, .f h0_2, .l h1_, .f h2, .f h3]))
    | _ => none) ((E_i_kind α N).ls 84 3))
theorem E_i_Grid_corners_l0_ok {α : Type} (N : Nat) : EnvOk Try.prog (E_i_Grid_corners_l0 α N) := (E_i_kind_ok N).addLoop2 Try.func84 (by kernel_rfl) (loopSum_ok prog_mixed prog_names (E_i_kind_ok N) Try.func84 (by kernel_rfl) (d := 1) (ro := 0) fun l K r h => by
  split at h
  · exact (i_Grid_corners_l0_loop N _ _ _ _ _ _ K N _ _ _ _ _).trans h
  · cases h)

/-- (impl.Grid).corners -/
def i_Grid_corners_a : SPat := ⟨[.agg [.vals [.int .i64], .ints .u8 8, .ints .u8 8]], []⟩
def i_Grid_corners_r0 : SPat := ⟨[.sliceV 0 0 0 4 false], [[.recs [some IntKind.i64, some IntKind.i64, some IntKind.i64, none]]]⟩
theorem i_Grid_corners_run {α : Type} (N : Nat) (g_0 : Int) (g_1 : Nat → Int) (g_2 : Nat → Int) (K : AV → Heap → Option α) :
    callK Try.prog (E_i_Grid_corners_l0 α N) 1 84 0 (buildS i_Grid_corners_a [.i g_0, .f g_1, .f g_2]).t (buildS i_Grid_corners_a [.i g_0, .f g_1, .f g_2]).h K = i_Grid_corners none N g_0 g_1 g_2 (fun r_n_ r_l_ r_c_ h0_ => retK (buildS i_Grid_corners_r0 [.n r_n_, .n r_l_, .n r_c_, .l h0_]) K) := by kernel_rfl
def E_i_Grid_corners (α : Type) (N : Nat) : Env α := (E_i_Grid_corners_l0 α N).addFun 84 true 0 i_Grid_corners_a (fun l K => match l with
    | [.i g_0, .f g_1, .f g_2] => i_Grid_corners none N g_0 g_1 g_2 (fun r_n_ r_l_ r_c_ h0_ => retK (buildS i_Grid_corners_r0 [.n r_n_, .n r_l_, .n r_c_, .l h0_]) K)
    | _ => none)
theorem E_i_Grid_corners_ok {α : Type} (N : Nat) : EnvOk Try.prog (E_i_Grid_corners α N) := (E_i_Grid_corners_l0_ok N).addFun prog_mixed prog_names (d := 1) fun l K r h => by
  split at h
  · exact (i_Grid_corners_run N _ _ _ K).trans h
  · cases h

/-- (impl.Corner).isCusp -/
def i_Corner_isCusp_a : SPat := ⟨[.agg [.vals [.int .i64, .int .i64, .int .i64, .bool]]], []⟩
def i_Corner_isCusp_r0 : SPat := ⟨[.bool], []⟩
theorem i_Corner_isCusp_run {α : Type} (N : Nat) (c_0 : Int) (c_1 : Int) (c_2 : Int) (c_3 : Bool) (K : AV → Heap → Option α) :
    callK Try.prog (E_i_Grid_corners α N) 1 135 0 (buildS i_Corner_isCusp_a [.i c_0, .i c_1, .i c_2, .b c_3]).t (buildS i_Corner_isCusp_a [.i c_0, .i c_1, .i c_2, .b c_3]).h K = i_Corner_isCusp none N c_0 c_1 c_2 c_3 (fun r__ => retK (buildS i_Corner_isCusp_r0 [.b r__]) K) := by kernel_rfl
def E_i_Corner_isCusp (α : Type) (N : Nat) : Env α := (E_i_Grid_corners α N).addFun 135 true 0 i_Corner_isCusp_a (fun l K => match l with
    | [.i c_0, .i c_1, .i c_2, .b c_3] => i_Corner_isCusp none N c_0 c_1 c_2 c_3 (fun r__ => retK (buildS i_Corner_isCusp_r0 [.b r__]) K)
    | _ => none)
theorem E_i_Corner_isCusp_ok {α : Type} (N : Nat) : EnvOk Try.prog (E_i_Corner_isCusp α N) := (E_i_Grid_corners_ok N).addFun prog_mixed prog_names (d := 1) fun l K r h => by
  split at h
  · exact (i_Corner_isCusp_run N _ _ _ _ K).trans h
  · cases h

/-- (impl.Corner).letter -/
def i_Corner_letter_a : SPat := ⟨[.agg [.vals [.int .i64, .int .i64, .int .i64, .bool]]], []⟩
def i_Corner_letter_r0 : SPat := ⟨[.str], []⟩
theorem i_Corner_letter_run {α : Type} (N : Nat) (c_0 : Int) (c_1 : Int) (c_2 : Int) (c_3 : Bool) (K : AV → Heap → Option α) :
    callK Try.prog (E_i_Corner_isCusp α N) 1 86 0 (buildS i_Corner_letter_a [.i c_0, .i c_1, .i c_2, .b c_3]).t (buildS i_Corner_letter_a [.i c_0, .i c_1, .i c_2, .b c_3]).h K = i_Corner_letter none N c_0 c_1 c_2 c_3 (fun r__ => retK (buildS i_Corner_letter_r0 [.s r__]) K) := by kernel_rfl
def E_i_Corner_letter (α : Type) (N : Nat) : Env α := (E_i_Corner_isCusp α N).addFun 86 true 0 i_Corner_letter_a (fun l K => match l with
    | [.i c_0, .i c_1, .i c_2, .b c_3] => i_Corner_letter none N c_0 c_1 c_2 c_3 (fun r__ => retK (buildS i_Corner_letter_r0 [.s r__]) K)
    | _ => none)
theorem E_i_Corner_letter_ok {α : Type} (N : Nat) : EnvOk Try.prog (E_i_Corner_letter α N) := (E_i_Corner_isCusp_ok N).addFun prog_mixed prog_names (d := 1) fun l K r h => by
  split at h
  · exact (i_Corner_letter_run N _ _ _ _ K).trans h
  · cases h

def A_s_CuspWords_l0 (α : Type) (N : Nat) : Env α := (E_i_Corner_letter α N).addAnn 28 6 { head := [1, 4, 5, 6, 7], grow := [6], out := [6], ret := [2, 3] }
theorem A_s_CuspWords_l0_ok {α : Type} (N : Nat) : EnvOk Try.prog (A_s_CuspWords_l0 α N) := (E_i_Corner_letter_ok N).addAnn

def A_s_CuspWords_l1 (α : Type) (N : Nat) : Env α := (A_s_CuspWords_l0 α N).addAnn 28 9 { head := [1, 4, 5, 6, 7, 8], grow := [], out := [1, 4, 5, 6, 7, 8], ret := [2, 3] }
theorem A_s_CuspWords_l1_ok {α : Type} (N : Nat) : EnvOk Try.prog (A_s_CuspWords_l1 α N) := (A_s_CuspWords_l0_ok N).addAnn

/-- spec.CuspWords, loop -/
def s_CuspWords_l1_p : SPat := ⟨[.undef, .ptr ⟨⟨0, 0⟩, 0, 0, 1⟩, .undef, .undef, .ptr ⟨⟨1, 0⟩, 0, 0, 8⟩, .int .i64, .sliceV 2 0 0 1 false, .int .i64, .int .i64] ++ List.replicate 44 .undef, [[.vals [.int .i64], .ints .u8 8, .ints .u8 8], [.ints .i64 8], [.strs]]⟩
def s_CuspWords_l1_o0 : SPat := ⟨[.undef, .ptr ⟨⟨0, 0⟩, 0, 0, 1⟩, .undef, .undef, .ptr ⟨⟨1, 0⟩, 0, 0, 8⟩, .int .i64, .sliceV 2 0 0 1 false, .int .i64, .int .i64] ++ List.replicate 44 .undef, [[.vals [.int .i64], .ints .u8 8, .ints .u8 8], [.ints .i64 8], [.strs]]⟩
theorem s_CuspWords_l1_round {α : Type} (N : Nat) (count : Int) (out_n : Nat) (out_l : Nat) (out_c : Nat) (c : Int) (start : Int) (h0_0 : Int) (h0_1 : Nat → Int) (h0_2 : Nat → Int) (h1 : Nat → Int) (h2 : List (List UInt8)) (kn : St → Option α) (K : AExit → St → Option α) :
    roundK Try.prog (A_s_CuspWords_l1 α N) 1 0 28 Try.f28 9 3 (buildS s_CuspWords_l1_p [.i count, .n out_n, .n out_l, .n out_c, .i c, .i start, .i h0_0, .f h0_1, .f h0_2, .f h1, .t h2]) kn K = s_CuspWords_l1_s none count out_n out_l out_c c h0_0 h0_1 h0_2 h1 h2 start (fun start => kn (buildS s_CuspWords_l1_p [.i count, .n out_n, .n out_l, .n out_c, .i c, .i start, .i h0_0, .f h0_1, .f h0_2, .f h1, .t h2])) (fun start_ => K (.exit 2) (buildS s_CuspWords_l1_o0 [.i count, .n out_n, .n out_l, .n out_c, .i c, .i start_, .i h0_0, .f h0_1, .f h0_2, .f h1, .t h2])) := by kernel_rfl
theorem s_CuspWords_l1_loop {α : Type} (N : Nat) (count : Int) (out_n : Nat) (out_l : Nat) (out_c : Nat) (c : Int) (h0_0 : Int) (h0_1 : Nat → Int) (h0_2 : Nat → Int) (h1 : Nat → Int) (h2 : List (List UInt8)) (K : AExit → St → Option α) : ∀ (m : Nat) (start : Int),
    loopN (trimSt ((A_s_CuspWords_l1 α N).ann 28 9).head ((A_s_CuspWords_l1 α N).ann 28 9).grow 3) (bodyK Try.prog (A_s_CuspWords_l1 α N) 1 0 28 Try.f28 9) m (buildS s_CuspWords_l1_p [.i count, .n out_n, .n out_l, .n out_c, .i c, .i start, .i h0_0, .f h0_1, .f h0_2, .f h1, .t h2]) (leaveLoop ((A_s_CuspWords_l1 α N).ann 28 9) 3 K) = s_CuspWords_l1 none count out_n out_l out_c c h0_0 h0_1 h0_2 h1 h2 m start (fun start_ => K (.exit 2) (buildS s_CuspWords_l1_o0 [.i count, .n out_n, .n out_l, .n out_c, .i c, .i start_, .i h0_0, .f h0_1, .f h0_2, .f h1, .t h2])) := by
  intro m
  induction m with
  | zero => intros; rfl
  | succ m ih =>
    intro start
    rw [loopN_round]
    refine (s_CuspWords_l1_round N count out_n out_l out_c c start h0_0 h0_1 h0_2 h1 h2 _ K).trans ?_
    simp only [ih]
    rfl
def E_s_CuspWords_l1 (α : Type) (N : Nat) : Env α := (A_s_CuspWords_l1 α N).addLoop2 28 9 (loopSum2 ((A_s_CuspWords_l1 α N).ann 28 9) 0 s_CuspWords_l1_p (fun l K => match l with
    | [.i count, .n out_n, .n out_l, .n out_c, .i c, .i start, .i h0_0, .f h0_1, .f h0_2, .f h1, .t h2] => s_CuspWords_l1 none count out_n out_l out_c c h0_0 h0_1 h0_2 h1 h2 N start (fun start_ => K (.exit 2) (buildS s_CuspWords_l1_o0 [.i count, .n out_n, .n out_l, .n out_c, .i c, .i start_, .i h0_0, .f h0_1, .f h0_2, .f h1, .t h2]))
    | _ => none) ((A_s_CuspWords_l1 α N).ls 28 9))
theorem E_s_CuspWords_l1_ok {α : Type} (N : Nat) : EnvOk Try.prog (E_s_CuspWords_l1 α N) := (A_s_CuspWords_l1_ok N).addLoop2 Try.func28 (by kernel_rfl) (loopSum_ok prog_mixed prog_names (A_s_CuspWords_l1_ok N) Try.func28 (by kernel_rfl) (d := 1) (ro := 0) fun l K r h => by
  split at h
  · exact (s_CuspWords_l1_loop N _ _ _ _ _ _ _ _ _ _ K N _).trans h
  · cases h)

def A_s_CuspWords_l2 (α : Type) (N : Nat) : Env α := (E_s_CuspWords_l1 α N).addAnn 28 12 { head := [1, 4, 5, 6, 7, 8, 9, 10], grow := [], out := [1, 4, 5, 6, 7, 9], ret := [2, 3] }
theorem A_s_CuspWords_l2_ok {α : Type} (N : Nat) : EnvOk Try.prog (A_s_CuspWords_l2 α N) := (E_s_CuspWords_l1_ok N).addAnn

/-- spec.l07Letter -/
def s_l07Letter_a : SPat := ⟨[.agg [.vals [.int .i64], .ints .u8 8, .ints .u8 8], .int .i64, .bool], []⟩
def s_l07Letter_r0 : SPat := ⟨[.str], []⟩
theorem s_l07Letter_run {α : Type} (N : Nat) (g_0 : Int) (g_1 : Nat → Int) (g_2 : Nat → Int) (i : Int) (isX : Bool) (K : AV → Heap → Option α) :
    callK Try.prog (A_s_CuspWords_l2 α N) 1 80 0 (buildS s_l07Letter_a [.i g_0, .f g_1, .f g_2, .i i, .b isX]).t (buildS s_l07Letter_a [.i g_0, .f g_1, .f g_2, .i i, .b isX]).h K = s_l07Letter none N g_0 g_1 g_2 i isX (fun r__ => retK (buildS s_l07Letter_r0 [.s r__]) K) := by kernel_rfl
def E_s_l07Letter (α : Type) (N : Nat) : Env α := (A_s_CuspWords_l2 α N).addFun 80 true 0 s_l07Letter_a (fun l K => match l with
    | [.i g_0, .f g_1, .f g_2, .i i, .b isX] => s_l07Letter none N g_0 g_1 g_2 i isX (fun r__ => retK (buildS s_l07Letter_r0 [.s r__]) K)
    | _ => none)
theorem E_s_l07Letter_ok {α : Type} (N : Nat) : EnvOk Try.prog (E_s_l07Letter α N) := (A_s_CuspWords_l2_ok N).addFun prog_mixed prog_names (d := 1) fun l K r h => by
  split at h
  · exact (s_l07Letter_run N _ _ _ _ _ K).trans h
  · cases h

/-- spec.CuspWords, loop -/
def s_CuspWords_l2_p : SPat := ⟨[.undef, .ptr ⟨⟨0, 0⟩, 0, 0, 1⟩, .undef, .undef, .ptr ⟨⟨1, 0⟩, 0, 0, 8⟩, .int .i64, .sliceV 2 0 0 1 false, .int .i64, .int .i64, .str, .int .i64] ++ List.replicate 42 .undef, [[.vals [.int .i64], .ints .u8 8, .ints .u8 8], [.ints .i64 8], [.strs]]⟩
def s_CuspWords_l2_o0 : SPat := ⟨[.undef, .ptr ⟨⟨0, 0⟩, 0, 0, 1⟩, .undef, .undef, .ptr ⟨⟨1, 0⟩, 0, 0, 8⟩, .int .i64, .sliceV 2 0 0 1 false, .int .i64, .undef, .str] ++ List.replicate 43 .undef, [[.vals [.int .i64], .ints .u8 8, .ints .u8 8], [.ints .i64 8], [.strs]]⟩
theorem s_CuspWords_l2_round {α : Type} (N : Nat) (count : Int) (out_n : Nat) (out_l : Nat) (out_c : Nat) (c : Int) (start : Int) (text : List UInt8) (i : Int) (h0_0 : Int) (h0_1 : Nat → Int) (h0_2 : Nat → Int) (h1 : Nat → Int) (h2 : List (List UInt8)) (kn : St → Option α) (K : AExit → St → Option α) :
    roundK Try.prog (E_s_l07Letter α N) 1 0 28 Try.f28 12 3 (buildS s_CuspWords_l2_p [.i count, .n out_n, .n out_l, .n out_c, .i c, .i start, .s text, .i i, .i h0_0, .f h0_1, .f h0_2, .f h1, .t h2]) kn K = s_CuspWords_l2_s none N count out_n out_l out_c c start h0_0 h0_1 h0_2 h1 h2 text i (fun text i => kn (buildS s_CuspWords_l2_p [.i count, .n out_n, .n out_l, .n out_c, .i c, .i start, .s text, .i i, .i h0_0, .f h0_1, .f h0_2, .f h1, .t h2])) (fun text_ => K (.exit 4) (buildS s_CuspWords_l2_o0 [.i count, .n out_n, .n out_l, .n out_c, .i c, .s text_, .i h0_0, .f h0_1, .f h0_2, .f h1, .t h2])) := by kernel_rfl
theorem s_CuspWords_l2_loop {α : Type} (N : Nat) (count : Int) (out_n : Nat) (out_l : Nat) (out_c : Nat) (c : Int) (start : Int) (h0_0 : Int) (h0_1 : Nat → Int) (h0_2 : Nat → Int) (h1 : Nat → Int) (h2 : List (List UInt8)) (K : AExit → St → Option α) : ∀ (m : Nat) (text : List UInt8) (i : Int),
    loopN (trimSt ((E_s_l07Letter α N).ann 28 12).head ((E_s_l07Letter α N).ann 28 12).grow 3) (bodyK Try.prog (E_s_l07Letter α N) 1 0 28 Try.f28 12) m (buildS s_CuspWords_l2_p [.i count, .n out_n, .n out_l, .n out_c, .i c, .i start, .s text, .i i, .i h0_0, .f h0_1, .f h0_2, .f h1, .t h2]) (leaveLoop ((E_s_l07Letter α N).ann 28 12) 3 K) = s_CuspWords_l2 none N count out_n out_l out_c c start h0_0 h0_1 h0_2 h1 h2 m text i (fun text_ => K (.exit 4) (buildS s_CuspWords_l2_o0 [.i count, .n out_n, .n out_l, .n out_c, .i c, .s text_, .i h0_0, .f h0_1, .f h0_2, .f h1, .t h2])) := by
  intro m
  induction m with
  | zero => intros; rfl
  | succ m ih =>
    intro text i
    rw [loopN_round]
    refine (s_CuspWords_l2_round N count out_n out_l out_c c start text i h0_0 h0_1 h0_2 h1 h2 _ K).trans ?_
    simp only [ih]
    rfl
def E_s_CuspWords_l2 (α : Type) (N : Nat) : Env α := (E_s_l07Letter α N).addLoop2 28 12 (loopSum2 ((E_s_l07Letter α N).ann 28 12) 0 s_CuspWords_l2_p (fun l K => match l with
    | [.i count, .n out_n, .n out_l, .n out_c, .i c, .i start, .s text, .i i, .i h0_0, .f h0_1, .f h0_2, .f h1, .t h2] => s_CuspWords_l2 none N count out_n out_l out_c c start h0_0 h0_1 h0_2 h1 h2 N text i (fun text_ => K (.exit 4) (buildS s_CuspWords_l2_o0 [.i count, .n out_n, .n out_l, .n out_c, .i c, .s text_, .i h0_0, .f h0_1, .f h0_2, .f h1, .t h2]))
    | _ => none) ((E_s_l07Letter α N).ls 28 12))
theorem E_s_CuspWords_l2_ok {α : Type} (N : Nat) : EnvOk Try.prog (E_s_CuspWords_l2 α N) := (E_s_l07Letter_ok N).addLoop2 Try.func28 (by kernel_rfl) (loopSum_ok prog_mixed prog_names (E_s_l07Letter_ok N) Try.func28 (by kernel_rfl) (d := 1) (ro := 0) fun l K r h => by
  split at h
  · exact (s_CuspWords_l2_loop N _ _ _ _ _ _ _ _ _ _ _ K N _ _).trans h
  · cases h)

/-- spec.CuspWords, loop -/
def s_CuspWords_l0_p : SPat := ⟨[.undef, .ptr ⟨⟨0, 0⟩, 0, 0, 1⟩, .undef, .undef, .ptr ⟨⟨1, 0⟩, 0, 0, 8⟩, .int .i64, .sliceV 2 0 0 1 false, .int .i64] ++ List.replicate 45 .undef, [[.vals [.int .i64], .ints .u8 8, .ints .u8 8], [.ints .i64 8], [.strs]]⟩
def s_CuspWords_l0_o0 : SPat := ⟨[.undef, .undef, .undef, .undef, .undef, .undef, .sliceV 2 0 0 1 false] ++ List.replicate 46 .undef, [[.vals [.int .i64], .ints .u8 8, .ints .u8 8], [.ints .i64 8], [.strs]]⟩
theorem s_CuspWords_l0_round {α : Type} (N : Nat) (count : Int) (out_n : Nat) (out_l : Nat) (out_c : Nat) (c : Int) (h0_0 : Int) (h0_1 : Nat → Int) (h0_2 : Nat → Int) (h1 : Nat → Int) (h2 : List (List UInt8)) (kn : St → Option α) (K : AExit → St → Option α) :
    roundK Try.prog (E_s_CuspWords_l2 α N) 1 0 28 Try.f28 6 3 (buildS s_CuspWords_l0_p [.i count, .n out_n, .n out_l, .n out_c, .i c, .i h0_0, .f h0_1, .f h0_2, .f h1, .t h2]) kn K = s_CuspWords_l0_s none N count h0_0 h0_1 h0_2 h1 out_n out_l out_c c h2 (fun out_n out_l out_c c h2 => kn (buildS s_CuspWords_l0_p [.i count, .n out_n, .n out_l, .n out_c, .i c, .i h0_0, .f h0_1, .f h0_2, .f h1, .t h2])) (fun out_n_ out_l_ out_c_ h2_ => K (.exit 0) (buildS s_CuspWords_l0_o0 [.n out_n_, .n out_l_, .n out_c_, .i h0_0, .f h0_1, .f h0_2, .f h1, .t h2_])) := by kernel_rfl
theorem s_CuspWords_l0_loop {α : Type} (N : Nat) (count : Int) (h0_0 : Int) (h0_1 : Nat → Int) (h0_2 : Nat → Int) (h1 : Nat → Int) (K : AExit → St → Option α) : ∀ (m : Nat) (out_n : Nat) (out_l : Nat) (out_c : Nat) (c : Int) (h2 : List (List UInt8)),
    loopN (trimSt ((E_s_CuspWords_l2 α N).ann 28 6).head ((E_s_CuspWords_l2 α N).ann 28 6).grow 3) (bodyK Try.prog (E_s_CuspWords_l2 α N) 1 0 28 Try.f28 6) m (buildS s_CuspWords_l0_p [.i count, .n out_n, .n out_l, .n out_c, .i c, .i h0_0, .f h0_1, .f h0_2, .f h1, .t h2]) (leaveLoop ((E_s_CuspWords_l2 α N).ann 28 6) 3 K) = s_CuspWords_l0 none N count h0_0 h0_1 h0_2 h1 m out_n out_l out_c c h2 (fun out_n_ out_l_ out_c_ h2_ => K (.exit 0) (buildS s_CuspWords_l0_o0 [.n out_n_, .n out_l_, .n out_c_, .i h0_0, .f h0_1, .f h0_2, .f h1, .t h2_])) := by
  intro m
  induction m with
  | zero => intros; rfl
  | succ m ih =>
    intro out_n out_l out_c c h2
    rw [loopN_round]
    refine (s_CuspWords_l0_round N count out_n out_l out_c c h0_0 h0_1 h0_2 h1 h2 _ K).trans ?_
    simp only [ih]
    rfl
def E_s_CuspWords_l0 (α : Type) (N : Nat) : Env α := (E_s_CuspWords_l2 α N).addLoop2 28 6 (loopSum2 ((E_s_CuspWords_l2 α N).ann 28 6) 0 s_CuspWords_l0_p (fun l K => match l with
    | [.i count, .n out_n, .n out_l, .n out_c, .i c, .i h0_0, .f h0_1, .f h0_2, .f h1, .t h2] => s_CuspWords_l0 none N count h0_0 h0_1 h0_2 h1 N out_n out_l out_c c h2 (fun out_n_ out_l_ out_c_ h2_ => K (.exit 0) (buildS s_CuspWords_l0_o0 [.n out_n_, .n out_l_, .n out_c_, .i h0_0, .f h0_1, .f h0_2, .f h1, .t h2_]))
    | _ => none) ((E_s_CuspWords_l2 α N).ls 28 6))
theorem E_s_CuspWords_l0_ok {α : Type} (N : Nat) : EnvOk Try.prog (E_s_CuspWords_l0 α N) := (E_s_CuspWords_l2_ok N).addLoop2 Try.func28 (by kernel_rfl) (loopSum_ok prog_mixed prog_names (E_s_CuspWords_l2_ok N) Try.func28 (by kernel_rfl) (d := 1) (ro := 0) fun l K r h => by
  split at h
  · exact (s_CuspWords_l0_loop N _ _ _ _ _ K N _ _ _ _ _).trans h
  · cases h)

/-- spec.CuspWords -/
def s_CuspWords_a : SPat := ⟨[.agg [.vals [.int .i64], .ints .u8 8, .ints .u8 8]], []⟩
def s_CuspWords_r0 : SPat := ⟨[.tuple [.nils, .int .i64]], []⟩
def s_CuspWords_r1 : SPat := ⟨[.tuple [.sliceV 0 0 0 1 false, .int .i64]], [[.strs]]⟩
theorem s_CuspWords_run {α : Type} (N : Nat) (g_0 : Int) (g_1 : Nat → Int) (g_2 : Nat → Int) (K : AV → Heap → Option α) :
    callK Try.prog (E_s_CuspWords_l0 α N) 1 28 0 (buildS s_CuspWords_a [.i g_0, .f g_1, .f g_2]).t (buildS s_CuspWords_a [.i g_0, .f g_1, .f g_2]).h K = s_CuspWords none N g_0 g_1 g_2 (fun r_1_ => retK (buildS s_CuspWords_r0 [.i r_1_]) K) (fun r_0_n_ r_0_l_ r_0_c_ r_1_ h0_ => retK (buildS s_CuspWords_r1 [.n r_0_n_, .n r_0_l_, .n r_0_c_, .i r_1_, .t h0_]) K) := by kernel_rfl
def E_s_CuspWords (α : Type) (N : Nat) : Env α := (E_s_CuspWords_l0 α N).addFun 28 true 0 s_CuspWords_a (fun l K => match l with
    | [.i g_0, .f g_1, .f g_2] => s_CuspWords none N g_0 g_1 g_2 (fun r_1_ => retK (buildS s_CuspWords_r0 [.i r_1_]) K) (fun r_0_n_ r_0_l_ r_0_c_ r_1_ h0_ => retK (buildS s_CuspWords_r1 [.n r_0_n_, .n r_0_l_, .n r_0_c_, .i r_1_, .t h0_]) K)
    | _ => none)
theorem E_s_CuspWords_ok {α : Type} (N : Nat) : EnvOk Try.prog (E_s_CuspWords α N) := (E_s_CuspWords_l0_ok N).addFun prog_mixed prog_names (d := 1) fun l K r h => by
  split at h
  · exact (s_CuspWords_run N _ _ _ K).trans h
  · cases h

def A_i_Grid_walks_l0 (α : Type) (N : Nat) : Env α := (E_s_CuspWords α N).addAnn 85 3 { head := [1, 3, 4, 5, 16, 17], grow := [5], out := [5], ret := [2] }
theorem A_i_Grid_walks_l0_ok {α : Type} (N : Nat) : EnvOk Try.prog (A_i_Grid_walks_l0 α N) := (E_s_CuspWords_ok N).addAnn

def A_i_Grid_walks_l1 (α : Type) (N : Nat) : Env α := (A_i_Grid_walks_l0 α N).addAnn 85 8 { head := [1, 3, 4, 5, 7, 8, 16, 17], grow := [7], out := [1, 3, 4, 5, 7, 16, 17], ret := [2] }
theorem A_i_Grid_walks_l1_ok {α : Type} (N : Nat) : EnvOk Try.prog (A_i_Grid_walks_l1 α N) := (A_i_Grid_walks_l0_ok N).addAnn

/-- (impl.Grid).walks, loop -/
def i_Grid_walks_l1_p : SPat := ⟨[.undef, .ptr ⟨⟨0, 0⟩, 0, 0, 1⟩, .undef, .ptr ⟨⟨3, 0⟩, 0, 0, 8⟩, .ptr ⟨⟨4, 0⟩, 0, 0, 8⟩, .sliceV 2 0 0 1 false, .undef, .sliceV 5 0 0 1 false, .int .i64, .undef, .undef, .undef, .undef, .undef, .undef, .undef, .int .i64, .int .i64] ++ List.replicate 29 .undef, [[.vals [.int .i64], .ints .u8 8, .ints .u8 8], [.pool .i64], [.hdr 1], [.ints .i64 8], [.bools 8], [.vec .i64]]⟩
def i_Grid_walks_l1_o0 : SPat := ⟨[.undef, .ptr ⟨⟨0, 0⟩, 0, 0, 1⟩, .undef, .ptr ⟨⟨3, 0⟩, 0, 0, 8⟩, .ptr ⟨⟨4, 0⟩, 0, 0, 8⟩, .sliceV 2 0 0 1 false, .undef, .sliceV 5 0 0 1 false, .undef, .undef, .undef, .undef, .undef, .undef, .undef, .undef, .int .i64, .int .i64] ++ List.replicate 29 .undef, [[.vals [.int .i64], .ints .u8 8, .ints .u8 8], [.pool .i64], [.hdr 1], [.ints .i64 8], [.bools 8], [.vec .i64]]⟩
theorem i_Grid_walks_l1_round {α : Type} (N : Nat) (out_n : Nat) (out_l : Nat) (out_c : Nat) (walk_n : Nat) (walk_l : Nat) (walk_c : Nat) (k : Int) (t16 : Int) (t17 : Int) (h0_0 : Int) (h0_1 : Nat → Int) (h0_2 : Nat → Int) (h1 : List (List Int)) (h2 : List (Nat × Nat)) (h3 : Nat → Int) (h4 : Nat → Bool) (h5 : List Int) (kn : St → Option α) (K : AExit → St → Option α) :
    roundK Try.prog (A_i_Grid_walks_l1 α N) 1 0 85 Try.f85 8 6 (buildS i_Grid_walks_l1_p [.n out_n, .n out_l, .n out_c, .n walk_n, .n walk_l, .n walk_c, .i k, .i t16, .i t17, .i h0_0, .f h0_1, .f h0_2, .r h1, .p h2, .f h3, .g h4, .l h5]) kn K = i_Grid_walks_l1_s none out_n out_l out_c t16 t17 h0_0 h0_1 h0_2 h1 h2 h3 walk_n walk_l walk_c k h4 h5 (fun walk_n walk_l walk_c k h4 h5 => kn (buildS i_Grid_walks_l1_p [.n out_n, .n out_l, .n out_c, .n walk_n, .n walk_l, .n walk_c, .i k, .i t16, .i t17, .i h0_0, .f h0_1, .f h0_2, .r h1, .p h2, .f h3, .g h4, .l h5])) (fun walk_n_ walk_l_ walk_c_ h4_ h5_ => K (.exit 2) (buildS i_Grid_walks_l1_o0 [.n out_n, .n out_l, .n out_c, .n walk_n_, .n walk_l_, .n walk_c_, .i t16, .i t17, .i h0_0, .f h0_1, .f h0_2, .r h1, .p h2, .f h3, .g h4_, .l h5_])) := by kernel_rfl
theorem i_Grid_walks_l1_loop {α : Type} (N : Nat) (out_n : Nat) (out_l : Nat) (out_c : Nat) (t16 : Int) (t17 : Int) (h0_0 : Int) (h0_1 : Nat → Int) (h0_2 : Nat → Int) (h1 : List (List Int)) (h2 : List (Nat × Nat)) (h3 : Nat → Int) (K : AExit → St → Option α) : ∀ (m : Nat) (walk_n : Nat) (walk_l : Nat) (walk_c : Nat) (k : Int) (h4 : Nat → Bool) (h5 : List Int),
    loopN (trimSt ((A_i_Grid_walks_l1 α N).ann 85 8).head ((A_i_Grid_walks_l1 α N).ann 85 8).grow 6) (bodyK Try.prog (A_i_Grid_walks_l1 α N) 1 0 85 Try.f85 8) m (buildS i_Grid_walks_l1_p [.n out_n, .n out_l, .n out_c, .n walk_n, .n walk_l, .n walk_c, .i k, .i t16, .i t17, .i h0_0, .f h0_1, .f h0_2, .r h1, .p h2, .f h3, .g h4, .l h5]) (leaveLoop ((A_i_Grid_walks_l1 α N).ann 85 8) 6 K) = i_Grid_walks_l1 none out_n out_l out_c t16 t17 h0_0 h0_1 h0_2 h1 h2 h3 m walk_n walk_l walk_c k h4 h5 (fun walk_n_ walk_l_ walk_c_ h4_ h5_ => K (.exit 2) (buildS i_Grid_walks_l1_o0 [.n out_n, .n out_l, .n out_c, .n walk_n_, .n walk_l_, .n walk_c_, .i t16, .i t17, .i h0_0, .f h0_1, .f h0_2, .r h1, .p h2, .f h3, .g h4_, .l h5_])) := by
  intro m
  induction m with
  | zero => intros; rfl
  | succ m ih =>
    intro walk_n walk_l walk_c k h4 h5
    rw [loopN_round]
    refine (i_Grid_walks_l1_round N out_n out_l out_c walk_n walk_l walk_c k t16 t17 h0_0 h0_1 h0_2 h1 h2 h3 h4 h5 _ K).trans ?_
    simp only [ih]
    rfl
def E_i_Grid_walks_l1 (α : Type) (N : Nat) : Env α := (A_i_Grid_walks_l1 α N).addLoop2 85 8 (loopSum2 ((A_i_Grid_walks_l1 α N).ann 85 8) 0 i_Grid_walks_l1_p (fun l K => match l with
    | [.n out_n, .n out_l, .n out_c, .n walk_n, .n walk_l, .n walk_c, .i k, .i t16, .i t17, .i h0_0, .f h0_1, .f h0_2, .r h1, .p h2, .f h3, .g h4, .l h5] => i_Grid_walks_l1 none out_n out_l out_c t16 t17 h0_0 h0_1 h0_2 h1 h2 h3 N walk_n walk_l walk_c k h4 h5 (fun walk_n_ walk_l_ walk_c_ h4_ h5_ => K (.exit 2) (buildS i_Grid_walks_l1_o0 [.n out_n, .n out_l, .n out_c, .n walk_n_, .n walk_l_, .n walk_c_, .i t16, .i t17, .i h0_0, .f h0_1, .f h0_2, .r h1, .p h2, .f h3, .g h4_, .l h5_]))
    | _ => none) ((A_i_Grid_walks_l1 α N).ls 85 8))
theorem E_i_Grid_walks_l1_ok {α : Type} (N : Nat) : EnvOk Try.prog (E_i_Grid_walks_l1 α N) := (A_i_Grid_walks_l1_ok N).addLoop2 Try.func85 (by kernel_rfl) (loopSum_ok prog_mixed prog_names (A_i_Grid_walks_l1_ok N) Try.func85 (by kernel_rfl) (d := 1) (ro := 0) fun l K r h => by
  split at h
  · exact (i_Grid_walks_l1_loop N _ _ _ _ _ _ _ _ _ _ _ K N _ _ _ _ _ _).trans h
  · cases h)

/-- (impl.Grid).walks, loop -/
def i_Grid_walks_l0_p : SPat := ⟨[.undef, .ptr ⟨⟨0, 0⟩, 0, 0, 1⟩, .undef, .ptr ⟨⟨3, 0⟩, 0, 0, 8⟩, .ptr ⟨⟨4, 0⟩, 0, 0, 8⟩, .sliceV 2 0 0 1 false, .undef, .undef, .undef, .undef, .undef, .undef, .undef, .undef, .undef, .undef, .int .i64, .int .i64] ++ List.replicate 29 .undef, [[.vals [.int .i64], .ints .u8 8, .ints .u8 8], [.pool .i64], [.hdr 1], [.ints .i64 8], [.bools 8]]⟩
def i_Grid_walks_l0_o0 : SPat := ⟨[.undef, .undef, .undef, .undef, .undef, .sliceV 2 0 0 1 false] ++ List.replicate 41 .undef, [[.vals [.int .i64], .ints .u8 8, .ints .u8 8], [.pool .i64], [.hdr 1], [.ints .i64 8], [.bools 8]]⟩
theorem i_Grid_walks_l0_round {α : Type} (N : Nat) (out_n : Nat) (out_l : Nat) (out_c : Nat) (t16 : Int) (t17 : Int) (h0_0 : Int) (h0_1 : Nat → Int) (h0_2 : Nat → Int) (h1 : List (List Int)) (h2 : List (Nat × Nat)) (h3 : Nat → Int) (h4 : Nat → Bool) (kn : St → Option α) (K : AExit → St → Option α) :
    roundK Try.prog (E_i_Grid_walks_l1 α N) 1 0 85 Try.f85 3 5 (buildS i_Grid_walks_l0_p [.n out_n, .n out_l, .n out_c, .i t16, .i t17, .i h0_0, .f h0_1, .f h0_2, .r h1, .p h2, .f h3, .g h4]) kn K = i_Grid_walks_l0_s none N t16 h0_0 h0_1 h0_2 h3 out_n out_l out_c t17 h1 h2 h4 (fun out_n out_l out_c t17 h1 h2 h4 => kn (buildS i_Grid_walks_l0_p [.n out_n, .n out_l, .n out_c, .i t16, .i t17, .i h0_0, .f h0_1, .f h0_2, .r h1, .p h2, .f h3, .g h4])) (fun out_n_ out_l_ out_c_ h1_ h2_ h4_ => K (.exit 0) (buildS i_Grid_walks_l0_o0 [.n out_n_, .n out_l_, .n out_c_, .i h0_0, .f h0_1, .f h0_2, .r h1_, .p h2_, .f h3, .g h4_])) := by kernel_rfl
theorem i_Grid_walks_l0_loop {α : Type} (N : Nat) (t16 : Int) (h0_0 : Int) (h0_1 : Nat → Int) (h0_2 : Nat → Int) (h3 : Nat → Int) (K : AExit → St → Option α) : ∀ (m : Nat) (out_n : Nat) (out_l : Nat) (out_c : Nat) (t17 : Int) (h1 : List (List Int)) (h2 : List (Nat × Nat)) (h4 : Nat → Bool),
    loopN (trimSt ((E_i_Grid_walks_l1 α N).ann 85 3).head ((E_i_Grid_walks_l1 α N).ann 85 3).grow 5) (bodyK Try.prog (E_i_Grid_walks_l1 α N) 1 0 85 Try.f85 3) m (buildS i_Grid_walks_l0_p [.n out_n, .n out_l, .n out_c, .i t16, .i t17, .i h0_0, .f h0_1, .f h0_2, .r h1, .p h2, .f h3, .g h4]) (leaveLoop ((E_i_Grid_walks_l1 α N).ann 85 3) 5 K) = i_Grid_walks_l0 none N t16 h0_0 h0_1 h0_2 h3 m out_n out_l out_c t17 h1 h2 h4 (fun out_n_ out_l_ out_c_ h1_ h2_ h4_ => K (.exit 0) (buildS i_Grid_walks_l0_o0 [.n out_n_, .n out_l_, .n out_c_, .i h0_0, .f h0_1, .f h0_2, .r h1_, .p h2_, .f h3, .g h4_])) := by
  intro m
  induction m with
  | zero => intros; rfl
  | succ m ih =>
    intro out_n out_l out_c t17 h1 h2 h4
    rw [loopN_round]
    refine (i_Grid_walks_l0_round N out_n out_l out_c t16 t17 h0_0 h0_1 h0_2 h1 h2 h3 h4 _ K).trans ?_
    simp only [ih]
    rfl
def E_i_Grid_walks_l0 (α : Type) (N : Nat) : Env α := (E_i_Grid_walks_l1 α N).addLoop2 85 3 (loopSum2 ((E_i_Grid_walks_l1 α N).ann 85 3) 0 i_Grid_walks_l0_p (fun l K => match l with
    | [.n out_n, .n out_l, .n out_c, .i t16, .i t17, .i h0_0, .f h0_1, .f h0_2, .r h1, .p h2, .f h3, .g h4] => i_Grid_walks_l0 none N t16 h0_0 h0_1 h0_2 h3 N out_n out_l out_c t17 h1 h2 h4 (fun out_n_ out_l_ out_c_ h1_ h2_ h4_ => K (.exit 0) (buildS i_Grid_walks_l0_o0 [.n out_n_, .n out_l_, .n out_c_, .i h0_0, .f h0_1, .f h0_2, .r h1_, .p h2_, .f h3, .g h4_]))
    | _ => none) ((E_i_Grid_walks_l1 α N).ls 85 3))
theorem E_i_Grid_walks_l0_ok {α : Type} (N : Nat) : EnvOk Try.prog (E_i_Grid_walks_l0 α N) := (E_i_Grid_walks_l1_ok N).addLoop2 Try.func85 (by kernel_rfl) (loopSum_ok prog_mixed prog_names (E_i_Grid_walks_l1_ok N) Try.func85 (by kernel_rfl) (d := 1) (ro := 0) fun l K r h => by
  split at h
  · exact (i_Grid_walks_l0_loop N _ _ _ _ _ K N _ _ _ _ _ _ _).trans h
  · cases h)

/-- (impl.Grid).walks -/
def i_Grid_walks_a : SPat := ⟨[.agg [.vals [.int .i64], .ints .u8 8, .ints .u8 8]], []⟩
def i_Grid_walks_r0 : SPat := ⟨[.sliceV 0 0 0 1 false], [[.hdr 1], [.pool .i64]]⟩
theorem i_Grid_walks_run {α : Type} (N : Nat) (g_0 : Int) (g_1 : Nat → Int) (g_2 : Nat → Int) (K : AV → Heap → Option α) :
    callK Try.prog (E_i_Grid_walks_l0 α N) 1 85 0 (buildS i_Grid_walks_a [.i g_0, .f g_1, .f g_2]).t (buildS i_Grid_walks_a [.i g_0, .f g_1, .f g_2]).h K = i_Grid_walks none N g_0 g_1 g_2 (fun r_n_ r_l_ r_c_ h0_ h1_ => retK (buildS i_Grid_walks_r0 [.n r_n_, .n r_l_, .n r_c_, .p h0_, .r h1_]) K) := by kernel_rfl
def E_i_Grid_walks (α : Type) (N : Nat) : Env α := (E_i_Grid_walks_l0 α N).addFun 85 true 0 i_Grid_walks_a (fun l K => match l with
    | [.i g_0, .f g_1, .f g_2] => i_Grid_walks none N g_0 g_1 g_2 (fun r_n_ r_l_ r_c_ h0_ h1_ => retK (buildS i_Grid_walks_r0 [.n r_n_, .n r_l_, .n r_c_, .p h0_, .r h1_]) K)
    | _ => none)
theorem E_i_Grid_walks_ok {α : Type} (N : Nat) : EnvOk Try.prog (E_i_Grid_walks α N) := (E_i_Grid_walks_l0_ok N).addFun prog_mixed prog_names (d := 1) fun l K r h => by
  split at h
  · exact (i_Grid_walks_run N _ _ _ K).trans h
  · cases h

def A_i_CuspWords_1_l0 (α : Type) (N : Nat) : Env α := (E_i_Grid_walks α N).addAnn 83 3 { head := [3, 4, 14, 15, 16], grow := [4], out := [4], ret := [2] }
theorem A_i_CuspWords_1_l0_ok {α : Type} (N : Nat) : EnvOk Try.prog (A_i_CuspWords_1_l0 α N) := (E_i_Grid_walks_ok N).addAnn

def A_i_CuspWords_1_l1 (α : Type) (N : Nat) : Env α := (A_i_CuspWords_1_l0 α N).addAnn 83 7 { head := [3, 4, 7, 14, 15, 16, 20, 21, 22], grow := [], out := [3, 4, 7, 14, 15, 16], ret := [2] }
theorem A_i_CuspWords_1_l1_ok {α : Type} (N : Nat) : EnvOk Try.prog (A_i_CuspWords_1_l1 α N) := (A_i_CuspWords_1_l0_ok N).addAnn

/-- impl.CuspWords$1, loop -/
def i_CuspWords_1_l1_p : SPat := ⟨[.undef, .undef, .undef, .sliceV 1 0 0 4 false, .sliceV 2 0 0 1 false, .undef, .undef, .str, .undef, .undef, .undef, .undef, .undef, .undef, .sliceV 3 0 0 1 false, .int .i64, .int .i64, .undef, .undef, .undef, .sliceR 4 1 false, .int .i64, .int .i64] ++ List.replicate 26 .undef, [[.vals [.int .i64], .ints .u8 8, .ints .u8 8], [.recs [some IntKind.i64, some IntKind.i64, some IntKind.i64, none]], [.strs], [.hdr 4], [.pool .i64]]⟩
def i_CuspWords_1_l1_o0 : SPat := ⟨[.undef, .undef, .undef, .sliceV 1 0 0 4 false, .sliceV 2 0 0 1 false, .undef, .undef, .str, .undef, .undef, .undef, .undef, .undef, .undef, .sliceV 3 0 0 1 false, .int .i64, .int .i64] ++ List.replicate 32 .undef, [[.vals [.int .i64], .ints .u8 8, .ints .u8 8], [.recs [some IntKind.i64, some IntKind.i64, some IntKind.i64, none]], [.strs], [.hdr 4], [.pool .i64]]⟩
theorem i_CuspWords_1_l1_round {α : Type} (N : Nat) (list_n : Nat) (list_l : Nat) (list_c : Nat) (out_n : Nat) (out_l : Nat) (out_c : Nat) (word : List UInt8) (t14_n : Nat) (t14_l : Nat) (t14_c : Nat) (t15 : Int) (t16 : Int) (t20_r : Nat) (t20_o : Nat) (t20_n : Nat) (t20_l : Nat) (t20_c : Nat) (t21 : Int) (t22 : Int) (h0_0 : Int) (h0_1 : Nat → Int) (h0_2 : Nat → Int) (h1 : List Int) (h2 : List (List UInt8)) (h3 : List (Nat × Nat)) (h4 : List (List Int)) (kn : St → Option α) (K : AExit → St → Option α) :
    roundK Try.prog (A_i_CuspWords_1_l1 α N) 1 0 83 Try.f83 7 5 (buildS i_CuspWords_1_l1_p [.n list_n, .n list_l, .n list_c, .n out_n, .n out_l, .n out_c, .s word, .n t14_n, .n t14_l, .n t14_c, .i t15, .i t16, .n t20_r, .n t20_o, .n t20_n, .n t20_l, .n t20_c, .i t21, .i t22, .i h0_0, .f h0_1, .f h0_2, .l h1, .t h2, .p h3, .r h4]) kn K = i_CuspWords_1_l1_s none N list_n list_l list_c out_n out_l out_c t14_n t14_l t14_c t15 t16 t20_r t20_o t20_n t20_l t20_c t21 h0_0 h0_1 h0_2 h1 h2 h3 h4 word t22 (fun word t22 => kn (buildS i_CuspWords_1_l1_p [.n list_n, .n list_l, .n list_c, .n out_n, .n out_l, .n out_c, .s word, .n t14_n, .n t14_l, .n t14_c, .i t15, .i t16, .n t20_r, .n t20_o, .n t20_n, .n t20_l, .n t20_c, .i t21, .i t22, .i h0_0, .f h0_1, .f h0_2, .l h1, .t h2, .p h3, .r h4])) (fun word_ => K (.exit 2) (buildS i_CuspWords_1_l1_o0 [.n list_n, .n list_l, .n list_c, .n out_n, .n out_l, .n out_c, .s word_, .n t14_n, .n t14_l, .n t14_c, .i t15, .i t16, .i h0_0, .f h0_1, .f h0_2, .l h1, .t h2, .p h3, .r h4])) := by kernel_rfl
theorem i_CuspWords_1_l1_loop {α : Type} (N : Nat) (list_n : Nat) (list_l : Nat) (list_c : Nat) (out_n : Nat) (out_l : Nat) (out_c : Nat) (t14_n : Nat) (t14_l : Nat) (t14_c : Nat) (t15 : Int) (t16 : Int) (t20_r : Nat) (t20_o : Nat) (t20_n : Nat) (t20_l : Nat) (t20_c : Nat) (t21 : Int) (h0_0 : Int) (h0_1 : Nat → Int) (h0_2 : Nat → Int) (h1 : List Int) (h2 : List (List UInt8)) (h3 : List (Nat × Nat)) (h4 : List (List Int)) (K : AExit → St → Option α) : ∀ (m : Nat) (word : List UInt8) (t22 : Int),
    loopN (trimSt ((A_i_CuspWords_1_l1 α N).ann 83 7).head ((A_i_CuspWords_1_l1 α N).ann 83 7).grow 5) (bodyK Try.prog (A_i_CuspWords_1_l1 α N) 1 0 83 Try.f83 7) m (buildS i_CuspWords_1_l1_p [.n list_n, .n list_l, .n list_c, .n out_n, .n out_l, .n out_c, .s word, .n t14_n, .n t14_l, .n t14_c, .i t15, .i t16, .n t20_r, .n t20_o, .n t20_n, .n t20_l, .n t20_c, .i t21, .i t22, .i h0_0, .f h0_1, .f h0_2, .l h1, .t h2, .p h3, .r h4]) (leaveLoop ((A_i_CuspWords_1_l1 α N).ann 83 7) 5 K) = i_CuspWords_1_l1 none N list_n list_l list_c out_n out_l out_c t14_n t14_l t14_c t15 t16 t20_r t20_o t20_n t20_l t20_c t21 h0_0 h0_1 h0_2 h1 h2 h3 h4 m word t22 (fun word_ => K (.exit 2) (buildS i_CuspWords_1_l1_o0 [.n list_n, .n list_l, .n list_c, .n out_n, .n out_l, .n out_c, .s word_, .n t14_n, .n t14_l, .n t14_c, .i t15, .i t16, .i h0_0, .f h0_1, .f h0_2, .l h1, .t h2, .p h3, .r h4])) := by
  intro m
  induction m with
  | zero => intros; rfl
  | succ m ih =>
    intro word t22
    rw [loopN_round]
    refine (i_CuspWords_1_l1_round N list_n list_l list_c out_n out_l out_c word t14_n t14_l t14_c t15 t16 t20_r t20_o t20_n t20_l t20_c t21 t22 h0_0 h0_1 h0_2 h1 h2 h3 h4 _ K).trans ?_
    simp only [ih]
    rfl
def E_i_CuspWords_1_l1 (α : Type) (N : Nat) : Env α := (A_i_CuspWords_1_l1 α N).addLoop2 83 7 (loopSum2 ((A_i_CuspWords_1_l1 α N).ann 83 7) 0 i_CuspWords_1_l1_p (fun l K => match l with
    | [.n list_n, .n list_l, .n list_c, .n out_n, .n out_l, .n out_c, .s word, .n t14_n, .n t14_l, .n t14_c, .i t15, .i t16, .n t20_r, .n t20_o, .n t20_n, .n t20_l, .n t20_c, .i t21, .i t22, .i h0_0, .f h0_1, .f h0_2, .l h1, .t h2, .p h3, .r h4] => i_CuspWords_1_l1 none N list_n list_l list_c out_n out_l out_c t14_n t14_l t14_c t15 t16 t20_r t20_o t20_n t20_l t20_c t21 h0_0 h0_1 h0_2 h1 h2 h3 h4 N word t22 (fun word_ => K (.exit 2) (buildS i_CuspWords_1_l1_o0 [.n list_n, .n list_l, .n list_c, .n out_n, .n out_l, .n out_c, .s word_, .n t14_n, .n t14_l, .n t14_c, .i t15, .i t16, .i h0_0, .f h0_1, .f h0_2, .l h1, .t h2, .p h3, .r h4]))
    | _ => none) ((A_i_CuspWords_1_l1 α N).ls 83 7))
theorem E_i_CuspWords_1_l1_ok {α : Type} (N : Nat) : EnvOk Try.prog (E_i_CuspWords_1_l1 α N) := (A_i_CuspWords_1_l1_ok N).addLoop2 Try.func83 (by kernel_rfl) (loopSum_ok prog_mixed prog_names (A_i_CuspWords_1_l1_ok N) Try.func83 (by kernel_rfl) (d := 1) (ro := 0) fun l K r h => by
  split at h
  · exact (i_CuspWords_1_l1_loop N _ _ _ _ _ _ _ _ _ _ _ _ _ _ _ _ _ _ _ _ _ _ _ _ K N _ _).trans h
  · cases h)

/-- impl.CuspWords$1, loop -/
def i_CuspWords_1_l0_p : SPat := ⟨[.undef, .undef, .undef, .sliceV 1 0 0 4 false, .sliceV 2 0 0 1 false, .undef, .undef, .undef, .undef, .undef, .undef, .undef, .undef, .undef, .sliceV 3 0 0 1 false, .int .i64, .int .i64] ++ List.replicate 32 .undef, [[.vals [.int .i64], .ints .u8 8, .ints .u8 8], [.recs [some IntKind.i64, some IntKind.i64, some IntKind.i64, none]], [.strs], [.hdr 4], [.pool .i64]]⟩
def i_CuspWords_1_l0_o0 : SPat := ⟨[.undef, .undef, .undef, .undef, .sliceV 2 0 0 1 false] ++ List.replicate 44 .undef, [[.vals [.int .i64], .ints .u8 8, .ints .u8 8], [.recs [some IntKind.i64, some IntKind.i64, some IntKind.i64, none]], [.strs], [.hdr 4], [.pool .i64]]⟩
theorem i_CuspWords_1_l0_round {α : Type} (N : Nat) (list_n : Nat) (list_l : Nat) (list_c : Nat) (out_n : Nat) (out_l : Nat) (out_c : Nat) (t14_n : Nat) (t14_l : Nat) (t14_c : Nat) (t15 : Int) (t16 : Int) (h0_0 : Int) (h0_1 : Nat → Int) (h0_2 : Nat → Int) (h1 : List Int) (h2 : List (List UInt8)) (h3 : List (Nat × Nat)) (h4 : List (List Int)) (kn : St → Option α) (K : AExit → St → Option α) :
    roundK Try.prog (E_i_CuspWords_1_l1 α N) 1 0 83 Try.f83 3 5 (buildS i_CuspWords_1_l0_p [.n list_n, .n list_l, .n list_c, .n out_n, .n out_l, .n out_c, .n t14_n, .n t14_l, .n t14_c, .i t15, .i t16, .i h0_0, .f h0_1, .f h0_2, .l h1, .t h2, .p h3, .r h4]) kn K = i_CuspWords_1_l0_s none N list_n list_l list_c t14_n t14_l t14_c t15 h0_0 h0_1 h0_2 h1 h3 h4 out_n out_l out_c t16 h2 (fun out_n out_l out_c t16 h2 => kn (buildS i_CuspWords_1_l0_p [.n list_n, .n list_l, .n list_c, .n out_n, .n out_l, .n out_c, .n t14_n, .n t14_l, .n t14_c, .i t15, .i t16, .i h0_0, .f h0_1, .f h0_2, .l h1, .t h2, .p h3, .r h4])) (fun out_n_ out_l_ out_c_ h2_ => K (.exit 0) (buildS i_CuspWords_1_l0_o0 [.n out_n_, .n out_l_, .n out_c_, .i h0_0, .f h0_1, .f h0_2, .l h1, .t h2_, .p h3, .r h4])) := by kernel_rfl
theorem i_CuspWords_1_l0_loop {α : Type} (N : Nat) (list_n : Nat) (list_l : Nat) (list_c : Nat) (t14_n : Nat) (t14_l : Nat) (t14_c : Nat) (t15 : Int) (h0_0 : Int) (h0_1 : Nat → Int) (h0_2 : Nat → Int) (h1 : List Int) (h3 : List (Nat × Nat)) (h4 : List (List Int)) (K : AExit → St → Option α) : ∀ (m : Nat) (out_n : Nat) (out_l : Nat) (out_c : Nat) (t16 : Int) (h2 : List (List UInt8)),
    loopN (trimSt ((E_i_CuspWords_1_l1 α N).ann 83 3).head ((E_i_CuspWords_1_l1 α N).ann 83 3).grow 5) (bodyK Try.prog (E_i_CuspWords_1_l1 α N) 1 0 83 Try.f83 3) m (buildS i_CuspWords_1_l0_p [.n list_n, .n list_l, .n list_c, .n out_n, .n out_l, .n out_c, .n t14_n, .n t14_l, .n t14_c, .i t15, .i t16, .i h0_0, .f h0_1, .f h0_2, .l h1, .t h2, .p h3, .r h4]) (leaveLoop ((E_i_CuspWords_1_l1 α N).ann 83 3) 5 K) = i_CuspWords_1_l0 none N list_n list_l list_c t14_n t14_l t14_c t15 h0_0 h0_1 h0_2 h1 h3 h4 m out_n out_l out_c t16 h2 (fun out_n_ out_l_ out_c_ h2_ => K (.exit 0) (buildS i_CuspWords_1_l0_o0 [.n out_n_, .n out_l_, .n out_c_, .i h0_0, .f h0_1, .f h0_2, .l h1, .t h2_, .p h3, .r h4])) := by
  intro m
  induction m with
  | zero => intros; rfl
  | succ m ih =>
    intro out_n out_l out_c t16 h2
    rw [loopN_round]
    refine (i_CuspWords_1_l0_round N list_n list_l list_c out_n out_l out_c t14_n t14_l t14_c t15 t16 h0_0 h0_1 h0_2 h1 h2 h3 h4 _ K).trans ?_
    simp only [ih]
    rfl
def E_i_CuspWords_1_l0 (α : Type) (N : Nat) : Env α := (E_i_CuspWords_1_l1 α N).addLoop2 83 3 (loopSum2 ((E_i_CuspWords_1_l1 α N).ann 83 3) 0 i_CuspWords_1_l0_p (fun l K => match l with
    | [.n list_n, .n list_l, .n list_c, .n out_n, .n out_l, .n out_c, .n t14_n, .n t14_l, .n t14_c, .i t15, .i t16, .i h0_0, .f h0_1, .f h0_2, .l h1, .t h2, .p h3, .r h4] => i_CuspWords_1_l0 none N list_n list_l list_c t14_n t14_l t14_c t15 h0_0 h0_1 h0_2 h1 h3 h4 N out_n out_l out_c t16 h2 (fun out_n_ out_l_ out_c_ h2_ => K (.exit 0) (buildS i_CuspWords_1_l0_o0 [.n out_n_, .n out_l_, .n out_c_, .i h0_0, .f h0_1, .f h0_2, .l h1, .t h2_, .p h3, .r h4]))
    | _ => none) ((E_i_CuspWords_1_l1 α N).ls 83 3))
theorem E_i_CuspWords_1_l0_ok {α : Type} (N : Nat) : EnvOk Try.prog (E_i_CuspWords_1_l0 α N) := (E_i_CuspWords_1_l1_ok N).addLoop2 Try.func83 (by kernel_rfl) (loopSum_ok prog_mixed prog_names (E_i_CuspWords_1_l1_ok N) Try.func83 (by kernel_rfl) (d := 1) (ro := 0) fun l K r h => by
  split at h
  · exact (i_CuspWords_1_l0_loop N _ _ _ _ _ _ _ _ _ _ _ _ _ K N _ _ _ _ _).trans h
  · cases h)

/-- impl.CuspWords$1 -/
def i_CuspWords_1_a : SPat := ⟨[.agg [.vals [.int .i64], .ints .u8 8, .ints .u8 8]], []⟩
def i_CuspWords_1_r0 : SPat := ⟨[.sliceV 0 0 0 1 false], [[.strs]]⟩
theorem i_CuspWords_1_run {α : Type} (N : Nat) (g_0 : Int) (g_1 : Nat → Int) (g_2 : Nat → Int) (K : AV → Heap → Option α) :
    callK Try.prog (E_i_CuspWords_1_l0 α N) 1 83 0 (buildS i_CuspWords_1_a [.i g_0, .f g_1, .f g_2]).t (buildS i_CuspWords_1_a [.i g_0, .f g_1, .f g_2]).h K = i_CuspWords_1 none N g_0 g_1 g_2 (fun r_n_ r_l_ r_c_ h0_ => retK (buildS i_CuspWords_1_r0 [.n r_n_, .n r_l_, .n r_c_, .t h0_]) K) := by kernel_rfl
def E_i_CuspWords_1 (α : Type) (N : Nat) : Env α := (E_i_CuspWords_1_l0 α N).addFun 83 true 0 i_CuspWords_1_a (fun l K => match l with
    | [.i g_0, .f g_1, .f g_2] => i_CuspWords_1 none N g_0 g_1 g_2 (fun r_n_ r_l_ r_c_ h0_ => retK (buildS i_CuspWords_1_r0 [.n r_n_, .n r_l_, .n r_c_, .t h0_]) K)
    | _ => none)
theorem E_i_CuspWords_1_ok {α : Type} (N : Nat) : EnvOk Try.prog (E_i_CuspWords_1 α N) := (E_i_CuspWords_1_l0_ok N).addFun prog_mixed prog_names (d := 1) fun l K r h => by
  split at h
  · exact (i_CuspWords_1_run N _ _ _ K).trans h
  · cases h

/-- impl.whole[[]string] -/
def i_whole_string_a : SPat := ⟨[.agg [.vals [.int .i64], .ints .u8 8, .ints .u8 8], .func 83 []], []⟩
def i_whole_string_r0 : SPat := ⟨[.tuple [.nils, .int .i64]], []⟩
def i_whole_string_r1 : SPat := ⟨[.tuple [.sliceV 0 0 0 1 false, .int .i64]], [[.strs]]⟩
theorem i_whole_string_run {α : Type} (N : Nat) (g_0 : Int) (g_1 : Nat → Int) (g_2 : Nat → Int) (K : AV → Heap → Option α) :
    callK Try.prog (E_i_CuspWords_1 α N) 1 82 0 (buildS i_whole_string_a [.i g_0, .f g_1, .f g_2]).t (buildS i_whole_string_a [.i g_0, .f g_1, .f g_2]).h K = i_whole_string none N g_0 g_1 g_2 (fun r_1_ => retK (buildS i_whole_string_r0 [.i r_1_]) K) (fun r_0_n_ r_0_l_ r_0_c_ r_1_ h0_ => retK (buildS i_whole_string_r1 [.n r_0_n_, .n r_0_l_, .n r_0_c_, .i r_1_, .t h0_]) K) := by kernel_rfl
def E_i_whole_string (α : Type) (N : Nat) : Env α := (E_i_CuspWords_1 α N).addFun 82 true 0 i_whole_string_a (fun l K => match l with
    | [.i g_0, .f g_1, .f g_2] => i_whole_string none N g_0 g_1 g_2 (fun r_1_ => retK (buildS i_whole_string_r0 [.i r_1_]) K) (fun r_0_n_ r_0_l_ r_0_c_ r_1_ h0_ => retK (buildS i_whole_string_r1 [.n r_0_n_, .n r_0_l_, .n r_0_c_, .i r_1_, .t h0_]) K)
    | _ => none)
theorem E_i_whole_string_ok {α : Type} (N : Nat) : EnvOk Try.prog (E_i_whole_string α N) := (E_i_CuspWords_1_ok N).addFun prog_mixed prog_names (d := 1) fun l K r h => by
  split at h
  · exact (i_whole_string_run N _ _ _ K).trans h
  · cases h

/-- impl.CuspWords -/
def i_CuspWords_a : SPat := ⟨[.agg [.vals [.int .i64], .ints .u8 8, .ints .u8 8]], []⟩
def i_CuspWords_r0 : SPat := ⟨[.tuple [.nils, .int .i64]], []⟩
def i_CuspWords_r1 : SPat := ⟨[.tuple [.sliceV 0 0 0 1 false, .int .i64]], [[.strs]]⟩
theorem i_CuspWords_run {α : Type} (N : Nat) (g_0 : Int) (g_1 : Nat → Int) (g_2 : Nat → Int) (K : AV → Heap → Option α) :
    callK Try.prog (E_i_whole_string α N) 1 29 0 (buildS i_CuspWords_a [.i g_0, .f g_1, .f g_2]).t (buildS i_CuspWords_a [.i g_0, .f g_1, .f g_2]).h K = i_CuspWords none N g_0 g_1 g_2 (fun r_1_ => retK (buildS i_CuspWords_r0 [.i r_1_]) K) (fun r_0_n_ r_0_l_ r_0_c_ r_1_ h0_ => retK (buildS i_CuspWords_r1 [.n r_0_n_, .n r_0_l_, .n r_0_c_, .i r_1_, .t h0_]) K) := by kernel_rfl
def E_i_CuspWords (α : Type) (N : Nat) : Env α := (E_i_whole_string α N).addFun 29 true 0 i_CuspWords_a (fun l K => match l with
    | [.i g_0, .f g_1, .f g_2] => i_CuspWords none N g_0 g_1 g_2 (fun r_1_ => retK (buildS i_CuspWords_r0 [.i r_1_]) K) (fun r_0_n_ r_0_l_ r_0_c_ r_1_ h0_ => retK (buildS i_CuspWords_r1 [.n r_0_n_, .n r_0_l_, .n r_0_c_, .i r_1_, .t h0_]) K)
    | _ => none)
theorem E_i_CuspWords_ok {α : Type} (N : Nat) : EnvOk Try.prog (E_i_CuspWords α N) := (E_i_whole_string_ok N).addFun prog_mixed prog_names (d := 1) fun l K r h => by
  split at h
  · exact (i_CuspWords_run N _ _ _ K).trans h
  · cases h

def A_w_eqStringS_l0 (α : Type) (N : Nat) : Env α := (E_i_CuspWords α N).addAnn 30 4 { head := [0, 1, 5], grow := [], out := [], ret := [4] }
theorem A_w_eqStringS_l0_ok {α : Type} (N : Nat) : EnvOk Try.prog (A_w_eqStringS_l0 α N) := (E_i_CuspWords_ok N).addAnn

/-- laws.eqStringS, loop -/
def w_eqStringS_l0_p : SPat := ⟨[.nils, .nils, .undef, .undef, .undef, .int .i64] ++ List.replicate 20 .undef, []⟩
def w_eqStringS_l0_o0 : SPat := ⟨[] ++ List.replicate 26 .undef, []⟩
theorem w_eqStringS_l0_round {α : Type} (N : Nat) (i : Int) (kn : St → Option α) (K : AExit → St → Option α) :
    roundK Try.prog (A_w_eqStringS_l0 α N) 1 0 30 Try.f30 4 0 (buildS w_eqStringS_l0_p [.i i]) kn K = w_eqStringS_l0_s none i  (kn (buildS w_eqStringS_l0_p [.i i])) (K (.exit 0) (buildS w_eqStringS_l0_o0 [])) := by kernel_rfl
theorem w_eqStringS_l0_loop {α : Type} (N : Nat) (i : Int) (K : AExit → St → Option α) : ∀ (m : Nat),
    loopN (trimSt ((A_w_eqStringS_l0 α N).ann 30 4).head ((A_w_eqStringS_l0 α N).ann 30 4).grow 0) (bodyK Try.prog (A_w_eqStringS_l0 α N) 1 0 30 Try.f30 4) m (buildS w_eqStringS_l0_p [.i i]) (leaveLoop ((A_w_eqStringS_l0 α N).ann 30 4) 0 K) = w_eqStringS_l0 none i m  (K (.exit 0) (buildS w_eqStringS_l0_o0 [])) := by
  intro m
  induction m with
  | zero => intros; rfl
  | succ m ih =>
    rw [loopN_round]
    refine (w_eqStringS_l0_round N i _ K).trans ?_
    simp only [ih]
    rfl
def E_w_eqStringS_l0 (α : Type) (N : Nat) : Env α := (A_w_eqStringS_l0 α N).addLoop2 30 4 (loopSum2 ((A_w_eqStringS_l0 α N).ann 30 4) 0 w_eqStringS_l0_p (fun l K => match l with
    | [.i i] => w_eqStringS_l0 none i N  (K (.exit 0) (buildS w_eqStringS_l0_o0 []))
    | _ => none) ((A_w_eqStringS_l0 α N).ls 30 4))
theorem E_w_eqStringS_l0_ok {α : Type} (N : Nat) : EnvOk Try.prog (E_w_eqStringS_l0 α N) := (A_w_eqStringS_l0_ok N).addLoop2 Try.func30 (by kernel_rfl) (loopSum_ok prog_mixed prog_names (A_w_eqStringS_l0_ok N) Try.func30 (by kernel_rfl) (d := 1) (ro := 0) fun l K r h => by
  split at h
  · exact (w_eqStringS_l0_loop N _ K N ).trans h
  · cases h)

/-- laws.eqStringS -/
def w_eqStringS_a : SPat := ⟨[.nils, .nils], []⟩
def w_eqStringS_r0 : SPat := ⟨[.bool], []⟩
theorem w_eqStringS_run {α : Type} (N : Nat)  (K : AV → Heap → Option α) :
    callK Try.prog (E_w_eqStringS_l0 α N) 1 30 0 (buildS w_eqStringS_a []).t (buildS w_eqStringS_a []).h K = w_eqStringS none N  (fun r__ => retK (buildS w_eqStringS_r0 [.b r__]) K) := by kernel_rfl
def E_w_eqStringS (α : Type) (N : Nat) : Env α := (E_w_eqStringS_l0 α N).addFun 30 true 0 w_eqStringS_a (fun l K => match l with
    | [] => w_eqStringS none N  (fun r__ => retK (buildS w_eqStringS_r0 [.b r__]) K)
    | _ => none)
theorem E_w_eqStringS_ok {α : Type} (N : Nat) : EnvOk Try.prog (E_w_eqStringS α N) := (E_w_eqStringS_l0_ok N).addFun prog_mixed prog_names (d := 1) fun l K r h => by
  split at h
  · exact (w_eqStringS_run N  K).trans h
  · cases h

def A_w_markStringS_l0 (α : Type) (N : Nat) : Env α := (E_w_eqStringS α N).addAnn 31 2 { head := [0, 1, 5], grow := [], out := [1], ret := [4] }
theorem A_w_markStringS_l0_ok {α : Type} (N : Nat) : EnvOk Try.prog (A_w_markStringS_l0 α N) := (E_w_eqStringS_ok N).addAnn

def A_w_markText_l0 (α : Type) (N : Nat) : Env α := (A_w_markStringS_l0 α N).addAnn 87 4 { head := [0, 3], grow := [], out := [3], ret := [2] }
theorem A_w_markText_l0_ok {α : Type} (N : Nat) : EnvOk Try.prog (A_w_markText_l0 α N) := (A_w_markStringS_l0_ok N).addAnn

/-- laws.markText, loop -/
def w_markText_l0_p : SPat := ⟨[.int .i64, .undef, .undef, .str] ++ List.replicate 16 .undef, []⟩
def w_markText_l0_o0 : SPat := ⟨[.undef, .undef, .undef, .str] ++ List.replicate 16 .undef, []⟩
theorem w_markText_l0_round {α : Type} (N : Nat) (k : Int) (out : List UInt8) (kn : St → Option α) (K : AExit → St → Option α) :
    roundK Try.prog (A_w_markText_l0 α N) 1 0 87 Try.f87 4 0 (buildS w_markText_l0_p [.i k, .s out]) kn K = w_markText_l0_s none  k out (fun k out => kn (buildS w_markText_l0_p [.i k, .s out])) (fun out_ => K (.exit 0) (buildS w_markText_l0_o0 [.s out_])) := by kernel_rfl
theorem w_markText_l0_loop {α : Type} (N : Nat)  (K : AExit → St → Option α) : ∀ (m : Nat) (k : Int) (out : List UInt8),
    loopN (trimSt ((A_w_markText_l0 α N).ann 87 4).head ((A_w_markText_l0 α N).ann 87 4).grow 0) (bodyK Try.prog (A_w_markText_l0 α N) 1 0 87 Try.f87 4) m (buildS w_markText_l0_p [.i k, .s out]) (leaveLoop ((A_w_markText_l0 α N).ann 87 4) 0 K) = w_markText_l0 none  m k out (fun out_ => K (.exit 0) (buildS w_markText_l0_o0 [.s out_])) := by
  intro m
  induction m with
  | zero => intros; rfl
  | succ m ih =>
    intro k out
    rw [loopN_round]
    refine (w_markText_l0_round N k out _ K).trans ?_
    simp only [ih]
    rfl
def E_w_markText_l0 (α : Type) (N : Nat) : Env α := (A_w_markText_l0 α N).addLoop2 87 4 (loopSum2 ((A_w_markText_l0 α N).ann 87 4) 0 w_markText_l0_p (fun l K => match l with
    | [.i k, .s out] => w_markText_l0 none  N k out (fun out_ => K (.exit 0) (buildS w_markText_l0_o0 [.s out_]))
    | _ => none) ((A_w_markText_l0 α N).ls 87 4))
theorem E_w_markText_l0_ok {α : Type} (N : Nat) : EnvOk Try.prog (E_w_markText_l0 α N) := (A_w_markText_l0_ok N).addLoop2 Try.func87 (by kernel_rfl) (loopSum_ok prog_mixed prog_names (A_w_markText_l0_ok N) Try.func87 (by kernel_rfl) (d := 1) (ro := 0) fun l K r h => by
  split at h
  · exact (w_markText_l0_loop N  K N _ _).trans h
  · cases h)

/-- laws.markText -/
def w_markText_a : SPat := ⟨[.int .i64], []⟩
def w_markText_r0 : SPat := ⟨[.str], []⟩
theorem w_markText_run {α : Type} (N : Nat) (k : Int) (K : AV → Heap → Option α) :
    callK Try.prog (E_w_markText_l0 α N) 1 87 0 (buildS w_markText_a [.i k]).t (buildS w_markText_a [.i k]).h K = w_markText none N k (fun r__ => retK (buildS w_markText_r0 [.s r__]) K) := by kernel_rfl
def E_w_markText (α : Type) (N : Nat) : Env α := (E_w_markText_l0 α N).addFun 87 false 0 w_markText_a (fun l K => match l with
    | [.i k] => w_markText none N k (fun r__ => retK (buildS w_markText_r0 [.s r__]) K)
    | _ => none)
theorem E_w_markText_ok {α : Type} (N : Nat) : EnvOk Try.prog (E_w_markText α N) := (E_w_markText_l0_ok N).addFun prog_mixed prog_names (d := 1) fun l K r h => by
  split at h
  · exact (w_markText_run N _ K).trans h
  · cases h

/-- laws.markStringS, loop -/
def w_markStringS_l0_p : SPat := ⟨[.nils, .int .i64, .undef, .undef, .undef, .int .i64] ++ List.replicate 14 .undef, []⟩
def w_markStringS_l0_o0 : SPat := ⟨[.undef, .int .i64] ++ List.replicate 18 .undef, []⟩
theorem w_markStringS_l0_round {α : Type} (N : Nat) (k : Int) (i : Int) (kn : St → Option α) (K : AExit → St → Option α) :
    roundK Try.prog (E_w_markText α N) 1 0 31 Try.f31 2 0 (buildS w_markStringS_l0_p [.i k, .i i]) kn K = w_markStringS_l0_s none N k i  (kn (buildS w_markStringS_l0_p [.i k, .i i])) (K (.exit 0) (buildS w_markStringS_l0_o0 [.i k])) := by kernel_rfl
theorem w_markStringS_l0_loop {α : Type} (N : Nat) (k : Int) (i : Int) (K : AExit → St → Option α) : ∀ (m : Nat),
    loopN (trimSt ((E_w_markText α N).ann 31 2).head ((E_w_markText α N).ann 31 2).grow 0) (bodyK Try.prog (E_w_markText α N) 1 0 31 Try.f31 2) m (buildS w_markStringS_l0_p [.i k, .i i]) (leaveLoop ((E_w_markText α N).ann 31 2) 0 K) = w_markStringS_l0 none N k i m  (K (.exit 0) (buildS w_markStringS_l0_o0 [.i k])) := by
  intro m
  induction m with
  | zero => intros; rfl
  | succ m ih =>
    rw [loopN_round]
    refine (w_markStringS_l0_round N k i _ K).trans ?_
    simp only [ih]
    rfl
def E_w_markStringS_l0 (α : Type) (N : Nat) : Env α := (E_w_markText α N).addLoop2 31 2 (loopSum2 ((E_w_markText α N).ann 31 2) 0 w_markStringS_l0_p (fun l K => match l with
    | [.i k, .i i] => w_markStringS_l0 none N k i N  (K (.exit 0) (buildS w_markStringS_l0_o0 [.i k]))
    | _ => none) ((E_w_markText α N).ls 31 2))
theorem E_w_markStringS_l0_ok {α : Type} (N : Nat) : EnvOk Try.prog (E_w_markStringS_l0 α N) := (E_w_markText_ok N).addLoop2 Try.func31 (by kernel_rfl) (loopSum_ok prog_mixed prog_names (E_w_markText_ok N) Try.func31 (by kernel_rfl) (d := 1) (ro := 0) fun l K r h => by
  split at h
  · exact (w_markStringS_l0_loop N _ _ K N ).trans h
  · cases h)

/-- laws.markStringS -/
def w_markStringS_a : SPat := ⟨[.nils, .int .i64], []⟩
def w_markStringS_r0 : SPat := ⟨[.int .i64], []⟩
theorem w_markStringS_run {α : Type} (N : Nat) (k : Int) (K : AV → Heap → Option α) :
    callK Try.prog (E_w_markStringS_l0 α N) 1 31 0 (buildS w_markStringS_a [.i k]).t (buildS w_markStringS_a [.i k]).h K = w_markStringS none N k (retK (buildS w_markStringS_r0 [.i k]) K) := by kernel_rfl
def E_w_markStringS (α : Type) (N : Nat) : Env α := (E_w_markStringS_l0 α N).addFun 31 false 0 w_markStringS_a (fun l K => match l with
    | [.i k] => w_markStringS none N k (retK (buildS w_markStringS_r0 [.i k]) K)
    | _ => none)
theorem E_w_markStringS_ok {α : Type} (N : Nat) : EnvOk Try.prog (E_w_markStringS α N) := (E_w_markStringS_l0_ok N).addFun prog_mixed prog_names (d := 1) fun l K r h => by
  split at h
  · exact (w_markStringS_run N _ K).trans h
  · cases h

def A_w_heldStringS_l0 (α : Type) (N : Nat) : Env α := (E_w_markStringS α N).addAnn 32 2 { head := [0, 1, 5], grow := [], out := [1], ret := [4] }
theorem A_w_heldStringS_l0_ok {α : Type} (N : Nat) : EnvOk Try.prog (A_w_heldStringS_l0 α N) := (E_w_markStringS_ok N).addAnn

/-- laws.heldStringS, loop -/
def w_heldStringS_l0_p : SPat := ⟨[.nils, .int .i64, .undef, .undef, .undef, .int .i64] ++ List.replicate 16 .undef, []⟩
def w_heldStringS_l0_o0 : SPat := ⟨[.undef, .int .i64] ++ List.replicate 20 .undef, []⟩
theorem w_heldStringS_l0_round {α : Type} (N : Nat) (k : Int) (i : Int) (kn : St → Option α) (K : AExit → St → Option α) :
    roundK Try.prog (A_w_heldStringS_l0 α N) 1 0 32 Try.f32 2 0 (buildS w_heldStringS_l0_p [.i k, .i i]) kn K = w_heldStringS_l0_s none k i  (kn (buildS w_heldStringS_l0_p [.i k, .i i])) (K (.exit 0) (buildS w_heldStringS_l0_o0 [.i k])) := by kernel_rfl
theorem w_heldStringS_l0_loop {α : Type} (N : Nat) (k : Int) (i : Int) (K : AExit → St → Option α) : ∀ (m : Nat),
    loopN (trimSt ((A_w_heldStringS_l0 α N).ann 32 2).head ((A_w_heldStringS_l0 α N).ann 32 2).grow 0) (bodyK Try.prog (A_w_heldStringS_l0 α N) 1 0 32 Try.f32 2) m (buildS w_heldStringS_l0_p [.i k, .i i]) (leaveLoop ((A_w_heldStringS_l0 α N).ann 32 2) 0 K) = w_heldStringS_l0 none k i m  (K (.exit 0) (buildS w_heldStringS_l0_o0 [.i k])) := by
  intro m
  induction m with
  | zero => intros; rfl
  | succ m ih =>
    rw [loopN_round]
    refine (w_heldStringS_l0_round N k i _ K).trans ?_
    simp only [ih]
    rfl
def E_w_heldStringS_l0 (α : Type) (N : Nat) : Env α := (A_w_heldStringS_l0 α N).addLoop2 32 2 (loopSum2 ((A_w_heldStringS_l0 α N).ann 32 2) 0 w_heldStringS_l0_p (fun l K => match l with
    | [.i k, .i i] => w_heldStringS_l0 none k i N  (K (.exit 0) (buildS w_heldStringS_l0_o0 [.i k]))
    | _ => none) ((A_w_heldStringS_l0 α N).ls 32 2))
theorem E_w_heldStringS_l0_ok {α : Type} (N : Nat) : EnvOk Try.prog (E_w_heldStringS_l0 α N) := (A_w_heldStringS_l0_ok N).addLoop2 Try.func32 (by kernel_rfl) (loopSum_ok prog_mixed prog_names (A_w_heldStringS_l0_ok N) Try.func32 (by kernel_rfl) (d := 1) (ro := 0) fun l K r h => by
  split at h
  · exact (w_heldStringS_l0_loop N _ _ K N ).trans h
  · cases h)

/-- laws.heldStringS -/
def w_heldStringS_a : SPat := ⟨[.nils, .int .i64], []⟩
def w_heldStringS_r0 : SPat := ⟨[.int .i64], []⟩
theorem w_heldStringS_run {α : Type} (N : Nat) (k : Int) (K : AV → Heap → Option α) :
    callK Try.prog (E_w_heldStringS_l0 α N) 1 32 0 (buildS w_heldStringS_a [.i k]).t (buildS w_heldStringS_a [.i k]).h K = w_heldStringS none N k (retK (buildS w_heldStringS_r0 [.i k]) K) := by kernel_rfl
def E_w_heldStringS (α : Type) (N : Nat) : Env α := (E_w_heldStringS_l0 α N).addFun 32 true 0 w_heldStringS_a (fun l K => match l with
    | [.i k] => w_heldStringS none N k (retK (buildS w_heldStringS_r0 [.i k]) K)
    | _ => none)
theorem E_w_heldStringS_ok {α : Type} (N : Nat) : EnvOk Try.prog (E_w_heldStringS α N) := (E_w_heldStringS_l0_ok N).addFun prog_mixed prog_names (d := 1) fun l K r h => by
  split at h
  · exact (w_heldStringS_run N _ K).trans h
  · cases h

/-- laws.eqStringS, loop -/
def w_eqStringS_l0_s2_p : SPat := ⟨[.sliceV 0 0 0 1 false, .nils, .undef, .undef, .undef, .int .i64] ++ List.replicate 20 .undef, [[.strs]]⟩
def w_eqStringS_l0_s2_o0 : SPat := ⟨[] ++ List.replicate 26 .undef, [[.strs]]⟩
theorem w_eqStringS_l0_s2_round {α : Type} (N : Nat) (a_n : Nat) (a_l : Nat) (a_c : Nat) (i : Int) (h0 : List (List UInt8)) (kn : St → Option α) (K : AExit → St → Option α) :
    roundK Try.prog (E_w_heldStringS α N) 1 1 30 Try.f30 4 1 (buildS w_eqStringS_l0_s2_p [.n a_n, .n a_l, .n a_c, .i i, .t h0]) kn K = w_eqStringS_l0_s2_s none a_n a_l a_c i h0  (kn (buildS w_eqStringS_l0_s2_p [.n a_n, .n a_l, .n a_c, .i i, .t h0])) (K (.exit 0) (buildS w_eqStringS_l0_s2_o0 [.t h0])) := by kernel_rfl
theorem w_eqStringS_l0_s2_loop {α : Type} (N : Nat) (a_n : Nat) (a_l : Nat) (a_c : Nat) (i : Int) (h0 : List (List UInt8)) (K : AExit → St → Option α) : ∀ (m : Nat),
    loopN (trimSt ((E_w_heldStringS α N).ann 30 4).head ((E_w_heldStringS α N).ann 30 4).grow 1) (bodyK Try.prog (E_w_heldStringS α N) 1 1 30 Try.f30 4) m (buildS w_eqStringS_l0_s2_p [.n a_n, .n a_l, .n a_c, .i i, .t h0]) (leaveLoop ((E_w_heldStringS α N).ann 30 4) 1 K) = w_eqStringS_l0_s2 none a_n a_l a_c i h0 m  (K (.exit 0) (buildS w_eqStringS_l0_s2_o0 [.t h0])) := by
  intro m
  induction m with
  | zero => intros; rfl
  | succ m ih =>
    rw [loopN_round]
    refine (w_eqStringS_l0_s2_round N a_n a_l a_c i h0 _ K).trans ?_
    simp only [ih]
    rfl
def E_w_eqStringS_l0_s2 (α : Type) (N : Nat) : Env α := (E_w_heldStringS α N).addLoop2 30 4 (loopSum2 ((E_w_heldStringS α N).ann 30 4) 1 w_eqStringS_l0_s2_p (fun l K => match l with
    | [.n a_n, .n a_l, .n a_c, .i i, .t h0] => w_eqStringS_l0_s2 none a_n a_l a_c i h0 N  (K (.exit 0) (buildS w_eqStringS_l0_s2_o0 [.t h0]))
    | _ => none) ((E_w_heldStringS α N).ls 30 4))
theorem E_w_eqStringS_l0_s2_ok {α : Type} (N : Nat) : EnvOk Try.prog (E_w_eqStringS_l0_s2 α N) := (E_w_heldStringS_ok N).addLoop2 Try.func30 (by kernel_rfl) (loopSum_ok prog_mixed prog_names (E_w_heldStringS_ok N) Try.func30 (by kernel_rfl) (d := 1) (ro := 1) fun l K r h => by
  split at h
  · exact (w_eqStringS_l0_s2_loop N _ _ _ _ _ K N ).trans h
  · cases h)

/-- laws.eqStringS -/
def w_eqStringS_s2_a : SPat := ⟨[.sliceV 0 0 0 1 false, .nils], [[.strs]]⟩
def w_eqStringS_s2_r0 : SPat := ⟨[.bool], [[.strs]]⟩
theorem w_eqStringS_s2_run {α : Type} (N : Nat) (a_n : Nat) (a_l : Nat) (a_c : Nat) (h0 : List (List UInt8)) (K : AV → Heap → Option α) :
    callK Try.prog (E_w_eqStringS_l0_s2 α N) 1 30 1 (buildS w_eqStringS_s2_a [.n a_n, .n a_l, .n a_c, .t h0]).t (buildS w_eqStringS_s2_a [.n a_n, .n a_l, .n a_c, .t h0]).h K = w_eqStringS_s2 none N a_n a_l a_c h0 (fun r__ => retK (buildS w_eqStringS_s2_r0 [.b r__, .t h0]) K) := by kernel_rfl
def E_w_eqStringS_s2 (α : Type) (N : Nat) : Env α := (E_w_eqStringS_l0_s2 α N).addFun 30 true 1 w_eqStringS_s2_a (fun l K => match l with
    | [.n a_n, .n a_l, .n a_c, .t h0] => w_eqStringS_s2 none N a_n a_l a_c h0 (fun r__ => retK (buildS w_eqStringS_s2_r0 [.b r__, .t h0]) K)
    | _ => none)
theorem E_w_eqStringS_s2_ok {α : Type} (N : Nat) : EnvOk Try.prog (E_w_eqStringS_s2 α N) := (E_w_eqStringS_l0_s2_ok N).addFun prog_mixed prog_names (d := 1) fun l K r h => by
  split at h
  · exact (w_eqStringS_s2_run N _ _ _ _ K).trans h
  · cases h

/-- laws.markStringS, loop -/
def w_markStringS_l0_s2_p : SPat := ⟨[.sliceV 0 0 0 1 false, .int .i64, .undef, .undef, .undef, .int .i64] ++ List.replicate 14 .undef, [[.strs]]⟩
def w_markStringS_l0_s2_o0 : SPat := ⟨[.undef, .int .i64] ++ List.replicate 18 .undef, [[.strs]]⟩
theorem w_markStringS_l0_s2_round {α : Type} (N : Nat) (a_n : Nat) (a_l : Nat) (a_c : Nat) (k : Int) (i : Int) (h0 : List (List UInt8)) (kn : St → Option α) (K : AExit → St → Option α) :
    roundK Try.prog (E_w_eqStringS_s2 α N) 1 0 31 Try.f31 2 1 (buildS w_markStringS_l0_s2_p [.n a_n, .n a_l, .n a_c, .i k, .i i, .t h0]) kn K = w_markStringS_l0_s2_s none N a_n a_l a_c k i h0 (fun k i h0 => kn (buildS w_markStringS_l0_s2_p [.n a_n, .n a_l, .n a_c, .i k, .i i, .t h0])) (fun k_ h0_ => K (.exit 0) (buildS w_markStringS_l0_s2_o0 [.i k_, .t h0_])) := by kernel_rfl
theorem w_markStringS_l0_s2_loop {α : Type} (N : Nat) (a_n : Nat) (a_l : Nat) (a_c : Nat) (K : AExit → St → Option α) : ∀ (m : Nat) (k : Int) (i : Int) (h0 : List (List UInt8)),
    loopN (trimSt ((E_w_eqStringS_s2 α N).ann 31 2).head ((E_w_eqStringS_s2 α N).ann 31 2).grow 1) (bodyK Try.prog (E_w_eqStringS_s2 α N) 1 0 31 Try.f31 2) m (buildS w_markStringS_l0_s2_p [.n a_n, .n a_l, .n a_c, .i k, .i i, .t h0]) (leaveLoop ((E_w_eqStringS_s2 α N).ann 31 2) 1 K) = w_markStringS_l0_s2 none N a_n a_l a_c m k i h0 (fun k_ h0_ => K (.exit 0) (buildS w_markStringS_l0_s2_o0 [.i k_, .t h0_])) := by
  intro m
  induction m with
  | zero => intros; rfl
  | succ m ih =>
    intro k i h0
    rw [loopN_round]
    refine (w_markStringS_l0_s2_round N a_n a_l a_c k i h0 _ K).trans ?_
    simp only [ih]
    rfl
def E_w_markStringS_l0_s2 (α : Type) (N : Nat) : Env α := (E_w_eqStringS_s2 α N).addLoop2 31 2 (loopSum2 ((E_w_eqStringS_s2 α N).ann 31 2) 0 w_markStringS_l0_s2_p (fun l K => match l with
    | [.n a_n, .n a_l, .n a_c, .i k, .i i, .t h0] => w_markStringS_l0_s2 none N a_n a_l a_c N k i h0 (fun k_ h0_ => K (.exit 0) (buildS w_markStringS_l0_s2_o0 [.i k_, .t h0_]))
    | _ => none) ((E_w_eqStringS_s2 α N).ls 31 2))
theorem E_w_markStringS_l0_s2_ok {α : Type} (N : Nat) : EnvOk Try.prog (E_w_markStringS_l0_s2 α N) := (E_w_eqStringS_s2_ok N).addLoop2 Try.func31 (by kernel_rfl) (loopSum_ok prog_mixed prog_names (E_w_eqStringS_s2_ok N) Try.func31 (by kernel_rfl) (d := 1) (ro := 0) fun l K r h => by
  split at h
  · exact (w_markStringS_l0_s2_loop N _ _ _ K N _ _ _).trans h
  · cases h)

/-- laws.markStringS -/
def w_markStringS_s2_a : SPat := ⟨[.sliceV 0 0 0 1 false, .int .i64], [[.strs]]⟩
def w_markStringS_s2_r0 : SPat := ⟨[.int .i64], [[.strs]]⟩
theorem w_markStringS_s2_run {α : Type} (N : Nat) (a_n : Nat) (a_l : Nat) (a_c : Nat) (k : Int) (h0 : List (List UInt8)) (K : AV → Heap → Option α) :
    callK Try.prog (E_w_markStringS_l0_s2 α N) 1 31 0 (buildS w_markStringS_s2_a [.n a_n, .n a_l, .n a_c, .i k, .t h0]).t (buildS w_markStringS_s2_a [.n a_n, .n a_l, .n a_c, .i k, .t h0]).h K = w_markStringS_s2 none N a_n a_l a_c k h0 (fun r__ h0_ => retK (buildS w_markStringS_s2_r0 [.i r__, .t h0_]) K) := by kernel_rfl
def E_w_markStringS_s2 (α : Type) (N : Nat) : Env α := (E_w_markStringS_l0_s2 α N).addFun 31 false 0 w_markStringS_s2_a (fun l K => match l with
    | [.n a_n, .n a_l, .n a_c, .i k, .t h0] => w_markStringS_s2 none N a_n a_l a_c k h0 (fun r__ h0_ => retK (buildS w_markStringS_s2_r0 [.i r__, .t h0_]) K)
    | _ => none)
theorem E_w_markStringS_s2_ok {α : Type} (N : Nat) : EnvOk Try.prog (E_w_markStringS_s2 α N) := (E_w_markStringS_l0_s2_ok N).addFun prog_mixed prog_names (d := 1) fun l K r h => by
  split at h
  · exact (w_markStringS_s2_run N _ _ _ _ _ K).trans h
  · cases h

/-- laws.heldStringS, loop -/
def w_heldStringS_l0_s2_p : SPat := ⟨[.sliceV 0 0 0 1 false, .int .i64, .undef, .undef, .undef, .int .i64] ++ List.replicate 16 .undef, [[.strs]]⟩
def w_heldStringS_l0_s2_o0 : SPat := ⟨[.undef, .undef, .undef, .undef, .intC .i64 (-1)] ++ List.replicate 17 .undef, [[.strs]]⟩
def w_heldStringS_l0_s2_o1 : SPat := ⟨[.undef, .int .i64] ++ List.replicate 20 .undef, [[.strs]]⟩
theorem w_heldStringS_l0_s2_round {α : Type} (N : Nat) (a_n : Nat) (a_l : Nat) (a_c : Nat) (k : Int) (i : Int) (h0 : List (List UInt8)) (kn : St → Option α) (K : AExit → St → Option α) :
    roundK Try.prog (E_w_markStringS_s2 α N) 1 1 32 Try.f32 2 1 (buildS w_heldStringS_l0_s2_p [.n a_n, .n a_l, .n a_c, .i k, .i i, .t h0]) kn K = w_heldStringS_l0_s2_s none N a_n a_l a_c h0 k i (fun k i => kn (buildS w_heldStringS_l0_s2_p [.n a_n, .n a_l, .n a_c, .i k, .i i, .t h0])) (K .ret (buildS w_heldStringS_l0_s2_o0 [.t h0])) (fun k_ => K (.exit 0) (buildS w_heldStringS_l0_s2_o1 [.i k_, .t h0])) := by kernel_rfl
theorem w_heldStringS_l0_s2_loop {α : Type} (N : Nat) (a_n : Nat) (a_l : Nat) (a_c : Nat) (h0 : List (List UInt8)) (K : AExit → St → Option α) : ∀ (m : Nat) (k : Int) (i : Int),
    loopN (trimSt ((E_w_markStringS_s2 α N).ann 32 2).head ((E_w_markStringS_s2 α N).ann 32 2).grow 1) (bodyK Try.prog (E_w_markStringS_s2 α N) 1 1 32 Try.f32 2) m (buildS w_heldStringS_l0_s2_p [.n a_n, .n a_l, .n a_c, .i k, .i i, .t h0]) (leaveLoop ((E_w_markStringS_s2 α N).ann 32 2) 1 K) = w_heldStringS_l0_s2 none N a_n a_l a_c h0 m k i (K .ret (buildS w_heldStringS_l0_s2_o0 [.t h0])) (fun k_ => K (.exit 0) (buildS w_heldStringS_l0_s2_o1 [.i k_, .t h0])) := by
  intro m
  induction m with
  | zero => intros; rfl
  | succ m ih =>
    intro k i
    rw [loopN_round]
    refine (w_heldStringS_l0_s2_round N a_n a_l a_c k i h0 _ K).trans ?_
    simp only [ih]
    rfl
def E_w_heldStringS_l0_s2 (α : Type) (N : Nat) : Env α := (E_w_markStringS_s2 α N).addLoop2 32 2 (loopSum2 ((E_w_markStringS_s2 α N).ann 32 2) 1 w_heldStringS_l0_s2_p (fun l K => match l with
    | [.n a_n, .n a_l, .n a_c, .i k, .i i, .t h0] => w_heldStringS_l0_s2 none N a_n a_l a_c h0 N k i (K .ret (buildS w_heldStringS_l0_s2_o0 [.t h0])) (fun k_ => K (.exit 0) (buildS w_heldStringS_l0_s2_o1 [.i k_, .t h0]))
    | _ => none) ((E_w_markStringS_s2 α N).ls 32 2))
theorem E_w_heldStringS_l0_s2_ok {α : Type} (N : Nat) : EnvOk Try.prog (E_w_heldStringS_l0_s2 α N) := (E_w_markStringS_s2_ok N).addLoop2 Try.func32 (by kernel_rfl) (loopSum_ok prog_mixed prog_names (E_w_markStringS_s2_ok N) Try.func32 (by kernel_rfl) (d := 1) (ro := 1) fun l K r h => by
  split at h
  · exact (w_heldStringS_l0_s2_loop N _ _ _ _ K N _ _).trans h
  · cases h)

/-- laws.heldStringS -/
def w_heldStringS_s2_a : SPat := ⟨[.sliceV 0 0 0 1 false, .int .i64], [[.strs]]⟩
def w_heldStringS_s2_r0 : SPat := ⟨[.int .i64], [[.strs]]⟩
theorem w_heldStringS_s2_run {α : Type} (N : Nat) (a_n : Nat) (a_l : Nat) (a_c : Nat) (k : Int) (h0 : List (List UInt8)) (K : AV → Heap → Option α) :
    callK Try.prog (E_w_heldStringS_l0_s2 α N) 1 32 1 (buildS w_heldStringS_s2_a [.n a_n, .n a_l, .n a_c, .i k, .t h0]).t (buildS w_heldStringS_s2_a [.n a_n, .n a_l, .n a_c, .i k, .t h0]).h K = w_heldStringS_s2 none N a_n a_l a_c k h0 (fun r__ => retK (buildS w_heldStringS_s2_r0 [.i r__, .t h0]) K) := by kernel_rfl
def E_w_heldStringS_s2 (α : Type) (N : Nat) : Env α := (E_w_heldStringS_l0_s2 α N).addFun 32 true 1 w_heldStringS_s2_a (fun l K => match l with
    | [.n a_n, .n a_l, .n a_c, .i k, .t h0] => w_heldStringS_s2 none N a_n a_l a_c k h0 (fun r__ => retK (buildS w_heldStringS_s2_r0 [.i r__, .t h0]) K)
    | _ => none)
theorem E_w_heldStringS_s2_ok {α : Type} (N : Nat) : EnvOk Try.prog (E_w_heldStringS_s2 α N) := (E_w_heldStringS_l0_s2_ok N).addFun prog_mixed prog_names (d := 1) fun l K r h => by
  split at h
  · exact (w_heldStringS_s2_run N _ _ _ _ _ K).trans h
  · cases h

/-- laws.eqStringS, loop -/
def w_eqStringS_l0_s3_p : SPat := ⟨[.nils, .sliceV 0 0 0 1 false, .undef, .undef, .undef, .int .i64] ++ List.replicate 20 .undef, [[.strs]]⟩
def w_eqStringS_l0_s3_o0 : SPat := ⟨[] ++ List.replicate 26 .undef, [[.strs]]⟩
theorem w_eqStringS_l0_s3_round {α : Type} (N : Nat) (b_n : Nat) (b_l : Nat) (b_c : Nat) (i : Int) (h0 : List (List UInt8)) (kn : St → Option α) (K : AExit → St → Option α) :
    roundK Try.prog (E_w_heldStringS_s2 α N) 1 1 30 Try.f30 4 1 (buildS w_eqStringS_l0_s3_p [.n b_n, .n b_l, .n b_c, .i i, .t h0]) kn K = w_eqStringS_l0_s3_s none b_n b_l b_c i h0  (kn (buildS w_eqStringS_l0_s3_p [.n b_n, .n b_l, .n b_c, .i i, .t h0])) (K (.exit 0) (buildS w_eqStringS_l0_s3_o0 [.t h0])) := by kernel_rfl
theorem w_eqStringS_l0_s3_loop {α : Type} (N : Nat) (b_n : Nat) (b_l : Nat) (b_c : Nat) (i : Int) (h0 : List (List UInt8)) (K : AExit → St → Option α) : ∀ (m : Nat),
    loopN (trimSt ((E_w_heldStringS_s2 α N).ann 30 4).head ((E_w_heldStringS_s2 α N).ann 30 4).grow 1) (bodyK Try.prog (E_w_heldStringS_s2 α N) 1 1 30 Try.f30 4) m (buildS w_eqStringS_l0_s3_p [.n b_n, .n b_l, .n b_c, .i i, .t h0]) (leaveLoop ((E_w_heldStringS_s2 α N).ann 30 4) 1 K) = w_eqStringS_l0_s3 none b_n b_l b_c i h0 m  (K (.exit 0) (buildS w_eqStringS_l0_s3_o0 [.t h0])) := by
  intro m
  induction m with
  | zero => intros; rfl
  | succ m ih =>
    rw [loopN_round]
    refine (w_eqStringS_l0_s3_round N b_n b_l b_c i h0 _ K).trans ?_
    simp only [ih]
    rfl
def E_w_eqStringS_l0_s3 (α : Type) (N : Nat) : Env α := (E_w_heldStringS_s2 α N).addLoop2 30 4 (loopSum2 ((E_w_heldStringS_s2 α N).ann 30 4) 1 w_eqStringS_l0_s3_p (fun l K => match l with
    | [.n b_n, .n b_l, .n b_c, .i i, .t h0] => w_eqStringS_l0_s3 none b_n b_l b_c i h0 N  (K (.exit 0) (buildS w_eqStringS_l0_s3_o0 [.t h0]))
    | _ => none) ((E_w_heldStringS_s2 α N).ls 30 4))
theorem E_w_eqStringS_l0_s3_ok {α : Type} (N : Nat) : EnvOk Try.prog (E_w_eqStringS_l0_s3 α N) := (E_w_heldStringS_s2_ok N).addLoop2 Try.func30 (by kernel_rfl) (loopSum_ok prog_mixed prog_names (E_w_heldStringS_s2_ok N) Try.func30 (by kernel_rfl) (d := 1) (ro := 1) fun l K r h => by
  split at h
  · exact (w_eqStringS_l0_s3_loop N _ _ _ _ _ K N ).trans h
  · cases h)

/-- laws.eqStringS -/
def w_eqStringS_s3_a : SPat := ⟨[.nils, .sliceV 0 0 0 1 false], [[.strs]]⟩
def w_eqStringS_s3_r0 : SPat := ⟨[.bool], [[.strs]]⟩
theorem w_eqStringS_s3_run {α : Type} (N : Nat) (b_n : Nat) (b_l : Nat) (b_c : Nat) (h0 : List (List UInt8)) (K : AV → Heap → Option α) :
    callK Try.prog (E_w_eqStringS_l0_s3 α N) 1 30 1 (buildS w_eqStringS_s3_a [.n b_n, .n b_l, .n b_c, .t h0]).t (buildS w_eqStringS_s3_a [.n b_n, .n b_l, .n b_c, .t h0]).h K = w_eqStringS_s3 none N b_n b_l b_c h0 (fun r__ => retK (buildS w_eqStringS_s3_r0 [.b r__, .t h0]) K) := by kernel_rfl
def E_w_eqStringS_s3 (α : Type) (N : Nat) : Env α := (E_w_eqStringS_l0_s3 α N).addFun 30 true 1 w_eqStringS_s3_a (fun l K => match l with
    | [.n b_n, .n b_l, .n b_c, .t h0] => w_eqStringS_s3 none N b_n b_l b_c h0 (fun r__ => retK (buildS w_eqStringS_s3_r0 [.b r__, .t h0]) K)
    | _ => none)
theorem E_w_eqStringS_s3_ok {α : Type} (N : Nat) : EnvOk Try.prog (E_w_eqStringS_s3 α N) := (E_w_eqStringS_l0_s3_ok N).addFun prog_mixed prog_names (d := 1) fun l K r h => by
  split at h
  · exact (w_eqStringS_s3_run N _ _ _ _ K).trans h
  · cases h

/-- laws.eqStringS, loop -/
def w_eqStringS_l0_s4_p : SPat := ⟨[.sliceV 0 0 0 1 false, .sliceV 1 0 0 1 false, .undef, .undef, .undef, .int .i64] ++ List.replicate 20 .undef, [[.strs], [.strs]]⟩
def w_eqStringS_l0_s4_o0 : SPat := ⟨[.undef, .undef, .undef, .undef, .boolC false] ++ List.replicate 21 .undef, [[.strs], [.strs]]⟩
def w_eqStringS_l0_s4_o1 : SPat := ⟨[] ++ List.replicate 26 .undef, [[.strs], [.strs]]⟩
theorem w_eqStringS_l0_s4_round {α : Type} (N : Nat) (a_n : Nat) (a_l : Nat) (a_c : Nat) (b_n : Nat) (b_l : Nat) (b_c : Nat) (i : Int) (h0 : List (List UInt8)) (h1 : List (List UInt8)) (kn : St → Option α) (K : AExit → St → Option α) :
    roundK Try.prog (E_w_eqStringS_s3 α N) 1 2 30 Try.f30 4 2 (buildS w_eqStringS_l0_s4_p [.n a_n, .n a_l, .n a_c, .n b_n, .n b_l, .n b_c, .i i, .t h0, .t h1]) kn K = w_eqStringS_l0_s4_s none a_n a_l a_c b_n b_l b_c h0 h1 i (fun i => kn (buildS w_eqStringS_l0_s4_p [.n a_n, .n a_l, .n a_c, .n b_n, .n b_l, .n b_c, .i i, .t h0, .t h1])) (K .ret (buildS w_eqStringS_l0_s4_o0 [.t h0, .t h1])) (K (.exit 0) (buildS w_eqStringS_l0_s4_o1 [.t h0, .t h1])) := by kernel_rfl
theorem w_eqStringS_l0_s4_loop {α : Type} (N : Nat) (a_n : Nat) (a_l : Nat) (a_c : Nat) (b_n : Nat) (b_l : Nat) (b_c : Nat) (h0 : List (List UInt8)) (h1 : List (List UInt8)) (K : AExit → St → Option α) : ∀ (m : Nat) (i : Int),
    loopN (trimSt ((E_w_eqStringS_s3 α N).ann 30 4).head ((E_w_eqStringS_s3 α N).ann 30 4).grow 2) (bodyK Try.prog (E_w_eqStringS_s3 α N) 1 2 30 Try.f30 4) m (buildS w_eqStringS_l0_s4_p [.n a_n, .n a_l, .n a_c, .n b_n, .n b_l, .n b_c, .i i, .t h0, .t h1]) (leaveLoop ((E_w_eqStringS_s3 α N).ann 30 4) 2 K) = w_eqStringS_l0_s4 none a_n a_l a_c b_n b_l b_c h0 h1 m i (K .ret (buildS w_eqStringS_l0_s4_o0 [.t h0, .t h1])) (K (.exit 0) (buildS w_eqStringS_l0_s4_o1 [.t h0, .t h1])) := by
  intro m
  induction m with
  | zero => intros; rfl
  | succ m ih =>
    intro i
    rw [loopN_round]
    refine (w_eqStringS_l0_s4_round N a_n a_l a_c b_n b_l b_c i h0 h1 _ K).trans ?_
    simp only [ih]
    rfl
def E_w_eqStringS_l0_s4 (α : Type) (N : Nat) : Env α := (E_w_eqStringS_s3 α N).addLoop2 30 4 (loopSum2 ((E_w_eqStringS_s3 α N).ann 30 4) 2 w_eqStringS_l0_s4_p (fun l K => match l with
    | [.n a_n, .n a_l, .n a_c, .n b_n, .n b_l, .n b_c, .i i, .t h0, .t h1] => w_eqStringS_l0_s4 none a_n a_l a_c b_n b_l b_c h0 h1 N i (K .ret (buildS w_eqStringS_l0_s4_o0 [.t h0, .t h1])) (K (.exit 0) (buildS w_eqStringS_l0_s4_o1 [.t h0, .t h1]))
    | _ => none) ((E_w_eqStringS_s3 α N).ls 30 4))
theorem E_w_eqStringS_l0_s4_ok {α : Type} (N : Nat) : EnvOk Try.prog (E_w_eqStringS_l0_s4 α N) := (E_w_eqStringS_s3_ok N).addLoop2 Try.func30 (by kernel_rfl) (loopSum_ok prog_mixed prog_names (E_w_eqStringS_s3_ok N) Try.func30 (by kernel_rfl) (d := 1) (ro := 2) fun l K r h => by
  split at h
  · exact (w_eqStringS_l0_s4_loop N _ _ _ _ _ _ _ _ K N _).trans h
  · cases h)

/-- laws.eqStringS -/
def w_eqStringS_s4_a : SPat := ⟨[.sliceV 0 0 0 1 false, .sliceV 1 0 0 1 false], [[.strs], [.strs]]⟩
def w_eqStringS_s4_r0 : SPat := ⟨[.bool], [[.strs], [.strs]]⟩
theorem w_eqStringS_s4_run {α : Type} (N : Nat) (a_n : Nat) (a_l : Nat) (a_c : Nat) (b_n : Nat) (b_l : Nat) (b_c : Nat) (h0 : List (List UInt8)) (h1 : List (List UInt8)) (K : AV → Heap → Option α) :
    callK Try.prog (E_w_eqStringS_l0_s4 α N) 1 30 2 (buildS w_eqStringS_s4_a [.n a_n, .n a_l, .n a_c, .n b_n, .n b_l, .n b_c, .t h0, .t h1]).t (buildS w_eqStringS_s4_a [.n a_n, .n a_l, .n a_c, .n b_n, .n b_l, .n b_c, .t h0, .t h1]).h K = w_eqStringS_s4 none N a_n a_l a_c b_n b_l b_c h0 h1 (fun r__ => retK (buildS w_eqStringS_s4_r0 [.b r__, .t h0, .t h1]) K) := by kernel_rfl
def E_w_eqStringS_s4 (α : Type) (N : Nat) : Env α := (E_w_eqStringS_l0_s4 α N).addFun 30 true 2 w_eqStringS_s4_a (fun l K => match l with
    | [.n a_n, .n a_l, .n a_c, .n b_n, .n b_l, .n b_c, .t h0, .t h1] => w_eqStringS_s4 none N a_n a_l a_c b_n b_l b_c h0 h1 (fun r__ => retK (buildS w_eqStringS_s4_r0 [.b r__, .t h0, .t h1]) K)
    | _ => none)
theorem E_w_eqStringS_s4_ok {α : Type} (N : Nat) : EnvOk Try.prog (E_w_eqStringS_s4 α N) := (E_w_eqStringS_l0_s4_ok N).addFun prog_mixed prog_names (d := 1) fun l K r h => by
  split at h
  · exact (w_eqStringS_s4_run N _ _ _ _ _ _ _ _ K).trans h
  · cases h

/-- laws.FnExactCuspWords -/
def w_FnExactCuspWords_a : SPat := ⟨[.agg [.vals [.int .i64], .ints .u8 8, .ints .u8 8]], []⟩
def w_FnExactCuspWords_r0 : SPat := ⟨[.bool], []⟩
theorem w_FnExactCuspWords_run {α : Type} (N : Nat) (aG_0 : Int) (aG_1 : Nat → Int) (aG_2 : Nat → Int) (K : AV → Heap → Option α) :
    callK Try.prog (E_w_eqStringS_s4 α N) 1 6 0 (buildS w_FnExactCuspWords_a [.i aG_0, .f aG_1, .f aG_2]).t (buildS w_FnExactCuspWords_a [.i aG_0, .f aG_1, .f aG_2]).h K = w_FnExactCuspWords none N aG_0 aG_1 aG_2 (fun r__ => retK (buildS w_FnExactCuspWords_r0 [.b r__]) K) := by kernel_rfl
def E_w_FnExactCuspWords (α : Type) (N : Nat) : Env α := (E_w_eqStringS_s4 α N).addFun 6 true 0 w_FnExactCuspWords_a (fun l K => match l with
    | [.i aG_0, .f aG_1, .f aG_2] => w_FnExactCuspWords none N aG_0 aG_1 aG_2 (fun r__ => retK (buildS w_FnExactCuspWords_r0 [.b r__]) K)
    | _ => none)
theorem E_w_FnExactCuspWords_ok {α : Type} (N : Nat) : EnvOk Try.prog (E_w_FnExactCuspWords α N) := (E_w_eqStringS_s4_ok N).addFun prog_mixed prog_names (d := 1) fun l K r h => by
  split at h
  · exact (w_FnExactCuspWords_run N _ _ _ K).trans h
  · cases h
end Go.AM
