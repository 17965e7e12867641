/- A part of a proof about the given program: an abstract machine, what the given functions come to, and plain laws. -/
import Derived.Test.YtkboldcnkkolkaaMachG
import Derived.Test.YtkboldcnkkolkaaDallTurnNumbers1
import Derived.Test.YtkboldcnkkolkaaProg
set_option linter.unusedVariables false
set_option linter.unusedSimpArgs false
set_option maxRecDepth 100000
namespace Go.AM
open Go.Proofs

def E0 (α : Type) (N : Nat) : Env α := Env.base (fun _ _ => {}) N
theorem E0_ok {α : Type} (N : Nat) : EnvOk Try.prog (E0 α N) := .base
theorem prog_mixed : Try.prog.follows .mixedOrders = true := by kernel_rfl
theorem prog_names : NamesOk Try.prog := .of_all (by kernel_rfl)
def A_w_toByteA8_l0 (α : Type) (N : Nat) : Env α := (E0 α N).addAnn 55 3 { head := [1, 2, 3, 4], grow := [], out := [2, 3], ret := [2] }
theorem A_w_toByteA8_l0_ok {α : Type} (N : Nat) : EnvOk Try.prog (A_w_toByteA8_l0 α N) := (E0_ok N).addAnn

/-- laws.toByteA8, loop -/
def w_toByteA8_l0_p : SPat := ⟨[.undef, .ptr ⟨⟨0, 0⟩, 0, 0, 8⟩, .ptr ⟨⟨1, 0⟩, 0, 0, 8⟩, .ptr ⟨⟨2, 0⟩, 0, 0, 8⟩, .int .i64] ++ List.replicate 10 .undef, [[.ints .u8 8], [.ints .u8 8], [.ints .u8 8]]⟩
def w_toByteA8_l0_o0 : SPat := ⟨[.undef, .undef, .ptr ⟨⟨1, 0⟩, 0, 0, 8⟩, .ptr ⟨⟨2, 0⟩, 0, 0, 8⟩] ++ List.replicate 11 .undef, [[.ints .u8 8], [.ints .u8 8], [.ints .u8 8]]⟩
theorem w_toByteA8_l0_round {α : Type} (N : Nat) (i : Int) (h0 : Nat → Int) (h1 : Nat → Int) (h2 : Nat → Int) (kn : St → Option α) (K : AExit → St → Option α) :
    roundK Try.prog (A_w_toByteA8_l0 α N) 1 0 55 Try.f55 3 3 (buildS w_toByteA8_l0_p [.i i, .f h0, .f h1, .f h2]) kn K = w_toByteA8_l0_s none h0 h1 i h2 (fun i h2 => kn (buildS w_toByteA8_l0_p [.i i, .f h0, .f h1, .f h2])) (fun h2_ => K (.exit 0) (buildS w_toByteA8_l0_o0 [.f h0, .f h1, .f h2_])) := by kernel_rfl
theorem w_toByteA8_l0_loop {α : Type} (N : Nat) (h0 : Nat → Int) (h1 : Nat → Int) (K : AExit → St → Option α) : ∀ (m : Nat) (i : Int) (h2 : Nat → Int),
    loopN (trimSt ((A_w_toByteA8_l0 α N).ann 55 3).head ((A_w_toByteA8_l0 α N).ann 55 3).grow 3) (bodyK Try.prog (A_w_toByteA8_l0 α N) 1 0 55 Try.f55 3) m (buildS w_toByteA8_l0_p [.i i, .f h0, .f h1, .f h2]) (leaveLoop ((A_w_toByteA8_l0 α N).ann 55 3) 3 K) = w_toByteA8_l0 none h0 h1 m i h2 (fun h2_ => K (.exit 0) (buildS w_toByteA8_l0_o0 [.f h0, .f h1, .f h2_])) := by
  intro m
  induction m with
  | zero => intros; rfl
  | succ m ih =>
    intro i h2
    rw [loopN_round]
    refine (w_toByteA8_l0_round N i h0 h1 h2 _ K).trans ?_
    simp only [ih]
    rfl
def E_w_toByteA8_l0 (α : Type) (N : Nat) : Env α := (A_w_toByteA8_l0 α N).addLoop2 55 3 (loopSum2 ((A_w_toByteA8_l0 α N).ann 55 3) 0 w_toByteA8_l0_p (fun l K => match l with
    | [.i i, .f h0, .f h1, .f h2] => w_toByteA8_l0 none h0 h1 N i h2 (fun h2_ => K (.exit 0) (buildS w_toByteA8_l0_o0 [.f h0, .f h1, .f h2_]))
    | _ => none) ((A_w_toByteA8_l0 α N).ls 55 3))
theorem E_w_toByteA8_l0_ok {α : Type} (N : Nat) : EnvOk Try.prog (E_w_toByteA8_l0 α N) := (A_w_toByteA8_l0_ok N).addLoop2 Try.func55 (by kernel_rfl) (loopSum_ok prog_mixed prog_names (A_w_toByteA8_l0_ok N) Try.func55 (by kernel_rfl) (d := 1) (ro := 0) fun l K r h => by
  split at h
  · exact (w_toByteA8_l0_loop N _ _ K N _ _).trans h
  · cases h)

/-- laws.toByteA8 -/
def w_toByteA8_a : SPat := ⟨[.agg [.ints .u8 8]], []⟩
def w_toByteA8_r0 : SPat := ⟨[.agg [.ints .u8 8]], []⟩
theorem w_toByteA8_run {α : Type} (N : Nat) (a : Nat → Int) (K : AV → Heap → Option α) :
    callK Try.prog (E_w_toByteA8_l0 α N) 1 55 0 (buildS w_toByteA8_a [.f a]).t (buildS w_toByteA8_a [.f a]).h K = w_toByteA8 none N a (fun r__ => retK (buildS w_toByteA8_r0 [.f r__]) K) := by kernel_rfl
def E_w_toByteA8 (α : Type) (N : Nat) : Env α := (E_w_toByteA8_l0 α N).addFun 55 true 0 w_toByteA8_a (fun l K => match l with
    | [.f a] => w_toByteA8 none N a (fun r__ => retK (buildS w_toByteA8_r0 [.f r__]) K)
    | _ => none)
theorem E_w_toByteA8_ok {α : Type} (N : Nat) : EnvOk Try.prog (E_w_toByteA8 α N) := (E_w_toByteA8_l0_ok N).addFun prog_mixed prog_names (d := 1) fun l K r h => by
  split at h
  · exact (w_toByteA8_run N _ K).trans h
  · cases h

/-- laws.toGrid -/
def w_toGrid_a : SPat := ⟨[.agg [.vals [.int .i64], .ints .u8 8, .ints .u8 8]], []⟩
def w_toGrid_r0 : SPat := ⟨[.agg [.vals [.int .i64], .ints .u8 8, .ints .u8 8]], []⟩
theorem w_toGrid_run {α : Type} (N : Nat) (a_0 : Int) (a_1 : Nat → Int) (a_2 : Nat → Int) (K : AV → Heap → Option α) :
    callK Try.prog (E_w_toByteA8 α N) 1 17 0 (buildS w_toGrid_a [.i a_0, .f a_1, .f a_2]).t (buildS w_toGrid_a [.i a_0, .f a_1, .f a_2]).h K = w_toGrid none N a_0 a_1 a_2 (fun r_1_ r_2_ => retK (buildS w_toGrid_r0 [.i a_0, .f r_1_, .f r_2_]) K) := by kernel_rfl
def E_w_toGrid (α : Type) (N : Nat) : Env α := (E_w_toByteA8 α N).addFun 17 true 0 w_toGrid_a (fun l K => match l with
    | [.i a_0, .f a_1, .f a_2] => w_toGrid none N a_0 a_1 a_2 (fun r_1_ r_2_ => retK (buildS w_toGrid_r0 [.i a_0, .f r_1_, .f r_2_]) K)
    | _ => none)
theorem E_w_toGrid_ok {α : Type} (N : Nat) : EnvOk Try.prog (E_w_toGrid α N) := (E_w_toByteA8_ok N).addFun prog_mixed prog_names (d := 1) fun l K r h => by
  split at h
  · exact (w_toGrid_run N _ _ _ K).trans h
  · cases h

/-- spec.l01In -/
def s_l01In_a : SPat := ⟨[.int .i64, .int .i64, .int .i64], []⟩
def s_l01In_r0 : SPat := ⟨[.bool], []⟩
theorem s_l01In_run {α : Type} (N : Nat) (n : Int) (low : Int) (high : Int) (K : AV → Heap → Option α) :
    callK Try.prog (E_w_toGrid α N) 1 98 0 (buildS s_l01In_a [.i n, .i low, .i high]).t (buildS s_l01In_a [.i n, .i low, .i high]).h K = s_l01In none N n low high (fun r__ => retK (buildS s_l01In_r0 [.b r__]) K) := by kernel_rfl
def E_s_l01In (α : Type) (N : Nat) : Env α := (E_w_toGrid α N).addFun 98 true 0 s_l01In_a (fun l K => match l with
    | [.i n, .i low, .i high] => s_l01In none N n low high (fun r__ => retK (buildS s_l01In_r0 [.b r__]) K)
    | _ => none)
theorem E_s_l01In_ok {α : Type} (N : Nat) : EnvOk Try.prog (E_s_l01In α N) := (E_w_toGrid_ok N).addFun prog_mixed prog_names (d := 1) fun l K r h => by
  split at h
  · exact (s_l01In_run N _ _ _ K).trans h
  · cases h

def A_s_l01Perm_l0 (α : Type) (N : Nat) : Env α := (E_s_l01In α N).addAnn 114 3 { head := [1, 2, 5, 6], grow := [], out := [], ret := [4] }
theorem A_s_l01Perm_l0_ok {α : Type} (N : Nat) : EnvOk Try.prog (A_s_l01Perm_l0 α N) := (E_s_l01In_ok N).addAnn

/-- spec.l01Perm, loop -/
def s_l01Perm_l0_p : SPat := ⟨[.undef, .int .i64, .ptr ⟨⟨0, 0⟩, 0, 0, 8⟩, .undef, .undef, .ptr ⟨⟨1, 0⟩, 0, 0, 8⟩, .int .i64] ++ List.replicate 29 .undef, [[.ints .u8 8], [.bools 8]]⟩
def s_l01Perm_l0_o0 : SPat := ⟨[.undef, .undef, .undef, .undef, .boolC false] ++ List.replicate 31 .undef, [[.ints .u8 8], [.bools 8]]⟩
def s_l01Perm_l0_o1 : SPat := ⟨[] ++ List.replicate 36 .undef, [[.ints .u8 8], [.bools 8]]⟩
theorem s_l01Perm_l0_round {α : Type} (N : Nat) (n : Int) (i : Int) (h0 : Nat → Int) (h1 : Nat → Bool) (kn : St → Option α) (K : AExit → St → Option α) :
    roundK Try.prog (A_s_l01Perm_l0 α N) 1 0 114 Try.f114 3 2 (buildS s_l01Perm_l0_p [.i n, .i i, .f h0, .g h1]) kn K = s_l01Perm_l0_s none n h0 i h1 (fun i h1 => kn (buildS s_l01Perm_l0_p [.i n, .i i, .f h0, .g h1])) (fun h1_ => K .ret (buildS s_l01Perm_l0_o0 [.f h0, .g h1_])) (fun h1_ => K (.exit 0) (buildS s_l01Perm_l0_o1 [.f h0, .g h1_])) := by kernel_rfl
theorem s_l01Perm_l0_loop {α : Type} (N : Nat) (n : Int) (h0 : Nat → Int) (K : AExit → St → Option α) : ∀ (m : Nat) (i : Int) (h1 : Nat → Bool),
    loopN (trimSt ((A_s_l01Perm_l0 α N).ann 114 3).head ((A_s_l01Perm_l0 α N).ann 114 3).grow 2) (bodyK Try.prog (A_s_l01Perm_l0 α N) 1 0 114 Try.f114 3) m (buildS s_l01Perm_l0_p [.i n, .i i, .f h0, .g h1]) (leaveLoop ((A_s_l01Perm_l0 α N).ann 114 3) 2 K) = s_l01Perm_l0 none n h0 m i h1 (fun h1_ => K .ret (buildS s_l01Perm_l0_o0 [.f h0, .g h1_])) (fun h1_ => K (.exit 0) (buildS s_l01Perm_l0_o1 [.f h0, .g h1_])) := by
  intro m
  induction m with
  | zero => intros; rfl
  | succ m ih =>
    intro i h1
    rw [loopN_round]
    refine (s_l01Perm_l0_round N n i h0 h1 _ K).trans ?_
    simp only [ih]
    rfl
def E_s_l01Perm_l0 (α : Type) (N : Nat) : Env α := (A_s_l01Perm_l0 α N).addLoop2 114 3 (loopSum2 ((A_s_l01Perm_l0 α N).ann 114 3) 0 s_l01Perm_l0_p (fun l K => match l with
    | [.i n, .i i, .f h0, .g h1] => s_l01Perm_l0 none n h0 N i h1 (fun h1_ => K .ret (buildS s_l01Perm_l0_o0 [.f h0, .g h1_])) (fun h1_ => K (.exit 0) (buildS s_l01Perm_l0_o1 [.f h0, .g h1_]))
    | _ => none) ((A_s_l01Perm_l0 α N).ls 114 3))
theorem E_s_l01Perm_l0_ok {α : Type} (N : Nat) : EnvOk Try.prog (E_s_l01Perm_l0 α N) := (A_s_l01Perm_l0_ok N).addLoop2 Try.func114 (by kernel_rfl) (loopSum_ok prog_mixed prog_names (A_s_l01Perm_l0_ok N) Try.func114 (by kernel_rfl) (d := 1) (ro := 0) fun l K r h => by
  split at h
  · exact (s_l01Perm_l0_loop N _ _ K N _ _).trans h
  · cases h)

/-- spec.l01Perm -/
def s_l01Perm_a : SPat := ⟨[.agg [.ints .u8 8], .int .i64], []⟩
def s_l01Perm_r0 : SPat := ⟨[.bool], []⟩
theorem s_l01Perm_run {α : Type} (N : Nat) (list : Nat → Int) (n : Int) (K : AV → Heap → Option α) :
    callK Try.prog (E_s_l01Perm_l0 α N) 1 114 0 (buildS s_l01Perm_a [.f list, .i n]).t (buildS s_l01Perm_a [.f list, .i n]).h K = s_l01Perm none N list n (fun r__ => retK (buildS s_l01Perm_r0 [.b r__]) K) := by kernel_rfl
def E_s_l01Perm (α : Type) (N : Nat) : Env α := (E_s_l01Perm_l0 α N).addFun 114 true 0 s_l01Perm_a (fun l K => match l with
    | [.f list, .i n] => s_l01Perm none N list n (fun r__ => retK (buildS s_l01Perm_r0 [.b r__]) K)
    | _ => none)
theorem E_s_l01Perm_ok {α : Type} (N : Nat) : EnvOk Try.prog (E_s_l01Perm α N) := (E_s_l01Perm_l0_ok N).addFun prog_mixed prog_names (d := 1) fun l K r h => by
  split at h
  · exact (s_l01Perm_run N _ _ K).trans h
  · cases h

def A_s_l01Is_l0 (α : Type) (N : Nat) : Env α := (E_s_l01Perm α N).addAnn 52 4 { head := [1, 3], grow := [], out := [], ret := [2] }
theorem A_s_l01Is_l0_ok {α : Type} (N : Nat) : EnvOk Try.prog (A_s_l01Is_l0 α N) := (E_s_l01Perm_ok N).addAnn

/-- spec.l01Is, loop -/
def s_l01Is_l0_p : SPat := ⟨[.undef, .ptr ⟨⟨0, 0⟩, 0, 0, 1⟩, .undef, .int .i64] ++ List.replicate 35 .undef, [[.vals [.int .i64], .ints .u8 8, .ints .u8 8]]⟩
def s_l01Is_l0_o0 : SPat := ⟨[.undef, .undef, .boolC false] ++ List.replicate 36 .undef, [[.vals [.int .i64], .ints .u8 8, .ints .u8 8]]⟩
def s_l01Is_l0_o1 : SPat := ⟨[] ++ List.replicate 39 .undef, [[.vals [.int .i64], .ints .u8 8, .ints .u8 8]]⟩
theorem s_l01Is_l0_round {α : Type} (N : Nat) (i : Int) (h0_0 : Int) (h0_1 : Nat → Int) (h0_2 : Nat → Int) (kn : St → Option α) (K : AExit → St → Option α) :
    roundK Try.prog (A_s_l01Is_l0 α N) 1 0 52 Try.f52 4 1 (buildS s_l01Is_l0_p [.i i, .i h0_0, .f h0_1, .f h0_2]) kn K = s_l01Is_l0_s none h0_0 h0_1 h0_2 i (fun i => kn (buildS s_l01Is_l0_p [.i i, .i h0_0, .f h0_1, .f h0_2])) (K .ret (buildS s_l01Is_l0_o0 [.i h0_0, .f h0_1, .f h0_2])) (K (.exit 0) (buildS s_l01Is_l0_o1 [.i h0_0, .f h0_1, .f h0_2])) := by kernel_rfl
theorem s_l01Is_l0_loop {α : Type} (N : Nat) (h0_0 : Int) (h0_1 : Nat → Int) (h0_2 : Nat → Int) (K : AExit → St → Option α) : ∀ (m : Nat) (i : Int),
    loopN (trimSt ((A_s_l01Is_l0 α N).ann 52 4).head ((A_s_l01Is_l0 α N).ann 52 4).grow 1) (bodyK Try.prog (A_s_l01Is_l0 α N) 1 0 52 Try.f52 4) m (buildS s_l01Is_l0_p [.i i, .i h0_0, .f h0_1, .f h0_2]) (leaveLoop ((A_s_l01Is_l0 α N).ann 52 4) 1 K) = s_l01Is_l0 none h0_0 h0_1 h0_2 m i (K .ret (buildS s_l01Is_l0_o0 [.i h0_0, .f h0_1, .f h0_2])) (K (.exit 0) (buildS s_l01Is_l0_o1 [.i h0_0, .f h0_1, .f h0_2])) := by
  intro m
  induction m with
  | zero => intros; rfl
  | succ m ih =>
    intro i
    rw [loopN_round]
    refine (s_l01Is_l0_round N i h0_0 h0_1 h0_2 _ K).trans ?_
    simp only [ih]
    rfl
def E_s_l01Is_l0 (α : Type) (N : Nat) : Env α := (A_s_l01Is_l0 α N).addLoop2 52 4 (loopSum2 ((A_s_l01Is_l0 α N).ann 52 4) 0 s_l01Is_l0_p (fun l K => match l with
    | [.i i, .i h0_0, .f h0_1, .f h0_2] => s_l01Is_l0 none h0_0 h0_1 h0_2 N i (K .ret (buildS s_l01Is_l0_o0 [.i h0_0, .f h0_1, .f h0_2])) (K (.exit 0) (buildS s_l01Is_l0_o1 [.i h0_0, .f h0_1, .f h0_2]))
    | _ => none) ((A_s_l01Is_l0 α N).ls 52 4))
theorem E_s_l01Is_l0_ok {α : Type} (N : Nat) : EnvOk Try.prog (E_s_l01Is_l0 α N) := (A_s_l01Is_l0_ok N).addLoop2 Try.func52 (by kernel_rfl) (loopSum_ok prog_mixed prog_names (A_s_l01Is_l0_ok N) Try.func52 (by kernel_rfl) (d := 1) (ro := 0) fun l K r h => by
  split at h
  · exact (s_l01Is_l0_loop N _ _ _ K N _).trans h
  · cases h)

/-- spec.l01Is -/
def s_l01Is_a : SPat := ⟨[.agg [.vals [.int .i64], .ints .u8 8, .ints .u8 8]], []⟩
def s_l01Is_r0 : SPat := ⟨[.bool], []⟩
theorem s_l01Is_run {α : Type} (N : Nat) (g_0 : Int) (g_1 : Nat → Int) (g_2 : Nat → Int) (K : AV → Heap → Option α) :
    callK Try.prog (E_s_l01Is_l0 α N) 1 52 0 (buildS s_l01Is_a [.i g_0, .f g_1, .f g_2]).t (buildS s_l01Is_a [.i g_0, .f g_1, .f g_2]).h K = s_l01Is none N g_0 g_1 g_2 (fun r__ => retK (buildS s_l01Is_r0 [.b r__]) K) := by kernel_rfl
def E_s_l01Is (α : Type) (N : Nat) : Env α := (E_s_l01Is_l0 α N).addFun 52 true 0 s_l01Is_a (fun l K => match l with
    | [.i g_0, .f g_1, .f g_2] => s_l01Is none N g_0 g_1 g_2 (fun r__ => retK (buildS s_l01Is_r0 [.b r__]) K)
    | _ => none)
theorem E_s_l01Is_ok {α : Type} (N : Nat) : EnvOk Try.prog (E_s_l01Is α N) := (E_s_l01Is_l0_ok N).addFun prog_mixed prog_names (d := 1) fun l K r h => by
  split at h
  · exact (s_l01Is_run N _ _ _ K).trans h
  · cases h

def A_s_TurnNumbers_l0 (α : Type) (N : Nat) : Env α := (E_s_l01Is α N).addAnn 42 5 { head := [1, 4, 5], grow := [4], out := [4], ret := [2, 3] }
theorem A_s_TurnNumbers_l0_ok {α : Type} (N : Nat) : EnvOk Try.prog (A_s_TurnNumbers_l0 α N) := (E_s_l01Is_ok N).addAnn

def A_s_l01Components_l0 (α : Type) (N : Nat) : Env α := (A_s_TurnNumbers_l0 α N).addAnn 66 3 { head := [1, 2, 4, 5, 6], grow := [], out := [1, 2, 4, 5], ret := [2, 3] }
theorem A_s_l01Components_l0_ok {α : Type} (N : Nat) : EnvOk Try.prog (A_s_l01Components_l0 α N) := (A_s_TurnNumbers_l0_ok N).addAnn

/-- spec.l01Components, loop -/
def s_l01Components_l0_p : SPat := ⟨[.undef, .ptr ⟨⟨0, 0⟩, 0, 0, 1⟩, .ptr ⟨⟨1, 0⟩, 0, 0, 8⟩, .undef, .ptr ⟨⟨2, 0⟩, 0, 0, 8⟩, .intC .i64 0, .int .i64] ++ List.replicate 34 .undef, [[.vals [.int .i64], .ints .u8 8, .ints .u8 8], [.ints .i64 8], [.ints .i64 8]]⟩
def s_l01Components_l0_o0 : SPat := ⟨[.undef, .ptr ⟨⟨0, 0⟩, 0, 0, 1⟩, .ptr ⟨⟨1, 0⟩, 0, 0, 8⟩, .undef, .ptr ⟨⟨2, 0⟩, 0, 0, 8⟩, .intC .i64 0] ++ List.replicate 35 .undef, [[.vals [.int .i64], .ints .u8 8, .ints .u8 8], [.ints .i64 8], [.ints .i64 8]]⟩
theorem s_l01Components_l0_round {α : Type} (N : Nat) (i : Int) (h0_0 : Int) (h0_1 : Nat → Int) (h0_2 : Nat → Int) (h1 : Nat → Int) (h2 : Nat → Int) (kn : St → Option α) (K : AExit → St → Option α) :
    roundK Try.prog (A_s_l01Components_l0 α N) 1 0 66 Try.f66 3 3 (buildS s_l01Components_l0_p [.i i, .i h0_0, .f h0_1, .f h0_2, .f h1, .f h2]) kn K = s_l01Components_l0_s none h0_0 h0_1 h0_2 h1 i h2 (fun i h2 => kn (buildS s_l01Components_l0_p [.i i, .i h0_0, .f h0_1, .f h0_2, .f h1, .f h2])) (fun h2_ => K (.exit 0) (buildS s_l01Components_l0_o0 [.i h0_0, .f h0_1, .f h0_2, .f h1, .f h2_])) := by kernel_rfl
theorem s_l01Components_l0_loop {α : Type} (N : Nat) (h0_0 : Int) (h0_1 : Nat → Int) (h0_2 : Nat → Int) (h1 : Nat → Int) (K : AExit → St → Option α) : ∀ (m : Nat) (i : Int) (h2 : Nat → Int),
    loopN (trimSt ((A_s_l01Components_l0 α N).ann 66 3).head ((A_s_l01Components_l0 α N).ann 66 3).grow 3) (bodyK Try.prog (A_s_l01Components_l0 α N) 1 0 66 Try.f66 3) m (buildS s_l01Components_l0_p [.i i, .i h0_0, .f h0_1, .f h0_2, .f h1, .f h2]) (leaveLoop ((A_s_l01Components_l0 α N).ann 66 3) 3 K) = s_l01Components_l0 none h0_0 h0_1 h0_2 h1 m i h2 (fun h2_ => K (.exit 0) (buildS s_l01Components_l0_o0 [.i h0_0, .f h0_1, .f h0_2, .f h1, .f h2_])) := by
  intro m
  induction m with
  | zero => intros; rfl
  | succ m ih =>
    intro i h2
    rw [loopN_round]
    refine (s_l01Components_l0_round N i h0_0 h0_1 h0_2 h1 h2 _ K).trans ?_
    simp only [ih]
    rfl
def E_s_l01Components_l0 (α : Type) (N : Nat) : Env α := (A_s_l01Components_l0 α N).addLoop2 66 3 (loopSum2 ((A_s_l01Components_l0 α N).ann 66 3) 0 s_l01Components_l0_p (fun l K => match l with
    | [.i i, .i h0_0, .f h0_1, .f h0_2, .f h1, .f h2] => s_l01Components_l0 none h0_0 h0_1 h0_2 h1 N i h2 (fun h2_ => K (.exit 0) (buildS s_l01Components_l0_o0 [.i h0_0, .f h0_1, .f h0_2, .f h1, .f h2_]))
    | _ => none) ((A_s_l01Components_l0 α N).ls 66 3))
theorem E_s_l01Components_l0_ok {α : Type} (N : Nat) : EnvOk Try.prog (E_s_l01Components_l0 α N) := (A_s_l01Components_l0_ok N).addLoop2 Try.func66 (by kernel_rfl) (loopSum_ok prog_mixed prog_names (A_s_l01Components_l0_ok N) Try.func66 (by kernel_rfl) (d := 1) (ro := 0) fun l K r h => by
  split at h
  · exact (s_l01Components_l0_loop N _ _ _ _ K N _ _).trans h
  · cases h)

def A_s_l01Components_l1 (α : Type) (N : Nat) : Env α := (E_s_l01Components_l0 α N).addAnn 66 7 { head := [1, 2, 4, 5, 7], grow := [], out := [2, 4, 5], ret := [2, 3] }
theorem A_s_l01Components_l1_ok {α : Type} (N : Nat) : EnvOk Try.prog (A_s_l01Components_l1 α N) := (E_s_l01Components_l0_ok N).addAnn

def A_s_l01Components_l2 (α : Type) (N : Nat) : Env α := (A_s_l01Components_l1 α N).addAnn 66 11 { head := [1, 2, 4, 5, 7, 8], grow := [], out := [1, 2, 4, 5, 7], ret := [2, 3] }
theorem A_s_l01Components_l2_ok {α : Type} (N : Nat) : EnvOk Try.prog (A_s_l01Components_l2 α N) := (A_s_l01Components_l1_ok N).addAnn

def A_s_l01Row_l0 (α : Type) (N : Nat) : Env α := (A_s_l01Components_l2 α N).addAnn 133 2 { head := [1, 2, 3, 7], grow := [], out := [], ret := [6] }
theorem A_s_l01Row_l0_ok {α : Type} (N : Nat) : EnvOk Try.prog (A_s_l01Row_l0 α N) := (A_s_l01Components_l2_ok N).addAnn

/-- spec.l01Row, loop -/
def s_l01Row_l0_p : SPat := ⟨[.undef, .int .i64, .int .i64, .ptr ⟨⟨0, 0⟩, 0, 0, 8⟩, .undef, .undef, .undef, .int .i64] ++ List.replicate 12 .undef, [[.ints .u8 8]]⟩
def s_l01Row_l0_o0 : SPat := ⟨[.undef, .undef, .undef, .undef, .undef, .undef, .int .i64] ++ List.replicate 13 .undef, [[.ints .u8 8]]⟩
def s_l01Row_l0_o1 : SPat := ⟨[] ++ List.replicate 20 .undef, [[.ints .u8 8]]⟩
theorem s_l01Row_l0_round {α : Type} (N : Nat) (n : Int) (r_ : Int) (i : Int) (h0 : Nat → Int) (kn : St → Option α) (K : AExit → St → Option α) :
    roundK Try.prog (A_s_l01Row_l0 α N) 1 0 133 Try.f133 2 1 (buildS s_l01Row_l0_p [.i n, .i r_, .i i, .f h0]) kn K = s_l01Row_l0_s none n r_ h0 i (fun i => kn (buildS s_l01Row_l0_p [.i n, .i r_, .i i, .f h0])) (fun t6_ => K .ret (buildS s_l01Row_l0_o0 [.i t6_, .f h0])) (K (.exit 0) (buildS s_l01Row_l0_o1 [.f h0])) := by kernel_rfl
theorem s_l01Row_l0_loop {α : Type} (N : Nat) (n : Int) (r_ : Int) (h0 : Nat → Int) (K : AExit → St → Option α) : ∀ (m : Nat) (i : Int),
    loopN (trimSt ((A_s_l01Row_l0 α N).ann 133 2).head ((A_s_l01Row_l0 α N).ann 133 2).grow 1) (bodyK Try.prog (A_s_l01Row_l0 α N) 1 0 133 Try.f133 2) m (buildS s_l01Row_l0_p [.i n, .i r_, .i i, .f h0]) (leaveLoop ((A_s_l01Row_l0 α N).ann 133 2) 1 K) = s_l01Row_l0 none n r_ h0 m i (fun t6_ => K .ret (buildS s_l01Row_l0_o0 [.i t6_, .f h0])) (K (.exit 0) (buildS s_l01Row_l0_o1 [.f h0])) := by
  intro m
  induction m with
  | zero => intros; rfl
  | succ m ih =>
    intro i
    rw [loopN_round]
    refine (s_l01Row_l0_round N n r_ i h0 _ K).trans ?_
    simp only [ih]
    rfl
def E_s_l01Row_l0 (α : Type) (N : Nat) : Env α := (A_s_l01Row_l0 α N).addLoop2 133 2 (loopSum2 ((A_s_l01Row_l0 α N).ann 133 2) 0 s_l01Row_l0_p (fun l K => match l with
    | [.i n, .i r_, .i i, .f h0] => s_l01Row_l0 none n r_ h0 N i (fun t6_ => K .ret (buildS s_l01Row_l0_o0 [.i t6_, .f h0])) (K (.exit 0) (buildS s_l01Row_l0_o1 [.f h0]))
    | _ => none) ((A_s_l01Row_l0 α N).ls 133 2))
theorem E_s_l01Row_l0_ok {α : Type} (N : Nat) : EnvOk Try.prog (E_s_l01Row_l0 α N) := (A_s_l01Row_l0_ok N).addLoop2 Try.func133 (by kernel_rfl) (loopSum_ok prog_mixed prog_names (A_s_l01Row_l0_ok N) Try.func133 (by kernel_rfl) (d := 1) (ro := 0) fun l K r h => by
  split at h
  · exact (s_l01Row_l0_loop N _ _ _ K N _).trans h
  · cases h)

/-- spec.l01Row -/
def s_l01Row_a : SPat := ⟨[.agg [.ints .u8 8], .int .i64, .int .i64], []⟩
def s_l01Row_r0 : SPat := ⟨[.int .i64], []⟩
theorem s_l01Row_run {α : Type} (N : Nat) (list : Nat → Int) (n : Int) (r_ : Int) (K : AV → Heap → Option α) :
    callK Try.prog (E_s_l01Row_l0 α N) 1 133 0 (buildS s_l01Row_a [.f list, .i n, .i r_]).t (buildS s_l01Row_a [.f list, .i n, .i r_]).h K = s_l01Row none N list n r_ (fun r__ => retK (buildS s_l01Row_r0 [.i r__]) K) := by kernel_rfl
def E_s_l01Row (α : Type) (N : Nat) : Env α := (E_s_l01Row_l0 α N).addFun 133 true 0 s_l01Row_a (fun l K => match l with
    | [.f list, .i n, .i r_] => s_l01Row none N list n r_ (fun r__ => retK (buildS s_l01Row_r0 [.i r__]) K)
    | _ => none)
theorem E_s_l01Row_ok {α : Type} (N : Nat) : EnvOk Try.prog (E_s_l01Row α N) := (E_s_l01Row_l0_ok N).addFun prog_mixed prog_names (d := 1) fun l K r h => by
  split at h
  · exact (s_l01Row_run N _ _ _ K).trans h
  · cases h

/-- spec.l01Follow -/
def s_l01Follow_a : SPat := ⟨[.agg [.vals [.int .i64], .ints .u8 8, .ints .u8 8], .int .i64], []⟩
def s_l01Follow_r0 : SPat := ⟨[.int .i64], []⟩
theorem s_l01Follow_run {α : Type} (N : Nat) (g_0 : Int) (g_1 : Nat → Int) (g_2 : Nat → Int) (i : Int) (K : AV → Heap → Option α) :
    callK Try.prog (E_s_l01Row α N) 1 81 0 (buildS s_l01Follow_a [.i g_0, .f g_1, .f g_2, .i i]).t (buildS s_l01Follow_a [.i g_0, .f g_1, .f g_2, .i i]).h K = s_l01Follow none N g_0 g_1 g_2 i (fun r__ => retK (buildS s_l01Follow_r0 [.i r__]) K) := by kernel_rfl
def E_s_l01Follow (α : Type) (N : Nat) : Env α := (E_s_l01Row α N).addFun 81 true 0 s_l01Follow_a (fun l K => match l with
    | [.i g_0, .f g_1, .f g_2, .i i] => s_l01Follow none N g_0 g_1 g_2 i (fun r__ => retK (buildS s_l01Follow_r0 [.i r__]) K)
    | _ => none)
theorem E_s_l01Follow_ok {α : Type} (N : Nat) : EnvOk Try.prog (E_s_l01Follow α N) := (E_s_l01Row_ok N).addFun prog_mixed prog_names (d := 1) fun l K r h => by
  split at h
  · exact (s_l01Follow_run N _ _ _ _ K).trans h
  · cases h

/-- spec.l01Components, loop -/
def s_l01Components_l2_p : SPat := ⟨[.undef, .ptr ⟨⟨0, 0⟩, 0, 0, 1⟩, .ptr ⟨⟨1, 0⟩, 0, 0, 8⟩, .undef, .ptr ⟨⟨2, 0⟩, 0, 0, 8⟩, .int .i64, .undef, .int .i64, .int .i64] ++ List.replicate 32 .undef, [[.vals [.int .i64], .ints .u8 8, .ints .u8 8], [.ints .i64 8], [.ints .i64 8]]⟩
def s_l01Components_l2_o0 : SPat := ⟨[.undef, .ptr ⟨⟨0, 0⟩, 0, 0, 1⟩, .ptr ⟨⟨1, 0⟩, 0, 0, 8⟩, .undef, .ptr ⟨⟨2, 0⟩, 0, 0, 8⟩, .int .i64, .undef, .int .i64] ++ List.replicate 33 .undef, [[.vals [.int .i64], .ints .u8 8, .ints .u8 8], [.ints .i64 8], [.ints .i64 8]]⟩
theorem s_l01Components_l2_round {α : Type} (N : Nat) (count : Int) (i : Int) (k : Int) (h0_0 : Int) (h0_1 : Nat → Int) (h0_2 : Nat → Int) (h1 : Nat → Int) (h2 : Nat → Int) (kn : St → Option α) (K : AExit → St → Option α) :
    roundK Try.prog (E_s_l01Follow α N) 1 0 66 Try.f66 11 3 (buildS s_l01Components_l2_p [.i count, .i i, .i k, .i h0_0, .f h0_1, .f h0_2, .f h1, .f h2]) kn K = s_l01Components_l2_s none N count i h0_0 h0_1 h0_2 h1 k h2 (fun k h2 => kn (buildS s_l01Components_l2_p [.i count, .i i, .i k, .i h0_0, .f h0_1, .f h0_2, .f h1, .f h2])) (fun h2_ => K (.exit 4) (buildS s_l01Components_l2_o0 [.i count, .i i, .i h0_0, .f h0_1, .f h0_2, .f h1, .f h2_])) := by kernel_rfl
theorem s_l01Components_l2_loop {α : Type} (N : Nat) (count : Int) (i : Int) (h0_0 : Int) (h0_1 : Nat → Int) (h0_2 : Nat → Int) (h1 : Nat → Int) (K : AExit → St → Option α) : ∀ (m : Nat) (k : Int) (h2 : Nat → Int),
    loopN (trimSt ((E_s_l01Follow α N).ann 66 11).head ((E_s_l01Follow α N).ann 66 11).grow 3) (bodyK Try.prog (E_s_l01Follow α N) 1 0 66 Try.f66 11) m (buildS s_l01Components_l2_p [.i count, .i i, .i k, .i h0_0, .f h0_1, .f h0_2, .f h1, .f h2]) (leaveLoop ((E_s_l01Follow α N).ann 66 11) 3 K) = s_l01Components_l2 none N count i h0_0 h0_1 h0_2 h1 m k h2 (fun h2_ => K (.exit 4) (buildS s_l01Components_l2_o0 [.i count, .i i, .i h0_0, .f h0_1, .f h0_2, .f h1, .f h2_])) := by
  intro m
  induction m with
  | zero => intros; rfl
  | succ m ih =>
    intro k h2
    rw [loopN_round]
    refine (s_l01Components_l2_round N count i k h0_0 h0_1 h0_2 h1 h2 _ K).trans ?_
    simp only [ih]
    rfl
def E_s_l01Components_l2 (α : Type) (N : Nat) : Env α := (E_s_l01Follow α N).addLoop2 66 11 (loopSum2 ((E_s_l01Follow α N).ann 66 11) 0 s_l01Components_l2_p (fun l K => match l with
    | [.i count, .i i, .i k, .i h0_0, .f h0_1, .f h0_2, .f h1, .f h2] => s_l01Components_l2 none N count i h0_0 h0_1 h0_2 h1 N k h2 (fun h2_ => K (.exit 4) (buildS s_l01Components_l2_o0 [.i count, .i i, .i h0_0, .f h0_1, .f h0_2, .f h1, .f h2_]))
    | _ => none) ((E_s_l01Follow α N).ls 66 11))
theorem E_s_l01Components_l2_ok {α : Type} (N : Nat) : EnvOk Try.prog (E_s_l01Components_l2 α N) := (E_s_l01Follow_ok N).addLoop2 Try.func66 (by kernel_rfl) (loopSum_ok prog_mixed prog_names (E_s_l01Follow_ok N) Try.func66 (by kernel_rfl) (d := 1) (ro := 0) fun l K r h => by
  split at h
  · exact (s_l01Components_l2_loop N _ _ _ _ _ _ K N _ _).trans h
  · cases h)

/-- spec.l01Components, loop -/
def s_l01Components_l1_p : SPat := ⟨[.undef, .ptr ⟨⟨0, 0⟩, 0, 0, 1⟩, .ptr ⟨⟨1, 0⟩, 0, 0, 8⟩, .undef, .ptr ⟨⟨2, 0⟩, 0, 0, 8⟩, .int .i64, .undef, .int .i64] ++ List.replicate 33 .undef, [[.vals [.int .i64], .ints .u8 8, .ints .u8 8], [.ints .i64 8], [.ints .i64 8]]⟩
def s_l01Components_l1_o0 : SPat := ⟨[.undef, .undef, .ptr ⟨⟨1, 0⟩, 0, 0, 8⟩, .undef, .ptr ⟨⟨2, 0⟩, 0, 0, 8⟩, .int .i64] ++ List.replicate 35 .undef, [[.vals [.int .i64], .ints .u8 8, .ints .u8 8], [.ints .i64 8], [.ints .i64 8]]⟩
theorem s_l01Components_l1_round {α : Type} (N : Nat) (count : Int) (i : Int) (h0_0 : Int) (h0_1 : Nat → Int) (h0_2 : Nat → Int) (h1 : Nat → Int) (h2 : Nat → Int) (kn : St → Option α) (K : AExit → St → Option α) :
    roundK Try.prog (E_s_l01Components_l2 α N) 1 0 66 Try.f66 7 3 (buildS s_l01Components_l1_p [.i count, .i i, .i h0_0, .f h0_1, .f h0_2, .f h1, .f h2]) kn K = s_l01Components_l1_s none N h0_0 h0_1 h0_2 h1 count i h2 (fun count i h2 => kn (buildS s_l01Components_l1_p [.i count, .i i, .i h0_0, .f h0_1, .f h0_2, .f h1, .f h2])) (fun count_ h2_ => K (.exit 2) (buildS s_l01Components_l1_o0 [.i count_, .i h0_0, .f h0_1, .f h0_2, .f h1, .f h2_])) := by kernel_rfl
theorem s_l01Components_l1_loop {α : Type} (N : Nat) (h0_0 : Int) (h0_1 : Nat → Int) (h0_2 : Nat → Int) (h1 : Nat → Int) (K : AExit → St → Option α) : ∀ (m : Nat) (count : Int) (i : Int) (h2 : Nat → Int),
    loopN (trimSt ((E_s_l01Components_l2 α N).ann 66 7).head ((E_s_l01Components_l2 α N).ann 66 7).grow 3) (bodyK Try.prog (E_s_l01Components_l2 α N) 1 0 66 Try.f66 7) m (buildS s_l01Components_l1_p [.i count, .i i, .i h0_0, .f h0_1, .f h0_2, .f h1, .f h2]) (leaveLoop ((E_s_l01Components_l2 α N).ann 66 7) 3 K) = s_l01Components_l1 none N h0_0 h0_1 h0_2 h1 m count i h2 (fun count_ h2_ => K (.exit 2) (buildS s_l01Components_l1_o0 [.i count_, .i h0_0, .f h0_1, .f h0_2, .f h1, .f h2_])) := by
  intro m
  induction m with
  | zero => intros; rfl
  | succ m ih =>
    intro count i h2
    rw [loopN_round]
    refine (s_l01Components_l1_round N count i h0_0 h0_1 h0_2 h1 h2 _ K).trans ?_
    simp only [ih]
    rfl
def E_s_l01Components_l1 (α : Type) (N : Nat) : Env α := (E_s_l01Components_l2 α N).addLoop2 66 7 (loopSum2 ((E_s_l01Components_l2 α N).ann 66 7) 0 s_l01Components_l1_p (fun l K => match l with
    | [.i count, .i i, .i h0_0, .f h0_1, .f h0_2, .f h1, .f h2] => s_l01Components_l1 none N h0_0 h0_1 h0_2 h1 N count i h2 (fun count_ h2_ => K (.exit 2) (buildS s_l01Components_l1_o0 [.i count_, .i h0_0, .f h0_1, .f h0_2, .f h1, .f h2_]))
    | _ => none) ((E_s_l01Components_l2 α N).ls 66 7))
theorem E_s_l01Components_l1_ok {α : Type} (N : Nat) : EnvOk Try.prog (E_s_l01Components_l1 α N) := (E_s_l01Components_l2_ok N).addLoop2 Try.func66 (by kernel_rfl) (loopSum_ok prog_mixed prog_names (E_s_l01Components_l2_ok N) Try.func66 (by kernel_rfl) (d := 1) (ro := 0) fun l K r h => by
  split at h
  · exact (s_l01Components_l1_loop N _ _ _ _ K N _ _ _).trans h
  · cases h)

/-- spec.l01Components -/
def s_l01Components_a : SPat := ⟨[.agg [.vals [.int .i64], .ints .u8 8, .ints .u8 8]], []⟩
def s_l01Components_r0 : SPat := ⟨[.tuple [.agg [.ints .i64 8], .int .i64]], []⟩
theorem s_l01Components_run {α : Type} (N : Nat) (g_0 : Int) (g_1 : Nat → Int) (g_2 : Nat → Int) (K : AV → Heap → Option α) :
    callK Try.prog (E_s_l01Components_l1 α N) 1 66 0 (buildS s_l01Components_a [.i g_0, .f g_1, .f g_2]).t (buildS s_l01Components_a [.i g_0, .f g_1, .f g_2]).h K = s_l01Components none N g_0 g_1 g_2 (fun r_0_ r_1_ => retK (buildS s_l01Components_r0 [.f r_0_, .i r_1_]) K) := by kernel_rfl
def E_s_l01Components (α : Type) (N : Nat) : Env α := (E_s_l01Components_l1 α N).addFun 66 true 0 s_l01Components_a (fun l K => match l with
    | [.i g_0, .f g_1, .f g_2] => s_l01Components none N g_0 g_1 g_2 (fun r_0_ r_1_ => retK (buildS s_l01Components_r0 [.f r_0_, .i r_1_]) K)
    | _ => none)
theorem E_s_l01Components_ok {α : Type} (N : Nat) : EnvOk Try.prog (E_s_l01Components α N) := (E_s_l01Components_l1_ok N).addFun prog_mixed prog_names (d := 1) fun l K r h => by
  split at h
  · exact (s_l01Components_run N _ _ _ K).trans h
  · cases h

def A_s_l07Corners_l0 (α : Type) (N : Nat) : Env α := (E_s_l01Components α N).addAnn 148 3 { head := [1, 3, 4], grow := [3], out := [3], ret := [2] }
theorem A_s_l07Corners_l0_ok {α : Type} (N : Nat) : EnvOk Try.prog (A_s_l07Corners_l0 α N) := (E_s_l01Components_ok N).addAnn

/-- spec.l07Kind -/
def s_l07Kind_a : SPat := ⟨[.agg [.vals [.int .i64], .ints .u8 8, .ints .u8 8], .int .i64, .int .i64, .bool], []⟩
def s_l07Kind_r0 : SPat := ⟨[.int .i64], []⟩
theorem s_l07Kind_run {α : Type} (N : Nat) (g_0 : Int) (g_1 : Nat → Int) (g_2 : Nat → Int) (i : Int) (r_ : Int) (isX : Bool) (K : AV → Heap → Option α) :
    callK Try.prog (A_s_l07Corners_l0 α N) 1 132 0 (buildS s_l07Kind_a [.i g_0, .f g_1, .f g_2, .i i, .i r_, .b isX]).t (buildS s_l07Kind_a [.i g_0, .f g_1, .f g_2, .i i, .i r_, .b isX]).h K = s_l07Kind none N g_0 g_1 g_2 i r_ isX (fun r__ => retK (buildS s_l07Kind_r0 [.i r__]) K) := by kernel_rfl
def E_s_l07Kind (α : Type) (N : Nat) : Env α := (A_s_l07Corners_l0 α N).addFun 132 true 0 s_l07Kind_a (fun l K => match l with
    | [.i g_0, .f g_1, .f g_2, .i i, .i r_, .b isX] => s_l07Kind none N g_0 g_1 g_2 i r_ isX (fun r__ => retK (buildS s_l07Kind_r0 [.i r__]) K)
    | _ => none)
theorem E_s_l07Kind_ok {α : Type} (N : Nat) : EnvOk Try.prog (E_s_l07Kind α N) := (A_s_l07Corners_l0_ok N).addFun prog_mixed prog_names (d := 1) fun l K r h => by
  split at h
  · exact (s_l07Kind_run N _ _ _ _ _ _ K).trans h
  · cases h

/-- spec.l07Corners, loop -/
def s_l07Corners_l0_p : SPat := ⟨[.undef, .ptr ⟨⟨0, 0⟩, 0, 0, 1⟩, .undef, .sliceV 1 0 0 4 false, .int .i64] ++ List.replicate 37 .undef, [[.vals [.int .i64], .ints .u8 8, .ints .u8 8], [.recs [some IntKind.i64, some IntKind.i64, some IntKind.i64, none]]]⟩
def s_l07Corners_l0_o0 : SPat := ⟨[.undef, .undef, .undef, .sliceV 1 0 0 4 false] ++ List.replicate 38 .undef, [[.vals [.int .i64], .ints .u8 8, .ints .u8 8], [.recs [some IntKind.i64, some IntKind.i64, some IntKind.i64, none]]]⟩
theorem s_l07Corners_l0_round {α : Type} (N : Nat) (out_n : Nat) (out_l : Nat) (out_c : Nat) (i : Int) (h0_0 : Int) (h0_1 : Nat → Int) (h0_2 : Nat → Int) (h1 : List Int) (kn : St → Option α) (K : AExit → St → Option α) :
    roundK Try.prog (E_s_l07Kind α N) 1 0 148 Try.f148 3 2 (buildS s_l07Corners_l0_p [.n out_n, .n out_l, .n out_c, .i i, .i h0_0, .f h0_1, .f h0_2, .l h1]) kn K = s_l07Corners_l0_s none N h0_0 h0_1 h0_2 out_n out_l out_c i h1 (fun out_n out_l out_c i h1 => kn (buildS s_l07Corners_l0_p [.n out_n, .n out_l, .n out_c, .i i, .i h0_0, .f h0_1, .f h0_2, .l h1])) (fun out_n_ out_l_ out_c_ h1_ => K (.exit 0) (buildS s_l07Corners_l0_o0 [.n out_n_, .n out_l_, .n out_c_, .i h0_0, .f h0_1, .f h0_2, .l h1_])) := by kernel_rfl
theorem s_l07Corners_l0_loop {α : Type} (N : Nat) (h0_0 : Int) (h0_1 : Nat → Int) (h0_2 : Nat → Int) (K : AExit → St → Option α) : ∀ (m : Nat) (out_n : Nat) (out_l : Nat) (out_c : Nat) (i : Int) (h1 : List Int),
    loopN (trimSt ((E_s_l07Kind α N).ann 148 3).head ((E_s_l07Kind α N).ann 148 3).grow 2) (bodyK Try.prog (E_s_l07Kind α N) 1 0 148 Try.f148 3) m (buildS s_l07Corners_l0_p [.n out_n, .n out_l, .n out_c, .i i, .i h0_0, .f h0_1, .f h0_2, .l h1]) (leaveLoop ((E_s_l07Kind α N).ann 148 3) 2 K) = s_l07Corners_l0 none N h0_0 h0_1 h0_2 m out_n out_l out_c i h1 (fun out_n_ out_l_ out_c_ h1_ => K (.exit 0) (buildS s_l07Corners_l0_o0 [.n out_n_, .n out_l_, .n out_c_, .i h0_0, .f h0_1, .f h0_2, .l h1_])) := by
  intro m
  induction m with
  | zero => intros; rfl
  | succ m ih =>
    intro out_n out_l out_c i h1
    rw [loopN_round]
    refine (s_l07Corners_l0_round N out_n out_l out_c i h0_0 h0_1 h0_2 h1 _ K).trans ?_
    simp only [ih]
    rfl
def E_s_l07Corners_l0 (α : Type) (N : Nat) : Env α := (E_s_l07Kind α N).addLoop2 148 3 (loopSum2 ((E_s_l07Kind α N).ann 148 3) 0 s_l07Corners_l0_p (fun l K => match l with
    | [.n out_n, .n out_l, .n out_c, .i i, .i h0_0, .f h0_1, .f h0_2, .l h1] => s_l07Corners_l0 none N h0_0 h0_1 h0_2 N out_n out_l out_c i h1 (fun out_n_ out_l_ out_c_ h1_ => K (.exit 0) (buildS s_l07Corners_l0_o0 [.n out_n_, .n out_l_, .n out_c_, .i h0_0, .f h0_1, .f h0_2, .l h1_]))
    | _ => none) ((E_s_l07Kind α N).ls 148 3))
theorem E_s_l07Corners_l0_ok {α : Type} (N : Nat) : EnvOk Try.prog (E_s_l07Corners_l0 α N) := (E_s_l07Kind_ok N).addLoop2 Try.func148 (by kernel_rfl) (loopSum_ok prog_mixed prog_names (E_s_l07Kind_ok N) Try.func148 (by kernel_rfl) (d := 1) (ro := 0) fun l K r h => by
  split at h
  · exact (s_l07Corners_l0_loop N _ _ _ K N _ _ _ _ _).trans h
  · cases h)

/-- spec.l07Corners -/
def s_l07Corners_a : SPat := ⟨[.agg [.vals [.int .i64], .ints .u8 8, .ints .u8 8]], []⟩
def s_l07Corners_r0 : SPat := ⟨[.sliceV 0 0 0 4 false], [[.recs [some IntKind.i64, some IntKind.i64, some IntKind.i64, none]]]⟩
theorem s_l07Corners_run {α : Type} (N : Nat) (g_0 : Int) (g_1 : Nat → Int) (g_2 : Nat → Int) (K : AV → Heap → Option α) :
    callK Try.prog (E_s_l07Corners_l0 α N) 1 148 0 (buildS s_l07Corners_a [.i g_0, .f g_1, .f g_2]).t (buildS s_l07Corners_a [.i g_0, .f g_1, .f g_2]).h K = s_l07Corners none N g_0 g_1 g_2 (fun r_n_ r_l_ r_c_ h0_ => retK (buildS s_l07Corners_r0 [.n r_n_, .n r_l_, .n r_c_, .l h0_]) K) := by kernel_rfl
def E_s_l07Corners (α : Type) (N : Nat) : Env α := (E_s_l07Corners_l0 α N).addFun 148 true 0 s_l07Corners_a (fun l K => match l with
    | [.i g_0, .f g_1, .f g_2] => s_l07Corners none N g_0 g_1 g_2 (fun r_n_ r_l_ r_c_ h0_ => retK (buildS s_l07Corners_r0 [.n r_n_, .n r_l_, .n r_c_, .l h0_]) K)
    | _ => none)
theorem E_s_l07Corners_ok {α : Type} (N : Nat) : EnvOk Try.prog (E_s_l07Corners α N) := (E_s_l07Corners_l0_ok N).addFun prog_mixed prog_names (d := 1) fun l K r h => by
  split at h
  · exact (s_l07Corners_run N _ _ _ K).trans h
  · cases h

def A_s_l07Cusps_l0 (α : Type) (N : Nat) : Env α := (E_s_l07Corners α N).addAnn 107 4 { head := [1, 6, 8, 9, 10, 11], grow := [], out := [9, 10], ret := [4, 5] }
theorem A_s_l07Cusps_l0_ok {α : Type} (N : Nat) : EnvOk Try.prog (A_s_l07Cusps_l0 α N) := (E_s_l07Corners_ok N).addAnn

/-- spec.l07Cusps, loop -/
def s_l07Cusps_l0_p : SPat := ⟨[.undef, .int .i64, .undef, .undef, .undef, .undef, .ptr ⟨⟨1, 0⟩, 0, 0, 8⟩, .undef, .sliceV 2 0 0 4 false, .int .i64, .int .i64, .int .i64] ++ List.replicate 60 .undef, [[.vals [.int .i64], .ints .u8 8, .ints .u8 8], [.ints .i64 8], [.recs [some IntKind.i64, some IntKind.i64, some IntKind.i64, none]]]⟩
def s_l07Cusps_l0_o0 : SPat := ⟨[.undef, .undef, .undef, .undef, .undef, .undef, .undef, .undef, .undef, .int .i64, .int .i64] ++ List.replicate 61 .undef, [[.vals [.int .i64], .ints .u8 8, .ints .u8 8], [.ints .i64 8], [.recs [some IntKind.i64, some IntKind.i64, some IntKind.i64, none]]]⟩
theorem s_l07Cusps_l0_round {α : Type} (N : Nat) (t1 : Int) (t8_n : Nat) (t8_l : Nat) (t8_c : Nat) (t9 : Int) (t10 : Int) (t11 : Int) (h0_0 : Int) (h0_1 : Nat → Int) (h0_2 : Nat → Int) (h1 : Nat → Int) (h2 : List Int) (kn : St → Option α) (K : AExit → St → Option α) :
    roundK Try.prog (A_s_l07Cusps_l0 α N) 1 0 107 Try.f107 4 3 (buildS s_l07Cusps_l0_p [.i t1, .n t8_n, .n t8_l, .n t8_c, .i t9, .i t10, .i t11, .i h0_0, .f h0_1, .f h0_2, .f h1, .l h2]) kn K = s_l07Cusps_l0_s none t1 t8_n t8_l t8_c h0_0 h0_1 h0_2 h1 h2 t9 t10 t11 (fun t9 t10 t11 => kn (buildS s_l07Cusps_l0_p [.i t1, .n t8_n, .n t8_l, .n t8_c, .i t9, .i t10, .i t11, .i h0_0, .f h0_1, .f h0_2, .f h1, .l h2])) (fun t9_ t10_ => K (.exit 0) (buildS s_l07Cusps_l0_o0 [.i t9_, .i t10_, .i h0_0, .f h0_1, .f h0_2, .f h1, .l h2])) := by kernel_rfl
theorem s_l07Cusps_l0_loop {α : Type} (N : Nat) (t1 : Int) (t8_n : Nat) (t8_l : Nat) (t8_c : Nat) (h0_0 : Int) (h0_1 : Nat → Int) (h0_2 : Nat → Int) (h1 : Nat → Int) (h2 : List Int) (K : AExit → St → Option α) : ∀ (m : Nat) (t9 : Int) (t10 : Int) (t11 : Int),
    loopN (trimSt ((A_s_l07Cusps_l0 α N).ann 107 4).head ((A_s_l07Cusps_l0 α N).ann 107 4).grow 3) (bodyK Try.prog (A_s_l07Cusps_l0 α N) 1 0 107 Try.f107 4) m (buildS s_l07Cusps_l0_p [.i t1, .n t8_n, .n t8_l, .n t8_c, .i t9, .i t10, .i t11, .i h0_0, .f h0_1, .f h0_2, .f h1, .l h2]) (leaveLoop ((A_s_l07Cusps_l0 α N).ann 107 4) 3 K) = s_l07Cusps_l0 none t1 t8_n t8_l t8_c h0_0 h0_1 h0_2 h1 h2 m t9 t10 t11 (fun t9_ t10_ => K (.exit 0) (buildS s_l07Cusps_l0_o0 [.i t9_, .i t10_, .i h0_0, .f h0_1, .f h0_2, .f h1, .l h2])) := by
  intro m
  induction m with
  | zero => intros; rfl
  | succ m ih =>
    intro t9 t10 t11
    rw [loopN_round]
    refine (s_l07Cusps_l0_round N t1 t8_n t8_l t8_c t9 t10 t11 h0_0 h0_1 h0_2 h1 h2 _ K).trans ?_
    simp only [ih]
    rfl
def E_s_l07Cusps_l0 (α : Type) (N : Nat) : Env α := (A_s_l07Cusps_l0 α N).addLoop2 107 4 (loopSum2 ((A_s_l07Cusps_l0 α N).ann 107 4) 0 s_l07Cusps_l0_p (fun l K => match l with
    | [.i t1, .n t8_n, .n t8_l, .n t8_c, .i t9, .i t10, .i t11, .i h0_0, .f h0_1, .f h0_2, .f h1, .l h2] => s_l07Cusps_l0 none t1 t8_n t8_l t8_c h0_0 h0_1 h0_2 h1 h2 N t9 t10 t11 (fun t9_ t10_ => K (.exit 0) (buildS s_l07Cusps_l0_o0 [.i t9_, .i t10_, .i h0_0, .f h0_1, .f h0_2, .f h1, .l h2]))
    | _ => none) ((A_s_l07Cusps_l0 α N).ls 107 4))
theorem E_s_l07Cusps_l0_ok {α : Type} (N : Nat) : EnvOk Try.prog (E_s_l07Cusps_l0 α N) := (A_s_l07Cusps_l0_ok N).addLoop2 Try.func107 (by kernel_rfl) (loopSum_ok prog_mixed prog_names (A_s_l07Cusps_l0_ok N) Try.func107 (by kernel_rfl) (d := 1) (ro := 0) fun l K r h => by
  split at h
  · exact (s_l07Cusps_l0_loop N _ _ _ _ _ _ _ _ _ K N _ _ _).trans h
  · cases h)

/-- spec.l07Cusps -/
def s_l07Cusps_a : SPat := ⟨[.agg [.vals [.int .i64], .ints .u8 8, .ints .u8 8], .int .i64], []⟩
def s_l07Cusps_r0 : SPat := ⟨[.tuple [.int .i64, .int .i64]], []⟩
theorem s_l07Cusps_run {α : Type} (N : Nat) (g_0 : Int) (g_1 : Nat → Int) (g_2 : Nat → Int) (a1 : Int) (K : AV → Heap → Option α) :
    callK Try.prog (E_s_l07Cusps_l0 α N) 1 107 0 (buildS s_l07Cusps_a [.i g_0, .f g_1, .f g_2, .i a1]).t (buildS s_l07Cusps_a [.i g_0, .f g_1, .f g_2, .i a1]).h K = s_l07Cusps none N g_0 g_1 g_2 a1 (fun r_0_ r_1_ => retK (buildS s_l07Cusps_r0 [.i r_0_, .i r_1_]) K) := by kernel_rfl
def E_s_l07Cusps (α : Type) (N : Nat) : Env α := (E_s_l07Cusps_l0 α N).addFun 107 true 0 s_l07Cusps_a (fun l K => match l with
    | [.i g_0, .f g_1, .f g_2, .i a1] => s_l07Cusps none N g_0 g_1 g_2 a1 (fun r_0_ r_1_ => retK (buildS s_l07Cusps_r0 [.i r_0_, .i r_1_]) K)
    | _ => none)
theorem E_s_l07Cusps_ok {α : Type} (N : Nat) : EnvOk Try.prog (E_s_l07Cusps α N) := (E_s_l07Cusps_l0_ok N).addFun prog_mixed prog_names (d := 1) fun l K r h => by
  split at h
  · exact (s_l07Cusps_run N _ _ _ _ K).trans h
  · cases h

def A_s_l03Crossings_l0 (α : Type) (N : Nat) : Env α := (E_s_l07Cusps α N).addAnn 147 3 { head := [1, 3, 4], grow := [3], out := [3], ret := [2] }
theorem A_s_l03Crossings_l0_ok {α : Type} (N : Nat) : EnvOk Try.prog (A_s_l03Crossings_l0 α N) := (E_s_l07Cusps_ok N).addAnn

def A_s_l03Crossings_l1 (α : Type) (N : Nat) : Env α := (A_s_l03Crossings_l0 α N).addAnn 147 6 { head := [1, 3, 4, 5], grow := [3], out := [1, 3, 4], ret := [2] }
theorem A_s_l03Crossings_l1_ok {α : Type} (N : Nat) : EnvOk Try.prog (A_s_l03Crossings_l1 α N) := (A_s_l03Crossings_l0_ok N).addAnn

/-- spec.l03Cross -/
def s_l03Cross_a : SPat := ⟨[.agg [.vals [.int .i64], .ints .u8 8, .ints .u8 8], .int .i64, .int .i64], []⟩
def s_l03Cross_r0 : SPat := ⟨[.int .i64], []⟩
theorem s_l03Cross_run {α : Type} (N : Nat) (g_0 : Int) (g_1 : Nat → Int) (g_2 : Nat → Int) (i : Int) (r_ : Int) (K : AV → Heap → Option α) :
    callK Try.prog (A_s_l03Crossings_l1 α N) 1 160 0 (buildS s_l03Cross_a [.i g_0, .f g_1, .f g_2, .i i, .i r_]).t (buildS s_l03Cross_a [.i g_0, .f g_1, .f g_2, .i i, .i r_]).h K = s_l03Cross none N g_0 g_1 g_2 i r_ (fun r__ => retK (buildS s_l03Cross_r0 [.i r__]) K) := by kernel_rfl
def E_s_l03Cross (α : Type) (N : Nat) : Env α := (A_s_l03Crossings_l1 α N).addFun 160 true 0 s_l03Cross_a (fun l K => match l with
    | [.i g_0, .f g_1, .f g_2, .i i, .i r_] => s_l03Cross none N g_0 g_1 g_2 i r_ (fun r__ => retK (buildS s_l03Cross_r0 [.i r__]) K)
    | _ => none)
theorem E_s_l03Cross_ok {α : Type} (N : Nat) : EnvOk Try.prog (E_s_l03Cross α N) := (A_s_l03Crossings_l1_ok N).addFun prog_mixed prog_names (d := 1) fun l K r h => by
  split at h
  · exact (s_l03Cross_run N _ _ _ _ _ K).trans h
  · cases h

/-- spec.l03Crossings, loop -/
def s_l03Crossings_l1_p : SPat := ⟨[.undef, .ptr ⟨⟨0, 0⟩, 0, 0, 1⟩, .undef, .sliceV 1 0 0 3 false, .int .i64, .int .i64] ++ List.replicate 28 .undef, [[.vals [.int .i64], .ints .u8 8, .ints .u8 8], [.vec .i64]]⟩
def s_l03Crossings_l1_o0 : SPat := ⟨[.undef, .ptr ⟨⟨0, 0⟩, 0, 0, 1⟩, .undef, .sliceV 1 0 0 3 false, .int .i64] ++ List.replicate 29 .undef, [[.vals [.int .i64], .ints .u8 8, .ints .u8 8], [.vec .i64]]⟩
theorem s_l03Crossings_l1_round {α : Type} (N : Nat) (out_n : Nat) (out_l : Nat) (out_c : Nat) (i : Int) (r_ : Int) (h0_0 : Int) (h0_1 : Nat → Int) (h0_2 : Nat → Int) (h1 : List Int) (kn : St → Option α) (K : AExit → St → Option α) :
    roundK Try.prog (E_s_l03Cross α N) 1 0 147 Try.f147 6 2 (buildS s_l03Crossings_l1_p [.n out_n, .n out_l, .n out_c, .i i, .i r_, .i h0_0, .f h0_1, .f h0_2, .l h1]) kn K = s_l03Crossings_l1_s none N i h0_0 h0_1 h0_2 out_n out_l out_c r_ h1 (fun out_n out_l out_c r_ h1 => kn (buildS s_l03Crossings_l1_p [.n out_n, .n out_l, .n out_c, .i i, .i r_, .i h0_0, .f h0_1, .f h0_2, .l h1])) (fun out_n_ out_l_ out_c_ h1_ => K (.exit 2) (buildS s_l03Crossings_l1_o0 [.n out_n_, .n out_l_, .n out_c_, .i i, .i h0_0, .f h0_1, .f h0_2, .l h1_])) := by kernel_rfl
theorem s_l03Crossings_l1_loop {α : Type} (N : Nat) (i : Int) (h0_0 : Int) (h0_1 : Nat → Int) (h0_2 : Nat → Int) (K : AExit → St → Option α) : ∀ (m : Nat) (out_n : Nat) (out_l : Nat) (out_c : Nat) (r_ : Int) (h1 : List Int),
    loopN (trimSt ((E_s_l03Cross α N).ann 147 6).head ((E_s_l03Cross α N).ann 147 6).grow 2) (bodyK Try.prog (E_s_l03Cross α N) 1 0 147 Try.f147 6) m (buildS s_l03Crossings_l1_p [.n out_n, .n out_l, .n out_c, .i i, .i r_, .i h0_0, .f h0_1, .f h0_2, .l h1]) (leaveLoop ((E_s_l03Cross α N).ann 147 6) 2 K) = s_l03Crossings_l1 none N i h0_0 h0_1 h0_2 m out_n out_l out_c r_ h1 (fun out_n_ out_l_ out_c_ h1_ => K (.exit 2) (buildS s_l03Crossings_l1_o0 [.n out_n_, .n out_l_, .n out_c_, .i i, .i h0_0, .f h0_1, .f h0_2, .l h1_])) := by
  intro m
  induction m with
  | zero => intros; rfl
  | succ m ih =>
    intro out_n out_l out_c r_ h1
    rw [loopN_round]
    refine (s_l03Crossings_l1_round N out_n out_l out_c i r_ h0_0 h0_1 h0_2 h1 _ K).trans ?_
    simp only [ih]
    rfl
def E_s_l03Crossings_l1 (α : Type) (N : Nat) : Env α := (E_s_l03Cross α N).addLoop2 147 6 (loopSum2 ((E_s_l03Cross α N).ann 147 6) 0 s_l03Crossings_l1_p (fun l K => match l with
    | [.n out_n, .n out_l, .n out_c, .i i, .i r_, .i h0_0, .f h0_1, .f h0_2, .l h1] => s_l03Crossings_l1 none N i h0_0 h0_1 h0_2 N out_n out_l out_c r_ h1 (fun out_n_ out_l_ out_c_ h1_ => K (.exit 2) (buildS s_l03Crossings_l1_o0 [.n out_n_, .n out_l_, .n out_c_, .i i, .i h0_0, .f h0_1, .f h0_2, .l h1_]))
    | _ => none) ((E_s_l03Cross α N).ls 147 6))
theorem E_s_l03Crossings_l1_ok {α : Type} (N : Nat) : EnvOk Try.prog (E_s_l03Crossings_l1 α N) := (E_s_l03Cross_ok N).addLoop2 Try.func147 (by kernel_rfl) (loopSum_ok prog_mixed prog_names (E_s_l03Cross_ok N) Try.func147 (by kernel_rfl) (d := 1) (ro := 0) fun l K r h => by
  split at h
  · exact (s_l03Crossings_l1_loop N _ _ _ _ K N _ _ _ _ _).trans h
  · cases h)

/-- spec.l03Crossings, loop -/
def s_l03Crossings_l0_p : SPat := ⟨[.undef, .ptr ⟨⟨0, 0⟩, 0, 0, 1⟩, .undef, .sliceV 1 0 0 3 false, .int .i64] ++ List.replicate 29 .undef, [[.vals [.int .i64], .ints .u8 8, .ints .u8 8], [.vec .i64]]⟩
def s_l03Crossings_l0_o0 : SPat := ⟨[.undef, .undef, .undef, .sliceV 1 0 0 3 false] ++ List.replicate 30 .undef, [[.vals [.int .i64], .ints .u8 8, .ints .u8 8], [.vec .i64]]⟩
theorem s_l03Crossings_l0_round {α : Type} (N : Nat) (out_n : Nat) (out_l : Nat) (out_c : Nat) (i : Int) (h0_0 : Int) (h0_1 : Nat → Int) (h0_2 : Nat → Int) (h1 : List Int) (kn : St → Option α) (K : AExit → St → Option α) :
    roundK Try.prog (E_s_l03Crossings_l1 α N) 1 0 147 Try.f147 3 2 (buildS s_l03Crossings_l0_p [.n out_n, .n out_l, .n out_c, .i i, .i h0_0, .f h0_1, .f h0_2, .l h1]) kn K = s_l03Crossings_l0_s none N h0_0 h0_1 h0_2 out_n out_l out_c i h1 (fun out_n out_l out_c i h1 => kn (buildS s_l03Crossings_l0_p [.n out_n, .n out_l, .n out_c, .i i, .i h0_0, .f h0_1, .f h0_2, .l h1])) (fun out_n_ out_l_ out_c_ h1_ => K (.exit 0) (buildS s_l03Crossings_l0_o0 [.n out_n_, .n out_l_, .n out_c_, .i h0_0, .f h0_1, .f h0_2, .l h1_])) := by kernel_rfl
theorem s_l03Crossings_l0_loop {α : Type} (N : Nat) (h0_0 : Int) (h0_1 : Nat → Int) (h0_2 : Nat → Int) (K : AExit → St → Option α) : ∀ (m : Nat) (out_n : Nat) (out_l : Nat) (out_c : Nat) (i : Int) (h1 : List Int),
    loopN (trimSt ((E_s_l03Crossings_l1 α N).ann 147 3).head ((E_s_l03Crossings_l1 α N).ann 147 3).grow 2) (bodyK Try.prog (E_s_l03Crossings_l1 α N) 1 0 147 Try.f147 3) m (buildS s_l03Crossings_l0_p [.n out_n, .n out_l, .n out_c, .i i, .i h0_0, .f h0_1, .f h0_2, .l h1]) (leaveLoop ((E_s_l03Crossings_l1 α N).ann 147 3) 2 K) = s_l03Crossings_l0 none N h0_0 h0_1 h0_2 m out_n out_l out_c i h1 (fun out_n_ out_l_ out_c_ h1_ => K (.exit 0) (buildS s_l03Crossings_l0_o0 [.n out_n_, .n out_l_, .n out_c_, .i h0_0, .f h0_1, .f h0_2, .l h1_])) := by
  intro m
  induction m with
  | zero => intros; rfl
  | succ m ih =>
    intro out_n out_l out_c i h1
    rw [loopN_round]
    refine (s_l03Crossings_l0_round N out_n out_l out_c i h0_0 h0_1 h0_2 h1 _ K).trans ?_
    simp only [ih]
    rfl
def E_s_l03Crossings_l0 (α : Type) (N : Nat) : Env α := (E_s_l03Crossings_l1 α N).addLoop2 147 3 (loopSum2 ((E_s_l03Crossings_l1 α N).ann 147 3) 0 s_l03Crossings_l0_p (fun l K => match l with
    | [.n out_n, .n out_l, .n out_c, .i i, .i h0_0, .f h0_1, .f h0_2, .l h1] => s_l03Crossings_l0 none N h0_0 h0_1 h0_2 N out_n out_l out_c i h1 (fun out_n_ out_l_ out_c_ h1_ => K (.exit 0) (buildS s_l03Crossings_l0_o0 [.n out_n_, .n out_l_, .n out_c_, .i h0_0, .f h0_1, .f h0_2, .l h1_]))
    | _ => none) ((E_s_l03Crossings_l1 α N).ls 147 3))
theorem E_s_l03Crossings_l0_ok {α : Type} (N : Nat) : EnvOk Try.prog (E_s_l03Crossings_l0 α N) := (E_s_l03Crossings_l1_ok N).addLoop2 Try.func147 (by kernel_rfl) (loopSum_ok prog_mixed prog_names (E_s_l03Crossings_l1_ok N) Try.func147 (by kernel_rfl) (d := 1) (ro := 0) fun l K r h => by
  split at h
  · exact (s_l03Crossings_l0_loop N _ _ _ K N _ _ _ _ _).trans h
  · cases h)

/-- spec.l03Crossings -/
def s_l03Crossings_a : SPat := ⟨[.agg [.vals [.int .i64], .ints .u8 8, .ints .u8 8]], []⟩
def s_l03Crossings_r0 : SPat := ⟨[.sliceV 0 0 0 3 false], [[.vec .i64]]⟩
theorem s_l03Crossings_run {α : Type} (N : Nat) (g_0 : Int) (g_1 : Nat → Int) (g_2 : Nat → Int) (K : AV → Heap → Option α) :
    callK Try.prog (E_s_l03Crossings_l0 α N) 1 147 0 (buildS s_l03Crossings_a [.i g_0, .f g_1, .f g_2]).t (buildS s_l03Crossings_a [.i g_0, .f g_1, .f g_2]).h K = s_l03Crossings none N g_0 g_1 g_2 (fun r_n_ r_l_ r_c_ h0_ => retK (buildS s_l03Crossings_r0 [.n r_n_, .n r_l_, .n r_c_, .l h0_]) K) := by kernel_rfl
def E_s_l03Crossings (α : Type) (N : Nat) : Env α := (E_s_l03Crossings_l0 α N).addFun 147 true 0 s_l03Crossings_a (fun l K => match l with
    | [.i g_0, .f g_1, .f g_2] => s_l03Crossings none N g_0 g_1 g_2 (fun r_n_ r_l_ r_c_ h0_ => retK (buildS s_l03Crossings_r0 [.n r_n_, .n r_l_, .n r_c_, .l h0_]) K)
    | _ => none)
theorem E_s_l03Crossings_ok {α : Type} (N : Nat) : EnvOk Try.prog (E_s_l03Crossings α N) := (E_s_l03Crossings_l0_ok N).addFun prog_mixed prog_names (d := 1) fun l K r h => by
  split at h
  · exact (s_l03Crossings_run N _ _ _ K).trans h
  · cases h

def A_s_l03Writhe_l0 (α : Type) (N : Nat) : Env α := (E_s_l03Crossings α N).addAnn 136 3 { head := [3, 4, 5], grow := [], out := [4], ret := [2] }
theorem A_s_l03Writhe_l0_ok {α : Type} (N : Nat) : EnvOk Try.prog (A_s_l03Writhe_l0 α N) := (E_s_l03Crossings_ok N).addAnn

/-- spec.l03Writhe, loop -/
def s_l03Writhe_l0_p : SPat := ⟨[.undef, .undef, .undef, .sliceV 1 0 0 3 false, .int .i64, .int .i64] ++ List.replicate 16 .undef, [[.vals [.int .i64], .ints .u8 8, .ints .u8 8], [.vec .i64]]⟩
def s_l03Writhe_l0_o0 : SPat := ⟨[.undef, .undef, .undef, .undef, .int .i64] ++ List.replicate 17 .undef, [[.vals [.int .i64], .ints .u8 8, .ints .u8 8], [.vec .i64]]⟩
theorem s_l03Writhe_l0_round {α : Type} (N : Nat) (list_n : Nat) (list_l : Nat) (list_c : Nat) (out : Int) (i : Int) (h0_0 : Int) (h0_1 : Nat → Int) (h0_2 : Nat → Int) (h1 : List Int) (kn : St → Option α) (K : AExit → St → Option α) :
    roundK Try.prog (A_s_l03Writhe_l0 α N) 1 0 136 Try.f136 3 2 (buildS s_l03Writhe_l0_p [.n list_n, .n list_l, .n list_c, .i out, .i i, .i h0_0, .f h0_1, .f h0_2, .l h1]) kn K = s_l03Writhe_l0_s none list_n list_l list_c h0_0 h0_1 h0_2 h1 out i (fun out i => kn (buildS s_l03Writhe_l0_p [.n list_n, .n list_l, .n list_c, .i out, .i i, .i h0_0, .f h0_1, .f h0_2, .l h1])) (fun out_ => K (.exit 0) (buildS s_l03Writhe_l0_o0 [.i out_, .i h0_0, .f h0_1, .f h0_2, .l h1])) := by kernel_rfl
theorem s_l03Writhe_l0_loop {α : Type} (N : Nat) (list_n : Nat) (list_l : Nat) (list_c : Nat) (h0_0 : Int) (h0_1 : Nat → Int) (h0_2 : Nat → Int) (h1 : List Int) (K : AExit → St → Option α) : ∀ (m : Nat) (out : Int) (i : Int),
    loopN (trimSt ((A_s_l03Writhe_l0 α N).ann 136 3).head ((A_s_l03Writhe_l0 α N).ann 136 3).grow 2) (bodyK Try.prog (A_s_l03Writhe_l0 α N) 1 0 136 Try.f136 3) m (buildS s_l03Writhe_l0_p [.n list_n, .n list_l, .n list_c, .i out, .i i, .i h0_0, .f h0_1, .f h0_2, .l h1]) (leaveLoop ((A_s_l03Writhe_l0 α N).ann 136 3) 2 K) = s_l03Writhe_l0 none list_n list_l list_c h0_0 h0_1 h0_2 h1 m out i (fun out_ => K (.exit 0) (buildS s_l03Writhe_l0_o0 [.i out_, .i h0_0, .f h0_1, .f h0_2, .l h1])) := by
  intro m
  induction m with
  | zero => intros; rfl
  | succ m ih =>
    intro out i
    rw [loopN_round]
    refine (s_l03Writhe_l0_round N list_n list_l list_c out i h0_0 h0_1 h0_2 h1 _ K).trans ?_
    simp only [ih]
    rfl
def E_s_l03Writhe_l0 (α : Type) (N : Nat) : Env α := (A_s_l03Writhe_l0 α N).addLoop2 136 3 (loopSum2 ((A_s_l03Writhe_l0 α N).ann 136 3) 0 s_l03Writhe_l0_p (fun l K => match l with
    | [.n list_n, .n list_l, .n list_c, .i out, .i i, .i h0_0, .f h0_1, .f h0_2, .l h1] => s_l03Writhe_l0 none list_n list_l list_c h0_0 h0_1 h0_2 h1 N out i (fun out_ => K (.exit 0) (buildS s_l03Writhe_l0_o0 [.i out_, .i h0_0, .f h0_1, .f h0_2, .l h1]))
    | _ => none) ((A_s_l03Writhe_l0 α N).ls 136 3))
theorem E_s_l03Writhe_l0_ok {α : Type} (N : Nat) : EnvOk Try.prog (E_s_l03Writhe_l0 α N) := (A_s_l03Writhe_l0_ok N).addLoop2 Try.func136 (by kernel_rfl) (loopSum_ok prog_mixed prog_names (A_s_l03Writhe_l0_ok N) Try.func136 (by kernel_rfl) (d := 1) (ro := 0) fun l K r h => by
  split at h
  · exact (s_l03Writhe_l0_loop N _ _ _ _ _ _ _ K N _ _).trans h
  · cases h)

/-- spec.l03Writhe -/
def s_l03Writhe_a : SPat := ⟨[.agg [.vals [.int .i64], .ints .u8 8, .ints .u8 8]], []⟩
def s_l03Writhe_r0 : SPat := ⟨[.int .i64], []⟩
theorem s_l03Writhe_run {α : Type} (N : Nat) (g_0 : Int) (g_1 : Nat → Int) (g_2 : Nat → Int) (K : AV → Heap → Option α) :
    callK Try.prog (E_s_l03Writhe_l0 α N) 1 136 0 (buildS s_l03Writhe_a [.i g_0, .f g_1, .f g_2]).t (buildS s_l03Writhe_a [.i g_0, .f g_1, .f g_2]).h K = s_l03Writhe none N g_0 g_1 g_2 (fun r__ => retK (buildS s_l03Writhe_r0 [.i r__]) K) := by kernel_rfl
def E_s_l03Writhe (α : Type) (N : Nat) : Env α := (E_s_l03Writhe_l0 α N).addFun 136 true 0 s_l03Writhe_a (fun l K => match l with
    | [.i g_0, .f g_1, .f g_2] => s_l03Writhe none N g_0 g_1 g_2 (fun r__ => retK (buildS s_l03Writhe_r0 [.i r__]) K)
    | _ => none)
theorem E_s_l03Writhe_ok {α : Type} (N : Nat) : EnvOk Try.prog (E_s_l03Writhe α N) := (E_s_l03Writhe_l0_ok N).addFun prog_mixed prog_names (d := 1) fun l K r h => by
  split at h
  · exact (s_l03Writhe_run N _ _ _ K).trans h
  · cases h

/-- spec.l07Numbers -/
def s_l07Numbers_a : SPat := ⟨[.agg [.vals [.int .i64], .ints .u8 8, .ints .u8 8]], []⟩
def s_l07Numbers_r0 : SPat := ⟨[.tuple [.int .i64, .int .i64]], []⟩
theorem s_l07Numbers_run {α : Type} (N : Nat) (g_0 : Int) (g_1 : Nat → Int) (g_2 : Nat → Int) (K : AV → Heap → Option α) :
    callK Try.prog (E_s_l03Writhe α N) 1 88 0 (buildS s_l07Numbers_a [.i g_0, .f g_1, .f g_2]).t (buildS s_l07Numbers_a [.i g_0, .f g_1, .f g_2]).h K = s_l07Numbers none N g_0 g_1 g_2 (fun r_0_ r_1_ => retK (buildS s_l07Numbers_r0 [.i r_0_, .i r_1_]) K) := by kernel_rfl
def E_s_l07Numbers (α : Type) (N : Nat) : Env α := (E_s_l03Writhe α N).addFun 88 true 0 s_l07Numbers_a (fun l K => match l with
    | [.i g_0, .f g_1, .f g_2] => s_l07Numbers none N g_0 g_1 g_2 (fun r_0_ r_1_ => retK (buildS s_l07Numbers_r0 [.i r_0_, .i r_1_]) K)
    | _ => none)
theorem E_s_l07Numbers_ok {α : Type} (N : Nat) : EnvOk Try.prog (E_s_l07Numbers α N) := (E_s_l03Writhe_ok N).addFun prog_mixed prog_names (d := 1) fun l K r h => by
  split at h
  · exact (s_l07Numbers_run N _ _ _ K).trans h
  · cases h

def A_s_QuarterTurn_l0 (α : Type) (N : Nat) : Env α := (E_s_l07Numbers α N).addAnn 95 5 { head := [1, 2, 4, 5, 6], grow := [], out := [2, 5], ret := [2, 3] }
theorem A_s_QuarterTurn_l0_ok {α : Type} (N : Nat) : EnvOk Try.prog (A_s_QuarterTurn_l0 α N) := (E_s_l07Numbers_ok N).addAnn

/-- spec.QuarterTurn, loop -/
def s_QuarterTurn_l0_p : SPat := ⟨[.undef, .ptr ⟨⟨0, 0⟩, 0, 0, 1⟩, .ptr ⟨⟨1, 0⟩, 0, 0, 1⟩, .undef, .int .i64, .ptr ⟨⟨2, 0⟩, 0, 0, 1⟩, .int .i64] ++ List.replicate 39 .undef, [[.vals [.int .i64], .ints .u8 8, .ints .u8 8], [.vals [.int .i64], .ints .u8 8, .ints .u8 8], [.vals [.int .i64], .ints .u8 8, .ints .u8 8]]⟩
def s_QuarterTurn_l0_o0 : SPat := ⟨[.undef, .undef, .ptr ⟨⟨1, 0⟩, 0, 0, 1⟩, .undef, .undef, .ptr ⟨⟨2, 0⟩, 0, 0, 1⟩] ++ List.replicate 40 .undef, [[.vals [.int .i64], .ints .u8 8, .ints .u8 8], [.vals [.int .i64], .ints .u8 8, .ints .u8 8], [.vals [.int .i64], .ints .u8 8, .ints .u8 8]]⟩
theorem s_QuarterTurn_l0_round {α : Type} (N : Nat) (n : Int) (i : Int) (h0_0 : Int) (h0_1 : Nat → Int) (h0_2 : Nat → Int) (h1_0 : Int) (h1_1 : Nat → Int) (h1_2 : Nat → Int) (h2_0 : Int) (h2_1 : Nat → Int) (h2_2 : Nat → Int) (kn : St → Option α) (K : AExit → St → Option α) :
    roundK Try.prog (A_s_QuarterTurn_l0 α N) 1 0 95 Try.f95 5 3 (buildS s_QuarterTurn_l0_p [.i n, .i i, .i h0_0, .f h0_1, .f h0_2, .i h1_0, .f h1_1, .f h1_2, .i h2_0, .f h2_1, .f h2_2]) kn K = s_QuarterTurn_l0_s none n h0_0 h0_1 h0_2 h1_0 h1_1 h1_2 h2_0 i h2_1 h2_2 (fun i h2_1 h2_2 => kn (buildS s_QuarterTurn_l0_p [.i n, .i i, .i h0_0, .f h0_1, .f h0_2, .i h1_0, .f h1_1, .f h1_2, .i h2_0, .f h2_1, .f h2_2])) (fun h2_1_ h2_2_ => K (.exit 0) (buildS s_QuarterTurn_l0_o0 [.i h0_0, .f h0_1, .f h0_2, .i h1_0, .f h1_1, .f h1_2, .i h2_0, .f h2_1_, .f h2_2_])) := by kernel_rfl
theorem s_QuarterTurn_l0_loop {α : Type} (N : Nat) (n : Int) (h0_0 : Int) (h0_1 : Nat → Int) (h0_2 : Nat → Int) (h1_0 : Int) (h1_1 : Nat → Int) (h1_2 : Nat → Int) (h2_0 : Int) (K : AExit → St → Option α) : ∀ (m : Nat) (i : Int) (h2_1 : Nat → Int) (h2_2 : Nat → Int),
    loopN (trimSt ((A_s_QuarterTurn_l0 α N).ann 95 5).head ((A_s_QuarterTurn_l0 α N).ann 95 5).grow 3) (bodyK Try.prog (A_s_QuarterTurn_l0 α N) 1 0 95 Try.f95 5) m (buildS s_QuarterTurn_l0_p [.i n, .i i, .i h0_0, .f h0_1, .f h0_2, .i h1_0, .f h1_1, .f h1_2, .i h2_0, .f h2_1, .f h2_2]) (leaveLoop ((A_s_QuarterTurn_l0 α N).ann 95 5) 3 K) = s_QuarterTurn_l0 none n h0_0 h0_1 h0_2 h1_0 h1_1 h1_2 h2_0 m i h2_1 h2_2 (fun h2_1_ h2_2_ => K (.exit 0) (buildS s_QuarterTurn_l0_o0 [.i h0_0, .f h0_1, .f h0_2, .i h1_0, .f h1_1, .f h1_2, .i h2_0, .f h2_1_, .f h2_2_])) := by
  intro m
  induction m with
  | zero => intros; rfl
  | succ m ih =>
    intro i h2_1 h2_2
    rw [loopN_round]
    refine (s_QuarterTurn_l0_round N n i h0_0 h0_1 h0_2 h1_0 h1_1 h1_2 h2_0 h2_1 h2_2 _ K).trans ?_
    simp only [ih]
    rfl
def E_s_QuarterTurn_l0 (α : Type) (N : Nat) : Env α := (A_s_QuarterTurn_l0 α N).addLoop2 95 5 (loopSum2 ((A_s_QuarterTurn_l0 α N).ann 95 5) 0 s_QuarterTurn_l0_p (fun l K => match l with
    | [.i n, .i i, .i h0_0, .f h0_1, .f h0_2, .i h1_0, .f h1_1, .f h1_2, .i h2_0, .f h2_1, .f h2_2] => s_QuarterTurn_l0 none n h0_0 h0_1 h0_2 h1_0 h1_1 h1_2 h2_0 N i h2_1 h2_2 (fun h2_1_ h2_2_ => K (.exit 0) (buildS s_QuarterTurn_l0_o0 [.i h0_0, .f h0_1, .f h0_2, .i h1_0, .f h1_1, .f h1_2, .i h2_0, .f h2_1_, .f h2_2_]))
    | _ => none) ((A_s_QuarterTurn_l0 α N).ls 95 5))
theorem E_s_QuarterTurn_l0_ok {α : Type} (N : Nat) : EnvOk Try.prog (E_s_QuarterTurn_l0 α N) := (A_s_QuarterTurn_l0_ok N).addLoop2 Try.func95 (by kernel_rfl) (loopSum_ok prog_mixed prog_names (A_s_QuarterTurn_l0_ok N) Try.func95 (by kernel_rfl) (d := 1) (ro := 0) fun l K r h => by
  split at h
  · exact (s_QuarterTurn_l0_loop N _ _ _ _ _ _ _ _ K N _ _ _).trans h
  · cases h)

/-- spec.QuarterTurn -/
def s_QuarterTurn_a : SPat := ⟨[.agg [.vals [.int .i64], .ints .u8 8, .ints .u8 8]], []⟩
def s_QuarterTurn_r0 : SPat := ⟨[.tuple [.agg [.vals [.int .i64], .ints .u8 8, .ints .u8 8], .int .i64]], []⟩
theorem s_QuarterTurn_run {α : Type} (N : Nat) (g_0 : Int) (g_1 : Nat → Int) (g_2 : Nat → Int) (K : AV → Heap → Option α) :
    callK Try.prog (E_s_QuarterTurn_l0 α N) 1 95 0 (buildS s_QuarterTurn_a [.i g_0, .f g_1, .f g_2]).t (buildS s_QuarterTurn_a [.i g_0, .f g_1, .f g_2]).h K = s_QuarterTurn none N g_0 g_1 g_2 (fun r_0_0_ r_0_1_ r_0_2_ r_1_ => retK (buildS s_QuarterTurn_r0 [.i r_0_0_, .f r_0_1_, .f r_0_2_, .i r_1_]) K) := by kernel_rfl
def E_s_QuarterTurn (α : Type) (N : Nat) : Env α := (E_s_QuarterTurn_l0 α N).addFun 95 true 0 s_QuarterTurn_a (fun l K => match l with
    | [.i g_0, .f g_1, .f g_2] => s_QuarterTurn none N g_0 g_1 g_2 (fun r_0_0_ r_0_1_ r_0_2_ r_1_ => retK (buildS s_QuarterTurn_r0 [.i r_0_0_, .f r_0_1_, .f r_0_2_, .i r_1_]) K)
    | _ => none)
theorem E_s_QuarterTurn_ok {α : Type} (N : Nat) : EnvOk Try.prog (E_s_QuarterTurn α N) := (E_s_QuarterTurn_l0_ok N).addFun prog_mixed prog_names (d := 1) fun l K r h => by
  split at h
  · exact (s_QuarterTurn_run N _ _ _ K).trans h
  · cases h

/-- spec.TurnNumbers, loop -/
def s_TurnNumbers_l0_p : SPat := ⟨[.undef, .ptr ⟨⟨0, 0⟩, 0, 0, 1⟩, .undef, .undef, .sliceV 2 0 0 1 false, .int .i64] ++ List.replicate 30 .undef, [[.vals [.int .i64], .ints .u8 8, .ints .u8 8], [.pool .i64], [.hdr 1]]⟩
def s_TurnNumbers_l0_o0 : SPat := ⟨[.undef, .undef, .undef, .undef, .sliceV 2 0 0 1 false] ++ List.replicate 31 .undef, [[.vals [.int .i64], .ints .u8 8, .ints .u8 8], [.pool .i64], [.hdr 1]]⟩
theorem s_TurnNumbers_l0_round {α : Type} (N : Nat) (out_n : Nat) (out_l : Nat) (out_c : Nat) (k : Int) (h0_0 : Int) (h0_1 : Nat → Int) (h0_2 : Nat → Int) (h1 : List (List Int)) (h2 : List (Nat × Nat)) (kn : St → Option α) (K : AExit → St → Option α) :
    roundK Try.prog (E_s_QuarterTurn α N) 1 0 42 Try.f42 5 3 (buildS s_TurnNumbers_l0_p [.n out_n, .n out_l, .n out_c, .i k, .i h0_0, .f h0_1, .f h0_2, .r h1, .p h2]) kn K = s_TurnNumbers_l0_s none N out_n out_l out_c k h0_0 h0_1 h0_2 h1 h2 (fun out_n out_l out_c k h0_0 h0_1 h0_2 h1 h2 => kn (buildS s_TurnNumbers_l0_p [.n out_n, .n out_l, .n out_c, .i k, .i h0_0, .f h0_1, .f h0_2, .r h1, .p h2])) (fun out_n_ out_l_ out_c_ h0_0_ h0_1_ h0_2_ h1_ h2_ => K (.exit 0) (buildS s_TurnNumbers_l0_o0 [.n out_n_, .n out_l_, .n out_c_, .i h0_0_, .f h0_1_, .f h0_2_, .r h1_, .p h2_])) := by kernel_rfl
theorem s_TurnNumbers_l0_loop {α : Type} (N : Nat)  (K : AExit → St → Option α) : ∀ (m : Nat) (out_n : Nat) (out_l : Nat) (out_c : Nat) (k : Int) (h0_0 : Int) (h0_1 : Nat → Int) (h0_2 : Nat → Int) (h1 : List (List Int)) (h2 : List (Nat × Nat)),
    loopN (trimSt ((E_s_QuarterTurn α N).ann 42 5).head ((E_s_QuarterTurn α N).ann 42 5).grow 3) (bodyK Try.prog (E_s_QuarterTurn α N) 1 0 42 Try.f42 5) m (buildS s_TurnNumbers_l0_p [.n out_n, .n out_l, .n out_c, .i k, .i h0_0, .f h0_1, .f h0_2, .r h1, .p h2]) (leaveLoop ((E_s_QuarterTurn α N).ann 42 5) 3 K) = s_TurnNumbers_l0 none N m out_n out_l out_c k h0_0 h0_1 h0_2 h1 h2 (fun out_n_ out_l_ out_c_ h0_0_ h0_1_ h0_2_ h1_ h2_ => K (.exit 0) (buildS s_TurnNumbers_l0_o0 [.n out_n_, .n out_l_, .n out_c_, .i h0_0_, .f h0_1_, .f h0_2_, .r h1_, .p h2_])) := by
  intro m
  induction m with
  | zero => intros; rfl
  | succ m ih =>
    intro out_n out_l out_c k h0_0 h0_1 h0_2 h1 h2
    rw [loopN_round]
    refine (s_TurnNumbers_l0_round N out_n out_l out_c k h0_0 h0_1 h0_2 h1 h2 _ K).trans ?_
    simp only [ih]
    rfl
def E_s_TurnNumbers_l0 (α : Type) (N : Nat) : Env α := (E_s_QuarterTurn α N).addLoop2 42 5 (loopSum2 ((E_s_QuarterTurn α N).ann 42 5) 0 s_TurnNumbers_l0_p (fun l K => match l with
    | [.n out_n, .n out_l, .n out_c, .i k, .i h0_0, .f h0_1, .f h0_2, .r h1, .p h2] => s_TurnNumbers_l0 none N N out_n out_l out_c k h0_0 h0_1 h0_2 h1 h2 (fun out_n_ out_l_ out_c_ h0_0_ h0_1_ h0_2_ h1_ h2_ => K (.exit 0) (buildS s_TurnNumbers_l0_o0 [.n out_n_, .n out_l_, .n out_c_, .i h0_0_, .f h0_1_, .f h0_2_, .r h1_, .p h2_]))
    | _ => none) ((E_s_QuarterTurn α N).ls 42 5))
theorem E_s_TurnNumbers_l0_ok {α : Type} (N : Nat) : EnvOk Try.prog (E_s_TurnNumbers_l0 α N) := (E_s_QuarterTurn_ok N).addLoop2 Try.func42 (by kernel_rfl) (loopSum_ok prog_mixed prog_names (E_s_QuarterTurn_ok N) Try.func42 (by kernel_rfl) (d := 1) (ro := 0) fun l K r h => by
  split at h
  · exact (s_TurnNumbers_l0_loop N  K N _ _ _ _ _ _ _ _ _).trans h
  · cases h)

/-- spec.TurnNumbers -/
def s_TurnNumbers_a : SPat := ⟨[.agg [.vals [.int .i64], .ints .u8 8, .ints .u8 8]], []⟩
def s_TurnNumbers_r0 : SPat := ⟨[.tuple [.nils, .int .i64]], []⟩
def s_TurnNumbers_r1 : SPat := ⟨[.tuple [.sliceV 0 0 0 1 false, .int .i64]], [[.hdr 1], [.pool .i64]]⟩
theorem s_TurnNumbers_run {α : Type} (N : Nat) (g_0 : Int) (g_1 : Nat → Int) (g_2 : Nat → Int) (K : AV → Heap → Option α) :
    callK Try.prog (E_s_TurnNumbers_l0 α N) 1 42 0 (buildS s_TurnNumbers_a [.i g_0, .f g_1, .f g_2]).t (buildS s_TurnNumbers_a [.i g_0, .f g_1, .f g_2]).h K = s_TurnNumbers none N g_0 g_1 g_2 (fun r_1_ => retK (buildS s_TurnNumbers_r0 [.i r_1_]) K) (fun r_0_n_ r_0_l_ r_0_c_ r_1_ h0_ h1_ => retK (buildS s_TurnNumbers_r1 [.n r_0_n_, .n r_0_l_, .n r_0_c_, .i r_1_, .p h0_, .r h1_]) K) := by kernel_rfl
def E_s_TurnNumbers (α : Type) (N : Nat) : Env α := (E_s_TurnNumbers_l0 α N).addFun 42 true 0 s_TurnNumbers_a (fun l K => match l with
    | [.i g_0, .f g_1, .f g_2] => s_TurnNumbers none N g_0 g_1 g_2 (fun r_1_ => retK (buildS s_TurnNumbers_r0 [.i r_1_]) K) (fun r_0_n_ r_0_l_ r_0_c_ r_1_ h0_ h1_ => retK (buildS s_TurnNumbers_r1 [.n r_0_n_, .n r_0_l_, .n r_0_c_, .i r_1_, .p h0_, .r h1_]) K)
    | _ => none)
theorem E_s_TurnNumbers_ok {α : Type} (N : Nat) : EnvOk Try.prog (E_s_TurnNumbers α N) := (E_s_TurnNumbers_l0_ok N).addFun prog_mixed prog_names (d := 1) fun l K r h => by
  split at h
  · exact (s_TurnNumbers_run N _ _ _ K).trans h
  · cases h

/-- impl.within -/
def i_within_a : SPat := ⟨[.int .i64, .int .i64, .int .i64], []⟩
def i_within_r0 : SPat := ⟨[.bool], []⟩
theorem i_within_run {α : Type} (N : Nat) (x : Int) (low : Int) (high : Int) (K : AV → Heap → Option α) :
    callK Try.prog (E_s_TurnNumbers α N) 1 118 0 (buildS i_within_a [.i x, .i low, .i high]).t (buildS i_within_a [.i x, .i low, .i high]).h K = i_within none N x low high (fun r__ => retK (buildS i_within_r0 [.b r__]) K) := by kernel_rfl
def E_i_within (α : Type) (N : Nat) : Env α := (E_s_TurnNumbers α N).addFun 118 true 0 i_within_a (fun l K => match l with
    | [.i x, .i low, .i high] => i_within none N x low high (fun r__ => retK (buildS i_within_r0 [.b r__]) K)
    | _ => none)
theorem E_i_within_ok {α : Type} (N : Nat) : EnvOk Try.prog (E_i_within α N) := (E_s_TurnNumbers_ok N).addFun prog_mixed prog_names (d := 1) fun l K r h => by
  split at h
  · exact (i_within_run N _ _ _ K).trans h
  · cases h

/-- (impl.Grid).n -/
def i_Grid_n_a : SPat := ⟨[.agg [.vals [.int .i64], .ints .u8 8, .ints .u8 8]], []⟩
def i_Grid_n_r0 : SPat := ⟨[.int .i64], []⟩
theorem i_Grid_n_run {α : Type} (N : Nat) (g_0 : Int) (g_1 : Nat → Int) (g_2 : Nat → Int) (K : AV → Heap → Option α) :
    callK Try.prog (E_i_within α N) 1 59 0 (buildS i_Grid_n_a [.i g_0, .f g_1, .f g_2]).t (buildS i_Grid_n_a [.i g_0, .f g_1, .f g_2]).h K = i_Grid_n none N g_0 g_1 g_2 (retK (buildS i_Grid_n_r0 [.i g_0]) K) := by kernel_rfl
def E_i_Grid_n (α : Type) (N : Nat) : Env α := (E_i_within α N).addFun 59 true 0 i_Grid_n_a (fun l K => match l with
    | [.i g_0, .f g_1, .f g_2] => i_Grid_n none N g_0 g_1 g_2 (retK (buildS i_Grid_n_r0 [.i g_0]) K)
    | _ => none)
theorem E_i_Grid_n_ok {α : Type} (N : Nat) : EnvOk Try.prog (E_i_Grid_n α N) := (E_i_within_ok N).addFun prog_mixed prog_names (d := 1) fun l K r h => by
  split at h
  · exact (i_Grid_n_run N _ _ _ K).trans h
  · cases h

def A_i_isOrder_l0 (α : Type) (N : Nat) : Env α := (E_i_Grid_n α N).addAnn 119 3 { head := [1, 5, 8, 9, 10], grow := [], out := [1, 5], ret := [4] }
theorem A_i_isOrder_l0_ok {α : Type} (N : Nat) : EnvOk Try.prog (A_i_isOrder_l0 α N) := (E_i_Grid_n_ok N).addAnn

/-- impl.isOrder, loop -/
def i_isOrder_l0_s2_p : SPat := ⟨[.undef, .int .i64, .undef, .undef, .undef, .int .i64, .undef, .undef, .slice ⟨⟨0, 0⟩, 1, 0, 8⟩ 8 8 1 true, .intC .i64 8, .int .i64] ++ List.replicate 30 .undef, [[.vals [.int .i64], .ints .u8 8, .ints .u8 8]]⟩
def i_isOrder_l0_s2_o0 : SPat := ⟨[.undef, .undef, .undef, .undef, .boolC false] ++ List.replicate 36 .undef, [[.vals [.int .i64], .ints .u8 8, .ints .u8 8]]⟩
def i_isOrder_l0_s2_o1 : SPat := ⟨[.undef, .int .i64, .undef, .undef, .undef, .int .i64] ++ List.replicate 35 .undef, [[.vals [.int .i64], .ints .u8 8, .ints .u8 8]]⟩
theorem i_isOrder_l0_s2_round {α : Type} (N : Nat) (n : Int) (seen : Int) (t10 : Int) (h0_0 : Int) (h0_1 : Nat → Int) (h0_2 : Nat → Int) (kn : St → Option α) (K : AExit → St → Option α) :
    roundK Try.prog (A_i_isOrder_l0 α N) 1 1 119 Try.f119 3 1 (buildS i_isOrder_l0_s2_p [.i n, .i seen, .i t10, .i h0_0, .f h0_1, .f h0_2]) kn K = i_isOrder_l0_s2_s none n h0_0 h0_1 h0_2 seen t10 (fun seen t10 => kn (buildS i_isOrder_l0_s2_p [.i n, .i seen, .i t10, .i h0_0, .f h0_1, .f h0_2])) (K .ret (buildS i_isOrder_l0_s2_o0 [.i h0_0, .f h0_1, .f h0_2])) (fun seen_ => K (.exit 0) (buildS i_isOrder_l0_s2_o1 [.i n, .i seen_, .i h0_0, .f h0_1, .f h0_2])) := by kernel_rfl
theorem i_isOrder_l0_s2_loop {α : Type} (N : Nat) (n : Int) (h0_0 : Int) (h0_1 : Nat → Int) (h0_2 : Nat → Int) (K : AExit → St → Option α) : ∀ (m : Nat) (seen : Int) (t10 : Int),
    loopN (trimSt ((A_i_isOrder_l0 α N).ann 119 3).head ((A_i_isOrder_l0 α N).ann 119 3).grow 1) (bodyK Try.prog (A_i_isOrder_l0 α N) 1 1 119 Try.f119 3) m (buildS i_isOrder_l0_s2_p [.i n, .i seen, .i t10, .i h0_0, .f h0_1, .f h0_2]) (leaveLoop ((A_i_isOrder_l0 α N).ann 119 3) 1 K) = i_isOrder_l0_s2 none n h0_0 h0_1 h0_2 m seen t10 (K .ret (buildS i_isOrder_l0_s2_o0 [.i h0_0, .f h0_1, .f h0_2])) (fun seen_ => K (.exit 0) (buildS i_isOrder_l0_s2_o1 [.i n, .i seen_, .i h0_0, .f h0_1, .f h0_2])) := by
  intro m
  induction m with
  | zero => intros; rfl
  | succ m ih =>
    intro seen t10
    rw [loopN_round]
    refine (i_isOrder_l0_s2_round N n seen t10 h0_0 h0_1 h0_2 _ K).trans ?_
    simp only [ih]
    rfl
def E_i_isOrder_l0_s2 (α : Type) (N : Nat) : Env α := (A_i_isOrder_l0 α N).addLoop2 119 3 (loopSum2 ((A_i_isOrder_l0 α N).ann 119 3) 1 i_isOrder_l0_s2_p (fun l K => match l with
    | [.i n, .i seen, .i t10, .i h0_0, .f h0_1, .f h0_2] => i_isOrder_l0_s2 none n h0_0 h0_1 h0_2 N seen t10 (K .ret (buildS i_isOrder_l0_s2_o0 [.i h0_0, .f h0_1, .f h0_2])) (fun seen_ => K (.exit 0) (buildS i_isOrder_l0_s2_o1 [.i n, .i seen_, .i h0_0, .f h0_1, .f h0_2]))
    | _ => none) ((A_i_isOrder_l0 α N).ls 119 3))
theorem E_i_isOrder_l0_s2_ok {α : Type} (N : Nat) : EnvOk Try.prog (E_i_isOrder_l0_s2 α N) := (A_i_isOrder_l0_ok N).addLoop2 Try.func119 (by kernel_rfl) (loopSum_ok prog_mixed prog_names (A_i_isOrder_l0_ok N) Try.func119 (by kernel_rfl) (d := 1) (ro := 1) fun l K r h => by
  split at h
  · exact (i_isOrder_l0_s2_loop N _ _ _ _ K N _ _).trans h
  · cases h)

/-- impl.isOrder -/
def i_isOrder_s2_a : SPat := ⟨[.slice ⟨⟨0, 0⟩, 1, 0, 8⟩ 8 8 1 true, .int .i64], [[.vals [.int .i64], .ints .u8 8, .ints .u8 8]]⟩
def i_isOrder_s2_r0 : SPat := ⟨[.bool], [[.vals [.int .i64], .ints .u8 8, .ints .u8 8]]⟩
theorem i_isOrder_s2_run {α : Type} (N : Nat) (n : Int) (h0_0 : Int) (h0_1 : Nat → Int) (h0_2 : Nat → Int) (K : AV → Heap → Option α) :
    callK Try.prog (E_i_isOrder_l0_s2 α N) 1 119 1 (buildS i_isOrder_s2_a [.i n, .i h0_0, .f h0_1, .f h0_2]).t (buildS i_isOrder_s2_a [.i n, .i h0_0, .f h0_1, .f h0_2]).h K = i_isOrder_s2 none N n h0_0 h0_1 h0_2 (fun r__ => retK (buildS i_isOrder_s2_r0 [.b r__, .i h0_0, .f h0_1, .f h0_2]) K) := by kernel_rfl
def E_i_isOrder_s2 (α : Type) (N : Nat) : Env α := (E_i_isOrder_l0_s2 α N).addFun 119 true 1 i_isOrder_s2_a (fun l K => match l with
    | [.i n, .i h0_0, .f h0_1, .f h0_2] => i_isOrder_s2 none N n h0_0 h0_1 h0_2 (fun r__ => retK (buildS i_isOrder_s2_r0 [.b r__, .i h0_0, .f h0_1, .f h0_2]) K)
    | _ => none)
theorem E_i_isOrder_s2_ok {α : Type} (N : Nat) : EnvOk Try.prog (E_i_isOrder_s2 α N) := (E_i_isOrder_l0_s2_ok N).addFun prog_mixed prog_names (d := 1) fun l K r h => by
  split at h
  · exact (i_isOrder_s2_run N _ _ _ _ K).trans h
  · cases h

/-- impl.isOrder, loop -/
def i_isOrder_l0_s3_p : SPat := ⟨[.undef, .int .i64, .undef, .undef, .undef, .int .i64, .undef, .undef, .slice ⟨⟨0, 0⟩, 2, 0, 8⟩ 8 8 1 true, .intC .i64 8, .int .i64] ++ List.replicate 30 .undef, [[.vals [.int .i64], .ints .u8 8, .ints .u8 8]]⟩
def i_isOrder_l0_s3_o0 : SPat := ⟨[.undef, .undef, .undef, .undef, .boolC false] ++ List.replicate 36 .undef, [[.vals [.int .i64], .ints .u8 8, .ints .u8 8]]⟩
def i_isOrder_l0_s3_o1 : SPat := ⟨[.undef, .int .i64, .undef, .undef, .undef, .int .i64] ++ List.replicate 35 .undef, [[.vals [.int .i64], .ints .u8 8, .ints .u8 8]]⟩
theorem i_isOrder_l0_s3_round {α : Type} (N : Nat) (n : Int) (seen : Int) (t10 : Int) (h0_0 : Int) (h0_1 : Nat → Int) (h0_2 : Nat → Int) (kn : St → Option α) (K : AExit → St → Option α) :
    roundK Try.prog (E_i_isOrder_s2 α N) 1 1 119 Try.f119 3 1 (buildS i_isOrder_l0_s3_p [.i n, .i seen, .i t10, .i h0_0, .f h0_1, .f h0_2]) kn K = i_isOrder_l0_s3_s none n h0_0 h0_1 h0_2 seen t10 (fun seen t10 => kn (buildS i_isOrder_l0_s3_p [.i n, .i seen, .i t10, .i h0_0, .f h0_1, .f h0_2])) (K .ret (buildS i_isOrder_l0_s3_o0 [.i h0_0, .f h0_1, .f h0_2])) (fun seen_ => K (.exit 0) (buildS i_isOrder_l0_s3_o1 [.i n, .i seen_, .i h0_0, .f h0_1, .f h0_2])) := by kernel_rfl
theorem i_isOrder_l0_s3_loop {α : Type} (N : Nat) (n : Int) (h0_0 : Int) (h0_1 : Nat → Int) (h0_2 : Nat → Int) (K : AExit → St → Option α) : ∀ (m : Nat) (seen : Int) (t10 : Int),
    loopN (trimSt ((E_i_isOrder_s2 α N).ann 119 3).head ((E_i_isOrder_s2 α N).ann 119 3).grow 1) (bodyK Try.prog (E_i_isOrder_s2 α N) 1 1 119 Try.f119 3) m (buildS i_isOrder_l0_s3_p [.i n, .i seen, .i t10, .i h0_0, .f h0_1, .f h0_2]) (leaveLoop ((E_i_isOrder_s2 α N).ann 119 3) 1 K) = i_isOrder_l0_s3 none n h0_0 h0_1 h0_2 m seen t10 (K .ret (buildS i_isOrder_l0_s3_o0 [.i h0_0, .f h0_1, .f h0_2])) (fun seen_ => K (.exit 0) (buildS i_isOrder_l0_s3_o1 [.i n, .i seen_, .i h0_0, .f h0_1, .f h0_2])) := by
  intro m
  induction m with
  | zero => intros; rfl
  | succ m ih =>
    intro seen t10
    rw [loopN_round]
    refine (i_isOrder_l0_s3_round N n seen t10 h0_0 h0_1 h0_2 _ K).trans ?_
    simp only [ih]
    rfl
def E_i_isOrder_l0_s3 (α : Type) (N : Nat) : Env α := (E_i_isOrder_s2 α N).addLoop2 119 3 (loopSum2 ((E_i_isOrder_s2 α N).ann 119 3) 1 i_isOrder_l0_s3_p (fun l K => match l with
    | [.i n, .i seen, .i t10, .i h0_0, .f h0_1, .f h0_2] => i_isOrder_l0_s3 none n h0_0 h0_1 h0_2 N seen t10 (K .ret (buildS i_isOrder_l0_s3_o0 [.i h0_0, .f h0_1, .f h0_2])) (fun seen_ => K (.exit 0) (buildS i_isOrder_l0_s3_o1 [.i n, .i seen_, .i h0_0, .f h0_1, .f h0_2]))
    | _ => none) ((E_i_isOrder_s2 α N).ls 119 3))
theorem E_i_isOrder_l0_s3_ok {α : Type} (N : Nat) : EnvOk Try.prog (E_i_isOrder_l0_s3 α N) := (E_i_isOrder_s2_ok N).addLoop2 Try.func119 (by kernel_rfl) (loopSum_ok prog_mixed prog_names (E_i_isOrder_s2_ok N) Try.func119 (by kernel_rfl) (d := 1) (ro := 1) fun l K r h => by
  split at h
  · exact (i_isOrder_l0_s3_loop N _ _ _ _ K N _ _).trans h
  · cases h)

/-- impl.isOrder -/
def i_isOrder_s3_a : SPat := ⟨[.slice ⟨⟨0, 0⟩, 2, 0, 8⟩ 8 8 1 true, .int .i64], [[.vals [.int .i64], .ints .u8 8, .ints .u8 8]]⟩
def i_isOrder_s3_r0 : SPat := ⟨[.bool], [[.vals [.int .i64], .ints .u8 8, .ints .u8 8]]⟩
theorem i_isOrder_s3_run {α : Type} (N : Nat) (n : Int) (h0_0 : Int) (h0_1 : Nat → Int) (h0_2 : Nat → Int) (K : AV → Heap → Option α) :
    callK Try.prog (E_i_isOrder_l0_s3 α N) 1 119 1 (buildS i_isOrder_s3_a [.i n, .i h0_0, .f h0_1, .f h0_2]).t (buildS i_isOrder_s3_a [.i n, .i h0_0, .f h0_1, .f h0_2]).h K = i_isOrder_s3 none N n h0_0 h0_1 h0_2 (fun r__ => retK (buildS i_isOrder_s3_r0 [.b r__, .i h0_0, .f h0_1, .f h0_2]) K) := by kernel_rfl
def E_i_isOrder_s3 (α : Type) (N : Nat) : Env α := (E_i_isOrder_l0_s3 α N).addFun 119 true 1 i_isOrder_s3_a (fun l K => match l with
    | [.i n, .i h0_0, .f h0_1, .f h0_2] => i_isOrder_s3 none N n h0_0 h0_1 h0_2 (fun r__ => retK (buildS i_isOrder_s3_r0 [.b r__, .i h0_0, .f h0_1, .f h0_2]) K)
    | _ => none)
theorem E_i_isOrder_s3_ok {α : Type} (N : Nat) : EnvOk Try.prog (E_i_isOrder_s3 α N) := (E_i_isOrder_l0_s3_ok N).addFun prog_mixed prog_names (d := 1) fun l K r h => by
  split at h
  · exact (i_isOrder_s3_run N _ _ _ _ K).trans h
  · cases h

def A_i_IsGrid_l0 (α : Type) (N : Nat) : Env α := (E_i_isOrder_s3 α N).addAnn 57 4 { head := [1, 25, 26], grow := [], out := [], ret := [2] }
theorem A_i_IsGrid_l0_ok {α : Type} (N : Nat) : EnvOk Try.prog (A_i_IsGrid_l0 α N) := (E_i_isOrder_s3_ok N).addAnn

/-- impl.IsGrid, loop -/
def i_IsGrid_l0_p : SPat := ⟨[.undef, .ptr ⟨⟨0, 0⟩, 0, 0, 1⟩, .undef, .undef, .undef, .undef, .undef, .undef, .undef, .undef, .undef, .undef, .undef, .undef, .undef, .undef, .undef, .undef, .undef, .undef, .undef, .undef, .undef, .undef, .undef, .int .i64, .int .i64] ++ List.replicate 12 .undef, [[.vals [.int .i64], .ints .u8 8, .ints .u8 8]]⟩
def i_IsGrid_l0_o0 : SPat := ⟨[.undef, .undef, .boolC false] ++ List.replicate 36 .undef, [[.vals [.int .i64], .ints .u8 8, .ints .u8 8]]⟩
def i_IsGrid_l0_o1 : SPat := ⟨[] ++ List.replicate 39 .undef, [[.vals [.int .i64], .ints .u8 8, .ints .u8 8]]⟩
theorem i_IsGrid_l0_round {α : Type} (N : Nat) (t25 : Int) (t26 : Int) (h0_0 : Int) (h0_1 : Nat → Int) (h0_2 : Nat → Int) (kn : St → Option α) (K : AExit → St → Option α) :
    roundK Try.prog (A_i_IsGrid_l0 α N) 1 0 57 Try.f57 4 1 (buildS i_IsGrid_l0_p [.i t25, .i t26, .i h0_0, .f h0_1, .f h0_2]) kn K = i_IsGrid_l0_s none t25 h0_0 h0_1 h0_2 t26 (fun t26 => kn (buildS i_IsGrid_l0_p [.i t25, .i t26, .i h0_0, .f h0_1, .f h0_2])) (K .ret (buildS i_IsGrid_l0_o0 [.i h0_0, .f h0_1, .f h0_2])) (K (.exit 0) (buildS i_IsGrid_l0_o1 [.i h0_0, .f h0_1, .f h0_2])) := by kernel_rfl
theorem i_IsGrid_l0_loop {α : Type} (N : Nat) (t25 : Int) (h0_0 : Int) (h0_1 : Nat → Int) (h0_2 : Nat → Int) (K : AExit → St → Option α) : ∀ (m : Nat) (t26 : Int),
    loopN (trimSt ((A_i_IsGrid_l0 α N).ann 57 4).head ((A_i_IsGrid_l0 α N).ann 57 4).grow 1) (bodyK Try.prog (A_i_IsGrid_l0 α N) 1 0 57 Try.f57 4) m (buildS i_IsGrid_l0_p [.i t25, .i t26, .i h0_0, .f h0_1, .f h0_2]) (leaveLoop ((A_i_IsGrid_l0 α N).ann 57 4) 1 K) = i_IsGrid_l0 none t25 h0_0 h0_1 h0_2 m t26 (K .ret (buildS i_IsGrid_l0_o0 [.i h0_0, .f h0_1, .f h0_2])) (K (.exit 0) (buildS i_IsGrid_l0_o1 [.i h0_0, .f h0_1, .f h0_2])) := by
  intro m
  induction m with
  | zero => intros; rfl
  | succ m ih =>
    intro t26
    rw [loopN_round]
    refine (i_IsGrid_l0_round N t25 t26 h0_0 h0_1 h0_2 _ K).trans ?_
    simp only [ih]
    rfl
def E_i_IsGrid_l0 (α : Type) (N : Nat) : Env α := (A_i_IsGrid_l0 α N).addLoop2 57 4 (loopSum2 ((A_i_IsGrid_l0 α N).ann 57 4) 0 i_IsGrid_l0_p (fun l K => match l with
    | [.i t25, .i t26, .i h0_0, .f h0_1, .f h0_2] => i_IsGrid_l0 none t25 h0_0 h0_1 h0_2 N t26 (K .ret (buildS i_IsGrid_l0_o0 [.i h0_0, .f h0_1, .f h0_2])) (K (.exit 0) (buildS i_IsGrid_l0_o1 [.i h0_0, .f h0_1, .f h0_2]))
    | _ => none) ((A_i_IsGrid_l0 α N).ls 57 4))
theorem E_i_IsGrid_l0_ok {α : Type} (N : Nat) : EnvOk Try.prog (E_i_IsGrid_l0 α N) := (A_i_IsGrid_l0_ok N).addLoop2 Try.func57 (by kernel_rfl) (loopSum_ok prog_mixed prog_names (A_i_IsGrid_l0_ok N) Try.func57 (by kernel_rfl) (d := 1) (ro := 0) fun l K r h => by
  split at h
  · exact (i_IsGrid_l0_loop N _ _ _ _ K N _).trans h
  · cases h)

/-- impl.IsGrid -/
def i_IsGrid_a : SPat := ⟨[.agg [.vals [.int .i64], .ints .u8 8, .ints .u8 8]], []⟩
def i_IsGrid_r0 : SPat := ⟨[.bool], []⟩
theorem i_IsGrid_run {α : Type} (N : Nat) (g_0 : Int) (g_1 : Nat → Int) (g_2 : Nat → Int) (K : AV → Heap → Option α) :
    callK Try.prog (E_i_IsGrid_l0 α N) 1 57 0 (buildS i_IsGrid_a [.i g_0, .f g_1, .f g_2]).t (buildS i_IsGrid_a [.i g_0, .f g_1, .f g_2]).h K = i_IsGrid none N g_0 g_1 g_2 (fun r__ => retK (buildS i_IsGrid_r0 [.b r__]) K) := by kernel_rfl
def E_i_IsGrid (α : Type) (N : Nat) : Env α := (E_i_IsGrid_l0 α N).addFun 57 true 0 i_IsGrid_a (fun l K => match l with
    | [.i g_0, .f g_1, .f g_2] => i_IsGrid none N g_0 g_1 g_2 (fun r__ => retK (buildS i_IsGrid_r0 [.b r__]) K)
    | _ => none)
theorem E_i_IsGrid_ok {α : Type} (N : Nat) : EnvOk Try.prog (E_i_IsGrid α N) := (E_i_IsGrid_l0_ok N).addFun prog_mixed prog_names (d := 1) fun l K r h => by
  split at h
  · exact (i_IsGrid_run N _ _ _ K).trans h
  · cases h

def A_i_TurnNumbers_1_l0 (α : Type) (N : Nat) : Env α := (E_i_IsGrid α N).addAnn 96 3 { head := [1, 3, 5], grow := [3], out := [3], ret := [2] }
theorem A_i_TurnNumbers_1_l0_ok {α : Type} (N : Nat) : EnvOk Try.prog (A_i_TurnNumbers_1_l0 α N) := (E_i_IsGrid_ok N).addAnn

def A_i_Grid_places_l0 (α : Type) (N : Nat) : Env α := (A_i_TurnNumbers_1_l0 α N).addAnn 125 3 { head := [3, 4, 5, 9, 10], grow := [], out := [4, 5], ret := [4] }
theorem A_i_Grid_places_l0_ok {α : Type} (N : Nat) : EnvOk Try.prog (A_i_Grid_places_l0 α N) := (A_i_TurnNumbers_1_l0_ok N).addAnn

/-- (impl.Grid).places, loop -/
def i_Grid_places_l0_p : SPat := ⟨[.undef, .undef, .undef, .ptr ⟨⟨1, 0⟩, 0, 0, 8⟩, .ptr ⟨⟨2, 0⟩, 0, 0, 8⟩, .ptr ⟨⟨3, 0⟩, 0, 0, 8⟩, .undef, .undef, .undef, .int .i64, .int .i64] ++ List.replicate 9 .undef, [[.vals [.int .i64], .ints .u8 8, .ints .u8 8], [.ints .u8 8], [.ints .i64 8], [.ints .i64 8]]⟩
def i_Grid_places_l0_o0 : SPat := ⟨[.undef, .undef, .undef, .undef, .ptr ⟨⟨2, 0⟩, 0, 0, 8⟩, .ptr ⟨⟨3, 0⟩, 0, 0, 8⟩] ++ List.replicate 14 .undef, [[.vals [.int .i64], .ints .u8 8, .ints .u8 8], [.ints .u8 8], [.ints .i64 8], [.ints .i64 8]]⟩
theorem i_Grid_places_l0_round {α : Type} (N : Nat) (t9 : Int) (t10 : Int) (h0_0 : Int) (h0_1 : Nat → Int) (h0_2 : Nat → Int) (h1 : Nat → Int) (h2 : Nat → Int) (h3 : Nat → Int) (kn : St → Option α) (K : AExit → St → Option α) :
    roundK Try.prog (A_i_Grid_places_l0 α N) 1 0 125 Try.f125 3 4 (buildS i_Grid_places_l0_p [.i t9, .i t10, .i h0_0, .f h0_1, .f h0_2, .f h1, .f h2, .f h3]) kn K = i_Grid_places_l0_s none t9 h0_0 h0_1 h0_2 h1 h2 t10 h3 (fun t10 h3 => kn (buildS i_Grid_places_l0_p [.i t9, .i t10, .i h0_0, .f h0_1, .f h0_2, .f h1, .f h2, .f h3])) (fun h3_ => K (.exit 0) (buildS i_Grid_places_l0_o0 [.i h0_0, .f h0_1, .f h0_2, .f h1, .f h2, .f h3_])) := by kernel_rfl
theorem i_Grid_places_l0_loop {α : Type} (N : Nat) (t9 : Int) (h0_0 : Int) (h0_1 : Nat → Int) (h0_2 : Nat → Int) (h1 : Nat → Int) (h2 : Nat → Int) (K : AExit → St → Option α) : ∀ (m : Nat) (t10 : Int) (h3 : Nat → Int),
    loopN (trimSt ((A_i_Grid_places_l0 α N).ann 125 3).head ((A_i_Grid_places_l0 α N).ann 125 3).grow 4) (bodyK Try.prog (A_i_Grid_places_l0 α N) 1 0 125 Try.f125 3) m (buildS i_Grid_places_l0_p [.i t9, .i t10, .i h0_0, .f h0_1, .f h0_2, .f h1, .f h2, .f h3]) (leaveLoop ((A_i_Grid_places_l0 α N).ann 125 3) 4 K) = i_Grid_places_l0 none t9 h0_0 h0_1 h0_2 h1 h2 m t10 h3 (fun h3_ => K (.exit 0) (buildS i_Grid_places_l0_o0 [.i h0_0, .f h0_1, .f h0_2, .f h1, .f h2, .f h3_])) := by
  intro m
  induction m with
  | zero => intros; rfl
  | succ m ih =>
    intro t10 h3
    rw [loopN_round]
    refine (i_Grid_places_l0_round N t9 t10 h0_0 h0_1 h0_2 h1 h2 h3 _ K).trans ?_
    simp only [ih]
    rfl
def E_i_Grid_places_l0 (α : Type) (N : Nat) : Env α := (A_i_Grid_places_l0 α N).addLoop2 125 3 (loopSum2 ((A_i_Grid_places_l0 α N).ann 125 3) 0 i_Grid_places_l0_p (fun l K => match l with
    | [.i t9, .i t10, .i h0_0, .f h0_1, .f h0_2, .f h1, .f h2, .f h3] => i_Grid_places_l0 none t9 h0_0 h0_1 h0_2 h1 h2 N t10 h3 (fun h3_ => K (.exit 0) (buildS i_Grid_places_l0_o0 [.i h0_0, .f h0_1, .f h0_2, .f h1, .f h2, .f h3_]))
    | _ => none) ((A_i_Grid_places_l0 α N).ls 125 3))
theorem E_i_Grid_places_l0_ok {α : Type} (N : Nat) : EnvOk Try.prog (E_i_Grid_places_l0 α N) := (A_i_Grid_places_l0_ok N).addLoop2 Try.func125 (by kernel_rfl) (loopSum_ok prog_mixed prog_names (A_i_Grid_places_l0_ok N) Try.func125 (by kernel_rfl) (d := 1) (ro := 0) fun l K r h => by
  split at h
  · exact (i_Grid_places_l0_loop N _ _ _ _ _ _ K N _ _).trans h
  · cases h)

/-- (impl.Grid).places -/
def i_Grid_places_a : SPat := ⟨[.agg [.vals [.int .i64], .ints .u8 8, .ints .u8 8], .agg [.ints .u8 8]], []⟩
def i_Grid_places_r0 : SPat := ⟨[.agg [.ints .i64 8]], []⟩
theorem i_Grid_places_run {α : Type} (N : Nat) (g_0 : Int) (g_1 : Nat → Int) (g_2 : Nat → Int) (rows : Nat → Int) (K : AV → Heap → Option α) :
    callK Try.prog (E_i_Grid_places_l0 α N) 1 125 0 (buildS i_Grid_places_a [.i g_0, .f g_1, .f g_2, .f rows]).t (buildS i_Grid_places_a [.i g_0, .f g_1, .f g_2, .f rows]).h K = i_Grid_places none N g_0 g_1 g_2 rows (fun r__ => retK (buildS i_Grid_places_r0 [.f r__]) K) := by kernel_rfl
def E_i_Grid_places (α : Type) (N : Nat) : Env α := (E_i_Grid_places_l0 α N).addFun 125 true 0 i_Grid_places_a (fun l K => match l with
    | [.i g_0, .f g_1, .f g_2, .f rows] => i_Grid_places none N g_0 g_1 g_2 rows (fun r__ => retK (buildS i_Grid_places_r0 [.f r__]) K)
    | _ => none)
theorem E_i_Grid_places_ok {α : Type} (N : Nat) : EnvOk Try.prog (E_i_Grid_places α N) := (E_i_Grid_places_l0_ok N).addFun prog_mixed prog_names (d := 1) fun l K r h => by
  split at h
  · exact (i_Grid_places_run N _ _ _ _ K).trans h
  · cases h

def A_i_Grid_corners_l0 (α : Type) (N : Nat) : Env α := (E_i_Grid_places α N).addAnn 84 3 { head := [1, 3, 4, 5, 19, 20], grow := [5], out := [5], ret := [2] }
theorem A_i_Grid_corners_l0_ok {α : Type} (N : Nat) : EnvOk Try.prog (A_i_Grid_corners_l0 α N) := (E_i_Grid_places_ok N).addAnn

/-- impl.kind -/
def i_kind_a : SPat := ⟨[.int .i64, .int .i64, .int .i64, .int .i64], []⟩
def i_kind_r0 : SPat := ⟨[.int .i64], []⟩
theorem i_kind_run {α : Type} (N : Nat) (column : Int) (row : Int) (otherRow : Int) (otherColumn : Int) (K : AV → Heap → Option α) :
    callK Try.prog (A_i_Grid_corners_l0 α N) 1 134 0 (buildS i_kind_a [.i column, .i row, .i otherRow, .i otherColumn]).t (buildS i_kind_a [.i column, .i row, .i otherRow, .i otherColumn]).h K = i_kind none N column row otherRow otherColumn (fun r__ => retK (buildS i_kind_r0 [.i r__]) K) := by kernel_rfl
def E_i_kind (α : Type) (N : Nat) : Env α := (A_i_Grid_corners_l0 α N).addFun 134 true 0 i_kind_a (fun l K => match l with
    | [.i column, .i row, .i otherRow, .i otherColumn] => i_kind none N column row otherRow otherColumn (fun r__ => retK (buildS i_kind_r0 [.i r__]) K)
    | _ => none)
theorem E_i_kind_ok {α : Type} (N : Nat) : EnvOk Try.prog (E_i_kind α N) := (A_i_Grid_corners_l0_ok N).addFun prog_mixed prog_names (d := 1) fun l K r h => by
  split at h
  · exact (i_kind_run N _ _ _ _ K).trans h
  · cases h

/-- (impl.Grid).corners, loop -/
def i_Grid_corners_l0_p : SPat := ⟨[.undef, .ptr ⟨⟨0, 0⟩, 0, 0, 1⟩, .undef, .ptr ⟨⟨2, 0⟩, 0, 0, 8⟩, .ptr ⟨⟨3, 0⟩, 0, 0, 8⟩, .sliceV 1 0 0 4 false, .undef, .undef, .undef, .undef, .undef, .undef, .undef, .undef, .undef, .undef, .undef, .undef, .undef, .int .i64, .int .i64] ++ List.replicate 40 .undef, [[.vals [.int .i64], .ints .u8 8, .ints .u8 8], [.recs [some IntKind.i64, some IntKind.i64, some IntKind.i64, none]], [.ints .i64 8], [.ints .i64 8]]⟩
def i_Grid_corners_l0_o0 : SPat := ⟨[.undef, .undef, .undef, .undef, .undef, .sliceV 1 0 0 4 false] ++ List.replicate 55 .undef, [[.vals [.int .i64], .ints .u8 8, .ints .u8 8], [.recs [some IntKind.i64, some IntKind.i64, some IntKind.i64, none]], [.ints .i64 8], [.ints .i64 8]]⟩
theorem i_Grid_corners_l0_round {α : Type} (N : Nat) (out_n : Nat) (out_l : Nat) (out_c : Nat) (t19 : Int) (t20 : Int) (h0_0 : Int) (h0_1 : Nat → Int) (h0_2 : Nat → Int) (h1 : List Int) (h2 : Nat → Int) (h3 : Nat → Int) (kn : St → Option α) (K : AExit → St → Option α) :
    roundK Try.prog (E_i_kind α N) 1 0 84 Try.f84 3 4 (buildS i_Grid_corners_l0_p [.n out_n, .n out_l, .n out_c, .i t19, .i t20, .i h0_0, .f h0_1, .f h0_2, .l h1, .f h2, .f h3]) kn K = i_Grid_corners_l0_s none N t19 h0_0 h0_1 h0_2 h2 h3 out_n out_l out_c t20 h1 (fun out_n out_l out_c t20 h1 => kn (buildS i_Grid_corners_l0_p [.n out_n, .n out_l, .n out_c, .i t19, .i t20, .i h0_0, .f h0_1, .f h0_2, .l h1, .f h2, .f h3])) (fun out_n_ out_l_ out_c_ h1_ => K (.exit 0) (buildS i_Grid_corners_l0_o0 [.n out_n_, .n out_l_, .n out_c_, .i h0_0, .f h0_1, .f h0_2, .l h1_, .f h2, .f h3])) := by kernel_rfl
theorem i_Grid_corners_l0_loop {α : Type} (N : Nat) (t19 : Int) (h0_0 : Int) (h0_1 : Nat → Int) (h0_2 : Nat → Int) (h2 : Nat → Int) (h3 : Nat → Int) (K : AExit → St → Option α) : ∀ (m : Nat) (out_n : Nat) (out_l : Nat) (out_c : Nat) (t20 : Int) (h1 : List Int),
    loopN (trimSt ((E_i_kind α N).ann 84 3).head ((E_i_kind α N).ann 84 3).grow 4) (bodyK Try.prog (E_i_kind α N) 1 0 84 Try.f84 3) m (buildS i_Grid_corners_l0_p [.n out_n, .n out_l, .n out_c, .i t19, .i t20, .i h0_0, .f h0_1, .f h0_2, .l h1, .f h2, .f h3]) (leaveLoop ((E_i_kind α N).ann 84 3) 4 K) = i_Grid_corners_l0 none N t19 h0_0 h0_1 h0_2 h2 h3 m out_n out_l out_c t20 h1 (fun out_n_ out_l_ out_c_ h1_ => K (.exit 0) (buildS i_Grid_corners_l0_o0 [.n out_n_, .n out_l_, .n out_c_, .i h0_0, .f h0_1, .f h0_2, .l h1_, .f h2, .f h3])) := by
  intro m
  induction m with
  | zero => intros; rfl
  | succ m ih =>
    intro out_n out_l out_c t20 h1
    rw [loopN_round]
    refine (i_Grid_corners_l0_round N out_n out_l out_c t19 t20 h0_0 h0_1 h0_2 h1 h2 h3 _ K).trans ?_
    simp only [ih]
    rfl
def E_i_Grid_corners_l0 (α : Type) (N : Nat) : Env α := (E_i_kind α N).addLoop2 84 3 (loopSum2 ((E_i_kind α N).ann 84 3) 0 i_Grid_corners_l0_p (fun l K => match l with
    | [.n out_n, .n out_l, .n out_c, .i t19, .i t20, .i h0_0, .f h0_1, .f h0_2, .l h1, .f h2, .f h3] => i_Grid_corners_l0 none N t19 h0_0 h0_1 h0_2 h2 h3 N out_n out_l out_c t20 h1 (fun out_n_ out_l_ out_c_ h1_ => K (.exit 0) (buildS i_Grid_corners_l0_o0 [.n out_n_, .n out_l_, .n out_c_, .i h0_0, .f h0_1, .f h0_2, .l h1_, .f h2, .f h3]))
    | _ => none) ((E_i_kind α N).ls 84 3))
theorem E_i_Grid_corners_l0_ok {α : Type} (N : Nat) : EnvOk Try.prog (E_i_Grid_corners_l0 α N) := (E_i_kind_ok N).addLoop2 Try.func84 (by kernel_rfl) (loopSum_ok prog_mixed prog_names (E_i_kind_ok N) Try.func84 (by kernel_rfl) (d := 1) (ro := 0) fun l K r h => by
  split at h
  · exact (i_Grid_corners_l0_loop N _ _ _ _ _ _ K N _ _ _ _ _).trans h
  · cases h)

/-- (impl.Grid).corners -/
def i_Grid_corners_a : SPat := ⟨[.agg [.vals [.int .i64], .ints .u8 8, .ints .u8 8]], []⟩
def i_Grid_corners_r0 : SPat := ⟨[.sliceV 0 0 0 4 false], [[.recs [some IntKind.i64, some IntKind.i64, some IntKind.i64, none]]]⟩
theorem i_Grid_corners_run {α : Type} (N : Nat) (g_0 : Int) (g_1 : Nat → Int) (g_2 : Nat → Int) (K : AV → Heap → Option α) :
    callK Try.prog (E_i_Grid_corners_l0 α N) 1 84 0 (buildS i_Grid_corners_a [.i g_0, .f g_1, .f g_2]).t (buildS i_Grid_corners_a [.i g_0, .f g_1, .f g_2]).h K = i_Grid_corners none N g_0 g_1 g_2 (fun r_n_ r_l_ r_c_ h0_ => retK (buildS i_Grid_corners_r0 [.n r_n_, .n r_l_, .n r_c_, .l h0_]) K) := by kernel_rfl
def E_i_Grid_corners (α : Type) (N : Nat) : Env α := (E_i_Grid_corners_l0 α N).addFun 84 true 0 i_Grid_corners_a (fun l K => match l with
    | [.i g_0, .f g_1, .f g_2] => i_Grid_corners none N g_0 g_1 g_2 (fun r_n_ r_l_ r_c_ h0_ => retK (buildS i_Grid_corners_r0 [.n r_n_, .n r_l_, .n r_c_, .l h0_]) K)
    | _ => none)
theorem E_i_Grid_corners_ok {α : Type} (N : Nat) : EnvOk Try.prog (E_i_Grid_corners α N) := (E_i_Grid_corners_l0_ok N).addFun prog_mixed prog_names (d := 1) fun l K r h => by
  split at h
  · exact (i_Grid_corners_run N _ _ _ K).trans h
  · cases h

def A_i_Grid_front_l0 (α : Type) (N : Nat) : Env α := (E_i_Grid_corners α N).addAnn 137 3 { head := [2, 3, 8, 9, 10], grow := [], out := [2, 3], ret := [2] }
theorem A_i_Grid_front_l0_ok {α : Type} (N : Nat) : EnvOk Try.prog (A_i_Grid_front_l0 α N) := (E_i_Grid_corners_ok N).addAnn

/-- (impl.Corner).isCusp -/
def i_Corner_isCusp_a : SPat := ⟨[.agg [.vals [.int .i64, .int .i64, .int .i64, .bool]]], []⟩
def i_Corner_isCusp_r0 : SPat := ⟨[.bool], []⟩
theorem i_Corner_isCusp_run {α : Type} (N : Nat) (c_0 : Int) (c_1 : Int) (c_2 : Int) (c_3 : Bool) (K : AV → Heap → Option α) :
    callK Try.prog (A_i_Grid_front_l0 α N) 1 135 0 (buildS i_Corner_isCusp_a [.i c_0, .i c_1, .i c_2, .b c_3]).t (buildS i_Corner_isCusp_a [.i c_0, .i c_1, .i c_2, .b c_3]).h K = i_Corner_isCusp none N c_0 c_1 c_2 c_3 (fun r__ => retK (buildS i_Corner_isCusp_r0 [.b r__]) K) := by kernel_rfl
def E_i_Corner_isCusp (α : Type) (N : Nat) : Env α := (A_i_Grid_front_l0 α N).addFun 135 true 0 i_Corner_isCusp_a (fun l K => match l with
    | [.i c_0, .i c_1, .i c_2, .b c_3] => i_Corner_isCusp none N c_0 c_1 c_2 c_3 (fun r__ => retK (buildS i_Corner_isCusp_r0 [.b r__]) K)
    | _ => none)
theorem E_i_Corner_isCusp_ok {α : Type} (N : Nat) : EnvOk Try.prog (E_i_Corner_isCusp α N) := (A_i_Grid_front_l0_ok N).addFun prog_mixed prog_names (d := 1) fun l K r h => by
  split at h
  · exact (i_Corner_isCusp_run N _ _ _ _ K).trans h
  · cases h

/-- (impl.Corner).letter -/
def i_Corner_letter_a : SPat := ⟨[.agg [.vals [.int .i64, .int .i64, .int .i64, .bool]]], []⟩
def i_Corner_letter_r0 : SPat := ⟨[.str], []⟩
theorem i_Corner_letter_run {α : Type} (N : Nat) (c_0 : Int) (c_1 : Int) (c_2 : Int) (c_3 : Bool) (K : AV → Heap → Option α) :
    callK Try.prog (E_i_Corner_isCusp α N) 1 86 0 (buildS i_Corner_letter_a [.i c_0, .i c_1, .i c_2, .b c_3]).t (buildS i_Corner_letter_a [.i c_0, .i c_1, .i c_2, .b c_3]).h K = i_Corner_letter none N c_0 c_1 c_2 c_3 (fun r__ => retK (buildS i_Corner_letter_r0 [.s r__]) K) := by kernel_rfl
def E_i_Corner_letter (α : Type) (N : Nat) : Env α := (E_i_Corner_isCusp α N).addFun 86 true 0 i_Corner_letter_a (fun l K => match l with
    | [.i c_0, .i c_1, .i c_2, .b c_3] => i_Corner_letter none N c_0 c_1 c_2 c_3 (fun r__ => retK (buildS i_Corner_letter_r0 [.s r__]) K)
    | _ => none)
theorem E_i_Corner_letter_ok {α : Type} (N : Nat) : EnvOk Try.prog (E_i_Corner_letter α N) := (E_i_Corner_isCusp_ok N).addFun prog_mixed prog_names (d := 1) fun l K r h => by
  split at h
  · exact (i_Corner_letter_run N _ _ _ _ K).trans h
  · cases h

/-- (*impl.front).add -/
def i_front_add_a : SPat := ⟨[.ptr ⟨⟨0, 0⟩, 0, 0, 3⟩, .agg [.vals [.int .i64, .int .i64, .int .i64, .bool]]], [[.ints .i64 3]]⟩
def i_front_add_r0 : SPat := ⟨[.tuple []], [[.ints .i64 3]]⟩
theorem i_front_add_run {α : Type} (N : Nat) (c_0 : Int) (c_1 : Int) (c_2 : Int) (c_3 : Bool) (h0 : Nat → Int) (K : AV → Heap → Option α) :
    callK Try.prog (E_i_Corner_letter α N) 1 109 0 (buildS i_front_add_a [.i c_0, .i c_1, .i c_2, .b c_3, .f h0]).t (buildS i_front_add_a [.i c_0, .i c_1, .i c_2, .b c_3, .f h0]).h K = i_front_add none N c_0 c_1 c_2 c_3 h0 (fun h0_ => retK (buildS i_front_add_r0 [.f h0_]) K) := by kernel_rfl
def E_i_front_add (α : Type) (N : Nat) : Env α := (E_i_Corner_letter α N).addFun 109 false 0 i_front_add_a (fun l K => match l with
    | [.i c_0, .i c_1, .i c_2, .b c_3, .f h0] => i_front_add none N c_0 c_1 c_2 c_3 h0 (fun h0_ => retK (buildS i_front_add_r0 [.f h0_]) K)
    | _ => none)
theorem E_i_front_add_ok {α : Type} (N : Nat) : EnvOk Try.prog (E_i_front_add α N) := (E_i_Corner_letter_ok N).addFun prog_mixed prog_names (d := 1) fun l K r h => by
  split at h
  · exact (i_front_add_run N _ _ _ _ _ K).trans h
  · cases h

/-- (impl.Grid).front, loop -/
def i_Grid_front_l0_p : SPat := ⟨[.undef, .undef, .ptr ⟨⟨1, 0⟩, 0, 0, 3⟩, .ptr ⟨⟨2, 0⟩, 0, 0, 3⟩, .undef, .undef, .undef, .undef, .sliceV 3 0 0 4 false, .int .i64, .int .i64] ++ List.replicate 7 .undef, [[.vals [.int .i64], .ints .u8 8, .ints .u8 8], [.ints .i64 3], [.ints .i64 3], [.recs [some IntKind.i64, some IntKind.i64, some IntKind.i64, none]]]⟩
def i_Grid_front_l0_o0 : SPat := ⟨[.undef, .undef, .ptr ⟨⟨1, 0⟩, 0, 0, 3⟩, .ptr ⟨⟨2, 0⟩, 0, 0, 3⟩] ++ List.replicate 14 .undef, [[.vals [.int .i64], .ints .u8 8, .ints .u8 8], [.ints .i64 3], [.ints .i64 3], [.recs [some IntKind.i64, some IntKind.i64, some IntKind.i64, none]]]⟩
theorem i_Grid_front_l0_round {α : Type} (N : Nat) (t8_n : Nat) (t8_l : Nat) (t8_c : Nat) (t9 : Int) (t10 : Int) (h0_0 : Int) (h0_1 : Nat → Int) (h0_2 : Nat → Int) (h1 : Nat → Int) (h2 : Nat → Int) (h3 : List Int) (kn : St → Option α) (K : AExit → St → Option α) :
    roundK Try.prog (E_i_front_add α N) 1 0 137 Try.f137 3 4 (buildS i_Grid_front_l0_p [.n t8_n, .n t8_l, .n t8_c, .i t9, .i t10, .i h0_0, .f h0_1, .f h0_2, .f h1, .f h2, .l h3]) kn K = i_Grid_front_l0_s none N t8_n t8_l t8_c t9 h0_0 h0_1 h0_2 h1 h3 t10 h2 (fun t10 h2 => kn (buildS i_Grid_front_l0_p [.n t8_n, .n t8_l, .n t8_c, .i t9, .i t10, .i h0_0, .f h0_1, .f h0_2, .f h1, .f h2, .l h3])) (fun h2_ => K (.exit 0) (buildS i_Grid_front_l0_o0 [.i h0_0, .f h0_1, .f h0_2, .f h1, .f h2_, .l h3])) := by kernel_rfl
theorem i_Grid_front_l0_loop {α : Type} (N : Nat) (t8_n : Nat) (t8_l : Nat) (t8_c : Nat) (t9 : Int) (h0_0 : Int) (h0_1 : Nat → Int) (h0_2 : Nat → Int) (h1 : Nat → Int) (h3 : List Int) (K : AExit → St → Option α) : ∀ (m : Nat) (t10 : Int) (h2 : Nat → Int),
    loopN (trimSt ((E_i_front_add α N).ann 137 3).head ((E_i_front_add α N).ann 137 3).grow 4) (bodyK Try.prog (E_i_front_add α N) 1 0 137 Try.f137 3) m (buildS i_Grid_front_l0_p [.n t8_n, .n t8_l, .n t8_c, .i t9, .i t10, .i h0_0, .f h0_1, .f h0_2, .f h1, .f h2, .l h3]) (leaveLoop ((E_i_front_add α N).ann 137 3) 4 K) = i_Grid_front_l0 none N t8_n t8_l t8_c t9 h0_0 h0_1 h0_2 h1 h3 m t10 h2 (fun h2_ => K (.exit 0) (buildS i_Grid_front_l0_o0 [.i h0_0, .f h0_1, .f h0_2, .f h1, .f h2_, .l h3])) := by
  intro m
  induction m with
  | zero => intros; rfl
  | succ m ih =>
    intro t10 h2
    rw [loopN_round]
    refine (i_Grid_front_l0_round N t8_n t8_l t8_c t9 t10 h0_0 h0_1 h0_2 h1 h2 h3 _ K).trans ?_
    simp only [ih]
    rfl
def E_i_Grid_front_l0 (α : Type) (N : Nat) : Env α := (E_i_front_add α N).addLoop2 137 3 (loopSum2 ((E_i_front_add α N).ann 137 3) 0 i_Grid_front_l0_p (fun l K => match l with
    | [.n t8_n, .n t8_l, .n t8_c, .i t9, .i t10, .i h0_0, .f h0_1, .f h0_2, .f h1, .f h2, .l h3] => i_Grid_front_l0 none N t8_n t8_l t8_c t9 h0_0 h0_1 h0_2 h1 h3 N t10 h2 (fun h2_ => K (.exit 0) (buildS i_Grid_front_l0_o0 [.i h0_0, .f h0_1, .f h0_2, .f h1, .f h2_, .l h3]))
    | _ => none) ((E_i_front_add α N).ls 137 3))
theorem E_i_Grid_front_l0_ok {α : Type} (N : Nat) : EnvOk Try.prog (E_i_Grid_front_l0 α N) := (E_i_front_add_ok N).addLoop2 Try.func137 (by kernel_rfl) (loopSum_ok prog_mixed prog_names (E_i_front_add_ok N) Try.func137 (by kernel_rfl) (d := 1) (ro := 0) fun l K r h => by
  split at h
  · exact (i_Grid_front_l0_loop N _ _ _ _ _ _ _ _ _ K N _ _).trans h
  · cases h)

/-- (impl.Grid).front -/
def i_Grid_front_a : SPat := ⟨[.agg [.vals [.int .i64], .ints .u8 8, .ints .u8 8]], []⟩
def i_Grid_front_r0 : SPat := ⟨[.agg [.ints .i64 3]], []⟩
theorem i_Grid_front_run {α : Type} (N : Nat) (g_0 : Int) (g_1 : Nat → Int) (g_2 : Nat → Int) (K : AV → Heap → Option α) :
    callK Try.prog (E_i_Grid_front_l0 α N) 1 137 0 (buildS i_Grid_front_a [.i g_0, .f g_1, .f g_2]).t (buildS i_Grid_front_a [.i g_0, .f g_1, .f g_2]).h K = i_Grid_front none N g_0 g_1 g_2 (fun r__ => retK (buildS i_Grid_front_r0 [.f r__]) K) := by kernel_rfl
def E_i_Grid_front (α : Type) (N : Nat) : Env α := (E_i_Grid_front_l0 α N).addFun 137 true 0 i_Grid_front_a (fun l K => match l with
    | [.i g_0, .f g_1, .f g_2] => i_Grid_front none N g_0 g_1 g_2 (fun r__ => retK (buildS i_Grid_front_r0 [.f r__]) K)
    | _ => none)
theorem E_i_Grid_front_ok {α : Type} (N : Nat) : EnvOk Try.prog (E_i_Grid_front α N) := (E_i_Grid_front_l0_ok N).addFun prog_mixed prog_names (d := 1) fun l K r h => by
  split at h
  · exact (i_Grid_front_run N _ _ _ K).trans h
  · cases h

def A_i_Grid_crossings_l0 (α : Type) (N : Nat) : Env α := (E_i_Grid_front α N).addAnn 149 3 { head := [1, 3, 4, 5, 21, 22], grow := [5], out := [5], ret := [2] }
theorem A_i_Grid_crossings_l0_ok {α : Type} (N : Nat) : EnvOk Try.prog (A_i_Grid_crossings_l0 α N) := (E_i_Grid_front_ok N).addAnn

def A_i_Grid_crossings_l1 (α : Type) (N : Nat) : Env α := (A_i_Grid_crossings_l0 α N).addAnn 149 6 { head := [1, 3, 4, 5, 6, 21, 22, 26, 27], grow := [5], out := [1, 3, 4, 5, 21, 22], ret := [2] }
theorem A_i_Grid_crossings_l1_ok {α : Type} (N : Nat) : EnvOk Try.prog (A_i_Grid_crossings_l1 α N) := (A_i_Grid_crossings_l0_ok N).addAnn

/-- impl.isBetween -/
def i_isBetween_a : SPat := ⟨[.int .i64, .int .i64, .int .i64], []⟩
def i_isBetween_r0 : SPat := ⟨[.bool], []⟩
theorem i_isBetween_run {α : Type} (N : Nat) (x : Int) (a : Int) (b : Int) (K : AV → Heap → Option α) :
    callK Try.prog (A_i_Grid_crossings_l1 α N) 1 161 0 (buildS i_isBetween_a [.i x, .i a, .i b]).t (buildS i_isBetween_a [.i x, .i a, .i b]).h K = i_isBetween none N x a b (fun r__ => retK (buildS i_isBetween_r0 [.b r__]) K) := by kernel_rfl
def E_i_isBetween (α : Type) (N : Nat) : Env α := (A_i_Grid_crossings_l1 α N).addFun 161 true 0 i_isBetween_a (fun l K => match l with
    | [.i x, .i a, .i b] => i_isBetween none N x a b (fun r__ => retK (buildS i_isBetween_r0 [.b r__]) K)
    | _ => none)
theorem E_i_isBetween_ok {α : Type} (N : Nat) : EnvOk Try.prog (E_i_isBetween α N) := (A_i_Grid_crossings_l1_ok N).addFun prog_mixed prog_names (d := 1) fun l K r h => by
  split at h
  · exact (i_isBetween_run N _ _ _ K).trans h
  · cases h

/-- (impl.Grid).crossings, loop -/
def i_Grid_crossings_l1_p : SPat := ⟨[.undef, .ptr ⟨⟨0, 0⟩, 0, 0, 1⟩, .undef, .ptr ⟨⟨2, 0⟩, 0, 0, 8⟩, .ptr ⟨⟨3, 0⟩, 0, 0, 8⟩, .sliceV 1 0 0 3 false, .int .i64, .undef, .undef, .undef, .undef, .undef, .undef, .undef, .undef, .undef, .undef, .undef, .undef, .undef, .undef, .int .i64, .int .i64, .undef, .undef, .undef, .int .i64, .int .i64] ++ List.replicate 55 .undef, [[.vals [.int .i64], .ints .u8 8, .ints .u8 8], [.vec .i64], [.ints .i64 8], [.ints .i64 8]]⟩
def i_Grid_crossings_l1_o0 : SPat := ⟨[.undef, .ptr ⟨⟨0, 0⟩, 0, 0, 1⟩, .undef, .ptr ⟨⟨2, 0⟩, 0, 0, 8⟩, .ptr ⟨⟨3, 0⟩, 0, 0, 8⟩, .sliceV 1 0 0 3 false, .undef, .undef, .undef, .undef, .undef, .undef, .undef, .undef, .undef, .undef, .undef, .undef, .undef, .undef, .undef, .int .i64, .int .i64] ++ List.replicate 60 .undef, [[.vals [.int .i64], .ints .u8 8, .ints .u8 8], [.vec .i64], [.ints .i64 8], [.ints .i64 8]]⟩
theorem i_Grid_crossings_l1_round {α : Type} (N : Nat) (t5_n : Nat) (t5_l : Nat) (t5_c : Nat) (t6 : Int) (t21 : Int) (t22 : Int) (t26 : Int) (t27 : Int) (h0_0 : Int) (h0_1 : Nat → Int) (h0_2 : Nat → Int) (h1 : List Int) (h2 : Nat → Int) (h3 : Nat → Int) (kn : St → Option α) (K : AExit → St → Option α) :
    roundK Try.prog (E_i_isBetween α N) 1 0 149 Try.f149 6 4 (buildS i_Grid_crossings_l1_p [.n t5_n, .n t5_l, .n t5_c, .i t6, .i t21, .i t22, .i t26, .i t27, .i h0_0, .f h0_1, .f h0_2, .l h1, .f h2, .f h3]) kn K = i_Grid_crossings_l1_s none N t6 t21 t22 t26 h0_0 h0_1 h0_2 h2 h3 t5_n t5_l t5_c t27 h1 (fun t5_n t5_l t5_c t27 h1 => kn (buildS i_Grid_crossings_l1_p [.n t5_n, .n t5_l, .n t5_c, .i t6, .i t21, .i t22, .i t26, .i t27, .i h0_0, .f h0_1, .f h0_2, .l h1, .f h2, .f h3])) (fun t5_n_ t5_l_ t5_c_ h1_ => K (.exit 2) (buildS i_Grid_crossings_l1_o0 [.n t5_n_, .n t5_l_, .n t5_c_, .i t21, .i t22, .i h0_0, .f h0_1, .f h0_2, .l h1_, .f h2, .f h3])) := by kernel_rfl
theorem i_Grid_crossings_l1_loop {α : Type} (N : Nat) (t6 : Int) (t21 : Int) (t22 : Int) (t26 : Int) (h0_0 : Int) (h0_1 : Nat → Int) (h0_2 : Nat → Int) (h2 : Nat → Int) (h3 : Nat → Int) (K : AExit → St → Option α) : ∀ (m : Nat) (t5_n : Nat) (t5_l : Nat) (t5_c : Nat) (t27 : Int) (h1 : List Int),
    loopN (trimSt ((E_i_isBetween α N).ann 149 6).head ((E_i_isBetween α N).ann 149 6).grow 4) (bodyK Try.prog (E_i_isBetween α N) 1 0 149 Try.f149 6) m (buildS i_Grid_crossings_l1_p [.n t5_n, .n t5_l, .n t5_c, .i t6, .i t21, .i t22, .i t26, .i t27, .i h0_0, .f h0_1, .f h0_2, .l h1, .f h2, .f h3]) (leaveLoop ((E_i_isBetween α N).ann 149 6) 4 K) = i_Grid_crossings_l1 none N t6 t21 t22 t26 h0_0 h0_1 h0_2 h2 h3 m t5_n t5_l t5_c t27 h1 (fun t5_n_ t5_l_ t5_c_ h1_ => K (.exit 2) (buildS i_Grid_crossings_l1_o0 [.n t5_n_, .n t5_l_, .n t5_c_, .i t21, .i t22, .i h0_0, .f h0_1, .f h0_2, .l h1_, .f h2, .f h3])) := by
  intro m
  induction m with
  | zero => intros; rfl
  | succ m ih =>
    intro t5_n t5_l t5_c t27 h1
    rw [loopN_round]
    refine (i_Grid_crossings_l1_round N t5_n t5_l t5_c t6 t21 t22 t26 t27 h0_0 h0_1 h0_2 h1 h2 h3 _ K).trans ?_
    simp only [ih]
    rfl
def E_i_Grid_crossings_l1 (α : Type) (N : Nat) : Env α := (E_i_isBetween α N).addLoop2 149 6 (loopSum2 ((E_i_isBetween α N).ann 149 6) 0 i_Grid_crossings_l1_p (fun l K => match l with
    | [.n t5_n, .n t5_l, .n t5_c, .i t6, .i t21, .i t22, .i t26, .i t27, .i h0_0, .f h0_1, .f h0_2, .l h1, .f h2, .f h3] => i_Grid_crossings_l1 none N t6 t21 t22 t26 h0_0 h0_1 h0_2 h2 h3 N t5_n t5_l t5_c t27 h1 (fun t5_n_ t5_l_ t5_c_ h1_ => K (.exit 2) (buildS i_Grid_crossings_l1_o0 [.n t5_n_, .n t5_l_, .n t5_c_, .i t21, .i t22, .i h0_0, .f h0_1, .f h0_2, .l h1_, .f h2, .f h3]))
    | _ => none) ((E_i_isBetween α N).ls 149 6))
theorem E_i_Grid_crossings_l1_ok {α : Type} (N : Nat) : EnvOk Try.prog (E_i_Grid_crossings_l1 α N) := (E_i_isBetween_ok N).addLoop2 Try.func149 (by kernel_rfl) (loopSum_ok prog_mixed prog_names (E_i_isBetween_ok N) Try.func149 (by kernel_rfl) (d := 1) (ro := 0) fun l K r h => by
  split at h
  · exact (i_Grid_crossings_l1_loop N _ _ _ _ _ _ _ _ _ K N _ _ _ _ _).trans h
  · cases h)

/-- (impl.Grid).crossings, loop -/
def i_Grid_crossings_l0_p : SPat := ⟨[.undef, .ptr ⟨⟨0, 0⟩, 0, 0, 1⟩, .undef, .ptr ⟨⟨2, 0⟩, 0, 0, 8⟩, .ptr ⟨⟨3, 0⟩, 0, 0, 8⟩, .sliceV 1 0 0 3 false, .undef, .undef, .undef, .undef, .undef, .undef, .undef, .undef, .undef, .undef, .undef, .undef, .undef, .undef, .undef, .int .i64, .int .i64] ++ List.replicate 60 .undef, [[.vals [.int .i64], .ints .u8 8, .ints .u8 8], [.vec .i64], [.ints .i64 8], [.ints .i64 8]]⟩
def i_Grid_crossings_l0_o0 : SPat := ⟨[.undef, .undef, .undef, .undef, .undef, .sliceV 1 0 0 3 false] ++ List.replicate 77 .undef, [[.vals [.int .i64], .ints .u8 8, .ints .u8 8], [.vec .i64], [.ints .i64 8], [.ints .i64 8]]⟩
theorem i_Grid_crossings_l0_round {α : Type} (N : Nat) (t5_n : Nat) (t5_l : Nat) (t5_c : Nat) (t21 : Int) (t22 : Int) (h0_0 : Int) (h0_1 : Nat → Int) (h0_2 : Nat → Int) (h1 : List Int) (h2 : Nat → Int) (h3 : Nat → Int) (kn : St → Option α) (K : AExit → St → Option α) :
    roundK Try.prog (E_i_Grid_crossings_l1 α N) 1 0 149 Try.f149 3 4 (buildS i_Grid_crossings_l0_p [.n t5_n, .n t5_l, .n t5_c, .i t21, .i t22, .i h0_0, .f h0_1, .f h0_2, .l h1, .f h2, .f h3]) kn K = i_Grid_crossings_l0_s none N t21 h0_0 h0_1 h0_2 h2 h3 t5_n t5_l t5_c t22 h1 (fun t5_n t5_l t5_c t22 h1 => kn (buildS i_Grid_crossings_l0_p [.n t5_n, .n t5_l, .n t5_c, .i t21, .i t22, .i h0_0, .f h0_1, .f h0_2, .l h1, .f h2, .f h3])) (fun t5_n_ t5_l_ t5_c_ h1_ => K (.exit 0) (buildS i_Grid_crossings_l0_o0 [.n t5_n_, .n t5_l_, .n t5_c_, .i h0_0, .f h0_1, .f h0_2, .l h1_, .f h2, .f h3])) := by kernel_rfl
theorem i_Grid_crossings_l0_loop {α : Type} (N : Nat) (t21 : Int) (h0_0 : Int) (h0_1 : Nat → Int) (h0_2 : Nat → Int) (h2 : Nat → Int) (h3 : Nat → Int) (K : AExit → St → Option α) : ∀ (m : Nat) (t5_n : Nat) (t5_l : Nat) (t5_c : Nat) (t22 : Int) (h1 : List Int),
    loopN (trimSt ((E_i_Grid_crossings_l1 α N).ann 149 3).head ((E_i_Grid_crossings_l1 α N).ann 149 3).grow 4) (bodyK Try.prog (E_i_Grid_crossings_l1 α N) 1 0 149 Try.f149 3) m (buildS i_Grid_crossings_l0_p [.n t5_n, .n t5_l, .n t5_c, .i t21, .i t22, .i h0_0, .f h0_1, .f h0_2, .l h1, .f h2, .f h3]) (leaveLoop ((E_i_Grid_crossings_l1 α N).ann 149 3) 4 K) = i_Grid_crossings_l0 none N t21 h0_0 h0_1 h0_2 h2 h3 m t5_n t5_l t5_c t22 h1 (fun t5_n_ t5_l_ t5_c_ h1_ => K (.exit 0) (buildS i_Grid_crossings_l0_o0 [.n t5_n_, .n t5_l_, .n t5_c_, .i h0_0, .f h0_1, .f h0_2, .l h1_, .f h2, .f h3])) := by
  intro m
  induction m with
  | zero => intros; rfl
  | succ m ih =>
    intro t5_n t5_l t5_c t22 h1
    rw [loopN_round]
    refine (i_Grid_crossings_l0_round N t5_n t5_l t5_c t21 t22 h0_0 h0_1 h0_2 h1 h2 h3 _ K).trans ?_
    simp only [ih]
    rfl
def E_i_Grid_crossings_l0 (α : Type) (N : Nat) : Env α := (E_i_Grid_crossings_l1 α N).addLoop2 149 3 (loopSum2 ((E_i_Grid_crossings_l1 α N).ann 149 3) 0 i_Grid_crossings_l0_p (fun l K => match l with
    | [.n t5_n, .n t5_l, .n t5_c, .i t21, .i t22, .i h0_0, .f h0_1, .f h0_2, .l h1, .f h2, .f h3] => i_Grid_crossings_l0 none N t21 h0_0 h0_1 h0_2 h2 h3 N t5_n t5_l t5_c t22 h1 (fun t5_n_ t5_l_ t5_c_ h1_ => K (.exit 0) (buildS i_Grid_crossings_l0_o0 [.n t5_n_, .n t5_l_, .n t5_c_, .i h0_0, .f h0_1, .f h0_2, .l h1_, .f h2, .f h3]))
    | _ => none) ((E_i_Grid_crossings_l1 α N).ls 149 3))
theorem E_i_Grid_crossings_l0_ok {α : Type} (N : Nat) : EnvOk Try.prog (E_i_Grid_crossings_l0 α N) := (E_i_Grid_crossings_l1_ok N).addLoop2 Try.func149 (by kernel_rfl) (loopSum_ok prog_mixed prog_names (E_i_Grid_crossings_l1_ok N) Try.func149 (by kernel_rfl) (d := 1) (ro := 0) fun l K r h => by
  split at h
  · exact (i_Grid_crossings_l0_loop N _ _ _ _ _ _ K N _ _ _ _ _).trans h
  · cases h)

/-- (impl.Grid).crossings -/
def i_Grid_crossings_a : SPat := ⟨[.agg [.vals [.int .i64], .ints .u8 8, .ints .u8 8]], []⟩
def i_Grid_crossings_r0 : SPat := ⟨[.sliceV 0 0 0 3 false], [[.vec .i64]]⟩
theorem i_Grid_crossings_run {α : Type} (N : Nat) (g_0 : Int) (g_1 : Nat → Int) (g_2 : Nat → Int) (K : AV → Heap → Option α) :
    callK Try.prog (E_i_Grid_crossings_l0 α N) 1 149 0 (buildS i_Grid_crossings_a [.i g_0, .f g_1, .f g_2]).t (buildS i_Grid_crossings_a [.i g_0, .f g_1, .f g_2]).h K = i_Grid_crossings none N g_0 g_1 g_2 (fun r_n_ r_l_ r_c_ h0_ => retK (buildS i_Grid_crossings_r0 [.n r_n_, .n r_l_, .n r_c_, .l h0_]) K) := by kernel_rfl
def E_i_Grid_crossings (α : Type) (N : Nat) : Env α := (E_i_Grid_crossings_l0 α N).addFun 149 true 0 i_Grid_crossings_a (fun l K => match l with
    | [.i g_0, .f g_1, .f g_2] => i_Grid_crossings none N g_0 g_1 g_2 (fun r_n_ r_l_ r_c_ h0_ => retK (buildS i_Grid_crossings_r0 [.n r_n_, .n r_l_, .n r_c_, .l h0_]) K)
    | _ => none)
theorem E_i_Grid_crossings_ok {α : Type} (N : Nat) : EnvOk Try.prog (E_i_Grid_crossings α N) := (E_i_Grid_crossings_l0_ok N).addFun prog_mixed prog_names (d := 1) fun l K r h => by
  split at h
  · exact (i_Grid_crossings_run N _ _ _ K).trans h
  · cases h

def A_i_Grid_writhe_l0 (α : Type) (N : Nat) : Env α := (E_i_Grid_crossings α N).addAnn 138 3 { head := [3, 7, 8, 9], grow := [], out := [3], ret := [2] }
theorem A_i_Grid_writhe_l0_ok {α : Type} (N : Nat) : EnvOk Try.prog (A_i_Grid_writhe_l0 α N) := (E_i_Grid_crossings_ok N).addAnn

/-- (impl.Grid).writhe, loop -/
def i_Grid_writhe_l0_p : SPat := ⟨[.undef, .undef, .undef, .int .i64, .undef, .undef, .undef, .sliceV 1 0 0 3 false, .int .i64, .int .i64] ++ List.replicate 9 .undef, [[.vals [.int .i64], .ints .u8 8, .ints .u8 8], [.vec .i64]]⟩
def i_Grid_writhe_l0_o0 : SPat := ⟨[.undef, .undef, .undef, .int .i64] ++ List.replicate 15 .undef, [[.vals [.int .i64], .ints .u8 8, .ints .u8 8], [.vec .i64]]⟩
theorem i_Grid_writhe_l0_round {α : Type} (N : Nat) (sum : Int) (t7_n : Nat) (t7_l : Nat) (t7_c : Nat) (t8 : Int) (t9 : Int) (h0_0 : Int) (h0_1 : Nat → Int) (h0_2 : Nat → Int) (h1 : List Int) (kn : St → Option α) (K : AExit → St → Option α) :
    roundK Try.prog (A_i_Grid_writhe_l0 α N) 1 0 138 Try.f138 3 2 (buildS i_Grid_writhe_l0_p [.i sum, .n t7_n, .n t7_l, .n t7_c, .i t8, .i t9, .i h0_0, .f h0_1, .f h0_2, .l h1]) kn K = i_Grid_writhe_l0_s none t7_n t7_l t7_c t8 h0_0 h0_1 h0_2 h1 sum t9 (fun sum t9 => kn (buildS i_Grid_writhe_l0_p [.i sum, .n t7_n, .n t7_l, .n t7_c, .i t8, .i t9, .i h0_0, .f h0_1, .f h0_2, .l h1])) (fun sum_ => K (.exit 0) (buildS i_Grid_writhe_l0_o0 [.i sum_, .i h0_0, .f h0_1, .f h0_2, .l h1])) := by kernel_rfl
theorem i_Grid_writhe_l0_loop {α : Type} (N : Nat) (t7_n : Nat) (t7_l : Nat) (t7_c : Nat) (t8 : Int) (h0_0 : Int) (h0_1 : Nat → Int) (h0_2 : Nat → Int) (h1 : List Int) (K : AExit → St → Option α) : ∀ (m : Nat) (sum : Int) (t9 : Int),
    loopN (trimSt ((A_i_Grid_writhe_l0 α N).ann 138 3).head ((A_i_Grid_writhe_l0 α N).ann 138 3).grow 2) (bodyK Try.prog (A_i_Grid_writhe_l0 α N) 1 0 138 Try.f138 3) m (buildS i_Grid_writhe_l0_p [.i sum, .n t7_n, .n t7_l, .n t7_c, .i t8, .i t9, .i h0_0, .f h0_1, .f h0_2, .l h1]) (leaveLoop ((A_i_Grid_writhe_l0 α N).ann 138 3) 2 K) = i_Grid_writhe_l0 none t7_n t7_l t7_c t8 h0_0 h0_1 h0_2 h1 m sum t9 (fun sum_ => K (.exit 0) (buildS i_Grid_writhe_l0_o0 [.i sum_, .i h0_0, .f h0_1, .f h0_2, .l h1])) := by
  intro m
  induction m with
  | zero => intros; rfl
  | succ m ih =>
    intro sum t9
    rw [loopN_round]
    refine (i_Grid_writhe_l0_round N sum t7_n t7_l t7_c t8 t9 h0_0 h0_1 h0_2 h1 _ K).trans ?_
    simp only [ih]
    rfl
def E_i_Grid_writhe_l0 (α : Type) (N : Nat) : Env α := (A_i_Grid_writhe_l0 α N).addLoop2 138 3 (loopSum2 ((A_i_Grid_writhe_l0 α N).ann 138 3) 0 i_Grid_writhe_l0_p (fun l K => match l with
    | [.i sum, .n t7_n, .n t7_l, .n t7_c, .i t8, .i t9, .i h0_0, .f h0_1, .f h0_2, .l h1] => i_Grid_writhe_l0 none t7_n t7_l t7_c t8 h0_0 h0_1 h0_2 h1 N sum t9 (fun sum_ => K (.exit 0) (buildS i_Grid_writhe_l0_o0 [.i sum_, .i h0_0, .f h0_1, .f h0_2, .l h1]))
    | _ => none) ((A_i_Grid_writhe_l0 α N).ls 138 3))
theorem E_i_Grid_writhe_l0_ok {α : Type} (N : Nat) : EnvOk Try.prog (E_i_Grid_writhe_l0 α N) := (A_i_Grid_writhe_l0_ok N).addLoop2 Try.func138 (by kernel_rfl) (loopSum_ok prog_mixed prog_names (A_i_Grid_writhe_l0_ok N) Try.func138 (by kernel_rfl) (d := 1) (ro := 0) fun l K r h => by
  split at h
  · exact (i_Grid_writhe_l0_loop N _ _ _ _ _ _ _ _ K N _ _).trans h
  · cases h)

/-- (impl.Grid).writhe -/
def i_Grid_writhe_a : SPat := ⟨[.agg [.vals [.int .i64], .ints .u8 8, .ints .u8 8]], []⟩
def i_Grid_writhe_r0 : SPat := ⟨[.int .i64], []⟩
theorem i_Grid_writhe_run {α : Type} (N : Nat) (g_0 : Int) (g_1 : Nat → Int) (g_2 : Nat → Int) (K : AV → Heap → Option α) :
    callK Try.prog (E_i_Grid_writhe_l0 α N) 1 138 0 (buildS i_Grid_writhe_a [.i g_0, .f g_1, .f g_2]).t (buildS i_Grid_writhe_a [.i g_0, .f g_1, .f g_2]).h K = i_Grid_writhe none N g_0 g_1 g_2 (fun r__ => retK (buildS i_Grid_writhe_r0 [.i r__]) K) := by kernel_rfl
def E_i_Grid_writhe (α : Type) (N : Nat) : Env α := (E_i_Grid_writhe_l0 α N).addFun 138 true 0 i_Grid_writhe_a (fun l K => match l with
    | [.i g_0, .f g_1, .f g_2] => i_Grid_writhe none N g_0 g_1 g_2 (fun r__ => retK (buildS i_Grid_writhe_r0 [.i r__]) K)
    | _ => none)
theorem E_i_Grid_writhe_ok {α : Type} (N : Nat) : EnvOk Try.prog (E_i_Grid_writhe α N) := (E_i_Grid_writhe_l0_ok N).addFun prog_mixed prog_names (d := 1) fun l K r h => by
  split at h
  · exact (i_Grid_writhe_run N _ _ _ K).trans h
  · cases h

/-- (impl.front).numbers -/
def i_front_numbers_a : SPat := ⟨[.agg [.ints .i64 3], .int .i64], []⟩
def i_front_numbers_r0 : SPat := ⟨[.slice ⟨⟨0, 0⟩, 0, 0, 2⟩ 2 2 1 true], [[.vec .i64]]⟩
theorem i_front_numbers_run {α : Type} (N : Nat) (f : Nat → Int) (writhe : Int) (K : AV → Heap → Option α) :
    callK Try.prog (E_i_Grid_writhe α N) 1 111 0 (buildS i_front_numbers_a [.f f, .i writhe]).t (buildS i_front_numbers_a [.f f, .i writhe]).h K = i_front_numbers none N f writhe (fun h0_ => retK (buildS i_front_numbers_r0 [.l h0_]) K) := by kernel_rfl
def E_i_front_numbers (α : Type) (N : Nat) : Env α := (E_i_Grid_writhe α N).addFun 111 true 0 i_front_numbers_a (fun l K => match l with
    | [.f f, .i writhe] => i_front_numbers none N f writhe (fun h0_ => retK (buildS i_front_numbers_r0 [.l h0_]) K)
    | _ => none)
theorem E_i_front_numbers_ok {α : Type} (N : Nat) : EnvOk Try.prog (E_i_front_numbers α N) := (E_i_Grid_writhe_ok N).addFun prog_mixed prog_names (d := 1) fun l K r h => by
  split at h
  · exact (i_front_numbers_run N _ _ K).trans h
  · cases h

/-- (impl.Grid).numbers -/
def i_Grid_numbers_a : SPat := ⟨[.agg [.vals [.int .i64], .ints .u8 8, .ints .u8 8]], []⟩
def i_Grid_numbers_r0 : SPat := ⟨[.slice ⟨⟨0, 0⟩, 0, 0, 2⟩ 2 2 1 true], [[.vec .i64]]⟩
theorem i_Grid_numbers_run {α : Type} (N : Nat) (g_0 : Int) (g_1 : Nat → Int) (g_2 : Nat → Int) (K : AV → Heap → Option α) :
    callK Try.prog (E_i_front_numbers α N) 1 91 0 (buildS i_Grid_numbers_a [.i g_0, .f g_1, .f g_2]).t (buildS i_Grid_numbers_a [.i g_0, .f g_1, .f g_2]).h K = i_Grid_numbers none N g_0 g_1 g_2 (fun h0_ => retK (buildS i_Grid_numbers_r0 [.l h0_]) K) := by kernel_rfl
def E_i_Grid_numbers (α : Type) (N : Nat) : Env α := (E_i_front_numbers α N).addFun 91 true 0 i_Grid_numbers_a (fun l K => match l with
    | [.i g_0, .f g_1, .f g_2] => i_Grid_numbers none N g_0 g_1 g_2 (fun h0_ => retK (buildS i_Grid_numbers_r0 [.l h0_]) K)
    | _ => none)
theorem E_i_Grid_numbers_ok {α : Type} (N : Nat) : EnvOk Try.prog (E_i_Grid_numbers α N) := (E_i_front_numbers_ok N).addFun prog_mixed prog_names (d := 1) fun l K r h => by
  split at h
  · exact (i_Grid_numbers_run N _ _ _ K).trans h
  · cases h

def A_i_Grid_led_l0 (α : Type) (N : Nat) : Env α := (E_i_Grid_numbers α N).addAnn 140 6 { head := [1, 3, 6, 7, 8, 9, 22, 23], grow := [], out := [6, 7], ret := [6] }
theorem A_i_Grid_led_l0_ok {α : Type} (N : Nat) : EnvOk Try.prog (A_i_Grid_led_l0 α N) := (E_i_Grid_numbers_ok N).addAnn

/-- (impl.Grid).quarter$1 -/
def i_Grid_quarter_1_a : SPat := ⟨[.int .i64, .int .i64, .ptr ⟨⟨0, 0⟩, 0, 0, 1⟩], [[.vals [.int .i64], .ints .u8 8, .ints .u8 8]]⟩
def i_Grid_quarter_1_r0 : SPat := ⟨[.tuple [.int .i64, .int .i64]], [[.vals [.int .i64], .ints .u8 8, .ints .u8 8]]⟩
theorem i_Grid_quarter_1_run {α : Type} (N : Nat) (i : Int) (r_ : Int) (h0_0 : Int) (h0_1 : Nat → Int) (h0_2 : Nat → Int) (K : AV → Heap → Option α) :
    callK Try.prog (A_i_Grid_led_l0 α N) 1 141 1 (buildS i_Grid_quarter_1_a [.i i, .i r_, .i h0_0, .f h0_1, .f h0_2]).t (buildS i_Grid_quarter_1_a [.i i, .i r_, .i h0_0, .f h0_1, .f h0_2]).h K = i_Grid_quarter_1 none N i r_ h0_0 h0_1 h0_2 (fun r_0_ => retK (buildS i_Grid_quarter_1_r0 [.i r_0_, .i i, .i h0_0, .f h0_1, .f h0_2]) K) := by kernel_rfl
def E_i_Grid_quarter_1 (α : Type) (N : Nat) : Env α := (A_i_Grid_led_l0 α N).addFun 141 true 1 i_Grid_quarter_1_a (fun l K => match l with
    | [.i i, .i r_, .i h0_0, .f h0_1, .f h0_2] => i_Grid_quarter_1 none N i r_ h0_0 h0_1 h0_2 (fun r_0_ => retK (buildS i_Grid_quarter_1_r0 [.i r_0_, .i i, .i h0_0, .f h0_1, .f h0_2]) K)
    | _ => none)
theorem E_i_Grid_quarter_1_ok {α : Type} (N : Nat) : EnvOk Try.prog (E_i_Grid_quarter_1 α N) := (A_i_Grid_led_l0_ok N).addFun prog_mixed prog_names (d := 1) fun l K r h => by
  split at h
  · exact (i_Grid_quarter_1_run N _ _ _ _ _ K).trans h
  · cases h

/-- (impl.Grid).led, loop -/
def i_Grid_led_l0_s7_p : SPat := ⟨[.undef, .func 141 [.ptr ⟨⟨0, 0⟩, 0, 0, 1⟩], .undef, .ptr ⟨⟨1, 0⟩, 0, 0, 1⟩, .undef, .undef, .ptr ⟨⟨2, 0⟩, 0, 0, 1⟩, .ptr ⟨⟨3, 0⟩, 0, 0, 1⟩, .ptr ⟨⟨3, 0⟩, 2, 0, 8⟩, .ptr ⟨⟨3, 0⟩, 1, 0, 8⟩, .undef, .undef, .undef, .undef, .undef, .undef, .undef, .undef, .undef, .undef, .undef, .undef, .int .i64, .int .i64] ++ List.replicate 38 .undef, [[.vals [.int .i64], .ints .u8 8, .ints .u8 8], [.vals [.int .i64], .ints .u8 8, .ints .u8 8], [.vals [.int .i64], .ints .u8 8, .ints .u8 8], [.vals [.int .i64], .ints .u8 8, .ints .u8 8]]⟩
def i_Grid_led_l0_s7_o0 : SPat := ⟨[.undef, .undef, .undef, .undef, .undef, .undef, .ptr ⟨⟨2, 0⟩, 0, 0, 1⟩, .ptr ⟨⟨3, 0⟩, 0, 0, 1⟩] ++ List.replicate 54 .undef, [[.vals [.int .i64], .ints .u8 8, .ints .u8 8], [.vals [.int .i64], .ints .u8 8, .ints .u8 8], [.vals [.int .i64], .ints .u8 8, .ints .u8 8], [.vals [.int .i64], .ints .u8 8, .ints .u8 8]]⟩
theorem i_Grid_led_l0_s7_round {α : Type} (N : Nat) (t22 : Int) (t23 : Int) (h0_0 : Int) (h0_1 : Nat → Int) (h0_2 : Nat → Int) (h1_0 : Int) (h1_1 : Nat → Int) (h1_2 : Nat → Int) (h2_0 : Int) (h2_1 : Nat → Int) (h2_2 : Nat → Int) (h3_0 : Int) (h3_1 : Nat → Int) (h3_2 : Nat → Int) (kn : St → Option α) (K : AExit → St → Option α) :
    roundK Try.prog (E_i_Grid_quarter_1 α N) 1 1 140 Try.f140 6 4 (buildS i_Grid_led_l0_s7_p [.i t22, .i t23, .i h0_0, .f h0_1, .f h0_2, .i h1_0, .f h1_1, .f h1_2, .i h2_0, .f h2_1, .f h2_2, .i h3_0, .f h3_1, .f h3_2]) kn K = i_Grid_led_l0_s7_s none N t22 h0_0 h0_1 h0_2 h1_0 h1_1 h1_2 h2_0 h2_1 h2_2 h3_0 t23 h3_1 h3_2 (fun t23 h3_1 h3_2 => kn (buildS i_Grid_led_l0_s7_p [.i t22, .i t23, .i h0_0, .f h0_1, .f h0_2, .i h1_0, .f h1_1, .f h1_2, .i h2_0, .f h2_1, .f h2_2, .i h3_0, .f h3_1, .f h3_2])) (fun h3_1_ h3_2_ => K (.exit 0) (buildS i_Grid_led_l0_s7_o0 [.i h0_0, .f h0_1, .f h0_2, .i h1_0, .f h1_1, .f h1_2, .i h2_0, .f h2_1, .f h2_2, .i h3_0, .f h3_1_, .f h3_2_])) := by kernel_rfl
theorem i_Grid_led_l0_s7_loop {α : Type} (N : Nat) (t22 : Int) (h0_0 : Int) (h0_1 : Nat → Int) (h0_2 : Nat → Int) (h1_0 : Int) (h1_1 : Nat → Int) (h1_2 : Nat → Int) (h2_0 : Int) (h2_1 : Nat → Int) (h2_2 : Nat → Int) (h3_0 : Int) (K : AExit → St → Option α) : ∀ (m : Nat) (t23 : Int) (h3_1 : Nat → Int) (h3_2 : Nat → Int),
    loopN (trimSt ((E_i_Grid_quarter_1 α N).ann 140 6).head ((E_i_Grid_quarter_1 α N).ann 140 6).grow 4) (bodyK Try.prog (E_i_Grid_quarter_1 α N) 1 1 140 Try.f140 6) m (buildS i_Grid_led_l0_s7_p [.i t22, .i t23, .i h0_0, .f h0_1, .f h0_2, .i h1_0, .f h1_1, .f h1_2, .i h2_0, .f h2_1, .f h2_2, .i h3_0, .f h3_1, .f h3_2]) (leaveLoop ((E_i_Grid_quarter_1 α N).ann 140 6) 4 K) = i_Grid_led_l0_s7 none N t22 h0_0 h0_1 h0_2 h1_0 h1_1 h1_2 h2_0 h2_1 h2_2 h3_0 m t23 h3_1 h3_2 (fun h3_1_ h3_2_ => K (.exit 0) (buildS i_Grid_led_l0_s7_o0 [.i h0_0, .f h0_1, .f h0_2, .i h1_0, .f h1_1, .f h1_2, .i h2_0, .f h2_1, .f h2_2, .i h3_0, .f h3_1_, .f h3_2_])) := by
  intro m
  induction m with
  | zero => intros; rfl
  | succ m ih =>
    intro t23 h3_1 h3_2
    rw [loopN_round]
    refine (i_Grid_led_l0_s7_round N t22 t23 h0_0 h0_1 h0_2 h1_0 h1_1 h1_2 h2_0 h2_1 h2_2 h3_0 h3_1 h3_2 _ K).trans ?_
    simp only [ih]
    rfl
def E_i_Grid_led_l0_s7 (α : Type) (N : Nat) : Env α := (E_i_Grid_quarter_1 α N).addLoop2 140 6 (loopSum2 ((E_i_Grid_quarter_1 α N).ann 140 6) 1 i_Grid_led_l0_s7_p (fun l K => match l with
    | [.i t22, .i t23, .i h0_0, .f h0_1, .f h0_2, .i h1_0, .f h1_1, .f h1_2, .i h2_0, .f h2_1, .f h2_2, .i h3_0, .f h3_1, .f h3_2] => i_Grid_led_l0_s7 none N t22 h0_0 h0_1 h0_2 h1_0 h1_1 h1_2 h2_0 h2_1 h2_2 h3_0 N t23 h3_1 h3_2 (fun h3_1_ h3_2_ => K (.exit 0) (buildS i_Grid_led_l0_s7_o0 [.i h0_0, .f h0_1, .f h0_2, .i h1_0, .f h1_1, .f h1_2, .i h2_0, .f h2_1, .f h2_2, .i h3_0, .f h3_1_, .f h3_2_]))
    | _ => none) ((E_i_Grid_quarter_1 α N).ls 140 6))
theorem E_i_Grid_led_l0_s7_ok {α : Type} (N : Nat) : EnvOk Try.prog (E_i_Grid_led_l0_s7 α N) := (E_i_Grid_quarter_1_ok N).addLoop2 Try.func140 (by kernel_rfl) (loopSum_ok prog_mixed prog_names (E_i_Grid_quarter_1_ok N) Try.func140 (by kernel_rfl) (d := 1) (ro := 1) fun l K r h => by
  split at h
  · exact (i_Grid_led_l0_s7_loop N _ _ _ _ _ _ _ _ _ _ _ K N _ _ _).trans h
  · cases h)

/-- (impl.Grid).led, loop -/
def i_Grid_led_l0_s8_p : SPat := ⟨[.undef, .func 141 [.ptr ⟨⟨0, 0⟩, 0, 0, 1⟩], .undef, .ptr ⟨⟨1, 0⟩, 0, 0, 1⟩, .undef, .undef, .ptr ⟨⟨2, 0⟩, 0, 0, 1⟩, .ptr ⟨⟨3, 0⟩, 0, 0, 1⟩, .ptr ⟨⟨3, 0⟩, 1, 0, 8⟩, .ptr ⟨⟨3, 0⟩, 2, 0, 8⟩, .undef, .undef, .undef, .undef, .undef, .undef, .undef, .undef, .undef, .undef, .undef, .undef, .int .i64, .int .i64] ++ List.replicate 38 .undef, [[.vals [.int .i64], .ints .u8 8, .ints .u8 8], [.vals [.int .i64], .ints .u8 8, .ints .u8 8], [.vals [.int .i64], .ints .u8 8, .ints .u8 8], [.vals [.int .i64], .ints .u8 8, .ints .u8 8]]⟩
def i_Grid_led_l0_s8_o0 : SPat := ⟨[.undef, .undef, .undef, .undef, .undef, .undef, .ptr ⟨⟨2, 0⟩, 0, 0, 1⟩, .ptr ⟨⟨3, 0⟩, 0, 0, 1⟩] ++ List.replicate 54 .undef, [[.vals [.int .i64], .ints .u8 8, .ints .u8 8], [.vals [.int .i64], .ints .u8 8, .ints .u8 8], [.vals [.int .i64], .ints .u8 8, .ints .u8 8], [.vals [.int .i64], .ints .u8 8, .ints .u8 8]]⟩
theorem i_Grid_led_l0_s8_round {α : Type} (N : Nat) (t22 : Int) (t23 : Int) (h0_0 : Int) (h0_1 : Nat → Int) (h0_2 : Nat → Int) (h1_0 : Int) (h1_1 : Nat → Int) (h1_2 : Nat → Int) (h2_0 : Int) (h2_1 : Nat → Int) (h2_2 : Nat → Int) (h3_0 : Int) (h3_1 : Nat → Int) (h3_2 : Nat → Int) (kn : St → Option α) (K : AExit → St → Option α) :
    roundK Try.prog (E_i_Grid_led_l0_s7 α N) 1 1 140 Try.f140 6 4 (buildS i_Grid_led_l0_s8_p [.i t22, .i t23, .i h0_0, .f h0_1, .f h0_2, .i h1_0, .f h1_1, .f h1_2, .i h2_0, .f h2_1, .f h2_2, .i h3_0, .f h3_1, .f h3_2]) kn K = i_Grid_led_l0_s8_s none N t22 h0_0 h0_1 h0_2 h1_0 h1_1 h1_2 h2_0 h2_1 h2_2 h3_0 t23 h3_1 h3_2 (fun t23 h3_1 h3_2 => kn (buildS i_Grid_led_l0_s8_p [.i t22, .i t23, .i h0_0, .f h0_1, .f h0_2, .i h1_0, .f h1_1, .f h1_2, .i h2_0, .f h2_1, .f h2_2, .i h3_0, .f h3_1, .f h3_2])) (fun h3_1_ h3_2_ => K (.exit 0) (buildS i_Grid_led_l0_s8_o0 [.i h0_0, .f h0_1, .f h0_2, .i h1_0, .f h1_1, .f h1_2, .i h2_0, .f h2_1, .f h2_2, .i h3_0, .f h3_1_, .f h3_2_])) := by kernel_rfl
theorem i_Grid_led_l0_s8_loop {α : Type} (N : Nat) (t22 : Int) (h0_0 : Int) (h0_1 : Nat → Int) (h0_2 : Nat → Int) (h1_0 : Int) (h1_1 : Nat → Int) (h1_2 : Nat → Int) (h2_0 : Int) (h2_1 : Nat → Int) (h2_2 : Nat → Int) (h3_0 : Int) (K : AExit → St → Option α) : ∀ (m : Nat) (t23 : Int) (h3_1 : Nat → Int) (h3_2 : Nat → Int),
    loopN (trimSt ((E_i_Grid_led_l0_s7 α N).ann 140 6).head ((E_i_Grid_led_l0_s7 α N).ann 140 6).grow 4) (bodyK Try.prog (E_i_Grid_led_l0_s7 α N) 1 1 140 Try.f140 6) m (buildS i_Grid_led_l0_s8_p [.i t22, .i t23, .i h0_0, .f h0_1, .f h0_2, .i h1_0, .f h1_1, .f h1_2, .i h2_0, .f h2_1, .f h2_2, .i h3_0, .f h3_1, .f h3_2]) (leaveLoop ((E_i_Grid_led_l0_s7 α N).ann 140 6) 4 K) = i_Grid_led_l0_s8 none N t22 h0_0 h0_1 h0_2 h1_0 h1_1 h1_2 h2_0 h2_1 h2_2 h3_0 m t23 h3_1 h3_2 (fun h3_1_ h3_2_ => K (.exit 0) (buildS i_Grid_led_l0_s8_o0 [.i h0_0, .f h0_1, .f h0_2, .i h1_0, .f h1_1, .f h1_2, .i h2_0, .f h2_1, .f h2_2, .i h3_0, .f h3_1_, .f h3_2_])) := by
  intro m
  induction m with
  | zero => intros; rfl
  | succ m ih =>
    intro t23 h3_1 h3_2
    rw [loopN_round]
    refine (i_Grid_led_l0_s8_round N t22 t23 h0_0 h0_1 h0_2 h1_0 h1_1 h1_2 h2_0 h2_1 h2_2 h3_0 h3_1 h3_2 _ K).trans ?_
    simp only [ih]
    rfl
def E_i_Grid_led_l0_s8 (α : Type) (N : Nat) : Env α := (E_i_Grid_led_l0_s7 α N).addLoop2 140 6 (loopSum2 ((E_i_Grid_led_l0_s7 α N).ann 140 6) 1 i_Grid_led_l0_s8_p (fun l K => match l with
    | [.i t22, .i t23, .i h0_0, .f h0_1, .f h0_2, .i h1_0, .f h1_1, .f h1_2, .i h2_0, .f h2_1, .f h2_2, .i h3_0, .f h3_1, .f h3_2] => i_Grid_led_l0_s8 none N t22 h0_0 h0_1 h0_2 h1_0 h1_1 h1_2 h2_0 h2_1 h2_2 h3_0 N t23 h3_1 h3_2 (fun h3_1_ h3_2_ => K (.exit 0) (buildS i_Grid_led_l0_s8_o0 [.i h0_0, .f h0_1, .f h0_2, .i h1_0, .f h1_1, .f h1_2, .i h2_0, .f h2_1, .f h2_2, .i h3_0, .f h3_1_, .f h3_2_]))
    | _ => none) ((E_i_Grid_led_l0_s7 α N).ls 140 6))
theorem E_i_Grid_led_l0_s8_ok {α : Type} (N : Nat) : EnvOk Try.prog (E_i_Grid_led_l0_s8 α N) := (E_i_Grid_led_l0_s7_ok N).addLoop2 Try.func140 (by kernel_rfl) (loopSum_ok prog_mixed prog_names (E_i_Grid_led_l0_s7_ok N) Try.func140 (by kernel_rfl) (d := 1) (ro := 1) fun l K r h => by
  split at h
  · exact (i_Grid_led_l0_s8_loop N _ _ _ _ _ _ _ _ _ _ _ K N _ _ _).trans h
  · cases h)

/-- (impl.Grid).led -/
def i_Grid_led_s4_a : SPat := ⟨[.agg [.vals [.int .i64], .ints .u8 8, .ints .u8 8], .func 141 [.ptr ⟨⟨0, 0⟩, 0, 0, 1⟩], .bool], [[.vals [.int .i64], .ints .u8 8, .ints .u8 8]]⟩
def i_Grid_led_s4_r0 : SPat := ⟨[.agg [.vals [.int .i64], .ints .u8 8, .ints .u8 8]], [[.vals [.int .i64], .ints .u8 8, .ints .u8 8]]⟩
theorem i_Grid_led_s4_run {α : Type} (N : Nat) (g_0 : Int) (g_1 : Nat → Int) (g_2 : Nat → Int) (exchanged : Bool) (h0_0 : Int) (h0_1 : Nat → Int) (h0_2 : Nat → Int) (K : AV → Heap → Option α) :
    callK Try.prog (E_i_Grid_led_l0_s8 α N) 1 140 1 (buildS i_Grid_led_s4_a [.i g_0, .f g_1, .f g_2, .b exchanged, .i h0_0, .f h0_1, .f h0_2]).t (buildS i_Grid_led_s4_a [.i g_0, .f g_1, .f g_2, .b exchanged, .i h0_0, .f h0_1, .f h0_2]).h K = i_Grid_led_s4 none N g_0 g_1 g_2 exchanged h0_0 h0_1 h0_2 (fun r_1_ r_2_ => retK (buildS i_Grid_led_s4_r0 [.i g_0, .f r_1_, .f r_2_, .i h0_0, .f h0_1, .f h0_2]) K) := by kernel_rfl
def E_i_Grid_led_s4 (α : Type) (N : Nat) : Env α := (E_i_Grid_led_l0_s8 α N).addFun 140 true 1 i_Grid_led_s4_a (fun l K => match l with
    | [.i g_0, .f g_1, .f g_2, .b exchanged, .i h0_0, .f h0_1, .f h0_2] => i_Grid_led_s4 none N g_0 g_1 g_2 exchanged h0_0 h0_1 h0_2 (fun r_1_ r_2_ => retK (buildS i_Grid_led_s4_r0 [.i g_0, .f r_1_, .f r_2_, .i h0_0, .f h0_1, .f h0_2]) K)
    | _ => none)
theorem E_i_Grid_led_s4_ok {α : Type} (N : Nat) : EnvOk Try.prog (E_i_Grid_led_s4 α N) := (E_i_Grid_led_l0_s8_ok N).addFun prog_mixed prog_names (d := 1) fun l K r h => by
  split at h
  · exact (i_Grid_led_s4_run N _ _ _ _ _ _ _ K).trans h
  · cases h

/-- (impl.Grid).quarter -/
def i_Grid_quarter_a : SPat := ⟨[.agg [.vals [.int .i64], .ints .u8 8, .ints .u8 8]], []⟩
def i_Grid_quarter_r0 : SPat := ⟨[.agg [.vals [.int .i64], .ints .u8 8, .ints .u8 8]], []⟩
theorem i_Grid_quarter_run {α : Type} (N : Nat) (g_0 : Int) (g_1 : Nat → Int) (g_2 : Nat → Int) (K : AV → Heap → Option α) :
    callK Try.prog (E_i_Grid_led_s4 α N) 1 97 0 (buildS i_Grid_quarter_a [.i g_0, .f g_1, .f g_2]).t (buildS i_Grid_quarter_a [.i g_0, .f g_1, .f g_2]).h K = i_Grid_quarter none N g_0 g_1 g_2 (fun r_1_ r_2_ => retK (buildS i_Grid_quarter_r0 [.i g_0, .f r_1_, .f r_2_]) K) := by kernel_rfl
def E_i_Grid_quarter (α : Type) (N : Nat) : Env α := (E_i_Grid_led_s4 α N).addFun 97 true 0 i_Grid_quarter_a (fun l K => match l with
    | [.i g_0, .f g_1, .f g_2] => i_Grid_quarter none N g_0 g_1 g_2 (fun r_1_ r_2_ => retK (buildS i_Grid_quarter_r0 [.i g_0, .f r_1_, .f r_2_]) K)
    | _ => none)
theorem E_i_Grid_quarter_ok {α : Type} (N : Nat) : EnvOk Try.prog (E_i_Grid_quarter α N) := (E_i_Grid_led_s4_ok N).addFun prog_mixed prog_names (d := 1) fun l K r h => by
  split at h
  · exact (i_Grid_quarter_run N _ _ _ K).trans h
  · cases h

/-- impl.TurnNumbers$1, loop -/
def i_TurnNumbers_1_l0_p : SPat := ⟨[.undef, .ptr ⟨⟨0, 0⟩, 0, 0, 1⟩, .undef, .sliceV 2 0 0 1 false, .undef, .int .i64] ++ List.replicate 10 .undef, [[.vals [.int .i64], .ints .u8 8, .ints .u8 8], [.pool .i64], [.hdr 1]]⟩
def i_TurnNumbers_1_l0_o0 : SPat := ⟨[.undef, .undef, .undef, .sliceV 2 0 0 1 false] ++ List.replicate 12 .undef, [[.vals [.int .i64], .ints .u8 8, .ints .u8 8], [.pool .i64], [.hdr 1]]⟩
theorem i_TurnNumbers_1_l0_round {α : Type} (N : Nat) (out_n : Nat) (out_l : Nat) (out_c : Nat) (t5 : Int) (h0_0 : Int) (h0_1 : Nat → Int) (h0_2 : Nat → Int) (h1 : List (List Int)) (h2 : List (Nat × Nat)) (kn : St → Option α) (K : AExit → St → Option α) :
    roundK Try.prog (E_i_Grid_quarter α N) 1 0 96 Try.f96 3 3 (buildS i_TurnNumbers_1_l0_p [.n out_n, .n out_l, .n out_c, .i t5, .i h0_0, .f h0_1, .f h0_2, .r h1, .p h2]) kn K = i_TurnNumbers_1_l0_s none N h0_0 out_n out_l out_c t5 h0_1 h0_2 h1 h2 (fun out_n out_l out_c t5 h0_1 h0_2 h1 h2 => kn (buildS i_TurnNumbers_1_l0_p [.n out_n, .n out_l, .n out_c, .i t5, .i h0_0, .f h0_1, .f h0_2, .r h1, .p h2])) (fun out_n_ out_l_ out_c_ h0_1_ h0_2_ h1_ h2_ => K (.exit 0) (buildS i_TurnNumbers_1_l0_o0 [.n out_n_, .n out_l_, .n out_c_, .i h0_0, .f h0_1_, .f h0_2_, .r h1_, .p h2_])) := by kernel_rfl
theorem i_TurnNumbers_1_l0_loop {α : Type} (N : Nat) (h0_0 : Int) (K : AExit → St → Option α) : ∀ (m : Nat) (out_n : Nat) (out_l : Nat) (out_c : Nat) (t5 : Int) (h0_1 : Nat → Int) (h0_2 : Nat → Int) (h1 : List (List Int)) (h2 : List (Nat × Nat)),
    loopN (trimSt ((E_i_Grid_quarter α N).ann 96 3).head ((E_i_Grid_quarter α N).ann 96 3).grow 3) (bodyK Try.prog (E_i_Grid_quarter α N) 1 0 96 Try.f96 3) m (buildS i_TurnNumbers_1_l0_p [.n out_n, .n out_l, .n out_c, .i t5, .i h0_0, .f h0_1, .f h0_2, .r h1, .p h2]) (leaveLoop ((E_i_Grid_quarter α N).ann 96 3) 3 K) = i_TurnNumbers_1_l0 none N h0_0 m out_n out_l out_c t5 h0_1 h0_2 h1 h2 (fun out_n_ out_l_ out_c_ h0_1_ h0_2_ h1_ h2_ => K (.exit 0) (buildS i_TurnNumbers_1_l0_o0 [.n out_n_, .n out_l_, .n out_c_, .i h0_0, .f h0_1_, .f h0_2_, .r h1_, .p h2_])) := by
  intro m
  induction m with
  | zero => intros; rfl
  | succ m ih =>
    intro out_n out_l out_c t5 h0_1 h0_2 h1 h2
    rw [loopN_round]
    refine (i_TurnNumbers_1_l0_round N out_n out_l out_c t5 h0_0 h0_1 h0_2 h1 h2 _ K).trans ?_
    simp only [ih]
    rfl
def E_i_TurnNumbers_1_l0 (α : Type) (N : Nat) : Env α := (E_i_Grid_quarter α N).addLoop2 96 3 (loopSum2 ((E_i_Grid_quarter α N).ann 96 3) 0 i_TurnNumbers_1_l0_p (fun l K => match l with
    | [.n out_n, .n out_l, .n out_c, .i t5, .i h0_0, .f h0_1, .f h0_2, .r h1, .p h2] => i_TurnNumbers_1_l0 none N h0_0 N out_n out_l out_c t5 h0_1 h0_2 h1 h2 (fun out_n_ out_l_ out_c_ h0_1_ h0_2_ h1_ h2_ => K (.exit 0) (buildS i_TurnNumbers_1_l0_o0 [.n out_n_, .n out_l_, .n out_c_, .i h0_0, .f h0_1_, .f h0_2_, .r h1_, .p h2_]))
    | _ => none) ((E_i_Grid_quarter α N).ls 96 3))
theorem E_i_TurnNumbers_1_l0_ok {α : Type} (N : Nat) : EnvOk Try.prog (E_i_TurnNumbers_1_l0 α N) := (E_i_Grid_quarter_ok N).addLoop2 Try.func96 (by kernel_rfl) (loopSum_ok prog_mixed prog_names (E_i_Grid_quarter_ok N) Try.func96 (by kernel_rfl) (d := 1) (ro := 0) fun l K r h => by
  split at h
  · exact (i_TurnNumbers_1_l0_loop N _ K N _ _ _ _ _ _ _ _).trans h
  · cases h)

/-- impl.TurnNumbers$1 -/
def i_TurnNumbers_1_a : SPat := ⟨[.agg [.vals [.int .i64], .ints .u8 8, .ints .u8 8]], []⟩
def i_TurnNumbers_1_r0 : SPat := ⟨[.sliceV 0 0 0 1 false], [[.hdr 1], [.pool .i64]]⟩
theorem i_TurnNumbers_1_run {α : Type} (N : Nat) (g_0 : Int) (g_1 : Nat → Int) (g_2 : Nat → Int) (K : AV → Heap → Option α) :
    callK Try.prog (E_i_TurnNumbers_1_l0 α N) 1 96 0 (buildS i_TurnNumbers_1_a [.i g_0, .f g_1, .f g_2]).t (buildS i_TurnNumbers_1_a [.i g_0, .f g_1, .f g_2]).h K = i_TurnNumbers_1 none N g_0 g_1 g_2 (fun r_n_ r_l_ r_c_ h0_ h1_ => retK (buildS i_TurnNumbers_1_r0 [.n r_n_, .n r_l_, .n r_c_, .p h0_, .r h1_]) K) := by kernel_rfl
def E_i_TurnNumbers_1 (α : Type) (N : Nat) : Env α := (E_i_TurnNumbers_1_l0 α N).addFun 96 true 0 i_TurnNumbers_1_a (fun l K => match l with
    | [.i g_0, .f g_1, .f g_2] => i_TurnNumbers_1 none N g_0 g_1 g_2 (fun r_n_ r_l_ r_c_ h0_ h1_ => retK (buildS i_TurnNumbers_1_r0 [.n r_n_, .n r_l_, .n r_c_, .p h0_, .r h1_]) K)
    | _ => none)
theorem E_i_TurnNumbers_1_ok {α : Type} (N : Nat) : EnvOk Try.prog (E_i_TurnNumbers_1 α N) := (E_i_TurnNumbers_1_l0_ok N).addFun prog_mixed prog_names (d := 1) fun l K r h => by
  split at h
  · exact (i_TurnNumbers_1_run N _ _ _ K).trans h
  · cases h

/-- impl.whole[[][]int64] -/
def i_whole_int64_s4_a : SPat := ⟨[.agg [.vals [.int .i64], .ints .u8 8, .ints .u8 8], .func 96 []], []⟩
def i_whole_int64_s4_r0 : SPat := ⟨[.tuple [.nils, .int .i64]], []⟩
def i_whole_int64_s4_r1 : SPat := ⟨[.tuple [.sliceV 0 0 0 1 false, .int .i64]], [[.hdr 1], [.pool .i64]]⟩
theorem i_whole_int64_s4_run {α : Type} (N : Nat) (g_0 : Int) (g_1 : Nat → Int) (g_2 : Nat → Int) (K : AV → Heap → Option α) :
    callK Try.prog (E_i_TurnNumbers_1 α N) 1 69 0 (buildS i_whole_int64_s4_a [.i g_0, .f g_1, .f g_2]).t (buildS i_whole_int64_s4_a [.i g_0, .f g_1, .f g_2]).h K = i_whole_int64_s4 none N g_0 g_1 g_2 (fun r_1_ => retK (buildS i_whole_int64_s4_r0 [.i r_1_]) K) (fun r_0_n_ r_0_l_ r_0_c_ r_1_ h0_ h1_ => retK (buildS i_whole_int64_s4_r1 [.n r_0_n_, .n r_0_l_, .n r_0_c_, .i r_1_, .p h0_, .r h1_]) K) := by kernel_rfl
def E_i_whole_int64_s4 (α : Type) (N : Nat) : Env α := (E_i_TurnNumbers_1 α N).addFun 69 true 0 i_whole_int64_s4_a (fun l K => match l with
    | [.i g_0, .f g_1, .f g_2] => i_whole_int64_s4 none N g_0 g_1 g_2 (fun r_1_ => retK (buildS i_whole_int64_s4_r0 [.i r_1_]) K) (fun r_0_n_ r_0_l_ r_0_c_ r_1_ h0_ h1_ => retK (buildS i_whole_int64_s4_r1 [.n r_0_n_, .n r_0_l_, .n r_0_c_, .i r_1_, .p h0_, .r h1_]) K)
    | _ => none)
theorem E_i_whole_int64_s4_ok {α : Type} (N : Nat) : EnvOk Try.prog (E_i_whole_int64_s4 α N) := (E_i_TurnNumbers_1_ok N).addFun prog_mixed prog_names (d := 1) fun l K r h => by
  split at h
  · exact (i_whole_int64_s4_run N _ _ _ K).trans h
  · cases h

/-- impl.TurnNumbers -/
def i_TurnNumbers_a : SPat := ⟨[.agg [.vals [.int .i64], .ints .u8 8, .ints .u8 8]], []⟩
def i_TurnNumbers_r0 : SPat := ⟨[.tuple [.nils, .int .i64]], []⟩
def i_TurnNumbers_r1 : SPat := ⟨[.tuple [.sliceV 0 0 0 1 false, .int .i64]], [[.hdr 1], [.pool .i64]]⟩
theorem i_TurnNumbers_run {α : Type} (N : Nat) (g_0 : Int) (g_1 : Nat → Int) (g_2 : Nat → Int) (K : AV → Heap → Option α) :
    callK Try.prog (E_i_whole_int64_s4 α N) 1 43 0 (buildS i_TurnNumbers_a [.i g_0, .f g_1, .f g_2]).t (buildS i_TurnNumbers_a [.i g_0, .f g_1, .f g_2]).h K = i_TurnNumbers none N g_0 g_1 g_2 (fun r_1_ => retK (buildS i_TurnNumbers_r0 [.i r_1_]) K) (fun r_0_n_ r_0_l_ r_0_c_ r_1_ h0_ h1_ => retK (buildS i_TurnNumbers_r1 [.n r_0_n_, .n r_0_l_, .n r_0_c_, .i r_1_, .p h0_, .r h1_]) K) := by kernel_rfl
def E_i_TurnNumbers (α : Type) (N : Nat) : Env α := (E_i_whole_int64_s4 α N).addFun 43 true 0 i_TurnNumbers_a (fun l K => match l with
    | [.i g_0, .f g_1, .f g_2] => i_TurnNumbers none N g_0 g_1 g_2 (fun r_1_ => retK (buildS i_TurnNumbers_r0 [.i r_1_]) K) (fun r_0_n_ r_0_l_ r_0_c_ r_1_ h0_ h1_ => retK (buildS i_TurnNumbers_r1 [.n r_0_n_, .n r_0_l_, .n r_0_c_, .i r_1_, .p h0_, .r h1_]) K)
    | _ => none)
theorem E_i_TurnNumbers_ok {α : Type} (N : Nat) : EnvOk Try.prog (E_i_TurnNumbers α N) := (E_i_whole_int64_s4_ok N).addFun prog_mixed prog_names (d := 1) fun l K r h => by
  split at h
  · exact (i_TurnNumbers_run N _ _ _ K).trans h
  · cases h

def A_w_eqInt64SS_l0 (α : Type) (N : Nat) : Env α := (E_i_TurnNumbers α N).addAnn 23 4 { head := [0, 1, 5], grow := [], out := [], ret := [4] }
theorem A_w_eqInt64SS_l0_ok {α : Type} (N : Nat) : EnvOk Try.prog (A_w_eqInt64SS_l0 α N) := (E_i_TurnNumbers_ok N).addAnn

/-- laws.eqInt64SS, loop -/
def w_eqInt64SS_l0_p : SPat := ⟨[.nils, .nils, .undef, .undef, .undef, .int .i64] ++ List.replicate 21 .undef, []⟩
def w_eqInt64SS_l0_o0 : SPat := ⟨[] ++ List.replicate 27 .undef, []⟩
theorem w_eqInt64SS_l0_round {α : Type} (N : Nat) (i : Int) (kn : St → Option α) (K : AExit → St → Option α) :
    roundK Try.prog (A_w_eqInt64SS_l0 α N) 1 0 23 Try.f23 4 0 (buildS w_eqInt64SS_l0_p [.i i]) kn K = w_eqInt64SS_l0_s none i  (kn (buildS w_eqInt64SS_l0_p [.i i])) (K (.exit 0) (buildS w_eqInt64SS_l0_o0 [])) := by kernel_rfl
theorem w_eqInt64SS_l0_loop {α : Type} (N : Nat) (i : Int) (K : AExit → St → Option α) : ∀ (m : Nat),
    loopN (trimSt ((A_w_eqInt64SS_l0 α N).ann 23 4).head ((A_w_eqInt64SS_l0 α N).ann 23 4).grow 0) (bodyK Try.prog (A_w_eqInt64SS_l0 α N) 1 0 23 Try.f23 4) m (buildS w_eqInt64SS_l0_p [.i i]) (leaveLoop ((A_w_eqInt64SS_l0 α N).ann 23 4) 0 K) = w_eqInt64SS_l0 none i m  (K (.exit 0) (buildS w_eqInt64SS_l0_o0 [])) := by
  intro m
  induction m with
  | zero => intros; rfl
  | succ m ih =>
    rw [loopN_round]
    refine (w_eqInt64SS_l0_round N i _ K).trans ?_
    simp only [ih]
    rfl
def E_w_eqInt64SS_l0 (α : Type) (N : Nat) : Env α := (A_w_eqInt64SS_l0 α N).addLoop2 23 4 (loopSum2 ((A_w_eqInt64SS_l0 α N).ann 23 4) 0 w_eqInt64SS_l0_p (fun l K => match l with
    | [.i i] => w_eqInt64SS_l0 none i N  (K (.exit 0) (buildS w_eqInt64SS_l0_o0 []))
    | _ => none) ((A_w_eqInt64SS_l0 α N).ls 23 4))
theorem E_w_eqInt64SS_l0_ok {α : Type} (N : Nat) : EnvOk Try.prog (E_w_eqInt64SS_l0 α N) := (A_w_eqInt64SS_l0_ok N).addLoop2 Try.func23 (by kernel_rfl) (loopSum_ok prog_mixed prog_names (A_w_eqInt64SS_l0_ok N) Try.func23 (by kernel_rfl) (d := 1) (ro := 0) fun l K r h => by
  split at h
  · exact (w_eqInt64SS_l0_loop N _ K N ).trans h
  · cases h)

/-- laws.eqInt64SS -/
def w_eqInt64SS_a : SPat := ⟨[.nils, .nils], []⟩
def w_eqInt64SS_r0 : SPat := ⟨[.bool], []⟩
theorem w_eqInt64SS_run {α : Type} (N : Nat)  (K : AV → Heap → Option α) :
    callK Try.prog (E_w_eqInt64SS_l0 α N) 1 23 0 (buildS w_eqInt64SS_a []).t (buildS w_eqInt64SS_a []).h K = w_eqInt64SS none N  (fun r__ => retK (buildS w_eqInt64SS_r0 [.b r__]) K) := by kernel_rfl
def E_w_eqInt64SS (α : Type) (N : Nat) : Env α := (E_w_eqInt64SS_l0 α N).addFun 23 true 0 w_eqInt64SS_a (fun l K => match l with
    | [] => w_eqInt64SS none N  (fun r__ => retK (buildS w_eqInt64SS_r0 [.b r__]) K)
    | _ => none)
theorem E_w_eqInt64SS_ok {α : Type} (N : Nat) : EnvOk Try.prog (E_w_eqInt64SS α N) := (E_w_eqInt64SS_l0_ok N).addFun prog_mixed prog_names (d := 1) fun l K r h => by
  split at h
  · exact (w_eqInt64SS_run N  K).trans h
  · cases h

def A_w_markInt64SS_l0 (α : Type) (N : Nat) : Env α := (E_w_eqInt64SS α N).addAnn 24 2 { head := [0, 1, 5], grow := [], out := [1], ret := [4] }
theorem A_w_markInt64SS_l0_ok {α : Type} (N : Nat) : EnvOk Try.prog (A_w_markInt64SS_l0 α N) := (E_w_eqInt64SS_ok N).addAnn

/-- laws.markInt64SS, loop -/
def w_markInt64SS_l0_p : SPat := ⟨[.nils, .int .i64, .undef, .undef, .undef, .int .i64] ++ List.replicate 13 .undef, []⟩
def w_markInt64SS_l0_o0 : SPat := ⟨[.undef, .int .i64] ++ List.replicate 17 .undef, []⟩
theorem w_markInt64SS_l0_round {α : Type} (N : Nat) (k : Int) (i : Int) (kn : St → Option α) (K : AExit → St → Option α) :
    roundK Try.prog (A_w_markInt64SS_l0 α N) 1 0 24 Try.f24 2 0 (buildS w_markInt64SS_l0_p [.i k, .i i]) kn K = w_markInt64SS_l0_s none k i  (kn (buildS w_markInt64SS_l0_p [.i k, .i i])) (K (.exit 0) (buildS w_markInt64SS_l0_o0 [.i k])) := by kernel_rfl
theorem w_markInt64SS_l0_loop {α : Type} (N : Nat) (k : Int) (i : Int) (K : AExit → St → Option α) : ∀ (m : Nat),
    loopN (trimSt ((A_w_markInt64SS_l0 α N).ann 24 2).head ((A_w_markInt64SS_l0 α N).ann 24 2).grow 0) (bodyK Try.prog (A_w_markInt64SS_l0 α N) 1 0 24 Try.f24 2) m (buildS w_markInt64SS_l0_p [.i k, .i i]) (leaveLoop ((A_w_markInt64SS_l0 α N).ann 24 2) 0 K) = w_markInt64SS_l0 none k i m  (K (.exit 0) (buildS w_markInt64SS_l0_o0 [.i k])) := by
  intro m
  induction m with
  | zero => intros; rfl
  | succ m ih =>
    rw [loopN_round]
    refine (w_markInt64SS_l0_round N k i _ K).trans ?_
    simp only [ih]
    rfl
def E_w_markInt64SS_l0 (α : Type) (N : Nat) : Env α := (A_w_markInt64SS_l0 α N).addLoop2 24 2 (loopSum2 ((A_w_markInt64SS_l0 α N).ann 24 2) 0 w_markInt64SS_l0_p (fun l K => match l with
    | [.i k, .i i] => w_markInt64SS_l0 none k i N  (K (.exit 0) (buildS w_markInt64SS_l0_o0 [.i k]))
    | _ => none) ((A_w_markInt64SS_l0 α N).ls 24 2))
theorem E_w_markInt64SS_l0_ok {α : Type} (N : Nat) : EnvOk Try.prog (E_w_markInt64SS_l0 α N) := (A_w_markInt64SS_l0_ok N).addLoop2 Try.func24 (by kernel_rfl) (loopSum_ok prog_mixed prog_names (A_w_markInt64SS_l0_ok N) Try.func24 (by kernel_rfl) (d := 1) (ro := 0) fun l K r h => by
  split at h
  · exact (w_markInt64SS_l0_loop N _ _ K N ).trans h
  · cases h)

/-- laws.markInt64SS -/
def w_markInt64SS_a : SPat := ⟨[.nils, .int .i64], []⟩
def w_markInt64SS_r0 : SPat := ⟨[.int .i64], []⟩
theorem w_markInt64SS_run {α : Type} (N : Nat) (k : Int) (K : AV → Heap → Option α) :
    callK Try.prog (E_w_markInt64SS_l0 α N) 1 24 0 (buildS w_markInt64SS_a [.i k]).t (buildS w_markInt64SS_a [.i k]).h K = w_markInt64SS none N k (retK (buildS w_markInt64SS_r0 [.i k]) K) := by kernel_rfl
def E_w_markInt64SS (α : Type) (N : Nat) : Env α := (E_w_markInt64SS_l0 α N).addFun 24 false 0 w_markInt64SS_a (fun l K => match l with
    | [.i k] => w_markInt64SS none N k (retK (buildS w_markInt64SS_r0 [.i k]) K)
    | _ => none)
theorem E_w_markInt64SS_ok {α : Type} (N : Nat) : EnvOk Try.prog (E_w_markInt64SS α N) := (E_w_markInt64SS_l0_ok N).addFun prog_mixed prog_names (d := 1) fun l K r h => by
  split at h
  · exact (w_markInt64SS_run N _ K).trans h
  · cases h

def A_w_heldInt64SS_l0 (α : Type) (N : Nat) : Env α := (E_w_markInt64SS α N).addAnn 25 2 { head := [0, 1, 5], grow := [], out := [1], ret := [4] }
theorem A_w_heldInt64SS_l0_ok {α : Type} (N : Nat) : EnvOk Try.prog (A_w_heldInt64SS_l0 α N) := (E_w_markInt64SS_ok N).addAnn

/-- laws.heldInt64SS, loop -/
def w_heldInt64SS_l0_p : SPat := ⟨[.nils, .int .i64, .undef, .undef, .undef, .int .i64] ++ List.replicate 15 .undef, []⟩
def w_heldInt64SS_l0_o0 : SPat := ⟨[.undef, .int .i64] ++ List.replicate 19 .undef, []⟩
theorem w_heldInt64SS_l0_round {α : Type} (N : Nat) (k : Int) (i : Int) (kn : St → Option α) (K : AExit → St → Option α) :
    roundK Try.prog (A_w_heldInt64SS_l0 α N) 1 0 25 Try.f25 2 0 (buildS w_heldInt64SS_l0_p [.i k, .i i]) kn K = w_heldInt64SS_l0_s none k i  (kn (buildS w_heldInt64SS_l0_p [.i k, .i i])) (K (.exit 0) (buildS w_heldInt64SS_l0_o0 [.i k])) := by kernel_rfl
theorem w_heldInt64SS_l0_loop {α : Type} (N : Nat) (k : Int) (i : Int) (K : AExit → St → Option α) : ∀ (m : Nat),
    loopN (trimSt ((A_w_heldInt64SS_l0 α N).ann 25 2).head ((A_w_heldInt64SS_l0 α N).ann 25 2).grow 0) (bodyK Try.prog (A_w_heldInt64SS_l0 α N) 1 0 25 Try.f25 2) m (buildS w_heldInt64SS_l0_p [.i k, .i i]) (leaveLoop ((A_w_heldInt64SS_l0 α N).ann 25 2) 0 K) = w_heldInt64SS_l0 none k i m  (K (.exit 0) (buildS w_heldInt64SS_l0_o0 [.i k])) := by
  intro m
  induction m with
  | zero => intros; rfl
  | succ m ih =>
    rw [loopN_round]
    refine (w_heldInt64SS_l0_round N k i _ K).trans ?_
    simp only [ih]
    rfl
def E_w_heldInt64SS_l0 (α : Type) (N : Nat) : Env α := (A_w_heldInt64SS_l0 α N).addLoop2 25 2 (loopSum2 ((A_w_heldInt64SS_l0 α N).ann 25 2) 0 w_heldInt64SS_l0_p (fun l K => match l with
    | [.i k, .i i] => w_heldInt64SS_l0 none k i N  (K (.exit 0) (buildS w_heldInt64SS_l0_o0 [.i k]))
    | _ => none) ((A_w_heldInt64SS_l0 α N).ls 25 2))
theorem E_w_heldInt64SS_l0_ok {α : Type} (N : Nat) : EnvOk Try.prog (E_w_heldInt64SS_l0 α N) := (A_w_heldInt64SS_l0_ok N).addLoop2 Try.func25 (by kernel_rfl) (loopSum_ok prog_mixed prog_names (A_w_heldInt64SS_l0_ok N) Try.func25 (by kernel_rfl) (d := 1) (ro := 0) fun l K r h => by
  split at h
  · exact (w_heldInt64SS_l0_loop N _ _ K N ).trans h
  · cases h)

/-- laws.heldInt64SS -/
def w_heldInt64SS_a : SPat := ⟨[.nils, .int .i64], []⟩
def w_heldInt64SS_r0 : SPat := ⟨[.int .i64], []⟩
theorem w_heldInt64SS_run {α : Type} (N : Nat) (k : Int) (K : AV → Heap → Option α) :
    callK Try.prog (E_w_heldInt64SS_l0 α N) 1 25 0 (buildS w_heldInt64SS_a [.i k]).t (buildS w_heldInt64SS_a [.i k]).h K = w_heldInt64SS none N k (retK (buildS w_heldInt64SS_r0 [.i k]) K) := by kernel_rfl
def E_w_heldInt64SS (α : Type) (N : Nat) : Env α := (E_w_heldInt64SS_l0 α N).addFun 25 true 0 w_heldInt64SS_a (fun l K => match l with
    | [.i k] => w_heldInt64SS none N k (retK (buildS w_heldInt64SS_r0 [.i k]) K)
    | _ => none)
theorem E_w_heldInt64SS_ok {α : Type} (N : Nat) : EnvOk Try.prog (E_w_heldInt64SS α N) := (E_w_heldInt64SS_l0_ok N).addFun prog_mixed prog_names (d := 1) fun l K r h => by
  split at h
  · exact (w_heldInt64SS_run N _ K).trans h
  · cases h

/-- laws.eqInt64SS, loop -/
def w_eqInt64SS_l0_s2_p : SPat := ⟨[.sliceV 0 0 0 1 false, .nils, .undef, .undef, .undef, .int .i64] ++ List.replicate 21 .undef, [[.hdr 1], [.pool .i64]]⟩
def w_eqInt64SS_l0_s2_o0 : SPat := ⟨[] ++ List.replicate 27 .undef, [[.hdr 1], [.pool .i64]]⟩
theorem w_eqInt64SS_l0_s2_round {α : Type} (N : Nat) (a_n : Nat) (a_l : Nat) (a_c : Nat) (i : Int) (h0 : List (Nat × Nat)) (h1 : List (List Int)) (kn : St → Option α) (K : AExit → St → Option α) :
    roundK Try.prog (E_w_heldInt64SS α N) 1 2 23 Try.f23 4 2 (buildS w_eqInt64SS_l0_s2_p [.n a_n, .n a_l, .n a_c, .i i, .p h0, .r h1]) kn K = w_eqInt64SS_l0_s2_s none a_n a_l a_c i h0 h1  (kn (buildS w_eqInt64SS_l0_s2_p [.n a_n, .n a_l, .n a_c, .i i, .p h0, .r h1])) (K (.exit 0) (buildS w_eqInt64SS_l0_s2_o0 [.p h0, .r h1])) := by kernel_rfl
theorem w_eqInt64SS_l0_s2_loop {α : Type} (N : Nat) (a_n : Nat) (a_l : Nat) (a_c : Nat) (i : Int) (h0 : List (Nat × Nat)) (h1 : List (List Int)) (K : AExit → St → Option α) : ∀ (m : Nat),
    loopN (trimSt ((E_w_heldInt64SS α N).ann 23 4).head ((E_w_heldInt64SS α N).ann 23 4).grow 2) (bodyK Try.prog (E_w_heldInt64SS α N) 1 2 23 Try.f23 4) m (buildS w_eqInt64SS_l0_s2_p [.n a_n, .n a_l, .n a_c, .i i, .p h0, .r h1]) (leaveLoop ((E_w_heldInt64SS α N).ann 23 4) 2 K) = w_eqInt64SS_l0_s2 none a_n a_l a_c i h0 h1 m  (K (.exit 0) (buildS w_eqInt64SS_l0_s2_o0 [.p h0, .r h1])) := by
  intro m
  induction m with
  | zero => intros; rfl
  | succ m ih =>
    rw [loopN_round]
    refine (w_eqInt64SS_l0_s2_round N a_n a_l a_c i h0 h1 _ K).trans ?_
    simp only [ih]
    rfl
def E_w_eqInt64SS_l0_s2 (α : Type) (N : Nat) : Env α := (E_w_heldInt64SS α N).addLoop2 23 4 (loopSum2 ((E_w_heldInt64SS α N).ann 23 4) 2 w_eqInt64SS_l0_s2_p (fun l K => match l with
    | [.n a_n, .n a_l, .n a_c, .i i, .p h0, .r h1] => w_eqInt64SS_l0_s2 none a_n a_l a_c i h0 h1 N  (K (.exit 0) (buildS w_eqInt64SS_l0_s2_o0 [.p h0, .r h1]))
    | _ => none) ((E_w_heldInt64SS α N).ls 23 4))
theorem E_w_eqInt64SS_l0_s2_ok {α : Type} (N : Nat) : EnvOk Try.prog (E_w_eqInt64SS_l0_s2 α N) := (E_w_heldInt64SS_ok N).addLoop2 Try.func23 (by kernel_rfl) (loopSum_ok prog_mixed prog_names (E_w_heldInt64SS_ok N) Try.func23 (by kernel_rfl) (d := 1) (ro := 2) fun l K r h => by
  split at h
  · exact (w_eqInt64SS_l0_s2_loop N _ _ _ _ _ _ K N ).trans h
  · cases h)

/-- laws.eqInt64SS -/
def w_eqInt64SS_s2_a : SPat := ⟨[.sliceV 0 0 0 1 false, .nils], [[.hdr 1], [.pool .i64]]⟩
def w_eqInt64SS_s2_r0 : SPat := ⟨[.bool], [[.hdr 1], [.pool .i64]]⟩
theorem w_eqInt64SS_s2_run {α : Type} (N : Nat) (a_n : Nat) (a_l : Nat) (a_c : Nat) (h0 : List (Nat × Nat)) (h1 : List (List Int)) (K : AV → Heap → Option α) :
    callK Try.prog (E_w_eqInt64SS_l0_s2 α N) 1 23 2 (buildS w_eqInt64SS_s2_a [.n a_n, .n a_l, .n a_c, .p h0, .r h1]).t (buildS w_eqInt64SS_s2_a [.n a_n, .n a_l, .n a_c, .p h0, .r h1]).h K = w_eqInt64SS_s2 none N a_n a_l a_c h0 h1 (fun r__ => retK (buildS w_eqInt64SS_s2_r0 [.b r__, .p h0, .r h1]) K) := by kernel_rfl
def E_w_eqInt64SS_s2 (α : Type) (N : Nat) : Env α := (E_w_eqInt64SS_l0_s2 α N).addFun 23 true 2 w_eqInt64SS_s2_a (fun l K => match l with
    | [.n a_n, .n a_l, .n a_c, .p h0, .r h1] => w_eqInt64SS_s2 none N a_n a_l a_c h0 h1 (fun r__ => retK (buildS w_eqInt64SS_s2_r0 [.b r__, .p h0, .r h1]) K)
    | _ => none)
theorem E_w_eqInt64SS_s2_ok {α : Type} (N : Nat) : EnvOk Try.prog (E_w_eqInt64SS_s2 α N) := (E_w_eqInt64SS_l0_s2_ok N).addFun prog_mixed prog_names (d := 1) fun l K r h => by
  split at h
  · exact (w_eqInt64SS_s2_run N _ _ _ _ _ K).trans h
  · cases h

def A_w_markInt64S_l0 (α : Type) (N : Nat) : Env α := (E_w_eqInt64SS_s2 α N).addAnn 40 2 { head := [0, 1, 5], grow := [], out := [1], ret := [4] }
theorem A_w_markInt64S_l0_ok {α : Type} (N : Nat) : EnvOk Try.prog (A_w_markInt64S_l0 α N) := (E_w_eqInt64SS_s2_ok N).addAnn

/-- laws.markInt64S, loop -/
def w_markInt64S_l0_s6_p : SPat := ⟨[.sliceR 0 1 false, .int .i64, .undef, .undef, .undef, .int .i64] ++ List.replicate 13 .undef, [[.pool .i64]]⟩
def w_markInt64S_l0_s6_o0 : SPat := ⟨[.undef, .int .i64] ++ List.replicate 17 .undef, [[.pool .i64]]⟩
theorem w_markInt64S_l0_s6_round {α : Type} (N : Nat) (a_r : Nat) (a_o : Nat) (a_n : Nat) (a_l : Nat) (a_c : Nat) (k : Int) (i : Int) (h0 : List (List Int)) (kn : St → Option α) (K : AExit → St → Option α) :
    roundK Try.prog (A_w_markInt64S_l0 α N) 1 0 40 Try.f40 2 1 (buildS w_markInt64S_l0_s6_p [.n a_r, .n a_o, .n a_n, .n a_l, .n a_c, .i k, .i i, .r h0]) kn K = w_markInt64S_l0_s6_s none a_r a_o a_n a_l a_c k i h0 (fun k i h0 => kn (buildS w_markInt64S_l0_s6_p [.n a_r, .n a_o, .n a_n, .n a_l, .n a_c, .i k, .i i, .r h0])) (fun k_ h0_ => K (.exit 0) (buildS w_markInt64S_l0_s6_o0 [.i k_, .r h0_])) := by kernel_rfl
theorem w_markInt64S_l0_s6_loop {α : Type} (N : Nat) (a_r : Nat) (a_o : Nat) (a_n : Nat) (a_l : Nat) (a_c : Nat) (K : AExit → St → Option α) : ∀ (m : Nat) (k : Int) (i : Int) (h0 : List (List Int)),
    loopN (trimSt ((A_w_markInt64S_l0 α N).ann 40 2).head ((A_w_markInt64S_l0 α N).ann 40 2).grow 1) (bodyK Try.prog (A_w_markInt64S_l0 α N) 1 0 40 Try.f40 2) m (buildS w_markInt64S_l0_s6_p [.n a_r, .n a_o, .n a_n, .n a_l, .n a_c, .i k, .i i, .r h0]) (leaveLoop ((A_w_markInt64S_l0 α N).ann 40 2) 1 K) = w_markInt64S_l0_s6 none a_r a_o a_n a_l a_c m k i h0 (fun k_ h0_ => K (.exit 0) (buildS w_markInt64S_l0_s6_o0 [.i k_, .r h0_])) := by
  intro m
  induction m with
  | zero => intros; rfl
  | succ m ih =>
    intro k i h0
    rw [loopN_round]
    refine (w_markInt64S_l0_s6_round N a_r a_o a_n a_l a_c k i h0 _ K).trans ?_
    simp only [ih]
    rfl
def E_w_markInt64S_l0_s6 (α : Type) (N : Nat) : Env α := (A_w_markInt64S_l0 α N).addLoop2 40 2 (loopSum2 ((A_w_markInt64S_l0 α N).ann 40 2) 0 w_markInt64S_l0_s6_p (fun l K => match l with
    | [.n a_r, .n a_o, .n a_n, .n a_l, .n a_c, .i k, .i i, .r h0] => w_markInt64S_l0_s6 none a_r a_o a_n a_l a_c N k i h0 (fun k_ h0_ => K (.exit 0) (buildS w_markInt64S_l0_s6_o0 [.i k_, .r h0_]))
    | _ => none) ((A_w_markInt64S_l0 α N).ls 40 2))
theorem E_w_markInt64S_l0_s6_ok {α : Type} (N : Nat) : EnvOk Try.prog (E_w_markInt64S_l0_s6 α N) := (A_w_markInt64S_l0_ok N).addLoop2 Try.func40 (by kernel_rfl) (loopSum_ok prog_mixed prog_names (A_w_markInt64S_l0_ok N) Try.func40 (by kernel_rfl) (d := 1) (ro := 0) fun l K r h => by
  split at h
  · exact (w_markInt64S_l0_s6_loop N _ _ _ _ _ K N _ _ _).trans h
  · cases h)

/-- laws.markInt64S -/
def w_markInt64S_s6_a : SPat := ⟨[.sliceR 0 1 false, .int .i64], [[.pool .i64]]⟩
def w_markInt64S_s6_r0 : SPat := ⟨[.int .i64], [[.pool .i64]]⟩
theorem w_markInt64S_s6_run {α : Type} (N : Nat) (a_r : Nat) (a_o : Nat) (a_n : Nat) (a_l : Nat) (a_c : Nat) (k : Int) (h0 : List (List Int)) (K : AV → Heap → Option α) :
    callK Try.prog (E_w_markInt64S_l0_s6 α N) 1 40 0 (buildS w_markInt64S_s6_a [.n a_r, .n a_o, .n a_n, .n a_l, .n a_c, .i k, .r h0]).t (buildS w_markInt64S_s6_a [.n a_r, .n a_o, .n a_n, .n a_l, .n a_c, .i k, .r h0]).h K = w_markInt64S_s6 none N a_r a_o a_n a_l a_c k h0 (fun r__ h0_ => retK (buildS w_markInt64S_s6_r0 [.i r__, .r h0_]) K) := by kernel_rfl
def E_w_markInt64S_s6 (α : Type) (N : Nat) : Env α := (E_w_markInt64S_l0_s6 α N).addFun 40 false 0 w_markInt64S_s6_a (fun l K => match l with
    | [.n a_r, .n a_o, .n a_n, .n a_l, .n a_c, .i k, .r h0] => w_markInt64S_s6 none N a_r a_o a_n a_l a_c k h0 (fun r__ h0_ => retK (buildS w_markInt64S_s6_r0 [.i r__, .r h0_]) K)
    | _ => none)
theorem E_w_markInt64S_s6_ok {α : Type} (N : Nat) : EnvOk Try.prog (E_w_markInt64S_s6 α N) := (E_w_markInt64S_l0_s6_ok N).addFun prog_mixed prog_names (d := 1) fun l K r h => by
  split at h
  · exact (w_markInt64S_s6_run N _ _ _ _ _ _ _ K).trans h
  · cases h

/-- laws.markInt64SS, loop -/
def w_markInt64SS_l0_s2_p : SPat := ⟨[.sliceV 0 0 0 1 false, .int .i64, .undef, .undef, .undef, .int .i64] ++ List.replicate 13 .undef, [[.hdr 1], [.pool .i64]]⟩
def w_markInt64SS_l0_s2_o0 : SPat := ⟨[.undef, .int .i64] ++ List.replicate 17 .undef, [[.hdr 1], [.pool .i64]]⟩
theorem w_markInt64SS_l0_s2_round {α : Type} (N : Nat) (a_n : Nat) (a_l : Nat) (a_c : Nat) (k : Int) (i : Int) (h0 : List (Nat × Nat)) (h1 : List (List Int)) (kn : St → Option α) (K : AExit → St → Option α) :
    roundK Try.prog (E_w_markInt64S_s6 α N) 1 0 24 Try.f24 2 2 (buildS w_markInt64SS_l0_s2_p [.n a_n, .n a_l, .n a_c, .i k, .i i, .p h0, .r h1]) kn K = w_markInt64SS_l0_s2_s none N a_n a_l a_c h0 k i h1 (fun k i h1 => kn (buildS w_markInt64SS_l0_s2_p [.n a_n, .n a_l, .n a_c, .i k, .i i, .p h0, .r h1])) (fun k_ h1_ => K (.exit 0) (buildS w_markInt64SS_l0_s2_o0 [.i k_, .p h0, .r h1_])) := by kernel_rfl
theorem w_markInt64SS_l0_s2_loop {α : Type} (N : Nat) (a_n : Nat) (a_l : Nat) (a_c : Nat) (h0 : List (Nat × Nat)) (K : AExit → St → Option α) : ∀ (m : Nat) (k : Int) (i : Int) (h1 : List (List Int)),
    loopN (trimSt ((E_w_markInt64S_s6 α N).ann 24 2).head ((E_w_markInt64S_s6 α N).ann 24 2).grow 2) (bodyK Try.prog (E_w_markInt64S_s6 α N) 1 0 24 Try.f24 2) m (buildS w_markInt64SS_l0_s2_p [.n a_n, .n a_l, .n a_c, .i k, .i i, .p h0, .r h1]) (leaveLoop ((E_w_markInt64S_s6 α N).ann 24 2) 2 K) = w_markInt64SS_l0_s2 none N a_n a_l a_c h0 m k i h1 (fun k_ h1_ => K (.exit 0) (buildS w_markInt64SS_l0_s2_o0 [.i k_, .p h0, .r h1_])) := by
  intro m
  induction m with
  | zero => intros; rfl
  | succ m ih =>
    intro k i h1
    rw [loopN_round]
    refine (w_markInt64SS_l0_s2_round N a_n a_l a_c k i h0 h1 _ K).trans ?_
    simp only [ih]
    rfl
def E_w_markInt64SS_l0_s2 (α : Type) (N : Nat) : Env α := (E_w_markInt64S_s6 α N).addLoop2 24 2 (loopSum2 ((E_w_markInt64S_s6 α N).ann 24 2) 0 w_markInt64SS_l0_s2_p (fun l K => match l with
    | [.n a_n, .n a_l, .n a_c, .i k, .i i, .p h0, .r h1] => w_markInt64SS_l0_s2 none N a_n a_l a_c h0 N k i h1 (fun k_ h1_ => K (.exit 0) (buildS w_markInt64SS_l0_s2_o0 [.i k_, .p h0, .r h1_]))
    | _ => none) ((E_w_markInt64S_s6 α N).ls 24 2))
theorem E_w_markInt64SS_l0_s2_ok {α : Type} (N : Nat) : EnvOk Try.prog (E_w_markInt64SS_l0_s2 α N) := (E_w_markInt64S_s6_ok N).addLoop2 Try.func24 (by kernel_rfl) (loopSum_ok prog_mixed prog_names (E_w_markInt64S_s6_ok N) Try.func24 (by kernel_rfl) (d := 1) (ro := 0) fun l K r h => by
  split at h
  · exact (w_markInt64SS_l0_s2_loop N _ _ _ _ K N _ _ _).trans h
  · cases h)

/-- laws.markInt64SS -/
def w_markInt64SS_s2_a : SPat := ⟨[.sliceV 0 0 0 1 false, .int .i64], [[.hdr 1], [.pool .i64]]⟩
def w_markInt64SS_s2_r0 : SPat := ⟨[.int .i64], [[.hdr 1], [.pool .i64]]⟩
theorem w_markInt64SS_s2_run {α : Type} (N : Nat) (a_n : Nat) (a_l : Nat) (a_c : Nat) (k : Int) (h0 : List (Nat × Nat)) (h1 : List (List Int)) (K : AV → Heap → Option α) :
    callK Try.prog (E_w_markInt64SS_l0_s2 α N) 1 24 0 (buildS w_markInt64SS_s2_a [.n a_n, .n a_l, .n a_c, .i k, .p h0, .r h1]).t (buildS w_markInt64SS_s2_a [.n a_n, .n a_l, .n a_c, .i k, .p h0, .r h1]).h K = w_markInt64SS_s2 none N a_n a_l a_c k h0 h1 (fun r__ h1_ => retK (buildS w_markInt64SS_s2_r0 [.i r__, .p h0, .r h1_]) K) := by kernel_rfl
def E_w_markInt64SS_s2 (α : Type) (N : Nat) : Env α := (E_w_markInt64SS_l0_s2 α N).addFun 24 false 0 w_markInt64SS_s2_a (fun l K => match l with
    | [.n a_n, .n a_l, .n a_c, .i k, .p h0, .r h1] => w_markInt64SS_s2 none N a_n a_l a_c k h0 h1 (fun r__ h1_ => retK (buildS w_markInt64SS_s2_r0 [.i r__, .p h0, .r h1_]) K)
    | _ => none)
theorem E_w_markInt64SS_s2_ok {α : Type} (N : Nat) : EnvOk Try.prog (E_w_markInt64SS_s2 α N) := (E_w_markInt64SS_l0_s2_ok N).addFun prog_mixed prog_names (d := 1) fun l K r h => by
  split at h
  · exact (w_markInt64SS_s2_run N _ _ _ _ _ _ K).trans h
  · cases h

def A_w_heldInt64S_l0 (α : Type) (N : Nat) : Env α := (E_w_markInt64SS_s2 α N).addAnn 41 2 { head := [0, 1, 5], grow := [], out := [1], ret := [4] }
theorem A_w_heldInt64S_l0_ok {α : Type} (N : Nat) : EnvOk Try.prog (A_w_heldInt64S_l0 α N) := (E_w_markInt64SS_s2_ok N).addAnn

/-- laws.heldInt64S, loop -/
def w_heldInt64S_l0_s6_p : SPat := ⟨[.sliceR 0 1 false, .int .i64, .undef, .undef, .undef, .int .i64] ++ List.replicate 15 .undef, [[.pool .i64]]⟩
def w_heldInt64S_l0_s6_o0 : SPat := ⟨[.undef, .undef, .undef, .undef, .intC .i64 (-1)] ++ List.replicate 16 .undef, [[.pool .i64]]⟩
def w_heldInt64S_l0_s6_o1 : SPat := ⟨[.undef, .int .i64] ++ List.replicate 19 .undef, [[.pool .i64]]⟩
theorem w_heldInt64S_l0_s6_round {α : Type} (N : Nat) (a_r : Nat) (a_o : Nat) (a_n : Nat) (a_l : Nat) (a_c : Nat) (k : Int) (i : Int) (h0 : List (List Int)) (kn : St → Option α) (K : AExit → St → Option α) :
    roundK Try.prog (A_w_heldInt64S_l0 α N) 1 1 41 Try.f41 2 1 (buildS w_heldInt64S_l0_s6_p [.n a_r, .n a_o, .n a_n, .n a_l, .n a_c, .i k, .i i, .r h0]) kn K = w_heldInt64S_l0_s6_s none a_r a_o a_n a_l a_c h0 k i (fun k i => kn (buildS w_heldInt64S_l0_s6_p [.n a_r, .n a_o, .n a_n, .n a_l, .n a_c, .i k, .i i, .r h0])) (K .ret (buildS w_heldInt64S_l0_s6_o0 [.r h0])) (fun k_ => K (.exit 0) (buildS w_heldInt64S_l0_s6_o1 [.i k_, .r h0])) := by kernel_rfl
theorem w_heldInt64S_l0_s6_loop {α : Type} (N : Nat) (a_r : Nat) (a_o : Nat) (a_n : Nat) (a_l : Nat) (a_c : Nat) (h0 : List (List Int)) (K : AExit → St → Option α) : ∀ (m : Nat) (k : Int) (i : Int),
    loopN (trimSt ((A_w_heldInt64S_l0 α N).ann 41 2).head ((A_w_heldInt64S_l0 α N).ann 41 2).grow 1) (bodyK Try.prog (A_w_heldInt64S_l0 α N) 1 1 41 Try.f41 2) m (buildS w_heldInt64S_l0_s6_p [.n a_r, .n a_o, .n a_n, .n a_l, .n a_c, .i k, .i i, .r h0]) (leaveLoop ((A_w_heldInt64S_l0 α N).ann 41 2) 1 K) = w_heldInt64S_l0_s6 none a_r a_o a_n a_l a_c h0 m k i (K .ret (buildS w_heldInt64S_l0_s6_o0 [.r h0])) (fun k_ => K (.exit 0) (buildS w_heldInt64S_l0_s6_o1 [.i k_, .r h0])) := by
  intro m
  induction m with
  | zero => intros; rfl
  | succ m ih =>
    intro k i
    rw [loopN_round]
    refine (w_heldInt64S_l0_s6_round N a_r a_o a_n a_l a_c k i h0 _ K).trans ?_
    simp only [ih]
    rfl
def E_w_heldInt64S_l0_s6 (α : Type) (N : Nat) : Env α := (A_w_heldInt64S_l0 α N).addLoop2 41 2 (loopSum2 ((A_w_heldInt64S_l0 α N).ann 41 2) 1 w_heldInt64S_l0_s6_p (fun l K => match l with
    | [.n a_r, .n a_o, .n a_n, .n a_l, .n a_c, .i k, .i i, .r h0] => w_heldInt64S_l0_s6 none a_r a_o a_n a_l a_c h0 N k i (K .ret (buildS w_heldInt64S_l0_s6_o0 [.r h0])) (fun k_ => K (.exit 0) (buildS w_heldInt64S_l0_s6_o1 [.i k_, .r h0]))
    | _ => none) ((A_w_heldInt64S_l0 α N).ls 41 2))
theorem E_w_heldInt64S_l0_s6_ok {α : Type} (N : Nat) : EnvOk Try.prog (E_w_heldInt64S_l0_s6 α N) := (A_w_heldInt64S_l0_ok N).addLoop2 Try.func41 (by kernel_rfl) (loopSum_ok prog_mixed prog_names (A_w_heldInt64S_l0_ok N) Try.func41 (by kernel_rfl) (d := 1) (ro := 1) fun l K r h => by
  split at h
  · exact (w_heldInt64S_l0_s6_loop N _ _ _ _ _ _ K N _ _).trans h
  · cases h)

/-- laws.heldInt64S -/
def w_heldInt64S_s6_a : SPat := ⟨[.sliceR 0 1 false, .int .i64], [[.pool .i64]]⟩
def w_heldInt64S_s6_r0 : SPat := ⟨[.int .i64], [[.pool .i64]]⟩
theorem w_heldInt64S_s6_run {α : Type} (N : Nat) (a_r : Nat) (a_o : Nat) (a_n : Nat) (a_l : Nat) (a_c : Nat) (k : Int) (h0 : List (List Int)) (K : AV → Heap → Option α) :
    callK Try.prog (E_w_heldInt64S_l0_s6 α N) 1 41 1 (buildS w_heldInt64S_s6_a [.n a_r, .n a_o, .n a_n, .n a_l, .n a_c, .i k, .r h0]).t (buildS w_heldInt64S_s6_a [.n a_r, .n a_o, .n a_n, .n a_l, .n a_c, .i k, .r h0]).h K = w_heldInt64S_s6 none N a_r a_o a_n a_l a_c k h0 (fun r__ => retK (buildS w_heldInt64S_s6_r0 [.i r__, .r h0]) K) := by kernel_rfl
def E_w_heldInt64S_s6 (α : Type) (N : Nat) : Env α := (E_w_heldInt64S_l0_s6 α N).addFun 41 true 1 w_heldInt64S_s6_a (fun l K => match l with
    | [.n a_r, .n a_o, .n a_n, .n a_l, .n a_c, .i k, .r h0] => w_heldInt64S_s6 none N a_r a_o a_n a_l a_c k h0 (fun r__ => retK (buildS w_heldInt64S_s6_r0 [.i r__, .r h0]) K)
    | _ => none)
theorem E_w_heldInt64S_s6_ok {α : Type} (N : Nat) : EnvOk Try.prog (E_w_heldInt64S_s6 α N) := (E_w_heldInt64S_l0_s6_ok N).addFun prog_mixed prog_names (d := 1) fun l K r h => by
  split at h
  · exact (w_heldInt64S_s6_run N _ _ _ _ _ _ _ K).trans h
  · cases h

/-- laws.heldInt64SS, loop -/
def w_heldInt64SS_l0_s2_p : SPat := ⟨[.sliceV 0 0 0 1 false, .int .i64, .undef, .undef, .undef, .int .i64] ++ List.replicate 15 .undef, [[.hdr 1], [.pool .i64]]⟩
def w_heldInt64SS_l0_s2_o0 : SPat := ⟨[.undef, .undef, .undef, .undef, .intC .i64 (-1)] ++ List.replicate 16 .undef, [[.hdr 1], [.pool .i64]]⟩
def w_heldInt64SS_l0_s2_o1 : SPat := ⟨[.undef, .int .i64] ++ List.replicate 19 .undef, [[.hdr 1], [.pool .i64]]⟩
theorem w_heldInt64SS_l0_s2_round {α : Type} (N : Nat) (a_n : Nat) (a_l : Nat) (a_c : Nat) (k : Int) (i : Int) (h0 : List (Nat × Nat)) (h1 : List (List Int)) (kn : St → Option α) (K : AExit → St → Option α) :
    roundK Try.prog (E_w_heldInt64S_s6 α N) 1 2 25 Try.f25 2 2 (buildS w_heldInt64SS_l0_s2_p [.n a_n, .n a_l, .n a_c, .i k, .i i, .p h0, .r h1]) kn K = w_heldInt64SS_l0_s2_s none N a_n a_l a_c h0 h1 k i (fun k i => kn (buildS w_heldInt64SS_l0_s2_p [.n a_n, .n a_l, .n a_c, .i k, .i i, .p h0, .r h1])) (K .ret (buildS w_heldInt64SS_l0_s2_o0 [.p h0, .r h1])) (fun k_ => K (.exit 0) (buildS w_heldInt64SS_l0_s2_o1 [.i k_, .p h0, .r h1])) := by kernel_rfl
theorem w_heldInt64SS_l0_s2_loop {α : Type} (N : Nat) (a_n : Nat) (a_l : Nat) (a_c : Nat) (h0 : List (Nat × Nat)) (h1 : List (List Int)) (K : AExit → St → Option α) : ∀ (m : Nat) (k : Int) (i : Int),
    loopN (trimSt ((E_w_heldInt64S_s6 α N).ann 25 2).head ((E_w_heldInt64S_s6 α N).ann 25 2).grow 2) (bodyK Try.prog (E_w_heldInt64S_s6 α N) 1 2 25 Try.f25 2) m (buildS w_heldInt64SS_l0_s2_p [.n a_n, .n a_l, .n a_c, .i k, .i i, .p h0, .r h1]) (leaveLoop ((E_w_heldInt64S_s6 α N).ann 25 2) 2 K) = w_heldInt64SS_l0_s2 none N a_n a_l a_c h0 h1 m k i (K .ret (buildS w_heldInt64SS_l0_s2_o0 [.p h0, .r h1])) (fun k_ => K (.exit 0) (buildS w_heldInt64SS_l0_s2_o1 [.i k_, .p h0, .r h1])) := by
  intro m
  induction m with
  | zero => intros; rfl
  | succ m ih =>
    intro k i
    rw [loopN_round]
    refine (w_heldInt64SS_l0_s2_round N a_n a_l a_c k i h0 h1 _ K).trans ?_
    simp only [ih]
    rfl
def E_w_heldInt64SS_l0_s2 (α : Type) (N : Nat) : Env α := (E_w_heldInt64S_s6 α N).addLoop2 25 2 (loopSum2 ((E_w_heldInt64S_s6 α N).ann 25 2) 2 w_heldInt64SS_l0_s2_p (fun l K => match l with
    | [.n a_n, .n a_l, .n a_c, .i k, .i i, .p h0, .r h1] => w_heldInt64SS_l0_s2 none N a_n a_l a_c h0 h1 N k i (K .ret (buildS w_heldInt64SS_l0_s2_o0 [.p h0, .r h1])) (fun k_ => K (.exit 0) (buildS w_heldInt64SS_l0_s2_o1 [.i k_, .p h0, .r h1]))
    | _ => none) ((E_w_heldInt64S_s6 α N).ls 25 2))
theorem E_w_heldInt64SS_l0_s2_ok {α : Type} (N : Nat) : EnvOk Try.prog (E_w_heldInt64SS_l0_s2 α N) := (E_w_heldInt64S_s6_ok N).addLoop2 Try.func25 (by kernel_rfl) (loopSum_ok prog_mixed prog_names (E_w_heldInt64S_s6_ok N) Try.func25 (by kernel_rfl) (d := 1) (ro := 2) fun l K r h => by
  split at h
  · exact (w_heldInt64SS_l0_s2_loop N _ _ _ _ _ K N _ _).trans h
  · cases h)

/-- laws.heldInt64SS -/
def w_heldInt64SS_s2_a : SPat := ⟨[.sliceV 0 0 0 1 false, .int .i64], [[.hdr 1], [.pool .i64]]⟩
def w_heldInt64SS_s2_r0 : SPat := ⟨[.int .i64], [[.hdr 1], [.pool .i64]]⟩
theorem w_heldInt64SS_s2_run {α : Type} (N : Nat) (a_n : Nat) (a_l : Nat) (a_c : Nat) (k : Int) (h0 : List (Nat × Nat)) (h1 : List (List Int)) (K : AV → Heap → Option α) :
    callK Try.prog (E_w_heldInt64SS_l0_s2 α N) 1 25 2 (buildS w_heldInt64SS_s2_a [.n a_n, .n a_l, .n a_c, .i k, .p h0, .r h1]).t (buildS w_heldInt64SS_s2_a [.n a_n, .n a_l, .n a_c, .i k, .p h0, .r h1]).h K = w_heldInt64SS_s2 none N a_n a_l a_c k h0 h1 (fun r__ => retK (buildS w_heldInt64SS_s2_r0 [.i r__, .p h0, .r h1]) K) := by kernel_rfl
def E_w_heldInt64SS_s2 (α : Type) (N : Nat) : Env α := (E_w_heldInt64SS_l0_s2 α N).addFun 25 true 2 w_heldInt64SS_s2_a (fun l K => match l with
    | [.n a_n, .n a_l, .n a_c, .i k, .p h0, .r h1] => w_heldInt64SS_s2 none N a_n a_l a_c k h0 h1 (fun r__ => retK (buildS w_heldInt64SS_s2_r0 [.i r__, .p h0, .r h1]) K)
    | _ => none)
theorem E_w_heldInt64SS_s2_ok {α : Type} (N : Nat) : EnvOk Try.prog (E_w_heldInt64SS_s2 α N) := (E_w_heldInt64SS_l0_s2_ok N).addFun prog_mixed prog_names (d := 1) fun l K r h => by
  split at h
  · exact (w_heldInt64SS_s2_run N _ _ _ _ _ _ K).trans h
  · cases h

/-- laws.eqInt64SS, loop -/
def w_eqInt64SS_l0_s3_p : SPat := ⟨[.nils, .sliceV 0 0 0 1 false, .undef, .undef, .undef, .int .i64] ++ List.replicate 21 .undef, [[.hdr 1], [.pool .i64]]⟩
def w_eqInt64SS_l0_s3_o0 : SPat := ⟨[] ++ List.replicate 27 .undef, [[.hdr 1], [.pool .i64]]⟩
theorem w_eqInt64SS_l0_s3_round {α : Type} (N : Nat) (b_n : Nat) (b_l : Nat) (b_c : Nat) (i : Int) (h0 : List (Nat × Nat)) (h1 : List (List Int)) (kn : St → Option α) (K : AExit → St → Option α) :
    roundK Try.prog (E_w_heldInt64SS_s2 α N) 1 2 23 Try.f23 4 2 (buildS w_eqInt64SS_l0_s3_p [.n b_n, .n b_l, .n b_c, .i i, .p h0, .r h1]) kn K = w_eqInt64SS_l0_s3_s none b_n b_l b_c i h0 h1  (kn (buildS w_eqInt64SS_l0_s3_p [.n b_n, .n b_l, .n b_c, .i i, .p h0, .r h1])) (K (.exit 0) (buildS w_eqInt64SS_l0_s3_o0 [.p h0, .r h1])) := by kernel_rfl
theorem w_eqInt64SS_l0_s3_loop {α : Type} (N : Nat) (b_n : Nat) (b_l : Nat) (b_c : Nat) (i : Int) (h0 : List (Nat × Nat)) (h1 : List (List Int)) (K : AExit → St → Option α) : ∀ (m : Nat),
    loopN (trimSt ((E_w_heldInt64SS_s2 α N).ann 23 4).head ((E_w_heldInt64SS_s2 α N).ann 23 4).grow 2) (bodyK Try.prog (E_w_heldInt64SS_s2 α N) 1 2 23 Try.f23 4) m (buildS w_eqInt64SS_l0_s3_p [.n b_n, .n b_l, .n b_c, .i i, .p h0, .r h1]) (leaveLoop ((E_w_heldInt64SS_s2 α N).ann 23 4) 2 K) = w_eqInt64SS_l0_s3 none b_n b_l b_c i h0 h1 m  (K (.exit 0) (buildS w_eqInt64SS_l0_s3_o0 [.p h0, .r h1])) := by
  intro m
  induction m with
  | zero => intros; rfl
  | succ m ih =>
    rw [loopN_round]
    refine (w_eqInt64SS_l0_s3_round N b_n b_l b_c i h0 h1 _ K).trans ?_
    simp only [ih]
    rfl
def E_w_eqInt64SS_l0_s3 (α : Type) (N : Nat) : Env α := (E_w_heldInt64SS_s2 α N).addLoop2 23 4 (loopSum2 ((E_w_heldInt64SS_s2 α N).ann 23 4) 2 w_eqInt64SS_l0_s3_p (fun l K => match l with
    | [.n b_n, .n b_l, .n b_c, .i i, .p h0, .r h1] => w_eqInt64SS_l0_s3 none b_n b_l b_c i h0 h1 N  (K (.exit 0) (buildS w_eqInt64SS_l0_s3_o0 [.p h0, .r h1]))
    | _ => none) ((E_w_heldInt64SS_s2 α N).ls 23 4))
theorem E_w_eqInt64SS_l0_s3_ok {α : Type} (N : Nat) : EnvOk Try.prog (E_w_eqInt64SS_l0_s3 α N) := (E_w_heldInt64SS_s2_ok N).addLoop2 Try.func23 (by kernel_rfl) (loopSum_ok prog_mixed prog_names (E_w_heldInt64SS_s2_ok N) Try.func23 (by kernel_rfl) (d := 1) (ro := 2) fun l K r h => by
  split at h
  · exact (w_eqInt64SS_l0_s3_loop N _ _ _ _ _ _ K N ).trans h
  · cases h)

/-- laws.eqInt64SS -/
def w_eqInt64SS_s3_a : SPat := ⟨[.nils, .sliceV 0 0 0 1 false], [[.hdr 1], [.pool .i64]]⟩
def w_eqInt64SS_s3_r0 : SPat := ⟨[.bool], [[.hdr 1], [.pool .i64]]⟩
theorem w_eqInt64SS_s3_run {α : Type} (N : Nat) (b_n : Nat) (b_l : Nat) (b_c : Nat) (h0 : List (Nat × Nat)) (h1 : List (List Int)) (K : AV → Heap → Option α) :
    callK Try.prog (E_w_eqInt64SS_l0_s3 α N) 1 23 2 (buildS w_eqInt64SS_s3_a [.n b_n, .n b_l, .n b_c, .p h0, .r h1]).t (buildS w_eqInt64SS_s3_a [.n b_n, .n b_l, .n b_c, .p h0, .r h1]).h K = w_eqInt64SS_s3 none N b_n b_l b_c h0 h1 (fun r__ => retK (buildS w_eqInt64SS_s3_r0 [.b r__, .p h0, .r h1]) K) := by kernel_rfl
def E_w_eqInt64SS_s3 (α : Type) (N : Nat) : Env α := (E_w_eqInt64SS_l0_s3 α N).addFun 23 true 2 w_eqInt64SS_s3_a (fun l K => match l with
    | [.n b_n, .n b_l, .n b_c, .p h0, .r h1] => w_eqInt64SS_s3 none N b_n b_l b_c h0 h1 (fun r__ => retK (buildS w_eqInt64SS_s3_r0 [.b r__, .p h0, .r h1]) K)
    | _ => none)
theorem E_w_eqInt64SS_s3_ok {α : Type} (N : Nat) : EnvOk Try.prog (E_w_eqInt64SS_s3 α N) := (E_w_eqInt64SS_l0_s3_ok N).addFun prog_mixed prog_names (d := 1) fun l K r h => by
  split at h
  · exact (w_eqInt64SS_s3_run N _ _ _ _ _ K).trans h
  · cases h

def A_w_eqInt64S_l0 (α : Type) (N : Nat) : Env α := (E_w_eqInt64SS_s3 α N).addAnn 39 4 { head := [0, 1, 5], grow := [], out := [], ret := [4] }
theorem A_w_eqInt64S_l0_ok {α : Type} (N : Nat) : EnvOk Try.prog (A_w_eqInt64S_l0 α N) := (E_w_eqInt64SS_s3_ok N).addAnn

/-- laws.eqInt64S, loop -/
def w_eqInt64S_l0_s12_p : SPat := ⟨[.sliceR 0 1 false, .sliceR 1 1 false, .undef, .undef, .undef, .int .i64] ++ List.replicate 20 .undef, [[.pool .i64], [.pool .i64]]⟩
def w_eqInt64S_l0_s12_o0 : SPat := ⟨[.undef, .undef, .undef, .undef, .boolC false] ++ List.replicate 21 .undef, [[.pool .i64], [.pool .i64]]⟩
def w_eqInt64S_l0_s12_o1 : SPat := ⟨[] ++ List.replicate 26 .undef, [[.pool .i64], [.pool .i64]]⟩
theorem w_eqInt64S_l0_s12_round {α : Type} (N : Nat) (a_r : Nat) (a_o : Nat) (a_n : Nat) (a_l : Nat) (a_c : Nat) (b_r : Nat) (b_o : Nat) (b_n : Nat) (b_l : Nat) (b_c : Nat) (i : Int) (h0 : List (List Int)) (h1 : List (List Int)) (kn : St → Option α) (K : AExit → St → Option α) :
    roundK Try.prog (A_w_eqInt64S_l0 α N) 1 2 39 Try.f39 4 2 (buildS w_eqInt64S_l0_s12_p [.n a_r, .n a_o, .n a_n, .n a_l, .n a_c, .n b_r, .n b_o, .n b_n, .n b_l, .n b_c, .i i, .r h0, .r h1]) kn K = w_eqInt64S_l0_s12_s none a_r a_o a_n a_l a_c b_r b_o b_n b_l b_c h0 h1 i (fun i => kn (buildS w_eqInt64S_l0_s12_p [.n a_r, .n a_o, .n a_n, .n a_l, .n a_c, .n b_r, .n b_o, .n b_n, .n b_l, .n b_c, .i i, .r h0, .r h1])) (K .ret (buildS w_eqInt64S_l0_s12_o0 [.r h0, .r h1])) (K (.exit 0) (buildS w_eqInt64S_l0_s12_o1 [.r h0, .r h1])) := by kernel_rfl
theorem w_eqInt64S_l0_s12_loop {α : Type} (N : Nat) (a_r : Nat) (a_o : Nat) (a_n : Nat) (a_l : Nat) (a_c : Nat) (b_r : Nat) (b_o : Nat) (b_n : Nat) (b_l : Nat) (b_c : Nat) (h0 : List (List Int)) (h1 : List (List Int)) (K : AExit → St → Option α) : ∀ (m : Nat) (i : Int),
    loopN (trimSt ((A_w_eqInt64S_l0 α N).ann 39 4).head ((A_w_eqInt64S_l0 α N).ann 39 4).grow 2) (bodyK Try.prog (A_w_eqInt64S_l0 α N) 1 2 39 Try.f39 4) m (buildS w_eqInt64S_l0_s12_p [.n a_r, .n a_o, .n a_n, .n a_l, .n a_c, .n b_r, .n b_o, .n b_n, .n b_l, .n b_c, .i i, .r h0, .r h1]) (leaveLoop ((A_w_eqInt64S_l0 α N).ann 39 4) 2 K) = w_eqInt64S_l0_s12 none a_r a_o a_n a_l a_c b_r b_o b_n b_l b_c h0 h1 m i (K .ret (buildS w_eqInt64S_l0_s12_o0 [.r h0, .r h1])) (K (.exit 0) (buildS w_eqInt64S_l0_s12_o1 [.r h0, .r h1])) := by
  intro m
  induction m with
  | zero => intros; rfl
  | succ m ih =>
    intro i
    rw [loopN_round]
    refine (w_eqInt64S_l0_s12_round N a_r a_o a_n a_l a_c b_r b_o b_n b_l b_c i h0 h1 _ K).trans ?_
    simp only [ih]
    rfl
def E_w_eqInt64S_l0_s12 (α : Type) (N : Nat) : Env α := (A_w_eqInt64S_l0 α N).addLoop2 39 4 (loopSum2 ((A_w_eqInt64S_l0 α N).ann 39 4) 2 w_eqInt64S_l0_s12_p (fun l K => match l with
    | [.n a_r, .n a_o, .n a_n, .n a_l, .n a_c, .n b_r, .n b_o, .n b_n, .n b_l, .n b_c, .i i, .r h0, .r h1] => w_eqInt64S_l0_s12 none a_r a_o a_n a_l a_c b_r b_o b_n b_l b_c h0 h1 N i (K .ret (buildS w_eqInt64S_l0_s12_o0 [.r h0, .r h1])) (K (.exit 0) (buildS w_eqInt64S_l0_s12_o1 [.r h0, .r h1]))
    | _ => none) ((A_w_eqInt64S_l0 α N).ls 39 4))
theorem E_w_eqInt64S_l0_s12_ok {α : Type} (N : Nat) : EnvOk Try.prog (E_w_eqInt64S_l0_s12 α N) := (A_w_eqInt64S_l0_ok N).addLoop2 Try.func39 (by kernel_rfl) (loopSum_ok prog_mixed prog_names (A_w_eqInt64S_l0_ok N) Try.func39 (by kernel_rfl) (d := 1) (ro := 2) fun l K r h => by
  split at h
  · exact (w_eqInt64S_l0_s12_loop N _ _ _ _ _ _ _ _ _ _ _ _ K N _).trans h
  · cases h)

/-- laws.eqInt64S -/
def w_eqInt64S_s14_a : SPat := ⟨[.sliceR 0 1 false, .sliceR 1 1 false], [[.pool .i64], [.pool .i64]]⟩
def w_eqInt64S_s14_r0 : SPat := ⟨[.bool], [[.pool .i64], [.pool .i64]]⟩
theorem w_eqInt64S_s14_run {α : Type} (N : Nat) (a_r : Nat) (a_o : Nat) (a_n : Nat) (a_l : Nat) (a_c : Nat) (b_r : Nat) (b_o : Nat) (b_n : Nat) (b_l : Nat) (b_c : Nat) (h0 : List (List Int)) (h1 : List (List Int)) (K : AV → Heap → Option α) :
    callK Try.prog (E_w_eqInt64S_l0_s12 α N) 1 39 2 (buildS w_eqInt64S_s14_a [.n a_r, .n a_o, .n a_n, .n a_l, .n a_c, .n b_r, .n b_o, .n b_n, .n b_l, .n b_c, .r h0, .r h1]).t (buildS w_eqInt64S_s14_a [.n a_r, .n a_o, .n a_n, .n a_l, .n a_c, .n b_r, .n b_o, .n b_n, .n b_l, .n b_c, .r h0, .r h1]).h K = w_eqInt64S_s14 none N a_r a_o a_n a_l a_c b_r b_o b_n b_l b_c h0 h1 (fun r__ => retK (buildS w_eqInt64S_s14_r0 [.b r__, .r h0, .r h1]) K) := by kernel_rfl
def E_w_eqInt64S_s14 (α : Type) (N : Nat) : Env α := (E_w_eqInt64S_l0_s12 α N).addFun 39 true 2 w_eqInt64S_s14_a (fun l K => match l with
    | [.n a_r, .n a_o, .n a_n, .n a_l, .n a_c, .n b_r, .n b_o, .n b_n, .n b_l, .n b_c, .r h0, .r h1] => w_eqInt64S_s14 none N a_r a_o a_n a_l a_c b_r b_o b_n b_l b_c h0 h1 (fun r__ => retK (buildS w_eqInt64S_s14_r0 [.b r__, .r h0, .r h1]) K)
    | _ => none)
theorem E_w_eqInt64S_s14_ok {α : Type} (N : Nat) : EnvOk Try.prog (E_w_eqInt64S_s14 α N) := (E_w_eqInt64S_l0_s12_ok N).addFun prog_mixed prog_names (d := 1) fun l K r h => by
  split at h
  · exact (w_eqInt64S_s14_run N _ _ _ _ _ _ _ _ _ _ _ _ K).trans h
  · cases h

/-- laws.eqInt64SS, loop -/
def w_eqInt64SS_l0_s4_p : SPat := ⟨[.sliceV 0 0 0 1 false, .sliceV 1 0 0 1 false, .undef, .undef, .undef, .int .i64] ++ List.replicate 21 .undef, [[.hdr 2], [.hdr 3], [.pool .i64], [.pool .i64]]⟩
def w_eqInt64SS_l0_s4_o0 : SPat := ⟨[.undef, .undef, .undef, .undef, .boolC false] ++ List.replicate 22 .undef, [[.hdr 2], [.hdr 3], [.pool .i64], [.pool .i64]]⟩
def w_eqInt64SS_l0_s4_o1 : SPat := ⟨[] ++ List.replicate 27 .undef, [[.hdr 2], [.hdr 3], [.pool .i64], [.pool .i64]]⟩
theorem w_eqInt64SS_l0_s4_round {α : Type} (N : Nat) (a_n : Nat) (a_l : Nat) (a_c : Nat) (b_n : Nat) (b_l : Nat) (b_c : Nat) (i : Int) (h0 : List (Nat × Nat)) (h1 : List (Nat × Nat)) (h2 : List (List Int)) (h3 : List (List Int)) (kn : St → Option α) (K : AExit → St → Option α) :
    roundK Try.prog (E_w_eqInt64S_s14 α N) 1 4 23 Try.f23 4 4 (buildS w_eqInt64SS_l0_s4_p [.n a_n, .n a_l, .n a_c, .n b_n, .n b_l, .n b_c, .i i, .p h0, .p h1, .r h2, .r h3]) kn K = w_eqInt64SS_l0_s4_s none N a_n a_l a_c b_n b_l b_c h0 h1 h2 h3 i (fun i => kn (buildS w_eqInt64SS_l0_s4_p [.n a_n, .n a_l, .n a_c, .n b_n, .n b_l, .n b_c, .i i, .p h0, .p h1, .r h2, .r h3])) (K .ret (buildS w_eqInt64SS_l0_s4_o0 [.p h0, .p h1, .r h2, .r h3])) (K (.exit 0) (buildS w_eqInt64SS_l0_s4_o1 [.p h0, .p h1, .r h2, .r h3])) := by kernel_rfl
theorem w_eqInt64SS_l0_s4_loop {α : Type} (N : Nat) (a_n : Nat) (a_l : Nat) (a_c : Nat) (b_n : Nat) (b_l : Nat) (b_c : Nat) (h0 : List (Nat × Nat)) (h1 : List (Nat × Nat)) (h2 : List (List Int)) (h3 : List (List Int)) (K : AExit → St → Option α) : ∀ (m : Nat) (i : Int),
    loopN (trimSt ((E_w_eqInt64S_s14 α N).ann 23 4).head ((E_w_eqInt64S_s14 α N).ann 23 4).grow 4) (bodyK Try.prog (E_w_eqInt64S_s14 α N) 1 4 23 Try.f23 4) m (buildS w_eqInt64SS_l0_s4_p [.n a_n, .n a_l, .n a_c, .n b_n, .n b_l, .n b_c, .i i, .p h0, .p h1, .r h2, .r h3]) (leaveLoop ((E_w_eqInt64S_s14 α N).ann 23 4) 4 K) = w_eqInt64SS_l0_s4 none N a_n a_l a_c b_n b_l b_c h0 h1 h2 h3 m i (K .ret (buildS w_eqInt64SS_l0_s4_o0 [.p h0, .p h1, .r h2, .r h3])) (K (.exit 0) (buildS w_eqInt64SS_l0_s4_o1 [.p h0, .p h1, .r h2, .r h3])) := by
  intro m
  induction m with
  | zero => intros; rfl
  | succ m ih =>
    intro i
    rw [loopN_round]
    refine (w_eqInt64SS_l0_s4_round N a_n a_l a_c b_n b_l b_c i h0 h1 h2 h3 _ K).trans ?_
    simp only [ih]
    rfl
def E_w_eqInt64SS_l0_s4 (α : Type) (N : Nat) : Env α := (E_w_eqInt64S_s14 α N).addLoop2 23 4 (loopSum2 ((E_w_eqInt64S_s14 α N).ann 23 4) 4 w_eqInt64SS_l0_s4_p (fun l K => match l with
    | [.n a_n, .n a_l, .n a_c, .n b_n, .n b_l, .n b_c, .i i, .p h0, .p h1, .r h2, .r h3] => w_eqInt64SS_l0_s4 none N a_n a_l a_c b_n b_l b_c h0 h1 h2 h3 N i (K .ret (buildS w_eqInt64SS_l0_s4_o0 [.p h0, .p h1, .r h2, .r h3])) (K (.exit 0) (buildS w_eqInt64SS_l0_s4_o1 [.p h0, .p h1, .r h2, .r h3]))
    | _ => none) ((E_w_eqInt64S_s14 α N).ls 23 4))
theorem E_w_eqInt64SS_l0_s4_ok {α : Type} (N : Nat) : EnvOk Try.prog (E_w_eqInt64SS_l0_s4 α N) := (E_w_eqInt64S_s14_ok N).addLoop2 Try.func23 (by kernel_rfl) (loopSum_ok prog_mixed prog_names (E_w_eqInt64S_s14_ok N) Try.func23 (by kernel_rfl) (d := 1) (ro := 4) fun l K r h => by
  split at h
  · exact (w_eqInt64SS_l0_s4_loop N _ _ _ _ _ _ _ _ _ _ K N _).trans h
  · cases h)

/-- laws.eqInt64SS -/
def w_eqInt64SS_s4_a : SPat := ⟨[.sliceV 0 0 0 1 false, .sliceV 1 0 0 1 false], [[.hdr 2], [.hdr 3], [.pool .i64], [.pool .i64]]⟩
def w_eqInt64SS_s4_r0 : SPat := ⟨[.bool], [[.hdr 2], [.hdr 3], [.pool .i64], [.pool .i64]]⟩
theorem w_eqInt64SS_s4_run {α : Type} (N : Nat) (a_n : Nat) (a_l : Nat) (a_c : Nat) (b_n : Nat) (b_l : Nat) (b_c : Nat) (h0 : List (Nat × Nat)) (h1 : List (Nat × Nat)) (h2 : List (List Int)) (h3 : List (List Int)) (K : AV → Heap → Option α) :
    callK Try.prog (E_w_eqInt64SS_l0_s4 α N) 1 23 4 (buildS w_eqInt64SS_s4_a [.n a_n, .n a_l, .n a_c, .n b_n, .n b_l, .n b_c, .p h0, .p h1, .r h2, .r h3]).t (buildS w_eqInt64SS_s4_a [.n a_n, .n a_l, .n a_c, .n b_n, .n b_l, .n b_c, .p h0, .p h1, .r h2, .r h3]).h K = w_eqInt64SS_s4 none N a_n a_l a_c b_n b_l b_c h0 h1 h2 h3 (fun r__ => retK (buildS w_eqInt64SS_s4_r0 [.b r__, .p h0, .p h1, .r h2, .r h3]) K) := by kernel_rfl
def E_w_eqInt64SS_s4 (α : Type) (N : Nat) : Env α := (E_w_eqInt64SS_l0_s4 α N).addFun 23 true 4 w_eqInt64SS_s4_a (fun l K => match l with
    | [.n a_n, .n a_l, .n a_c, .n b_n, .n b_l, .n b_c, .p h0, .p h1, .r h2, .r h3] => w_eqInt64SS_s4 none N a_n a_l a_c b_n b_l b_c h0 h1 h2 h3 (fun r__ => retK (buildS w_eqInt64SS_s4_r0 [.b r__, .p h0, .p h1, .r h2, .r h3]) K)
    | _ => none)
theorem E_w_eqInt64SS_s4_ok {α : Type} (N : Nat) : EnvOk Try.prog (E_w_eqInt64SS_s4 α N) := (E_w_eqInt64SS_l0_s4_ok N).addFun prog_mixed prog_names (d := 1) fun l K r h => by
  split at h
  · exact (w_eqInt64SS_s4_run N _ _ _ _ _ _ _ _ _ _ K).trans h
  · cases h

/-- laws.FnExactTurnNumbers -/
def w_FnExactTurnNumbers_a : SPat := ⟨[.agg [.vals [.int .i64], .ints .u8 8, .ints .u8 8]], []⟩
def w_FnExactTurnNumbers_r0 : SPat := ⟨[.bool], []⟩
theorem w_FnExactTurnNumbers_run {α : Type} (N : Nat) (aG_0 : Int) (aG_1 : Nat → Int) (aG_2 : Nat → Int) (K : AV → Heap → Option α) :
    callK Try.prog (E_w_eqInt64SS_s4 α N) 1 10 0 (buildS w_FnExactTurnNumbers_a [.i aG_0, .f aG_1, .f aG_2]).t (buildS w_FnExactTurnNumbers_a [.i aG_0, .f aG_1, .f aG_2]).h K = w_FnExactTurnNumbers none N aG_0 aG_1 aG_2 (fun r__ => retK (buildS w_FnExactTurnNumbers_r0 [.b r__]) K) := by kernel_rfl
def E_w_FnExactTurnNumbers (α : Type) (N : Nat) : Env α := (E_w_eqInt64SS_s4 α N).addFun 10 true 0 w_FnExactTurnNumbers_a (fun l K => match l with
    | [.i aG_0, .f aG_1, .f aG_2] => w_FnExactTurnNumbers none N aG_0 aG_1 aG_2 (fun r__ => retK (buildS w_FnExactTurnNumbers_r0 [.b r__]) K)
    | _ => none)
theorem E_w_FnExactTurnNumbers_ok {α : Type} (N : Nat) : EnvOk Try.prog (E_w_FnExactTurnNumbers α N) := (E_w_eqInt64SS_s4_ok N).addFun prog_mixed prog_names (d := 1) fun l K r h => by
  split at h
  · exact (w_FnExactTurnNumbers_run N _ _ _ K).trans h
  · cases h
end Go.AM
