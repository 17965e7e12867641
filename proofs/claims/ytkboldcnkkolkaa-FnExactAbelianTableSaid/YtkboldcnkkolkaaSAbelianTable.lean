/- A part of a proof about the given program: an abstract machine, what the given functions come to, and plain laws. -/
import Derived.Test.YtkboldcnkkolkaaMachG
import Derived.Test.YtkboldcnkkolkaaDallAbelianTable1
import Derived.Test.YtkboldcnkkolkaaDallAbelianTable2
import Derived.Test.YtkboldcnkkolkaaProg
set_option linter.unusedVariables false
set_option linter.unusedSimpArgs false
set_option maxRecDepth 100000
namespace Go.AM
open Go.Proofs

def E0 (α : Type) (N : Nat) : Env α := Env.base (fun _ _ => {}) N
theorem E0_ok {α : Type} (N : Nat) : EnvOk Try.prog (E0 α N) := .base
theorem prog_mixed : Try.prog.follows .mixedOrders = true := by kernel_rfl
theorem prog_names : NamesOk Try.prog := .of_all (by kernel_rfl)
def A_w_toByteA8_l0 (α : Type) (N : Nat) : Env α := (E0 α N).addAnn 55 3 { head := [1, 2, 3, 4], grow := [], out := [2, 3], ret := [2] }
theorem A_w_toByteA8_l0_ok {α : Type} (N : Nat) : EnvOk Try.prog (A_w_toByteA8_l0 α N) := (E0_ok N).addAnn

/-- laws.toByteA8, loop -/
def w_toByteA8_l0_p : SPat := ⟨[.undef, .ptr ⟨⟨0, 0⟩, 0, 0, 8⟩, .ptr ⟨⟨1, 0⟩, 0, 0, 8⟩, .ptr ⟨⟨2, 0⟩, 0, 0, 8⟩, .int .i64] ++ List.replicate 10 .undef, [[.ints .u8 8], [.ints .u8 8], [.ints .u8 8]]⟩
def w_toByteA8_l0_o0 : SPat := ⟨[.undef, .undef, .ptr ⟨⟨1, 0⟩, 0, 0, 8⟩, .ptr ⟨⟨2, 0⟩, 0, 0, 8⟩] ++ List.replicate 11 .undef, [[.ints .u8 8], [.ints .u8 8], [.ints .u8 8]]⟩
theorem w_toByteA8_l0_round {α : Type} (N : Nat) (i : Int) (h0 : Nat → Int) (h1 : Nat → Int) (h2 : Nat → Int) (kn : St → Option α) (K : AExit → St → Option α) :
    roundK Try.prog (A_w_toByteA8_l0 α N) 1 0 55 Try.f55 3 3 (buildS w_toByteA8_l0_p [.i i, .f h0, .f h1, .f h2]) kn K = w_toByteA8_l0_s none h0 h1 i h2 (fun i h2 => kn (buildS w_toByteA8_l0_p [.i i, .f h0, .f h1, .f h2])) (fun h2_ => K (.exit 0) (buildS w_toByteA8_l0_o0 [.f h0, .f h1, .f h2_])) := by kernel_rfl
theorem w_toByteA8_l0_loop {α : Type} (N : Nat) (h0 : Nat → Int) (h1 : Nat → Int) (K : AExit → St → Option α) : ∀ (m : Nat) (i : Int) (h2 : Nat → Int),
    loopN (trimSt ((A_w_toByteA8_l0 α N).ann 55 3).head ((A_w_toByteA8_l0 α N).ann 55 3).grow 3) (bodyK Try.prog (A_w_toByteA8_l0 α N) 1 0 55 Try.f55 3) m (buildS w_toByteA8_l0_p [.i i, .f h0, .f h1, .f h2]) (leaveLoop ((A_w_toByteA8_l0 α N).ann 55 3) 3 K) = w_toByteA8_l0 none h0 h1 m i h2 (fun h2_ => K (.exit 0) (buildS w_toByteA8_l0_o0 [.f h0, .f h1, .f h2_])) := by
  intro m
  induction m with
  | zero => intros; rfl
  | succ m ih =>
    intro i h2
    rw [loopN_round]
    refine (w_toByteA8_l0_round N i h0 h1 h2 _ K).trans ?_
    simp only [ih]
    rfl
def E_w_toByteA8_l0 (α : Type) (N : Nat) : Env α := (A_w_toByteA8_l0 α N).addLoop2 55 3 (loopSum2 ((A_w_toByteA8_l0 α N).ann 55 3) 0 w_toByteA8_l0_p (fun l K => match l with
    | [.i i, .f h0, .f h1, .f h2] => w_toByteA8_l0 none h0 h1 N i h2 (fun h2_ => K (.exit 0) (buildS w_toByteA8_l0_o0 [.f h0, .f h1, .f h2_]))
    | _ => none) ((A_w_toByteA8_l0 α N).ls 55 3))
theorem E_w_toByteA8_l0_ok {α : Type} (N : Nat) : EnvOk Try.prog (E_w_toByteA8_l0 α N) := (A_w_toByteA8_l0_ok N).addLoop2 Try.func55 (by kernel_rfl) (loopSum_ok prog_mixed prog_names (A_w_toByteA8_l0_ok N) Try.func55 (by kernel_rfl) (d := 1) (ro := 0) fun l K r h => by
  split at h
  · exact (w_toByteA8_l0_loop N _ _ K N _ _).trans h
  · cases h)

/-- laws.toByteA8 -/
def w_toByteA8_a : SPat := ⟨[.agg [.ints .u8 8]], []⟩
def w_toByteA8_r0 : SPat := ⟨[.agg [.ints .u8 8]], []⟩
theorem w_toByteA8_run {α : Type} (N : Nat) (a : Nat → Int) (K : AV → Heap → Option α) :
    callK Try.prog (E_w_toByteA8_l0 α N) 1 55 0 (buildS w_toByteA8_a [.f a]).t (buildS w_toByteA8_a [.f a]).h K = w_toByteA8 none N a (fun r__ => retK (buildS w_toByteA8_r0 [.f r__]) K) := by kernel_rfl
def E_w_toByteA8 (α : Type) (N : Nat) : Env α := (E_w_toByteA8_l0 α N).addFun 55 true 0 w_toByteA8_a (fun l K => match l with
    | [.f a] => w_toByteA8 none N a (fun r__ => retK (buildS w_toByteA8_r0 [.f r__]) K)
    | _ => none)
theorem E_w_toByteA8_ok {α : Type} (N : Nat) : EnvOk Try.prog (E_w_toByteA8 α N) := (E_w_toByteA8_l0_ok N).addFun prog_mixed prog_names (d := 1) fun l K r h => by
  split at h
  · exact (w_toByteA8_run N _ K).trans h
  · cases h

/-- laws.toGrid -/
def w_toGrid_a : SPat := ⟨[.agg [.vals [.int .i64], .ints .u8 8, .ints .u8 8]], []⟩
def w_toGrid_r0 : SPat := ⟨[.agg [.vals [.int .i64], .ints .u8 8, .ints .u8 8]], []⟩
theorem w_toGrid_run {α : Type} (N : Nat) (a_0 : Int) (a_1 : Nat → Int) (a_2 : Nat → Int) (K : AV → Heap → Option α) :
    callK Try.prog (E_w_toByteA8 α N) 1 17 0 (buildS w_toGrid_a [.i a_0, .f a_1, .f a_2]).t (buildS w_toGrid_a [.i a_0, .f a_1, .f a_2]).h K = w_toGrid none N a_0 a_1 a_2 (fun r_1_ r_2_ => retK (buildS w_toGrid_r0 [.i a_0, .f r_1_, .f r_2_]) K) := by kernel_rfl
def E_w_toGrid (α : Type) (N : Nat) : Env α := (E_w_toByteA8 α N).addFun 17 true 0 w_toGrid_a (fun l K => match l with
    | [.i a_0, .f a_1, .f a_2] => w_toGrid none N a_0 a_1 a_2 (fun r_1_ r_2_ => retK (buildS w_toGrid_r0 [.i a_0, .f r_1_, .f r_2_]) K)
    | _ => none)
theorem E_w_toGrid_ok {α : Type} (N : Nat) : EnvOk Try.prog (E_w_toGrid α N) := (E_w_toByteA8_ok N).addFun prog_mixed prog_names (d := 1) fun l K r h => by
  split at h
  · exact (w_toGrid_run N _ _ _ K).trans h
  · cases h

/-- spec.l01In -/
def s_l01In_a : SPat := ⟨[.int .i64, .int .i64, .int .i64], []⟩
def s_l01In_r0 : SPat := ⟨[.bool], []⟩
theorem s_l01In_run {α : Type} (N : Nat) (n : Int) (low : Int) (high : Int) (K : AV → Heap → Option α) :
    callK Try.prog (E_w_toGrid α N) 1 98 0 (buildS s_l01In_a [.i n, .i low, .i high]).t (buildS s_l01In_a [.i n, .i low, .i high]).h K = s_l01In none N n low high (fun r__ => retK (buildS s_l01In_r0 [.b r__]) K) := by kernel_rfl
def E_s_l01In (α : Type) (N : Nat) : Env α := (E_w_toGrid α N).addFun 98 true 0 s_l01In_a (fun l K => match l with
    | [.i n, .i low, .i high] => s_l01In none N n low high (fun r__ => retK (buildS s_l01In_r0 [.b r__]) K)
    | _ => none)
theorem E_s_l01In_ok {α : Type} (N : Nat) : EnvOk Try.prog (E_s_l01In α N) := (E_w_toGrid_ok N).addFun prog_mixed prog_names (d := 1) fun l K r h => by
  split at h
  · exact (s_l01In_run N _ _ _ K).trans h
  · cases h

def A_s_l01Perm_l0 (α : Type) (N : Nat) : Env α := (E_s_l01In α N).addAnn 114 3 { head := [1, 2, 5, 6], grow := [], out := [], ret := [4] }
theorem A_s_l01Perm_l0_ok {α : Type} (N : Nat) : EnvOk Try.prog (A_s_l01Perm_l0 α N) := (E_s_l01In_ok N).addAnn

/-- spec.l01Perm, loop -/
def s_l01Perm_l0_p : SPat := ⟨[.undef, .int .i64, .ptr ⟨⟨0, 0⟩, 0, 0, 8⟩, .undef, .undef, .ptr ⟨⟨1, 0⟩, 0, 0, 8⟩, .int .i64] ++ List.replicate 29 .undef, [[.ints .u8 8], [.bools 8]]⟩
def s_l01Perm_l0_o0 : SPat := ⟨[.undef, .undef, .undef, .undef, .boolC false] ++ List.replicate 31 .undef, [[.ints .u8 8], [.bools 8]]⟩
def s_l01Perm_l0_o1 : SPat := ⟨[] ++ List.replicate 36 .undef, [[.ints .u8 8], [.bools 8]]⟩
theorem s_l01Perm_l0_round {α : Type} (N : Nat) (n : Int) (i : Int) (h0 : Nat → Int) (h1 : Nat → Bool) (kn : St → Option α) (K : AExit → St → Option α) :
    roundK Try.prog (A_s_l01Perm_l0 α N) 1 0 114 Try.f114 3 2 (buildS s_l01Perm_l0_p [.i n, .i i, .f h0, .g h1]) kn K = s_l01Perm_l0_s none n h0 i h1 (fun i h1 => kn (buildS s_l01Perm_l0_p [.i n, .i i, .f h0, .g h1])) (fun h1_ => K .ret (buildS s_l01Perm_l0_o0 [.f h0, .g h1_])) (fun h1_ => K (.exit 0) (buildS s_l01Perm_l0_o1 [.f h0, .g h1_])) := by kernel_rfl
theorem s_l01Perm_l0_loop {α : Type} (N : Nat) (n : Int) (h0 : Nat → Int) (K : AExit → St → Option α) : ∀ (m : Nat) (i : Int) (h1 : Nat → Bool),
    loopN (trimSt ((A_s_l01Perm_l0 α N).ann 114 3).head ((A_s_l01Perm_l0 α N).ann 114 3).grow 2) (bodyK Try.prog (A_s_l01Perm_l0 α N) 1 0 114 Try.f114 3) m (buildS s_l01Perm_l0_p [.i n, .i i, .f h0, .g h1]) (leaveLoop ((A_s_l01Perm_l0 α N).ann 114 3) 2 K) = s_l01Perm_l0 none n h0 m i h1 (fun h1_ => K .ret (buildS s_l01Perm_l0_o0 [.f h0, .g h1_])) (fun h1_ => K (.exit 0) (buildS s_l01Perm_l0_o1 [.f h0, .g h1_])) := by
  intro m
  induction m with
  | zero => intros; rfl
  | succ m ih =>
    intro i h1
    rw [loopN_round]
    refine (s_l01Perm_l0_round N n i h0 h1 _ K).trans ?_
    simp only [ih]
    rfl
def E_s_l01Perm_l0 (α : Type) (N : Nat) : Env α := (A_s_l01Perm_l0 α N).addLoop2 114 3 (loopSum2 ((A_s_l01Perm_l0 α N).ann 114 3) 0 s_l01Perm_l0_p (fun l K => match l with
    | [.i n, .i i, .f h0, .g h1] => s_l01Perm_l0 none n h0 N i h1 (fun h1_ => K .ret (buildS s_l01Perm_l0_o0 [.f h0, .g h1_])) (fun h1_ => K (.exit 0) (buildS s_l01Perm_l0_o1 [.f h0, .g h1_]))
    | _ => none) ((A_s_l01Perm_l0 α N).ls 114 3))
theorem E_s_l01Perm_l0_ok {α : Type} (N : Nat) : EnvOk Try.prog (E_s_l01Perm_l0 α N) := (A_s_l01Perm_l0_ok N).addLoop2 Try.func114 (by kernel_rfl) (loopSum_ok prog_mixed prog_names (A_s_l01Perm_l0_ok N) Try.func114 (by kernel_rfl) (d := 1) (ro := 0) fun l K r h => by
  split at h
  · exact (s_l01Perm_l0_loop N _ _ K N _ _).trans h
  · cases h)

/-- spec.l01Perm -/
def s_l01Perm_a : SPat := ⟨[.agg [.ints .u8 8], .int .i64], []⟩
def s_l01Perm_r0 : SPat := ⟨[.bool], []⟩
theorem s_l01Perm_run {α : Type} (N : Nat) (list : Nat → Int) (n : Int) (K : AV → Heap → Option α) :
    callK Try.prog (E_s_l01Perm_l0 α N) 1 114 0 (buildS s_l01Perm_a [.f list, .i n]).t (buildS s_l01Perm_a [.f list, .i n]).h K = s_l01Perm none N list n (fun r__ => retK (buildS s_l01Perm_r0 [.b r__]) K) := by kernel_rfl
def E_s_l01Perm (α : Type) (N : Nat) : Env α := (E_s_l01Perm_l0 α N).addFun 114 true 0 s_l01Perm_a (fun l K => match l with
    | [.f list, .i n] => s_l01Perm none N list n (fun r__ => retK (buildS s_l01Perm_r0 [.b r__]) K)
    | _ => none)
theorem E_s_l01Perm_ok {α : Type} (N : Nat) : EnvOk Try.prog (E_s_l01Perm α N) := (E_s_l01Perm_l0_ok N).addFun prog_mixed prog_names (d := 1) fun l K r h => by
  split at h
  · exact (s_l01Perm_run N _ _ K).trans h
  · cases h

def A_s_l01Is_l0 (α : Type) (N : Nat) : Env α := (E_s_l01Perm α N).addAnn 52 4 { head := [1, 3], grow := [], out := [], ret := [2] }
theorem A_s_l01Is_l0_ok {α : Type} (N : Nat) : EnvOk Try.prog (A_s_l01Is_l0 α N) := (E_s_l01Perm_ok N).addAnn

/-- spec.l01Is, loop -/
def s_l01Is_l0_p : SPat := ⟨[.undef, .ptr ⟨⟨0, 0⟩, 0, 0, 1⟩, .undef, .int .i64] ++ List.replicate 35 .undef, [[.vals [.int .i64], .ints .u8 8, .ints .u8 8]]⟩
def s_l01Is_l0_o0 : SPat := ⟨[.undef, .undef, .boolC false] ++ List.replicate 36 .undef, [[.vals [.int .i64], .ints .u8 8, .ints .u8 8]]⟩
def s_l01Is_l0_o1 : SPat := ⟨[] ++ List.replicate 39 .undef, [[.vals [.int .i64], .ints .u8 8, .ints .u8 8]]⟩
theorem s_l01Is_l0_round {α : Type} (N : Nat) (i : Int) (h0_0 : Int) (h0_1 : Nat → Int) (h0_2 : Nat → Int) (kn : St → Option α) (K : AExit → St → Option α) :
    roundK Try.prog (A_s_l01Is_l0 α N) 1 0 52 Try.f52 4 1 (buildS s_l01Is_l0_p [.i i, .i h0_0, .f h0_1, .f h0_2]) kn K = s_l01Is_l0_s none h0_0 h0_1 h0_2 i (fun i => kn (buildS s_l01Is_l0_p [.i i, .i h0_0, .f h0_1, .f h0_2])) (K .ret (buildS s_l01Is_l0_o0 [.i h0_0, .f h0_1, .f h0_2])) (K (.exit 0) (buildS s_l01Is_l0_o1 [.i h0_0, .f h0_1, .f h0_2])) := by kernel_rfl
theorem s_l01Is_l0_loop {α : Type} (N : Nat) (h0_0 : Int) (h0_1 : Nat → Int) (h0_2 : Nat → Int) (K : AExit → St → Option α) : ∀ (m : Nat) (i : Int),
    loopN (trimSt ((A_s_l01Is_l0 α N).ann 52 4).head ((A_s_l01Is_l0 α N).ann 52 4).grow 1) (bodyK Try.prog (A_s_l01Is_l0 α N) 1 0 52 Try.f52 4) m (buildS s_l01Is_l0_p [.i i, .i h0_0, .f h0_1, .f h0_2]) (leaveLoop ((A_s_l01Is_l0 α N).ann 52 4) 1 K) = s_l01Is_l0 none h0_0 h0_1 h0_2 m i (K .ret (buildS s_l01Is_l0_o0 [.i h0_0, .f h0_1, .f h0_2])) (K (.exit 0) (buildS s_l01Is_l0_o1 [.i h0_0, .f h0_1, .f h0_2])) := by
  intro m
  induction m with
  | zero => intros; rfl
  | succ m ih =>
    intro i
    rw [loopN_round]
    refine (s_l01Is_l0_round N i h0_0 h0_1 h0_2 _ K).trans ?_
    simp only [ih]
    rfl
def E_s_l01Is_l0 (α : Type) (N : Nat) : Env α := (A_s_l01Is_l0 α N).addLoop2 52 4 (loopSum2 ((A_s_l01Is_l0 α N).ann 52 4) 0 s_l01Is_l0_p (fun l K => match l with
    | [.i i, .i h0_0, .f h0_1, .f h0_2] => s_l01Is_l0 none h0_0 h0_1 h0_2 N i (K .ret (buildS s_l01Is_l0_o0 [.i h0_0, .f h0_1, .f h0_2])) (K (.exit 0) (buildS s_l01Is_l0_o1 [.i h0_0, .f h0_1, .f h0_2]))
    | _ => none) ((A_s_l01Is_l0 α N).ls 52 4))
theorem E_s_l01Is_l0_ok {α : Type} (N : Nat) : EnvOk Try.prog (E_s_l01Is_l0 α N) := (A_s_l01Is_l0_ok N).addLoop2 Try.func52 (by kernel_rfl) (loopSum_ok prog_mixed prog_names (A_s_l01Is_l0_ok N) Try.func52 (by kernel_rfl) (d := 1) (ro := 0) fun l K r h => by
  split at h
  · exact (s_l01Is_l0_loop N _ _ _ K N _).trans h
  · cases h)

/-- spec.l01Is -/
def s_l01Is_a : SPat := ⟨[.agg [.vals [.int .i64], .ints .u8 8, .ints .u8 8]], []⟩
def s_l01Is_r0 : SPat := ⟨[.bool], []⟩
theorem s_l01Is_run {α : Type} (N : Nat) (g_0 : Int) (g_1 : Nat → Int) (g_2 : Nat → Int) (K : AV → Heap → Option α) :
    callK Try.prog (E_s_l01Is_l0 α N) 1 52 0 (buildS s_l01Is_a [.i g_0, .f g_1, .f g_2]).t (buildS s_l01Is_a [.i g_0, .f g_1, .f g_2]).h K = s_l01Is none N g_0 g_1 g_2 (fun r__ => retK (buildS s_l01Is_r0 [.b r__]) K) := by kernel_rfl
def E_s_l01Is (α : Type) (N : Nat) : Env α := (E_s_l01Is_l0 α N).addFun 52 true 0 s_l01Is_a (fun l K => match l with
    | [.i g_0, .f g_1, .f g_2] => s_l01Is none N g_0 g_1 g_2 (fun r__ => retK (buildS s_l01Is_r0 [.b r__]) K)
    | _ => none)
theorem E_s_l01Is_ok {α : Type} (N : Nat) : EnvOk Try.prog (E_s_l01Is α N) := (E_s_l01Is_l0_ok N).addFun prog_mixed prog_names (d := 1) fun l K r h => by
  split at h
  · exact (s_l01Is_run N _ _ _ K).trans h
  · cases h

def A_s_l01Components_l0 (α : Type) (N : Nat) : Env α := (E_s_l01Is α N).addAnn 66 3 { head := [1, 2, 4, 5, 6], grow := [], out := [1, 2, 4, 5], ret := [2, 3] }
theorem A_s_l01Components_l0_ok {α : Type} (N : Nat) : EnvOk Try.prog (A_s_l01Components_l0 α N) := (E_s_l01Is_ok N).addAnn

/-- spec.l01Components, loop -/
def s_l01Components_l0_p : SPat := ⟨[.undef, .ptr ⟨⟨0, 0⟩, 0, 0, 1⟩, .ptr ⟨⟨1, 0⟩, 0, 0, 8⟩, .undef, .ptr ⟨⟨2, 0⟩, 0, 0, 8⟩, .intC .i64 0, .int .i64] ++ List.replicate 34 .undef, [[.vals [.int .i64], .ints .u8 8, .ints .u8 8], [.ints .i64 8], [.ints .i64 8]]⟩
def s_l01Components_l0_o0 : SPat := ⟨[.undef, .ptr ⟨⟨0, 0⟩, 0, 0, 1⟩, .ptr ⟨⟨1, 0⟩, 0, 0, 8⟩, .undef, .ptr ⟨⟨2, 0⟩, 0, 0, 8⟩, .intC .i64 0] ++ List.replicate 35 .undef, [[.vals [.int .i64], .ints .u8 8, .ints .u8 8], [.ints .i64 8], [.ints .i64 8]]⟩
theorem s_l01Components_l0_round {α : Type} (N : Nat) (i : Int) (h0_0 : Int) (h0_1 : Nat → Int) (h0_2 : Nat → Int) (h1 : Nat → Int) (h2 : Nat → Int) (kn : St → Option α) (K : AExit → St → Option α) :
    roundK Try.prog (A_s_l01Components_l0 α N) 1 0 66 Try.f66 3 3 (buildS s_l01Components_l0_p [.i i, .i h0_0, .f h0_1, .f h0_2, .f h1, .f h2]) kn K = s_l01Components_l0_s none h0_0 h0_1 h0_2 h1 i h2 (fun i h2 => kn (buildS s_l01Components_l0_p [.i i, .i h0_0, .f h0_1, .f h0_2, .f h1, .f h2])) (fun h2_ => K (.exit 0) (buildS s_l01Components_l0_o0 [.i h0_0, .f h0_1, .f h0_2, .f h1, .f h2_])) := by kernel_rfl
theorem s_l01Components_l0_loop {α : Type} (N : Nat) (h0_0 : Int) (h0_1 : Nat → Int) (h0_2 : Nat → Int) (h1 : Nat → Int) (K : AExit → St → Option α) : ∀ (m : Nat) (i : Int) (h2 : Nat → Int),
    loopN (trimSt ((A_s_l01Components_l0 α N).ann 66 3).head ((A_s_l01Components_l0 α N).ann 66 3).grow 3) (bodyK Try.prog (A_s_l01Components_l0 α N) 1 0 66 Try.f66 3) m (buildS s_l01Components_l0_p [.i i, .i h0_0, .f h0_1, .f h0_2, .f h1, .f h2]) (leaveLoop ((A_s_l01Components_l0 α N).ann 66 3) 3 K) = s_l01Components_l0 none h0_0 h0_1 h0_2 h1 m i h2 (fun h2_ => K (.exit 0) (buildS s_l01Components_l0_o0 [.i h0_0, .f h0_1, .f h0_2, .f h1, .f h2_])) := by
  intro m
  induction m with
  | zero => intros; rfl
  | succ m ih =>
    intro i h2
    rw [loopN_round]
    refine (s_l01Components_l0_round N i h0_0 h0_1 h0_2 h1 h2 _ K).trans ?_
    simp only [ih]
    rfl
def E_s_l01Components_l0 (α : Type) (N : Nat) : Env α := (A_s_l01Components_l0 α N).addLoop2 66 3 (loopSum2 ((A_s_l01Components_l0 α N).ann 66 3) 0 s_l01Components_l0_p (fun l K => match l with
    | [.i i, .i h0_0, .f h0_1, .f h0_2, .f h1, .f h2] => s_l01Components_l0 none h0_0 h0_1 h0_2 h1 N i h2 (fun h2_ => K (.exit 0) (buildS s_l01Components_l0_o0 [.i h0_0, .f h0_1, .f h0_2, .f h1, .f h2_]))
    | _ => none) ((A_s_l01Components_l0 α N).ls 66 3))
theorem E_s_l01Components_l0_ok {α : Type} (N : Nat) : EnvOk Try.prog (E_s_l01Components_l0 α N) := (A_s_l01Components_l0_ok N).addLoop2 Try.func66 (by kernel_rfl) (loopSum_ok prog_mixed prog_names (A_s_l01Components_l0_ok N) Try.func66 (by kernel_rfl) (d := 1) (ro := 0) fun l K r h => by
  split at h
  · exact (s_l01Components_l0_loop N _ _ _ _ K N _ _).trans h
  · cases h)

def A_s_l01Components_l1 (α : Type) (N : Nat) : Env α := (E_s_l01Components_l0 α N).addAnn 66 7 { head := [1, 2, 4, 5, 7], grow := [], out := [2, 4, 5], ret := [2, 3] }
theorem A_s_l01Components_l1_ok {α : Type} (N : Nat) : EnvOk Try.prog (A_s_l01Components_l1 α N) := (E_s_l01Components_l0_ok N).addAnn

def A_s_l01Components_l2 (α : Type) (N : Nat) : Env α := (A_s_l01Components_l1 α N).addAnn 66 11 { head := [1, 2, 4, 5, 7, 8], grow := [], out := [1, 2, 4, 5, 7], ret := [2, 3] }
theorem A_s_l01Components_l2_ok {α : Type} (N : Nat) : EnvOk Try.prog (A_s_l01Components_l2 α N) := (A_s_l01Components_l1_ok N).addAnn

def A_s_l01Row_l0 (α : Type) (N : Nat) : Env α := (A_s_l01Components_l2 α N).addAnn 133 2 { head := [1, 2, 3, 7], grow := [], out := [], ret := [6] }
theorem A_s_l01Row_l0_ok {α : Type} (N : Nat) : EnvOk Try.prog (A_s_l01Row_l0 α N) := (A_s_l01Components_l2_ok N).addAnn

/-- spec.l01Row, loop -/
def s_l01Row_l0_p : SPat := ⟨[.undef, .int .i64, .int .i64, .ptr ⟨⟨0, 0⟩, 0, 0, 8⟩, .undef, .undef, .undef, .int .i64] ++ List.replicate 12 .undef, [[.ints .u8 8]]⟩
def s_l01Row_l0_o0 : SPat := ⟨[.undef, .undef, .undef, .undef, .undef, .undef, .int .i64] ++ List.replicate 13 .undef, [[.ints .u8 8]]⟩
def s_l01Row_l0_o1 : SPat := ⟨[] ++ List.replicate 20 .undef, [[.ints .u8 8]]⟩
theorem s_l01Row_l0_round {α : Type} (N : Nat) (n : Int) (r_ : Int) (i : Int) (h0 : Nat → Int) (kn : St → Option α) (K : AExit → St → Option α) :
    roundK Try.prog (A_s_l01Row_l0 α N) 1 0 133 Try.f133 2 1 (buildS s_l01Row_l0_p [.i n, .i r_, .i i, .f h0]) kn K = s_l01Row_l0_s none n r_ h0 i (fun i => kn (buildS s_l01Row_l0_p [.i n, .i r_, .i i, .f h0])) (fun t6_ => K .ret (buildS s_l01Row_l0_o0 [.i t6_, .f h0])) (K (.exit 0) (buildS s_l01Row_l0_o1 [.f h0])) := by kernel_rfl
theorem s_l01Row_l0_loop {α : Type} (N : Nat) (n : Int) (r_ : Int) (h0 : Nat → Int) (K : AExit → St → Option α) : ∀ (m : Nat) (i : Int),
    loopN (trimSt ((A_s_l01Row_l0 α N).ann 133 2).head ((A_s_l01Row_l0 α N).ann 133 2).grow 1) (bodyK Try.prog (A_s_l01Row_l0 α N) 1 0 133 Try.f133 2) m (buildS s_l01Row_l0_p [.i n, .i r_, .i i, .f h0]) (leaveLoop ((A_s_l01Row_l0 α N).ann 133 2) 1 K) = s_l01Row_l0 none n r_ h0 m i (fun t6_ => K .ret (buildS s_l01Row_l0_o0 [.i t6_, .f h0])) (K (.exit 0) (buildS s_l01Row_l0_o1 [.f h0])) := by
  intro m
  induction m with
  | zero => intros; rfl
  | succ m ih =>
    intro i
    rw [loopN_round]
    refine (s_l01Row_l0_round N n r_ i h0 _ K).trans ?_
    simp only [ih]
    rfl
def E_s_l01Row_l0 (α : Type) (N : Nat) : Env α := (A_s_l01Row_l0 α N).addLoop2 133 2 (loopSum2 ((A_s_l01Row_l0 α N).ann 133 2) 0 s_l01Row_l0_p (fun l K => match l with
    | [.i n, .i r_, .i i, .f h0] => s_l01Row_l0 none n r_ h0 N i (fun t6_ => K .ret (buildS s_l01Row_l0_o0 [.i t6_, .f h0])) (K (.exit 0) (buildS s_l01Row_l0_o1 [.f h0]))
    | _ => none) ((A_s_l01Row_l0 α N).ls 133 2))
theorem E_s_l01Row_l0_ok {α : Type} (N : Nat) : EnvOk Try.prog (E_s_l01Row_l0 α N) := (A_s_l01Row_l0_ok N).addLoop2 Try.func133 (by kernel_rfl) (loopSum_ok prog_mixed prog_names (A_s_l01Row_l0_ok N) Try.func133 (by kernel_rfl) (d := 1) (ro := 0) fun l K r h => by
  split at h
  · exact (s_l01Row_l0_loop N _ _ _ K N _).trans h
  · cases h)

/-- spec.l01Row -/
def s_l01Row_a : SPat := ⟨[.agg [.ints .u8 8], .int .i64, .int .i64], []⟩
def s_l01Row_r0 : SPat := ⟨[.int .i64], []⟩
theorem s_l01Row_run {α : Type} (N : Nat) (list : Nat → Int) (n : Int) (r_ : Int) (K : AV → Heap → Option α) :
    callK Try.prog (E_s_l01Row_l0 α N) 1 133 0 (buildS s_l01Row_a [.f list, .i n, .i r_]).t (buildS s_l01Row_a [.f list, .i n, .i r_]).h K = s_l01Row none N list n r_ (fun r__ => retK (buildS s_l01Row_r0 [.i r__]) K) := by kernel_rfl
def E_s_l01Row (α : Type) (N : Nat) : Env α := (E_s_l01Row_l0 α N).addFun 133 true 0 s_l01Row_a (fun l K => match l with
    | [.f list, .i n, .i r_] => s_l01Row none N list n r_ (fun r__ => retK (buildS s_l01Row_r0 [.i r__]) K)
    | _ => none)
theorem E_s_l01Row_ok {α : Type} (N : Nat) : EnvOk Try.prog (E_s_l01Row α N) := (E_s_l01Row_l0_ok N).addFun prog_mixed prog_names (d := 1) fun l K r h => by
  split at h
  · exact (s_l01Row_run N _ _ _ K).trans h
  · cases h

/-- spec.l01Follow -/
def s_l01Follow_a : SPat := ⟨[.agg [.vals [.int .i64], .ints .u8 8, .ints .u8 8], .int .i64], []⟩
def s_l01Follow_r0 : SPat := ⟨[.int .i64], []⟩
theorem s_l01Follow_run {α : Type} (N : Nat) (g_0 : Int) (g_1 : Nat → Int) (g_2 : Nat → Int) (i : Int) (K : AV → Heap → Option α) :
    callK Try.prog (E_s_l01Row α N) 1 81 0 (buildS s_l01Follow_a [.i g_0, .f g_1, .f g_2, .i i]).t (buildS s_l01Follow_a [.i g_0, .f g_1, .f g_2, .i i]).h K = s_l01Follow none N g_0 g_1 g_2 i (fun r__ => retK (buildS s_l01Follow_r0 [.i r__]) K) := by kernel_rfl
def E_s_l01Follow (α : Type) (N : Nat) : Env α := (E_s_l01Row α N).addFun 81 true 0 s_l01Follow_a (fun l K => match l with
    | [.i g_0, .f g_1, .f g_2, .i i] => s_l01Follow none N g_0 g_1 g_2 i (fun r__ => retK (buildS s_l01Follow_r0 [.i r__]) K)
    | _ => none)
theorem E_s_l01Follow_ok {α : Type} (N : Nat) : EnvOk Try.prog (E_s_l01Follow α N) := (E_s_l01Row_ok N).addFun prog_mixed prog_names (d := 1) fun l K r h => by
  split at h
  · exact (s_l01Follow_run N _ _ _ _ K).trans h
  · cases h

/-- spec.l01Components, loop -/
def s_l01Components_l2_p : SPat := ⟨[.undef, .ptr ⟨⟨0, 0⟩, 0, 0, 1⟩, .ptr ⟨⟨1, 0⟩, 0, 0, 8⟩, .undef, .ptr ⟨⟨2, 0⟩, 0, 0, 8⟩, .int .i64, .undef, .int .i64, .int .i64] ++ List.replicate 32 .undef, [[.vals [.int .i64], .ints .u8 8, .ints .u8 8], [.ints .i64 8], [.ints .i64 8]]⟩
def s_l01Components_l2_o0 : SPat := ⟨[.undef, .ptr ⟨⟨0, 0⟩, 0, 0, 1⟩, .ptr ⟨⟨1, 0⟩, 0, 0, 8⟩, .undef, .ptr ⟨⟨2, 0⟩, 0, 0, 8⟩, .int .i64, .undef, .int .i64] ++ List.replicate 33 .undef, [[.vals [.int .i64], .ints .u8 8, .ints .u8 8], [.ints .i64 8], [.ints .i64 8]]⟩
theorem s_l01Components_l2_round {α : Type} (N : Nat) (count : Int) (i : Int) (k : Int) (h0_0 : Int) (h0_1 : Nat → Int) (h0_2 : Nat → Int) (h1 : Nat → Int) (h2 : Nat → Int) (kn : St → Option α) (K : AExit → St → Option α) :
    roundK Try.prog (E_s_l01Follow α N) 1 0 66 Try.f66 11 3 (buildS s_l01Components_l2_p [.i count, .i i, .i k, .i h0_0, .f h0_1, .f h0_2, .f h1, .f h2]) kn K = s_l01Components_l2_s none N count i h0_0 h0_1 h0_2 h1 k h2 (fun k h2 => kn (buildS s_l01Components_l2_p [.i count, .i i, .i k, .i h0_0, .f h0_1, .f h0_2, .f h1, .f h2])) (fun h2_ => K (.exit 4) (buildS s_l01Components_l2_o0 [.i count, .i i, .i h0_0, .f h0_1, .f h0_2, .f h1, .f h2_])) := by kernel_rfl
theorem s_l01Components_l2_loop {α : Type} (N : Nat) (count : Int) (i : Int) (h0_0 : Int) (h0_1 : Nat → Int) (h0_2 : Nat → Int) (h1 : Nat → Int) (K : AExit → St → Option α) : ∀ (m : Nat) (k : Int) (h2 : Nat → Int),
    loopN (trimSt ((E_s_l01Follow α N).ann 66 11).head ((E_s_l01Follow α N).ann 66 11).grow 3) (bodyK Try.prog (E_s_l01Follow α N) 1 0 66 Try.f66 11) m (buildS s_l01Components_l2_p [.i count, .i i, .i k, .i h0_0, .f h0_1, .f h0_2, .f h1, .f h2]) (leaveLoop ((E_s_l01Follow α N).ann 66 11) 3 K) = s_l01Components_l2 none N count i h0_0 h0_1 h0_2 h1 m k h2 (fun h2_ => K (.exit 4) (buildS s_l01Components_l2_o0 [.i count, .i i, .i h0_0, .f h0_1, .f h0_2, .f h1, .f h2_])) := by
  intro m
  induction m with
  | zero => intros; rfl
  | succ m ih =>
    intro k h2
    rw [loopN_round]
    refine (s_l01Components_l2_round N count i k h0_0 h0_1 h0_2 h1 h2 _ K).trans ?_
    simp only [ih]
    rfl
def E_s_l01Components_l2 (α : Type) (N : Nat) : Env α := (E_s_l01Follow α N).addLoop2 66 11 (loopSum2 ((E_s_l01Follow α N).ann 66 11) 0 s_l01Components_l2_p (fun l K => match l with
    | [.i count, .i i, .i k, .i h0_0, .f h0_1, .f h0_2, .f h1, .f h2] => s_l01Components_l2 none N count i h0_0 h0_1 h0_2 h1 N k h2 (fun h2_ => K (.exit 4) (buildS s_l01Components_l2_o0 [.i count, .i i, .i h0_0, .f h0_1, .f h0_2, .f h1, .f h2_]))
    | _ => none) ((E_s_l01Follow α N).ls 66 11))
theorem E_s_l01Components_l2_ok {α : Type} (N : Nat) : EnvOk Try.prog (E_s_l01Components_l2 α N) := (E_s_l01Follow_ok N).addLoop2 Try.func66 (by kernel_rfl) (loopSum_ok prog_mixed prog_names (E_s_l01Follow_ok N) Try.func66 (by kernel_rfl) (d := 1) (ro := 0) fun l K r h => by
  split at h
  · exact (s_l01Components_l2_loop N _ _ _ _ _ _ K N _ _).trans h
  · cases h)

/-- spec.l01Components, loop -/
def s_l01Components_l1_p : SPat := ⟨[.undef, .ptr ⟨⟨0, 0⟩, 0, 0, 1⟩, .ptr ⟨⟨1, 0⟩, 0, 0, 8⟩, .undef, .ptr ⟨⟨2, 0⟩, 0, 0, 8⟩, .int .i64, .undef, .int .i64] ++ List.replicate 33 .undef, [[.vals [.int .i64], .ints .u8 8, .ints .u8 8], [.ints .i64 8], [.ints .i64 8]]⟩
def s_l01Components_l1_o0 : SPat := ⟨[.undef, .undef, .ptr ⟨⟨1, 0⟩, 0, 0, 8⟩, .undef, .ptr ⟨⟨2, 0⟩, 0, 0, 8⟩, .int .i64] ++ List.replicate 35 .undef, [[.vals [.int .i64], .ints .u8 8, .ints .u8 8], [.ints .i64 8], [.ints .i64 8]]⟩
theorem s_l01Components_l1_round {α : Type} (N : Nat) (count : Int) (i : Int) (h0_0 : Int) (h0_1 : Nat → Int) (h0_2 : Nat → Int) (h1 : Nat → Int) (h2 : Nat → Int) (kn : St → Option α) (K : AExit → St → Option α) :
    roundK Try.prog (E_s_l01Components_l2 α N) 1 0 66 Try.f66 7 3 (buildS s_l01Components_l1_p [.i count, .i i, .i h0_0, .f h0_1, .f h0_2, .f h1, .f h2]) kn K = s_l01Components_l1_s none N h0_0 h0_1 h0_2 h1 count i h2 (fun count i h2 => kn (buildS s_l01Components_l1_p [.i count, .i i, .i h0_0, .f h0_1, .f h0_2, .f h1, .f h2])) (fun count_ h2_ => K (.exit 2) (buildS s_l01Components_l1_o0 [.i count_, .i h0_0, .f h0_1, .f h0_2, .f h1, .f h2_])) := by kernel_rfl
theorem s_l01Components_l1_loop {α : Type} (N : Nat) (h0_0 : Int) (h0_1 : Nat → Int) (h0_2 : Nat → Int) (h1 : Nat → Int) (K : AExit → St → Option α) : ∀ (m : Nat) (count : Int) (i : Int) (h2 : Nat → Int),
    loopN (trimSt ((E_s_l01Components_l2 α N).ann 66 7).head ((E_s_l01Components_l2 α N).ann 66 7).grow 3) (bodyK Try.prog (E_s_l01Components_l2 α N) 1 0 66 Try.f66 7) m (buildS s_l01Components_l1_p [.i count, .i i, .i h0_0, .f h0_1, .f h0_2, .f h1, .f h2]) (leaveLoop ((E_s_l01Components_l2 α N).ann 66 7) 3 K) = s_l01Components_l1 none N h0_0 h0_1 h0_2 h1 m count i h2 (fun count_ h2_ => K (.exit 2) (buildS s_l01Components_l1_o0 [.i count_, .i h0_0, .f h0_1, .f h0_2, .f h1, .f h2_])) := by
  intro m
  induction m with
  | zero => intros; rfl
  | succ m ih =>
    intro count i h2
    rw [loopN_round]
    refine (s_l01Components_l1_round N count i h0_0 h0_1 h0_2 h1 h2 _ K).trans ?_
    simp only [ih]
    rfl
def E_s_l01Components_l1 (α : Type) (N : Nat) : Env α := (E_s_l01Components_l2 α N).addLoop2 66 7 (loopSum2 ((E_s_l01Components_l2 α N).ann 66 7) 0 s_l01Components_l1_p (fun l K => match l with
    | [.i count, .i i, .i h0_0, .f h0_1, .f h0_2, .f h1, .f h2] => s_l01Components_l1 none N h0_0 h0_1 h0_2 h1 N count i h2 (fun count_ h2_ => K (.exit 2) (buildS s_l01Components_l1_o0 [.i count_, .i h0_0, .f h0_1, .f h0_2, .f h1, .f h2_]))
    | _ => none) ((E_s_l01Components_l2 α N).ls 66 7))
theorem E_s_l01Components_l1_ok {α : Type} (N : Nat) : EnvOk Try.prog (E_s_l01Components_l1 α N) := (E_s_l01Components_l2_ok N).addLoop2 Try.func66 (by kernel_rfl) (loopSum_ok prog_mixed prog_names (E_s_l01Components_l2_ok N) Try.func66 (by kernel_rfl) (d := 1) (ro := 0) fun l K r h => by
  split at h
  · exact (s_l01Components_l1_loop N _ _ _ _ K N _ _ _).trans h
  · cases h)

/-- spec.l01Components -/
def s_l01Components_a : SPat := ⟨[.agg [.vals [.int .i64], .ints .u8 8, .ints .u8 8]], []⟩
def s_l01Components_r0 : SPat := ⟨[.tuple [.agg [.ints .i64 8], .int .i64]], []⟩
theorem s_l01Components_run {α : Type} (N : Nat) (g_0 : Int) (g_1 : Nat → Int) (g_2 : Nat → Int) (K : AV → Heap → Option α) :
    callK Try.prog (E_s_l01Components_l1 α N) 1 66 0 (buildS s_l01Components_a [.i g_0, .f g_1, .f g_2]).t (buildS s_l01Components_a [.i g_0, .f g_1, .f g_2]).h K = s_l01Components none N g_0 g_1 g_2 (fun r_0_ r_1_ => retK (buildS s_l01Components_r0 [.f r_0_, .i r_1_]) K) := by kernel_rfl
def E_s_l01Components (α : Type) (N : Nat) : Env α := (E_s_l01Components_l1 α N).addFun 66 true 0 s_l01Components_a (fun l K => match l with
    | [.i g_0, .f g_1, .f g_2] => s_l01Components none N g_0 g_1 g_2 (fun r_0_ r_1_ => retK (buildS s_l01Components_r0 [.f r_0_, .i r_1_]) K)
    | _ => none)
theorem E_s_l01Components_ok {α : Type} (N : Nat) : EnvOk Try.prog (E_s_l01Components α N) := (E_s_l01Components_l1_ok N).addFun prog_mixed prog_names (d := 1) fun l K r h => by
  split at h
  · exact (s_l01Components_run N _ _ _ K).trans h
  · cases h

def A_s_AbelianTable_l0 (α : Type) (N : Nat) : Env α := (E_s_l01Components α N).addAnn 21 6 { head := [1, 4, 5, 6, 7], grow := [6], out := [6], ret := [2, 3] }
theorem A_s_AbelianTable_l0_ok {α : Type} (N : Nat) : EnvOk Try.prog (A_s_AbelianTable_l0 α N) := (E_s_l01Components_ok N).addAnn

def A_s_l08Relation_l0 (α : Type) (N : Nat) : Env α := (A_s_AbelianTable_l0 α N).addAnn 67 3 { head := [1, 2, 5, 6], grow := [5], out := [5], ret := [4] }
theorem A_s_l08Relation_l0_ok {α : Type} (N : Nat) : EnvOk Try.prog (A_s_l08Relation_l0 α N) := (A_s_AbelianTable_l0_ok N).addAnn

/-- spec.l08Relation, loop -/
def s_l08Relation_l0_p : SPat := ⟨[.undef, .int .i64, .ptr ⟨⟨0, 0⟩, 0, 0, 1⟩, .undef, .undef, .sliceV 1 0 0 1 false, .int .i64] ++ List.replicate 27 .undef, [[.vals [.int .i64], .ints .u8 8, .ints .u8 8], [.vec .i64]]⟩
def s_l08Relation_l0_o0 : SPat := ⟨[.undef, .undef, .undef, .undef, .undef, .sliceV 1 0 0 1 false] ++ List.replicate 28 .undef, [[.vals [.int .i64], .ints .u8 8, .ints .u8 8], [.vec .i64]]⟩
theorem s_l08Relation_l0_round {α : Type} (N : Nat) (r_ : Int) (out_n : Nat) (out_l : Nat) (out_c : Nat) (i : Int) (h0_0 : Int) (h0_1 : Nat → Int) (h0_2 : Nat → Int) (h1 : List Int) (kn : St → Option α) (K : AExit → St → Option α) :
    roundK Try.prog (A_s_l08Relation_l0 α N) 1 0 67 Try.f67 3 2 (buildS s_l08Relation_l0_p [.i r_, .n out_n, .n out_l, .n out_c, .i i, .i h0_0, .f h0_1, .f h0_2, .l h1]) kn K = s_l08Relation_l0_s none r_ h0_0 h0_1 h0_2 out_n out_l out_c i h1 (fun out_n out_l out_c i h1 => kn (buildS s_l08Relation_l0_p [.i r_, .n out_n, .n out_l, .n out_c, .i i, .i h0_0, .f h0_1, .f h0_2, .l h1])) (fun out_n_ out_l_ out_c_ h1_ => K (.exit 0) (buildS s_l08Relation_l0_o0 [.n out_n_, .n out_l_, .n out_c_, .i h0_0, .f h0_1, .f h0_2, .l h1_])) := by kernel_rfl
theorem s_l08Relation_l0_loop {α : Type} (N : Nat) (r_ : Int) (h0_0 : Int) (h0_1 : Nat → Int) (h0_2 : Nat → Int) (K : AExit → St → Option α) : ∀ (m : Nat) (out_n : Nat) (out_l : Nat) (out_c : Nat) (i : Int) (h1 : List Int),
    loopN (trimSt ((A_s_l08Relation_l0 α N).ann 67 3).head ((A_s_l08Relation_l0 α N).ann 67 3).grow 2) (bodyK Try.prog (A_s_l08Relation_l0 α N) 1 0 67 Try.f67 3) m (buildS s_l08Relation_l0_p [.i r_, .n out_n, .n out_l, .n out_c, .i i, .i h0_0, .f h0_1, .f h0_2, .l h1]) (leaveLoop ((A_s_l08Relation_l0 α N).ann 67 3) 2 K) = s_l08Relation_l0 none r_ h0_0 h0_1 h0_2 m out_n out_l out_c i h1 (fun out_n_ out_l_ out_c_ h1_ => K (.exit 0) (buildS s_l08Relation_l0_o0 [.n out_n_, .n out_l_, .n out_c_, .i h0_0, .f h0_1, .f h0_2, .l h1_])) := by
  intro m
  induction m with
  | zero => intros; rfl
  | succ m ih =>
    intro out_n out_l out_c i h1
    rw [loopN_round]
    refine (s_l08Relation_l0_round N r_ out_n out_l out_c i h0_0 h0_1 h0_2 h1 _ K).trans ?_
    simp only [ih]
    rfl
def E_s_l08Relation_l0 (α : Type) (N : Nat) : Env α := (A_s_l08Relation_l0 α N).addLoop2 67 3 (loopSum2 ((A_s_l08Relation_l0 α N).ann 67 3) 0 s_l08Relation_l0_p (fun l K => match l with
    | [.i r_, .n out_n, .n out_l, .n out_c, .i i, .i h0_0, .f h0_1, .f h0_2, .l h1] => s_l08Relation_l0 none r_ h0_0 h0_1 h0_2 N out_n out_l out_c i h1 (fun out_n_ out_l_ out_c_ h1_ => K (.exit 0) (buildS s_l08Relation_l0_o0 [.n out_n_, .n out_l_, .n out_c_, .i h0_0, .f h0_1, .f h0_2, .l h1_]))
    | _ => none) ((A_s_l08Relation_l0 α N).ls 67 3))
theorem E_s_l08Relation_l0_ok {α : Type} (N : Nat) : EnvOk Try.prog (E_s_l08Relation_l0 α N) := (A_s_l08Relation_l0_ok N).addLoop2 Try.func67 (by kernel_rfl) (loopSum_ok prog_mixed prog_names (A_s_l08Relation_l0_ok N) Try.func67 (by kernel_rfl) (d := 1) (ro := 0) fun l K r h => by
  split at h
  · exact (s_l08Relation_l0_loop N _ _ _ _ K N _ _ _ _ _).trans h
  · cases h)

/-- spec.l08Relation -/
def s_l08Relation_a : SPat := ⟨[.agg [.vals [.int .i64], .ints .u8 8, .ints .u8 8], .int .i64], []⟩
def s_l08Relation_r0 : SPat := ⟨[.sliceV 0 0 0 1 false], [[.vec .i64]]⟩
theorem s_l08Relation_run {α : Type} (N : Nat) (g_0 : Int) (g_1 : Nat → Int) (g_2 : Nat → Int) (r_ : Int) (K : AV → Heap → Option α) :
    callK Try.prog (E_s_l08Relation_l0 α N) 1 67 0 (buildS s_l08Relation_a [.i g_0, .f g_1, .f g_2, .i r_]).t (buildS s_l08Relation_a [.i g_0, .f g_1, .f g_2, .i r_]).h K = s_l08Relation none N g_0 g_1 g_2 r_ (fun r_n_ r_l_ r_c_ h0_ => retK (buildS s_l08Relation_r0 [.n r_n_, .n r_l_, .n r_c_, .l h0_]) K) := by kernel_rfl
def E_s_l08Relation (α : Type) (N : Nat) : Env α := (E_s_l08Relation_l0 α N).addFun 67 true 0 s_l08Relation_a (fun l K => match l with
    | [.i g_0, .f g_1, .f g_2, .i r_] => s_l08Relation none N g_0 g_1 g_2 r_ (fun r_n_ r_l_ r_c_ h0_ => retK (buildS s_l08Relation_r0 [.n r_n_, .n r_l_, .n r_c_, .l h0_]) K)
    | _ => none)
theorem E_s_l08Relation_ok {α : Type} (N : Nat) : EnvOk Try.prog (E_s_l08Relation α N) := (E_s_l08Relation_l0_ok N).addFun prog_mixed prog_names (d := 1) fun l K r h => by
  split at h
  · exact (s_l08Relation_run N _ _ _ _ K).trans h
  · cases h

def A_s_AbelianTable_l1 (α : Type) (N : Nat) : Env α := (E_s_l08Relation α N).addAnn 21 10 { head := [1, 4, 5, 6, 7, 8, 9, 10], grow := [], out := [1, 4, 5, 6, 7, 8], ret := [2, 3] }
theorem A_s_AbelianTable_l1_ok {α : Type} (N : Nat) : EnvOk Try.prog (A_s_AbelianTable_l1 α N) := (E_s_l08Relation_ok N).addAnn

/-- spec.l08Direction -/
def s_l08Direction_a : SPat := ⟨[.agg [.vals [.int .i64], .ints .u8 8, .ints .u8 8], .int .i64], []⟩
def s_l08Direction_r0 : SPat := ⟨[.int .i64], []⟩
theorem s_l08Direction_run {α : Type} (N : Nat) (g_0 : Int) (g_1 : Nat → Int) (g_2 : Nat → Int) (i : Int) (K : AV → Heap → Option α) :
    callK Try.prog (A_s_AbelianTable_l1 α N) 1 68 0 (buildS s_l08Direction_a [.i g_0, .f g_1, .f g_2, .i i]).t (buildS s_l08Direction_a [.i g_0, .f g_1, .f g_2, .i i]).h K = s_l08Direction none N g_0 g_1 g_2 i (fun r__ => retK (buildS s_l08Direction_r0 [.i r__]) K) := by kernel_rfl
def E_s_l08Direction (α : Type) (N : Nat) : Env α := (A_s_AbelianTable_l1 α N).addFun 68 true 0 s_l08Direction_a (fun l K => match l with
    | [.i g_0, .f g_1, .f g_2, .i i] => s_l08Direction none N g_0 g_1 g_2 i (fun r__ => retK (buildS s_l08Direction_r0 [.i r__]) K)
    | _ => none)
theorem E_s_l08Direction_ok {α : Type} (N : Nat) : EnvOk Try.prog (E_s_l08Direction α N) := (A_s_AbelianTable_l1_ok N).addFun prog_mixed prog_names (d := 1) fun l K r h => by
  split at h
  · exact (s_l08Direction_run N _ _ _ _ K).trans h
  · cases h

/-- spec.AbelianTable, loop -/
def s_AbelianTable_l1_p : SPat := ⟨[.undef, .ptr ⟨⟨0, 0⟩, 0, 0, 1⟩, .undef, .undef, .ptr ⟨⟨1, 0⟩, 0, 0, 8⟩, .int .i64, .sliceV 3 0 0 1 false, .int .i64, .sliceV 4 0 0 1 true, .sliceV 5 0 0 1 false, .int .i64] ++ List.replicate 53 .undef, [[.vals [.int .i64], .ints .u8 8, .ints .u8 8], [.ints .i64 8], [.pool .i64], [.hdr 2], [.intsV .i64], [.vec .i64]]⟩
def s_AbelianTable_l1_o0 : SPat := ⟨[.undef, .ptr ⟨⟨0, 0⟩, 0, 0, 1⟩, .undef, .undef, .ptr ⟨⟨1, 0⟩, 0, 0, 8⟩, .int .i64, .sliceV 3 0 0 1 false, .int .i64, .sliceV 4 0 0 1 true] ++ List.replicate 55 .undef, [[.vals [.int .i64], .ints .u8 8, .ints .u8 8], [.ints .i64 8], [.pool .i64], [.hdr 2], [.intsV .i64], [.vec .i64]]⟩
theorem s_AbelianTable_l1_round {α : Type} (N : Nat) (count : Int) (out_n : Nat) (out_l : Nat) (out_c : Nat) (r_ : Int) (row_n : Nat) (row_l : Nat) (row_c : Nat) (list_n : Nat) (list_l : Nat) (list_c : Nat) (i : Int) (h0_0 : Int) (h0_1 : Nat → Int) (h0_2 : Nat → Int) (h1 : Nat → Int) (h2 : List (List Int)) (h3 : List (Nat × Nat)) (h4_n : Nat) (h4 : Nat → Int) (h5 : List Int) (kn : St → Option α) (K : AExit → St → Option α) :
    roundK Try.prog (E_s_l08Direction α N) 1 0 21 Try.f21 10 6 (buildS s_AbelianTable_l1_p [.i count, .n out_n, .n out_l, .n out_c, .i r_, .n row_n, .n row_l, .n row_c, .n list_n, .n list_l, .n list_c, .i i, .i h0_0, .f h0_1, .f h0_2, .f h1, .r h2, .p h3, .n h4_n, .f h4, .l h5]) kn K = s_AbelianTable_l1_s none N count out_n out_l out_c r_ row_n row_l row_c list_n list_l list_c h0_0 h0_1 h0_2 h1 h2 h3 h4_n h5 i h4 (fun i h4 => kn (buildS s_AbelianTable_l1_p [.i count, .n out_n, .n out_l, .n out_c, .i r_, .n row_n, .n row_l, .n row_c, .n list_n, .n list_l, .n list_c, .i i, .i h0_0, .f h0_1, .f h0_2, .f h1, .r h2, .p h3, .n h4_n, .f h4, .l h5])) (fun h4_ => K (.exit 2) (buildS s_AbelianTable_l1_o0 [.i count, .n out_n, .n out_l, .n out_c, .i r_, .n row_n, .n row_l, .n row_c, .i h0_0, .f h0_1, .f h0_2, .f h1, .r h2, .p h3, .n h4_n, .f h4_, .l h5])) := by kernel_rfl
theorem s_AbelianTable_l1_loop {α : Type} (N : Nat) (count : Int) (out_n : Nat) (out_l : Nat) (out_c : Nat) (r_ : Int) (row_n : Nat) (row_l : Nat) (row_c : Nat) (list_n : Nat) (list_l : Nat) (list_c : Nat) (h0_0 : Int) (h0_1 : Nat → Int) (h0_2 : Nat → Int) (h1 : Nat → Int) (h2 : List (List Int)) (h3 : List (Nat × Nat)) (h4_n : Nat) (h5 : List Int) (K : AExit → St → Option α) : ∀ (m : Nat) (i : Int) (h4 : Nat → Int),
    loopN (trimSt ((E_s_l08Direction α N).ann 21 10).head ((E_s_l08Direction α N).ann 21 10).grow 6) (bodyK Try.prog (E_s_l08Direction α N) 1 0 21 Try.f21 10) m (buildS s_AbelianTable_l1_p [.i count, .n out_n, .n out_l, .n out_c, .i r_, .n row_n, .n row_l, .n row_c, .n list_n, .n list_l, .n list_c, .i i, .i h0_0, .f h0_1, .f h0_2, .f h1, .r h2, .p h3, .n h4_n, .f h4, .l h5]) (leaveLoop ((E_s_l08Direction α N).ann 21 10) 6 K) = s_AbelianTable_l1 none N count out_n out_l out_c r_ row_n row_l row_c list_n list_l list_c h0_0 h0_1 h0_2 h1 h2 h3 h4_n h5 m i h4 (fun h4_ => K (.exit 2) (buildS s_AbelianTable_l1_o0 [.i count, .n out_n, .n out_l, .n out_c, .i r_, .n row_n, .n row_l, .n row_c, .i h0_0, .f h0_1, .f h0_2, .f h1, .r h2, .p h3, .n h4_n, .f h4_, .l h5])) := by
  intro m
  induction m with
  | zero => intros; rfl
  | succ m ih =>
    intro i h4
    rw [loopN_round]
    refine (s_AbelianTable_l1_round N count out_n out_l out_c r_ row_n row_l row_c list_n list_l list_c i h0_0 h0_1 h0_2 h1 h2 h3 h4_n h4 h5 _ K).trans ?_
    simp only [ih]
    rfl
def E_s_AbelianTable_l1 (α : Type) (N : Nat) : Env α := (E_s_l08Direction α N).addLoop2 21 10 (loopSum2 ((E_s_l08Direction α N).ann 21 10) 0 s_AbelianTable_l1_p (fun l K => match l with
    | [.i count, .n out_n, .n out_l, .n out_c, .i r_, .n row_n, .n row_l, .n row_c, .n list_n, .n list_l, .n list_c, .i i, .i h0_0, .f h0_1, .f h0_2, .f h1, .r h2, .p h3, .n h4_n, .f h4, .l h5] => s_AbelianTable_l1 none N count out_n out_l out_c r_ row_n row_l row_c list_n list_l list_c h0_0 h0_1 h0_2 h1 h2 h3 h4_n h5 N i h4 (fun h4_ => K (.exit 2) (buildS s_AbelianTable_l1_o0 [.i count, .n out_n, .n out_l, .n out_c, .i r_, .n row_n, .n row_l, .n row_c, .i h0_0, .f h0_1, .f h0_2, .f h1, .r h2, .p h3, .n h4_n, .f h4_, .l h5]))
    | _ => none) ((E_s_l08Direction α N).ls 21 10))
theorem E_s_AbelianTable_l1_ok {α : Type} (N : Nat) : EnvOk Try.prog (E_s_AbelianTable_l1 α N) := (E_s_l08Direction_ok N).addLoop2 Try.func21 (by kernel_rfl) (loopSum_ok prog_mixed prog_names (E_s_l08Direction_ok N) Try.func21 (by kernel_rfl) (d := 1) (ro := 0) fun l K r h => by
  split at h
  · exact (s_AbelianTable_l1_loop N _ _ _ _ _ _ _ _ _ _ _ _ _ _ _ _ _ _ _ K N _ _).trans h
  · cases h)

/-- spec.AbelianTable, loop -/
def s_AbelianTable_l0_p : SPat := ⟨[.undef, .ptr ⟨⟨0, 0⟩, 0, 0, 1⟩, .undef, .undef, .ptr ⟨⟨1, 0⟩, 0, 0, 8⟩, .int .i64, .sliceV 3 0 0 1 false, .int .i64] ++ List.replicate 56 .undef, [[.vals [.int .i64], .ints .u8 8, .ints .u8 8], [.ints .i64 8], [.pool .i64], [.hdr 2]]⟩
def s_AbelianTable_l0_o0 : SPat := ⟨[.undef, .undef, .undef, .undef, .undef, .undef, .sliceV 3 0 0 1 false] ++ List.replicate 57 .undef, [[.vals [.int .i64], .ints .u8 8, .ints .u8 8], [.ints .i64 8], [.pool .i64], [.hdr 2]]⟩
theorem s_AbelianTable_l0_round {α : Type} (N : Nat) (count : Int) (out_n : Nat) (out_l : Nat) (out_c : Nat) (r_ : Int) (h0_0 : Int) (h0_1 : Nat → Int) (h0_2 : Nat → Int) (h1 : Nat → Int) (h2 : List (List Int)) (h3 : List (Nat × Nat)) (kn : St → Option α) (K : AExit → St → Option α) :
    roundK Try.prog (E_s_AbelianTable_l1 α N) 1 0 21 Try.f21 6 4 (buildS s_AbelianTable_l0_p [.i count, .n out_n, .n out_l, .n out_c, .i r_, .i h0_0, .f h0_1, .f h0_2, .f h1, .r h2, .p h3]) kn K = s_AbelianTable_l0_s none N count h0_0 h0_1 h0_2 h1 out_n out_l out_c r_ h2 h3 (fun out_n out_l out_c r_ h2 h3 => kn (buildS s_AbelianTable_l0_p [.i count, .n out_n, .n out_l, .n out_c, .i r_, .i h0_0, .f h0_1, .f h0_2, .f h1, .r h2, .p h3])) (fun out_n_ out_l_ out_c_ h2_ h3_ => K (.exit 0) (buildS s_AbelianTable_l0_o0 [.n out_n_, .n out_l_, .n out_c_, .i h0_0, .f h0_1, .f h0_2, .f h1, .r h2_, .p h3_])) := by kernel_rfl
theorem s_AbelianTable_l0_loop {α : Type} (N : Nat) (count : Int) (h0_0 : Int) (h0_1 : Nat → Int) (h0_2 : Nat → Int) (h1 : Nat → Int) (K : AExit → St → Option α) : ∀ (m : Nat) (out_n : Nat) (out_l : Nat) (out_c : Nat) (r_ : Int) (h2 : List (List Int)) (h3 : List (Nat × Nat)),
    loopN (trimSt ((E_s_AbelianTable_l1 α N).ann 21 6).head ((E_s_AbelianTable_l1 α N).ann 21 6).grow 4) (bodyK Try.prog (E_s_AbelianTable_l1 α N) 1 0 21 Try.f21 6) m (buildS s_AbelianTable_l0_p [.i count, .n out_n, .n out_l, .n out_c, .i r_, .i h0_0, .f h0_1, .f h0_2, .f h1, .r h2, .p h3]) (leaveLoop ((E_s_AbelianTable_l1 α N).ann 21 6) 4 K) = s_AbelianTable_l0 none N count h0_0 h0_1 h0_2 h1 m out_n out_l out_c r_ h2 h3 (fun out_n_ out_l_ out_c_ h2_ h3_ => K (.exit 0) (buildS s_AbelianTable_l0_o0 [.n out_n_, .n out_l_, .n out_c_, .i h0_0, .f h0_1, .f h0_2, .f h1, .r h2_, .p h3_])) := by
  intro m
  induction m with
  | zero => intros; rfl
  | succ m ih =>
    intro out_n out_l out_c r_ h2 h3
    rw [loopN_round]
    refine (s_AbelianTable_l0_round N count out_n out_l out_c r_ h0_0 h0_1 h0_2 h1 h2 h3 _ K).trans ?_
    simp only [ih]
    rfl
def E_s_AbelianTable_l0 (α : Type) (N : Nat) : Env α := (E_s_AbelianTable_l1 α N).addLoop2 21 6 (loopSum2 ((E_s_AbelianTable_l1 α N).ann 21 6) 0 s_AbelianTable_l0_p (fun l K => match l with
    | [.i count, .n out_n, .n out_l, .n out_c, .i r_, .i h0_0, .f h0_1, .f h0_2, .f h1, .r h2, .p h3] => s_AbelianTable_l0 none N count h0_0 h0_1 h0_2 h1 N out_n out_l out_c r_ h2 h3 (fun out_n_ out_l_ out_c_ h2_ h3_ => K (.exit 0) (buildS s_AbelianTable_l0_o0 [.n out_n_, .n out_l_, .n out_c_, .i h0_0, .f h0_1, .f h0_2, .f h1, .r h2_, .p h3_]))
    | _ => none) ((E_s_AbelianTable_l1 α N).ls 21 6))
theorem E_s_AbelianTable_l0_ok {α : Type} (N : Nat) : EnvOk Try.prog (E_s_AbelianTable_l0 α N) := (E_s_AbelianTable_l1_ok N).addLoop2 Try.func21 (by kernel_rfl) (loopSum_ok prog_mixed prog_names (E_s_AbelianTable_l1_ok N) Try.func21 (by kernel_rfl) (d := 1) (ro := 0) fun l K r h => by
  split at h
  · exact (s_AbelianTable_l0_loop N _ _ _ _ _ K N _ _ _ _ _ _).trans h
  · cases h)

/-- spec.AbelianTable -/
def s_AbelianTable_a : SPat := ⟨[.agg [.vals [.int .i64], .ints .u8 8, .ints .u8 8]], []⟩
def s_AbelianTable_r0 : SPat := ⟨[.tuple [.nils, .int .i64]], []⟩
def s_AbelianTable_r1 : SPat := ⟨[.tuple [.sliceV 0 0 0 1 false, .int .i64]], [[.hdr 1], [.pool .i64]]⟩
theorem s_AbelianTable_run {α : Type} (N : Nat) (g_0 : Int) (g_1 : Nat → Int) (g_2 : Nat → Int) (K : AV → Heap → Option α) :
    callK Try.prog (E_s_AbelianTable_l0 α N) 1 21 0 (buildS s_AbelianTable_a [.i g_0, .f g_1, .f g_2]).t (buildS s_AbelianTable_a [.i g_0, .f g_1, .f g_2]).h K = s_AbelianTable none N g_0 g_1 g_2 (fun r_1_ => retK (buildS s_AbelianTable_r0 [.i r_1_]) K) (fun r_0_n_ r_0_l_ r_0_c_ r_1_ h0_ h1_ => retK (buildS s_AbelianTable_r1 [.n r_0_n_, .n r_0_l_, .n r_0_c_, .i r_1_, .p h0_, .r h1_]) K) := by kernel_rfl
def E_s_AbelianTable (α : Type) (N : Nat) : Env α := (E_s_AbelianTable_l0 α N).addFun 21 true 0 s_AbelianTable_a (fun l K => match l with
    | [.i g_0, .f g_1, .f g_2] => s_AbelianTable none N g_0 g_1 g_2 (fun r_1_ => retK (buildS s_AbelianTable_r0 [.i r_1_]) K) (fun r_0_n_ r_0_l_ r_0_c_ r_1_ h0_ h1_ => retK (buildS s_AbelianTable_r1 [.n r_0_n_, .n r_0_l_, .n r_0_c_, .i r_1_, .p h0_, .r h1_]) K)
    | _ => none)
theorem E_s_AbelianTable_ok {α : Type} (N : Nat) : EnvOk Try.prog (E_s_AbelianTable α N) := (E_s_AbelianTable_l0_ok N).addFun prog_mixed prog_names (d := 1) fun l K r h => by
  split at h
  · exact (s_AbelianTable_run N _ _ _ K).trans h
  · cases h

/-- impl.within -/
def i_within_a : SPat := ⟨[.int .i64, .int .i64, .int .i64], []⟩
def i_within_r0 : SPat := ⟨[.bool], []⟩
theorem i_within_run {α : Type} (N : Nat) (x : Int) (low : Int) (high : Int) (K : AV → Heap → Option α) :
    callK Try.prog (E_s_AbelianTable α N) 1 118 0 (buildS i_within_a [.i x, .i low, .i high]).t (buildS i_within_a [.i x, .i low, .i high]).h K = i_within none N x low high (fun r__ => retK (buildS i_within_r0 [.b r__]) K) := by kernel_rfl
def E_i_within (α : Type) (N : Nat) : Env α := (E_s_AbelianTable α N).addFun 118 true 0 i_within_a (fun l K => match l with
    | [.i x, .i low, .i high] => i_within none N x low high (fun r__ => retK (buildS i_within_r0 [.b r__]) K)
    | _ => none)
theorem E_i_within_ok {α : Type} (N : Nat) : EnvOk Try.prog (E_i_within α N) := (E_s_AbelianTable_ok N).addFun prog_mixed prog_names (d := 1) fun l K r h => by
  split at h
  · exact (i_within_run N _ _ _ K).trans h
  · cases h

/-- (impl.Grid).n -/
def i_Grid_n_a : SPat := ⟨[.agg [.vals [.int .i64], .ints .u8 8, .ints .u8 8]], []⟩
def i_Grid_n_r0 : SPat := ⟨[.int .i64], []⟩
theorem i_Grid_n_run {α : Type} (N : Nat) (g_0 : Int) (g_1 : Nat → Int) (g_2 : Nat → Int) (K : AV → Heap → Option α) :
    callK Try.prog (E_i_within α N) 1 59 0 (buildS i_Grid_n_a [.i g_0, .f g_1, .f g_2]).t (buildS i_Grid_n_a [.i g_0, .f g_1, .f g_2]).h K = i_Grid_n none N g_0 g_1 g_2 (retK (buildS i_Grid_n_r0 [.i g_0]) K) := by kernel_rfl
def E_i_Grid_n (α : Type) (N : Nat) : Env α := (E_i_within α N).addFun 59 true 0 i_Grid_n_a (fun l K => match l with
    | [.i g_0, .f g_1, .f g_2] => i_Grid_n none N g_0 g_1 g_2 (retK (buildS i_Grid_n_r0 [.i g_0]) K)
    | _ => none)
theorem E_i_Grid_n_ok {α : Type} (N : Nat) : EnvOk Try.prog (E_i_Grid_n α N) := (E_i_within_ok N).addFun prog_mixed prog_names (d := 1) fun l K r h => by
  split at h
  · exact (i_Grid_n_run N _ _ _ K).trans h
  · cases h

def A_i_isOrder_l0 (α : Type) (N : Nat) : Env α := (E_i_Grid_n α N).addAnn 119 3 { head := [1, 5, 8, 9, 10], grow := [], out := [1, 5], ret := [4] }
theorem A_i_isOrder_l0_ok {α : Type} (N : Nat) : EnvOk Try.prog (A_i_isOrder_l0 α N) := (E_i_Grid_n_ok N).addAnn

/-- impl.isOrder, loop -/
def i_isOrder_l0_s2_p : SPat := ⟨[.undef, .int .i64, .undef, .undef, .undef, .int .i64, .undef, .undef, .slice ⟨⟨0, 0⟩, 1, 0, 8⟩ 8 8 1 true, .intC .i64 8, .int .i64] ++ List.replicate 30 .undef, [[.vals [.int .i64], .ints .u8 8, .ints .u8 8]]⟩
def i_isOrder_l0_s2_o0 : SPat := ⟨[.undef, .undef, .undef, .undef, .boolC false] ++ List.replicate 36 .undef, [[.vals [.int .i64], .ints .u8 8, .ints .u8 8]]⟩
def i_isOrder_l0_s2_o1 : SPat := ⟨[.undef, .int .i64, .undef, .undef, .undef, .int .i64] ++ List.replicate 35 .undef, [[.vals [.int .i64], .ints .u8 8, .ints .u8 8]]⟩
theorem i_isOrder_l0_s2_round {α : Type} (N : Nat) (n : Int) (seen : Int) (t10 : Int) (h0_0 : Int) (h0_1 : Nat → Int) (h0_2 : Nat → Int) (kn : St → Option α) (K : AExit → St → Option α) :
    roundK Try.prog (A_i_isOrder_l0 α N) 1 1 119 Try.f119 3 1 (buildS i_isOrder_l0_s2_p [.i n, .i seen, .i t10, .i h0_0, .f h0_1, .f h0_2]) kn K = i_isOrder_l0_s2_s none n h0_0 h0_1 h0_2 seen t10 (fun seen t10 => kn (buildS i_isOrder_l0_s2_p [.i n, .i seen, .i t10, .i h0_0, .f h0_1, .f h0_2])) (K .ret (buildS i_isOrder_l0_s2_o0 [.i h0_0, .f h0_1, .f h0_2])) (fun seen_ => K (.exit 0) (buildS i_isOrder_l0_s2_o1 [.i n, .i seen_, .i h0_0, .f h0_1, .f h0_2])) := by kernel_rfl
theorem i_isOrder_l0_s2_loop {α : Type} (N : Nat) (n : Int) (h0_0 : Int) (h0_1 : Nat → Int) (h0_2 : Nat → Int) (K : AExit → St → Option α) : ∀ (m : Nat) (seen : Int) (t10 : Int),
    loopN (trimSt ((A_i_isOrder_l0 α N).ann 119 3).head ((A_i_isOrder_l0 α N).ann 119 3).grow 1) (bodyK Try.prog (A_i_isOrder_l0 α N) 1 1 119 Try.f119 3) m (buildS i_isOrder_l0_s2_p [.i n, .i seen, .i t10, .i h0_0, .f h0_1, .f h0_2]) (leaveLoop ((A_i_isOrder_l0 α N).ann 119 3) 1 K) = i_isOrder_l0_s2 none n h0_0 h0_1 h0_2 m seen t10 (K .ret (buildS i_isOrder_l0_s2_o0 [.i h0_0, .f h0_1, .f h0_2])) (fun seen_ => K (.exit 0) (buildS i_isOrder_l0_s2_o1 [.i n, .i seen_, .i h0_0, .f h0_1, .f h0_2])) := by
  intro m
  induction m with
  | zero => intros; rfl
  | succ m ih =>
    intro seen t10
    rw [loopN_round]
    refine (i_isOrder_l0_s2_round N n seen t10 h0_0 h0_1 h0_2 _ K).trans ?_
    simp only [ih]
    rfl
def E_i_isOrder_l0_s2 (α : Type) (N : Nat) : Env α := (A_i_isOrder_l0 α N).addLoop2 119 3 (loopSum2 ((A_i_isOrder_l0 α N).ann 119 3) 1 i_isOrder_l0_s2_p (fun l K => match l with
    | [.i n, .i seen, .i t10, .i h0_0, .f h0_1, .f h0_2] => i_isOrder_l0_s2 none n h0_0 h0_1 h0_2 N seen t10 (K .ret (buildS i_isOrder_l0_s2_o0 [.i h0_0, .f h0_1, .f h0_2])) (fun seen_ => K (.exit 0) (buildS i_isOrder_l0_s2_o1 [.i n, .i seen_, .i h0_0, .f h0_1, .f h0_2]))
    | _ => none) ((A_i_isOrder_l0 α N).ls 119 3))
theorem E_i_isOrder_l0_s2_ok {α : Type} (N : Nat) : EnvOk Try.prog (E_i_isOrder_l0_s2 α N) := (A_i_isOrder_l0_ok N).addLoop2 Try.func119 (by kernel_rfl) (loopSum_ok prog_mixed prog_names (A_i_isOrder_l0_ok N) Try.func119 (by kernel_rfl) (d := 1) (ro := 1) fun l K r h => by
  split at h
  · exact (i_isOrder_l0_s2_loop N _ _ _ _ K N _ _).trans h
  · cases h)

/-- impl.isOrder -/
def i_isOrder_s2_a : SPat := ⟨[.slice ⟨⟨0, 0⟩, 1, 0, 8⟩ 8 8 1 true, .int .i64], [[.vals [.int .i64], .ints .u8 8, .ints .u8 8]]⟩
def i_isOrder_s2_r0 : SPat := ⟨[.bool], [[.vals [.int .i64], .ints .u8 8, .ints .u8 8]]⟩
theorem i_isOrder_s2_run {α : Type} (N : Nat) (n : Int) (h0_0 : Int) (h0_1 : Nat → Int) (h0_2 : Nat → Int) (K : AV → Heap → Option α) :
    callK Try.prog (E_i_isOrder_l0_s2 α N) 1 119 1 (buildS i_isOrder_s2_a [.i n, .i h0_0, .f h0_1, .f h0_2]).t (buildS i_isOrder_s2_a [.i n, .i h0_0, .f h0_1, .f h0_2]).h K = i_isOrder_s2 none N n h0_0 h0_1 h0_2 (fun r__ => retK (buildS i_isOrder_s2_r0 [.b r__, .i h0_0, .f h0_1, .f h0_2]) K) := by kernel_rfl
def E_i_isOrder_s2 (α : Type) (N : Nat) : Env α := (E_i_isOrder_l0_s2 α N).addFun 119 true 1 i_isOrder_s2_a (fun l K => match l with
    | [.i n, .i h0_0, .f h0_1, .f h0_2] => i_isOrder_s2 none N n h0_0 h0_1 h0_2 (fun r__ => retK (buildS i_isOrder_s2_r0 [.b r__, .i h0_0, .f h0_1, .f h0_2]) K)
    | _ => none)
theorem E_i_isOrder_s2_ok {α : Type} (N : Nat) : EnvOk Try.prog (E_i_isOrder_s2 α N) := (E_i_isOrder_l0_s2_ok N).addFun prog_mixed prog_names (d := 1) fun l K r h => by
  split at h
  · exact (i_isOrder_s2_run N _ _ _ _ K).trans h
  · cases h

/-- impl.isOrder, loop -/
def i_isOrder_l0_s3_p : SPat := ⟨[.undef, .int .i64, .undef, .undef, .undef, .int .i64, .undef, .undef, .slice ⟨⟨0, 0⟩, 2, 0, 8⟩ 8 8 1 true, .intC .i64 8, .int .i64] ++ List.replicate 30 .undef, [[.vals [.int .i64], .ints .u8 8, .ints .u8 8]]⟩
def i_isOrder_l0_s3_o0 : SPat := ⟨[.undef, .undef, .undef, .undef, .boolC false] ++ List.replicate 36 .undef, [[.vals [.int .i64], .ints .u8 8, .ints .u8 8]]⟩
def i_isOrder_l0_s3_o1 : SPat := ⟨[.undef, .int .i64, .undef, .undef, .undef, .int .i64] ++ List.replicate 35 .undef, [[.vals [.int .i64], .ints .u8 8, .ints .u8 8]]⟩
theorem i_isOrder_l0_s3_round {α : Type} (N : Nat) (n : Int) (seen : Int) (t10 : Int) (h0_0 : Int) (h0_1 : Nat → Int) (h0_2 : Nat → Int) (kn : St → Option α) (K : AExit → St → Option α) :
    roundK Try.prog (E_i_isOrder_s2 α N) 1 1 119 Try.f119 3 1 (buildS i_isOrder_l0_s3_p [.i n, .i seen, .i t10, .i h0_0, .f h0_1, .f h0_2]) kn K = i_isOrder_l0_s3_s none n h0_0 h0_1 h0_2 seen t10 (fun seen t10 => kn (buildS i_isOrder_l0_s3_p [.i n, .i seen, .i t10, .i h0_0, .f h0_1, .f h0_2])) (K .ret (buildS i_isOrder_l0_s3_o0 [.i h0_0, .f h0_1, .f h0_2])) (fun seen_ => K (.exit 0) (buildS i_isOrder_l0_s3_o1 [.i n, .i seen_, .i h0_0, .f h0_1, .f h0_2])) := by kernel_rfl
theorem i_isOrder_l0_s3_loop {α : Type} (N : Nat) (n : Int) (h0_0 : Int) (h0_1 : Nat → Int) (h0_2 : Nat → Int) (K : AExit → St → Option α) : ∀ (m : Nat) (seen : Int) (t10 : Int),
    loopN (trimSt ((E_i_isOrder_s2 α N).ann 119 3).head ((E_i_isOrder_s2 α N).ann 119 3).grow 1) (bodyK Try.prog (E_i_isOrder_s2 α N) 1 1 119 Try.f119 3) m (buildS i_isOrder_l0_s3_p [.i n, .i seen, .i t10, .i h0_0, .f h0_1, .f h0_2]) (leaveLoop ((E_i_isOrder_s2 α N).ann 119 3) 1 K) = i_isOrder_l0_s3 none n h0_0 h0_1 h0_2 m seen t10 (K .ret (buildS i_isOrder_l0_s3_o0 [.i h0_0, .f h0_1, .f h0_2])) (fun seen_ => K (.exit 0) (buildS i_isOrder_l0_s3_o1 [.i n, .i seen_, .i h0_0, .f h0_1, .f h0_2])) := by
  intro m
  induction m with
  | zero => intros; rfl
  | succ m ih =>
    intro seen t10
    rw [loopN_round]
    refine (i_isOrder_l0_s3_round N n seen t10 h0_0 h0_1 h0_2 _ K).trans ?_
    simp only [ih]
    rfl
def E_i_isOrder_l0_s3 (α : Type) (N : Nat) : Env α := (E_i_isOrder_s2 α N).addLoop2 119 3 (loopSum2 ((E_i_isOrder_s2 α N).ann 119 3) 1 i_isOrder_l0_s3_p (fun l K => match l with
    | [.i n, .i seen, .i t10, .i h0_0, .f h0_1, .f h0_2] => i_isOrder_l0_s3 none n h0_0 h0_1 h0_2 N seen t10 (K .ret (buildS i_isOrder_l0_s3_o0 [.i h0_0, .f h0_1, .f h0_2])) (fun seen_ => K (.exit 0) (buildS i_isOrder_l0_s3_o1 [.i n, .i seen_, .i h0_0, .f h0_1, .f h0_2]))
    | _ => none) ((E_i_isOrder_s2 α N).ls 119 3))
theorem E_i_isOrder_l0_s3_ok {α : Type} (N : Nat) : EnvOk Try.prog (E_i_isOrder_l0_s3 α N) := (E_i_isOrder_s2_ok N).addLoop2 Try.func119 (by kernel_rfl) (loopSum_ok prog_mixed prog_names (E_i_isOrder_s2_ok N) Try.func119 (by kernel_rfl) (d := 1) (ro := 1) fun l K r h => by
  split at h
  · exact (i_isOrder_l0_s3_loop N _ _ _ _ K N _ _).trans h
  · cases h)

/-- impl.isOrder -/
def i_isOrder_s3_a : SPat := ⟨[.slice ⟨⟨0, 0⟩, 2, 0, 8⟩ 8 8 1 true, .int .i64], [[.vals [.int .i64], .ints .u8 8, .ints .u8 8]]⟩
def i_isOrder_s3_r0 : SPat := ⟨[.bool], [[.vals [.int .i64], .ints .u8 8, .ints .u8 8]]⟩
theorem i_isOrder_s3_run {α : Type} (N : Nat) (n : Int) (h0_0 : Int) (h0_1 : Nat → Int) (h0_2 : Nat → Int) (K : AV → Heap → Option α) :
    callK Try.prog (E_i_isOrder_l0_s3 α N) 1 119 1 (buildS i_isOrder_s3_a [.i n, .i h0_0, .f h0_1, .f h0_2]).t (buildS i_isOrder_s3_a [.i n, .i h0_0, .f h0_1, .f h0_2]).h K = i_isOrder_s3 none N n h0_0 h0_1 h0_2 (fun r__ => retK (buildS i_isOrder_s3_r0 [.b r__, .i h0_0, .f h0_1, .f h0_2]) K) := by kernel_rfl
def E_i_isOrder_s3 (α : Type) (N : Nat) : Env α := (E_i_isOrder_l0_s3 α N).addFun 119 true 1 i_isOrder_s3_a (fun l K => match l with
    | [.i n, .i h0_0, .f h0_1, .f h0_2] => i_isOrder_s3 none N n h0_0 h0_1 h0_2 (fun r__ => retK (buildS i_isOrder_s3_r0 [.b r__, .i h0_0, .f h0_1, .f h0_2]) K)
    | _ => none)
theorem E_i_isOrder_s3_ok {α : Type} (N : Nat) : EnvOk Try.prog (E_i_isOrder_s3 α N) := (E_i_isOrder_l0_s3_ok N).addFun prog_mixed prog_names (d := 1) fun l K r h => by
  split at h
  · exact (i_isOrder_s3_run N _ _ _ _ K).trans h
  · cases h

def A_i_IsGrid_l0 (α : Type) (N : Nat) : Env α := (E_i_isOrder_s3 α N).addAnn 57 4 { head := [1, 25, 26], grow := [], out := [], ret := [2] }
theorem A_i_IsGrid_l0_ok {α : Type} (N : Nat) : EnvOk Try.prog (A_i_IsGrid_l0 α N) := (E_i_isOrder_s3_ok N).addAnn

/-- impl.IsGrid, loop -/
def i_IsGrid_l0_p : SPat := ⟨[.undef, .ptr ⟨⟨0, 0⟩, 0, 0, 1⟩, .undef, .undef, .undef, .undef, .undef, .undef, .undef, .undef, .undef, .undef, .undef, .undef, .undef, .undef, .undef, .undef, .undef, .undef, .undef, .undef, .undef, .undef, .undef, .int .i64, .int .i64] ++ List.replicate 12 .undef, [[.vals [.int .i64], .ints .u8 8, .ints .u8 8]]⟩
def i_IsGrid_l0_o0 : SPat := ⟨[.undef, .undef, .boolC false] ++ List.replicate 36 .undef, [[.vals [.int .i64], .ints .u8 8, .ints .u8 8]]⟩
def i_IsGrid_l0_o1 : SPat := ⟨[] ++ List.replicate 39 .undef, [[.vals [.int .i64], .ints .u8 8, .ints .u8 8]]⟩
theorem i_IsGrid_l0_round {α : Type} (N : Nat) (t25 : Int) (t26 : Int) (h0_0 : Int) (h0_1 : Nat → Int) (h0_2 : Nat → Int) (kn : St → Option α) (K : AExit → St → Option α) :
    roundK Try.prog (A_i_IsGrid_l0 α N) 1 0 57 Try.f57 4 1 (buildS i_IsGrid_l0_p [.i t25, .i t26, .i h0_0, .f h0_1, .f h0_2]) kn K = i_IsGrid_l0_s none t25 h0_0 h0_1 h0_2 t26 (fun t26 => kn (buildS i_IsGrid_l0_p [.i t25, .i t26, .i h0_0, .f h0_1, .f h0_2])) (K .ret (buildS i_IsGrid_l0_o0 [.i h0_0, .f h0_1, .f h0_2])) (K (.exit 0) (buildS i_IsGrid_l0_o1 [.i h0_0, .f h0_1, .f h0_2])) := by kernel_rfl
theorem i_IsGrid_l0_loop {α : Type} (N : Nat) (t25 : Int) (h0_0 : Int) (h0_1 : Nat → Int) (h0_2 : Nat → Int) (K : AExit → St → Option α) : ∀ (m : Nat) (t26 : Int),
    loopN (trimSt ((A_i_IsGrid_l0 α N).ann 57 4).head ((A_i_IsGrid_l0 α N).ann 57 4).grow 1) (bodyK Try.prog (A_i_IsGrid_l0 α N) 1 0 57 Try.f57 4) m (buildS i_IsGrid_l0_p [.i t25, .i t26, .i h0_0, .f h0_1, .f h0_2]) (leaveLoop ((A_i_IsGrid_l0 α N).ann 57 4) 1 K) = i_IsGrid_l0 none t25 h0_0 h0_1 h0_2 m t26 (K .ret (buildS i_IsGrid_l0_o0 [.i h0_0, .f h0_1, .f h0_2])) (K (.exit 0) (buildS i_IsGrid_l0_o1 [.i h0_0, .f h0_1, .f h0_2])) := by
  intro m
  induction m with
  | zero => intros; rfl
  | succ m ih =>
    intro t26
    rw [loopN_round]
    refine (i_IsGrid_l0_round N t25 t26 h0_0 h0_1 h0_2 _ K).trans ?_
    simp only [ih]
    rfl
def E_i_IsGrid_l0 (α : Type) (N : Nat) : Env α := (A_i_IsGrid_l0 α N).addLoop2 57 4 (loopSum2 ((A_i_IsGrid_l0 α N).ann 57 4) 0 i_IsGrid_l0_p (fun l K => match l with
    | [.i t25, .i t26, .i h0_0, .f h0_1, .f h0_2] => i_IsGrid_l0 none t25 h0_0 h0_1 h0_2 N t26 (K .ret (buildS i_IsGrid_l0_o0 [.i h0_0, .f h0_1, .f h0_2])) (K (.exit 0) (buildS i_IsGrid_l0_o1 [.i h0_0, .f h0_1, .f h0_2]))
    | _ => none) ((A_i_IsGrid_l0 α N).ls 57 4))
theorem E_i_IsGrid_l0_ok {α : Type} (N : Nat) : EnvOk Try.prog (E_i_IsGrid_l0 α N) := (A_i_IsGrid_l0_ok N).addLoop2 Try.func57 (by kernel_rfl) (loopSum_ok prog_mixed prog_names (A_i_IsGrid_l0_ok N) Try.func57 (by kernel_rfl) (d := 1) (ro := 0) fun l K r h => by
  split at h
  · exact (i_IsGrid_l0_loop N _ _ _ _ K N _).trans h
  · cases h)

/-- impl.IsGrid -/
def i_IsGrid_a : SPat := ⟨[.agg [.vals [.int .i64], .ints .u8 8, .ints .u8 8]], []⟩
def i_IsGrid_r0 : SPat := ⟨[.bool], []⟩
theorem i_IsGrid_run {α : Type} (N : Nat) (g_0 : Int) (g_1 : Nat → Int) (g_2 : Nat → Int) (K : AV → Heap → Option α) :
    callK Try.prog (E_i_IsGrid_l0 α N) 1 57 0 (buildS i_IsGrid_a [.i g_0, .f g_1, .f g_2]).t (buildS i_IsGrid_a [.i g_0, .f g_1, .f g_2]).h K = i_IsGrid none N g_0 g_1 g_2 (fun r__ => retK (buildS i_IsGrid_r0 [.b r__]) K) := by kernel_rfl
def E_i_IsGrid (α : Type) (N : Nat) : Env α := (E_i_IsGrid_l0 α N).addFun 57 true 0 i_IsGrid_a (fun l K => match l with
    | [.i g_0, .f g_1, .f g_2] => i_IsGrid none N g_0 g_1 g_2 (fun r__ => retK (buildS i_IsGrid_r0 [.b r__]) K)
    | _ => none)
theorem E_i_IsGrid_ok {α : Type} (N : Nat) : EnvOk Try.prog (E_i_IsGrid α N) := (E_i_IsGrid_l0_ok N).addFun prog_mixed prog_names (d := 1) fun l K r h => by
  split at h
  · exact (i_IsGrid_run N _ _ _ K).trans h
  · cases h

def A_i_Grid_places_l0 (α : Type) (N : Nat) : Env α := (E_i_IsGrid α N).addAnn 125 3 { head := [3, 4, 5, 9, 10], grow := [], out := [4, 5], ret := [4] }
theorem A_i_Grid_places_l0_ok {α : Type} (N : Nat) : EnvOk Try.prog (A_i_Grid_places_l0 α N) := (E_i_IsGrid_ok N).addAnn

/-- (impl.Grid).places, loop -/
def i_Grid_places_l0_p : SPat := ⟨[.undef, .undef, .undef, .ptr ⟨⟨1, 0⟩, 0, 0, 8⟩, .ptr ⟨⟨2, 0⟩, 0, 0, 8⟩, .ptr ⟨⟨3, 0⟩, 0, 0, 8⟩, .undef, .undef, .undef, .int .i64, .int .i64] ++ List.replicate 9 .undef, [[.vals [.int .i64], .ints .u8 8, .ints .u8 8], [.ints .u8 8], [.ints .i64 8], [.ints .i64 8]]⟩
def i_Grid_places_l0_o0 : SPat := ⟨[.undef, .undef, .undef, .undef, .ptr ⟨⟨2, 0⟩, 0, 0, 8⟩, .ptr ⟨⟨3, 0⟩, 0, 0, 8⟩] ++ List.replicate 14 .undef, [[.vals [.int .i64], .ints .u8 8, .ints .u8 8], [.ints .u8 8], [.ints .i64 8], [.ints .i64 8]]⟩
theorem i_Grid_places_l0_round {α : Type} (N : Nat) (t9 : Int) (t10 : Int) (h0_0 : Int) (h0_1 : Nat → Int) (h0_2 : Nat → Int) (h1 : Nat → Int) (h2 : Nat → Int) (h3 : Nat → Int) (kn : St → Option α) (K : AExit → St → Option α) :
    roundK Try.prog (A_i_Grid_places_l0 α N) 1 0 125 Try.f125 3 4 (buildS i_Grid_places_l0_p [.i t9, .i t10, .i h0_0, .f h0_1, .f h0_2, .f h1, .f h2, .f h3]) kn K = i_Grid_places_l0_s none t9 h0_0 h0_1 h0_2 h1 h2 t10 h3 (fun t10 h3 => kn (buildS i_Grid_places_l0_p [.i t9, .i t10, .i h0_0, .f h0_1, .f h0_2, .f h1, .f h2, .f h3])) (fun h3_ => K (.exit 0) (buildS i_Grid_places_l0_o0 [.i h0_0, .f h0_1, .f h0_2, .f h1, .f h2, .f h3_])) := by kernel_rfl
theorem i_Grid_places_l0_loop {α : Type} (N : Nat) (t9 : Int) (h0_0 : Int) (h0_1 : Nat → Int) (h0_2 : Nat → Int) (h1 : Nat → Int) (h2 : Nat → Int) (K : AExit → St → Option α) : ∀ (m : Nat) (t10 : Int) (h3 : Nat → Int),
    loopN (trimSt ((A_i_Grid_places_l0 α N).ann 125 3).head ((A_i_Grid_places_l0 α N).ann 125 3).grow 4) (bodyK Try.prog (A_i_Grid_places_l0 α N) 1 0 125 Try.f125 3) m (buildS i_Grid_places_l0_p [.i t9, .i t10, .i h0_0, .f h0_1, .f h0_2, .f h1, .f h2, .f h3]) (leaveLoop ((A_i_Grid_places_l0 α N).ann 125 3) 4 K) = i_Grid_places_l0 none t9 h0_0 h0_1 h0_2 h1 h2 m t10 h3 (fun h3_ => K (.exit 0) (buildS i_Grid_places_l0_o0 [.i h0_0, .f h0_1, .f h0_2, .f h1, .f h2, .f h3_])) := by
  intro m
  induction m with
  | zero => intros; rfl
  | succ m ih =>
    intro t10 h3
    rw [loopN_round]
    refine (i_Grid_places_l0_round N t9 t10 h0_0 h0_1 h0_2 h1 h2 h3 _ K).trans ?_
    simp only [ih]
    rfl
def E_i_Grid_places_l0 (α : Type) (N : Nat) : Env α := (A_i_Grid_places_l0 α N).addLoop2 125 3 (loopSum2 ((A_i_Grid_places_l0 α N).ann 125 3) 0 i_Grid_places_l0_p (fun l K => match l with
    | [.i t9, .i t10, .i h0_0, .f h0_1, .f h0_2, .f h1, .f h2, .f h3] => i_Grid_places_l0 none t9 h0_0 h0_1 h0_2 h1 h2 N t10 h3 (fun h3_ => K (.exit 0) (buildS i_Grid_places_l0_o0 [.i h0_0, .f h0_1, .f h0_2, .f h1, .f h2, .f h3_]))
    | _ => none) ((A_i_Grid_places_l0 α N).ls 125 3))
theorem E_i_Grid_places_l0_ok {α : Type} (N : Nat) : EnvOk Try.prog (E_i_Grid_places_l0 α N) := (A_i_Grid_places_l0_ok N).addLoop2 Try.func125 (by kernel_rfl) (loopSum_ok prog_mixed prog_names (A_i_Grid_places_l0_ok N) Try.func125 (by kernel_rfl) (d := 1) (ro := 0) fun l K r h => by
  split at h
  · exact (i_Grid_places_l0_loop N _ _ _ _ _ _ K N _ _).trans h
  · cases h)

/-- (impl.Grid).places -/
def i_Grid_places_a : SPat := ⟨[.agg [.vals [.int .i64], .ints .u8 8, .ints .u8 8], .agg [.ints .u8 8]], []⟩
def i_Grid_places_r0 : SPat := ⟨[.agg [.ints .i64 8]], []⟩
theorem i_Grid_places_run {α : Type} (N : Nat) (g_0 : Int) (g_1 : Nat → Int) (g_2 : Nat → Int) (rows : Nat → Int) (K : AV → Heap → Option α) :
    callK Try.prog (E_i_Grid_places_l0 α N) 1 125 0 (buildS i_Grid_places_a [.i g_0, .f g_1, .f g_2, .f rows]).t (buildS i_Grid_places_a [.i g_0, .f g_1, .f g_2, .f rows]).h K = i_Grid_places none N g_0 g_1 g_2 rows (fun r__ => retK (buildS i_Grid_places_r0 [.f r__]) K) := by kernel_rfl
def E_i_Grid_places (α : Type) (N : Nat) : Env α := (E_i_Grid_places_l0 α N).addFun 125 true 0 i_Grid_places_a (fun l K => match l with
    | [.i g_0, .f g_1, .f g_2, .f rows] => i_Grid_places none N g_0 g_1 g_2 rows (fun r__ => retK (buildS i_Grid_places_r0 [.f r__]) K)
    | _ => none)
theorem E_i_Grid_places_ok {α : Type} (N : Nat) : EnvOk Try.prog (E_i_Grid_places α N) := (E_i_Grid_places_l0_ok N).addFun prog_mixed prog_names (d := 1) fun l K r h => by
  split at h
  · exact (i_Grid_places_run N _ _ _ _ K).trans h
  · cases h

def A_i_Grid_component_l0 (α : Type) (N : Nat) : Env α := (E_i_Grid_places α N).addAnn 71 3 { head := [1, 2, 4, 5, 6, 16, 17], grow := [], out := [1, 2, 4, 5], ret := [2, 3] }
theorem A_i_Grid_component_l0_ok {α : Type} (N : Nat) : EnvOk Try.prog (A_i_Grid_component_l0 α N) := (E_i_Grid_places_ok N).addAnn

def A_i_Grid_component_l1 (α : Type) (N : Nat) : Env α := (A_i_Grid_component_l0 α N).addAnn 71 8 { head := [1, 2, 4, 5, 6, 8, 16, 17], grow := [], out := [1, 2, 4, 5, 6, 16, 17], ret := [2, 3] }
theorem A_i_Grid_component_l1_ok {α : Type} (N : Nat) : EnvOk Try.prog (A_i_Grid_component_l1 α N) := (A_i_Grid_component_l0_ok N).addAnn

/-- (impl.Grid).component, loop -/
def i_Grid_component_l1_p : SPat := ⟨[.undef, .ptr ⟨⟨0, 0⟩, 0, 0, 1⟩, .ptr ⟨⟨1, 0⟩, 0, 0, 8⟩, .undef, .ptr ⟨⟨2, 0⟩, 0, 0, 8⟩, .int .i64, .ptr ⟨⟨3, 0⟩, 0, 0, 8⟩, .undef, .int .i64, .undef, .undef, .undef, .undef, .undef, .undef, .undef, .int .i64, .int .i64] ++ List.replicate 36 .undef, [[.vals [.int .i64], .ints .u8 8, .ints .u8 8], [.ints .i64 8], [.ints .i64 8], [.ints .i64 8]]⟩
def i_Grid_component_l1_o0 : SPat := ⟨[.undef, .ptr ⟨⟨0, 0⟩, 0, 0, 1⟩, .ptr ⟨⟨1, 0⟩, 0, 0, 8⟩, .undef, .ptr ⟨⟨2, 0⟩, 0, 0, 8⟩, .int .i64, .ptr ⟨⟨3, 0⟩, 0, 0, 8⟩, .undef, .undef, .undef, .undef, .undef, .undef, .undef, .undef, .undef, .int .i64, .int .i64] ++ List.replicate 36 .undef, [[.vals [.int .i64], .ints .u8 8, .ints .u8 8], [.ints .i64 8], [.ints .i64 8], [.ints .i64 8]]⟩
theorem i_Grid_component_l1_round {α : Type} (N : Nat) (many : Int) (k : Int) (t16 : Int) (t17 : Int) (h0_0 : Int) (h0_1 : Nat → Int) (h0_2 : Nat → Int) (h1 : Nat → Int) (h2 : Nat → Int) (h3 : Nat → Int) (kn : St → Option α) (K : AExit → St → Option α) :
    roundK Try.prog (A_i_Grid_component_l1 α N) 1 0 71 Try.f71 8 4 (buildS i_Grid_component_l1_p [.i many, .i k, .i t16, .i t17, .i h0_0, .f h0_1, .f h0_2, .f h1, .f h2, .f h3]) kn K = i_Grid_component_l1_s none many t16 t17 h0_0 h0_1 h0_2 h1 h3 k h2 (fun k h2 => kn (buildS i_Grid_component_l1_p [.i many, .i k, .i t16, .i t17, .i h0_0, .f h0_1, .f h0_2, .f h1, .f h2, .f h3])) (fun h2_ => K (.exit 2) (buildS i_Grid_component_l1_o0 [.i many, .i t16, .i t17, .i h0_0, .f h0_1, .f h0_2, .f h1, .f h2_, .f h3])) := by kernel_rfl
theorem i_Grid_component_l1_loop {α : Type} (N : Nat) (many : Int) (t16 : Int) (t17 : Int) (h0_0 : Int) (h0_1 : Nat → Int) (h0_2 : Nat → Int) (h1 : Nat → Int) (h3 : Nat → Int) (K : AExit → St → Option α) : ∀ (m : Nat) (k : Int) (h2 : Nat → Int),
    loopN (trimSt ((A_i_Grid_component_l1 α N).ann 71 8).head ((A_i_Grid_component_l1 α N).ann 71 8).grow 4) (bodyK Try.prog (A_i_Grid_component_l1 α N) 1 0 71 Try.f71 8) m (buildS i_Grid_component_l1_p [.i many, .i k, .i t16, .i t17, .i h0_0, .f h0_1, .f h0_2, .f h1, .f h2, .f h3]) (leaveLoop ((A_i_Grid_component_l1 α N).ann 71 8) 4 K) = i_Grid_component_l1 none many t16 t17 h0_0 h0_1 h0_2 h1 h3 m k h2 (fun h2_ => K (.exit 2) (buildS i_Grid_component_l1_o0 [.i many, .i t16, .i t17, .i h0_0, .f h0_1, .f h0_2, .f h1, .f h2_, .f h3])) := by
  intro m
  induction m with
  | zero => intros; rfl
  | succ m ih =>
    intro k h2
    rw [loopN_round]
    refine (i_Grid_component_l1_round N many k t16 t17 h0_0 h0_1 h0_2 h1 h2 h3 _ K).trans ?_
    simp only [ih]
    rfl
def E_i_Grid_component_l1 (α : Type) (N : Nat) : Env α := (A_i_Grid_component_l1 α N).addLoop2 71 8 (loopSum2 ((A_i_Grid_component_l1 α N).ann 71 8) 0 i_Grid_component_l1_p (fun l K => match l with
    | [.i many, .i k, .i t16, .i t17, .i h0_0, .f h0_1, .f h0_2, .f h1, .f h2, .f h3] => i_Grid_component_l1 none many t16 t17 h0_0 h0_1 h0_2 h1 h3 N k h2 (fun h2_ => K (.exit 2) (buildS i_Grid_component_l1_o0 [.i many, .i t16, .i t17, .i h0_0, .f h0_1, .f h0_2, .f h1, .f h2_, .f h3]))
    | _ => none) ((A_i_Grid_component_l1 α N).ls 71 8))
theorem E_i_Grid_component_l1_ok {α : Type} (N : Nat) : EnvOk Try.prog (E_i_Grid_component_l1 α N) := (A_i_Grid_component_l1_ok N).addLoop2 Try.func71 (by kernel_rfl) (loopSum_ok prog_mixed prog_names (A_i_Grid_component_l1_ok N) Try.func71 (by kernel_rfl) (d := 1) (ro := 0) fun l K r h => by
  split at h
  · exact (i_Grid_component_l1_loop N _ _ _ _ _ _ _ _ K N _ _).trans h
  · cases h)

/-- (impl.Grid).component, loop -/
def i_Grid_component_l0_p : SPat := ⟨[.undef, .ptr ⟨⟨0, 0⟩, 0, 0, 1⟩, .ptr ⟨⟨1, 0⟩, 0, 0, 8⟩, .undef, .ptr ⟨⟨2, 0⟩, 0, 0, 8⟩, .int .i64, .ptr ⟨⟨3, 0⟩, 0, 0, 8⟩, .undef, .undef, .undef, .undef, .undef, .undef, .undef, .undef, .undef, .int .i64, .int .i64] ++ List.replicate 36 .undef, [[.vals [.int .i64], .ints .u8 8, .ints .u8 8], [.ints .i64 8], [.ints .i64 8], [.ints .i64 8]]⟩
def i_Grid_component_l0_o0 : SPat := ⟨[.undef, .ptr ⟨⟨0, 0⟩, 0, 0, 1⟩, .ptr ⟨⟨1, 0⟩, 0, 0, 8⟩, .undef, .ptr ⟨⟨2, 0⟩, 0, 0, 8⟩, .int .i64] ++ List.replicate 48 .undef, [[.vals [.int .i64], .ints .u8 8, .ints .u8 8], [.ints .i64 8], [.ints .i64 8], [.ints .i64 8]]⟩
theorem i_Grid_component_l0_round {α : Type} (N : Nat) (many : Int) (t16 : Int) (t17 : Int) (h0_0 : Int) (h0_1 : Nat → Int) (h0_2 : Nat → Int) (h1 : Nat → Int) (h2 : Nat → Int) (h3 : Nat → Int) (kn : St → Option α) (K : AExit → St → Option α) :
    roundK Try.prog (E_i_Grid_component_l1 α N) 1 0 71 Try.f71 3 4 (buildS i_Grid_component_l0_p [.i many, .i t16, .i t17, .i h0_0, .f h0_1, .f h0_2, .f h1, .f h2, .f h3]) kn K = i_Grid_component_l0_s none N t16 h0_0 h0_1 h0_2 h1 h3 many t17 h2 (fun many t17 h2 => kn (buildS i_Grid_component_l0_p [.i many, .i t16, .i t17, .i h0_0, .f h0_1, .f h0_2, .f h1, .f h2, .f h3])) (fun many_ h2_ => K (.exit 0) (buildS i_Grid_component_l0_o0 [.i many_, .i h0_0, .f h0_1, .f h0_2, .f h1, .f h2_, .f h3])) := by kernel_rfl
theorem i_Grid_component_l0_loop {α : Type} (N : Nat) (t16 : Int) (h0_0 : Int) (h0_1 : Nat → Int) (h0_2 : Nat → Int) (h1 : Nat → Int) (h3 : Nat → Int) (K : AExit → St → Option α) : ∀ (m : Nat) (many : Int) (t17 : Int) (h2 : Nat → Int),
    loopN (trimSt ((E_i_Grid_component_l1 α N).ann 71 3).head ((E_i_Grid_component_l1 α N).ann 71 3).grow 4) (bodyK Try.prog (E_i_Grid_component_l1 α N) 1 0 71 Try.f71 3) m (buildS i_Grid_component_l0_p [.i many, .i t16, .i t17, .i h0_0, .f h0_1, .f h0_2, .f h1, .f h2, .f h3]) (leaveLoop ((E_i_Grid_component_l1 α N).ann 71 3) 4 K) = i_Grid_component_l0 none N t16 h0_0 h0_1 h0_2 h1 h3 m many t17 h2 (fun many_ h2_ => K (.exit 0) (buildS i_Grid_component_l0_o0 [.i many_, .i h0_0, .f h0_1, .f h0_2, .f h1, .f h2_, .f h3])) := by
  intro m
  induction m with
  | zero => intros; rfl
  | succ m ih =>
    intro many t17 h2
    rw [loopN_round]
    refine (i_Grid_component_l0_round N many t16 t17 h0_0 h0_1 h0_2 h1 h2 h3 _ K).trans ?_
    simp only [ih]
    rfl
def E_i_Grid_component_l0 (α : Type) (N : Nat) : Env α := (E_i_Grid_component_l1 α N).addLoop2 71 3 (loopSum2 ((E_i_Grid_component_l1 α N).ann 71 3) 0 i_Grid_component_l0_p (fun l K => match l with
    | [.i many, .i t16, .i t17, .i h0_0, .f h0_1, .f h0_2, .f h1, .f h2, .f h3] => i_Grid_component_l0 none N t16 h0_0 h0_1 h0_2 h1 h3 N many t17 h2 (fun many_ h2_ => K (.exit 0) (buildS i_Grid_component_l0_o0 [.i many_, .i h0_0, .f h0_1, .f h0_2, .f h1, .f h2_, .f h3]))
    | _ => none) ((E_i_Grid_component_l1 α N).ls 71 3))
theorem E_i_Grid_component_l0_ok {α : Type} (N : Nat) : EnvOk Try.prog (E_i_Grid_component_l0 α N) := (E_i_Grid_component_l1_ok N).addLoop2 Try.func71 (by kernel_rfl) (loopSum_ok prog_mixed prog_names (E_i_Grid_component_l1_ok N) Try.func71 (by kernel_rfl) (d := 1) (ro := 0) fun l K r h => by
  split at h
  · exact (i_Grid_component_l0_loop N _ _ _ _ _ _ K N _ _ _).trans h
  · cases h)

def A_i_Grid_component_l2 (α : Type) (N : Nat) : Env α := (E_i_Grid_component_l0 α N).addAnn 71 13 { head := [2, 4, 5, 42, 43], grow := [], out := [2, 4, 5], ret := [2, 3] }
theorem A_i_Grid_component_l2_ok {α : Type} (N : Nat) : EnvOk Try.prog (A_i_Grid_component_l2 α N) := (E_i_Grid_component_l0_ok N).addAnn

/-- (impl.Grid).component, loop -/
def i_Grid_component_l2_p : SPat := ⟨[.undef, .undef, .ptr ⟨⟨1, 0⟩, 0, 0, 8⟩, .undef, .ptr ⟨⟨2, 0⟩, 0, 0, 8⟩, .int .i64, .undef, .undef, .undef, .undef, .undef, .undef, .undef, .undef, .undef, .undef, .undef, .undef, .undef, .undef, .undef, .undef, .undef, .undef, .undef, .undef, .undef, .undef, .undef, .undef, .undef, .undef, .undef, .undef, .undef, .undef, .undef, .undef, .undef, .undef, .undef, .undef, .int .i64, .int .i64] ++ List.replicate 10 .undef, [[.vals [.int .i64], .ints .u8 8, .ints .u8 8], [.ints .i64 8], [.ints .i64 8], [.ints .i64 8]]⟩
def i_Grid_component_l2_o0 : SPat := ⟨[.undef, .undef, .ptr ⟨⟨1, 0⟩, 0, 0, 8⟩, .undef, .ptr ⟨⟨2, 0⟩, 0, 0, 8⟩, .int .i64] ++ List.replicate 48 .undef, [[.vals [.int .i64], .ints .u8 8, .ints .u8 8], [.ints .i64 8], [.ints .i64 8], [.ints .i64 8]]⟩
theorem i_Grid_component_l2_round {α : Type} (N : Nat) (many : Int) (t42 : Int) (t43 : Int) (h0_0 : Int) (h0_1 : Nat → Int) (h0_2 : Nat → Int) (h1 : Nat → Int) (h2 : Nat → Int) (h3 : Nat → Int) (kn : St → Option α) (K : AExit → St → Option α) :
    roundK Try.prog (A_i_Grid_component_l2 α N) 1 0 71 Try.f71 13 4 (buildS i_Grid_component_l2_p [.i many, .i t42, .i t43, .i h0_0, .f h0_1, .f h0_2, .f h1, .f h2, .f h3]) kn K = i_Grid_component_l2_s none many t42 h0_0 h0_1 h0_2 h1 h3 t43 h2 (fun t43 h2 => kn (buildS i_Grid_component_l2_p [.i many, .i t42, .i t43, .i h0_0, .f h0_1, .f h0_2, .f h1, .f h2, .f h3])) (fun h2_ => K (.exit 4) (buildS i_Grid_component_l2_o0 [.i many, .i h0_0, .f h0_1, .f h0_2, .f h1, .f h2_, .f h3])) := by kernel_rfl
theorem i_Grid_component_l2_loop {α : Type} (N : Nat) (many : Int) (t42 : Int) (h0_0 : Int) (h0_1 : Nat → Int) (h0_2 : Nat → Int) (h1 : Nat → Int) (h3 : Nat → Int) (K : AExit → St → Option α) : ∀ (m : Nat) (t43 : Int) (h2 : Nat → Int),
    loopN (trimSt ((A_i_Grid_component_l2 α N).ann 71 13).head ((A_i_Grid_component_l2 α N).ann 71 13).grow 4) (bodyK Try.prog (A_i_Grid_component_l2 α N) 1 0 71 Try.f71 13) m (buildS i_Grid_component_l2_p [.i many, .i t42, .i t43, .i h0_0, .f h0_1, .f h0_2, .f h1, .f h2, .f h3]) (leaveLoop ((A_i_Grid_component_l2 α N).ann 71 13) 4 K) = i_Grid_component_l2 none many t42 h0_0 h0_1 h0_2 h1 h3 m t43 h2 (fun h2_ => K (.exit 4) (buildS i_Grid_component_l2_o0 [.i many, .i h0_0, .f h0_1, .f h0_2, .f h1, .f h2_, .f h3])) := by
  intro m
  induction m with
  | zero => intros; rfl
  | succ m ih =>
    intro t43 h2
    rw [loopN_round]
    refine (i_Grid_component_l2_round N many t42 t43 h0_0 h0_1 h0_2 h1 h2 h3 _ K).trans ?_
    simp only [ih]
    rfl
def E_i_Grid_component_l2 (α : Type) (N : Nat) : Env α := (A_i_Grid_component_l2 α N).addLoop2 71 13 (loopSum2 ((A_i_Grid_component_l2 α N).ann 71 13) 0 i_Grid_component_l2_p (fun l K => match l with
    | [.i many, .i t42, .i t43, .i h0_0, .f h0_1, .f h0_2, .f h1, .f h2, .f h3] => i_Grid_component_l2 none many t42 h0_0 h0_1 h0_2 h1 h3 N t43 h2 (fun h2_ => K (.exit 4) (buildS i_Grid_component_l2_o0 [.i many, .i h0_0, .f h0_1, .f h0_2, .f h1, .f h2_, .f h3]))
    | _ => none) ((A_i_Grid_component_l2 α N).ls 71 13))
theorem E_i_Grid_component_l2_ok {α : Type} (N : Nat) : EnvOk Try.prog (E_i_Grid_component_l2 α N) := (A_i_Grid_component_l2_ok N).addLoop2 Try.func71 (by kernel_rfl) (loopSum_ok prog_mixed prog_names (A_i_Grid_component_l2_ok N) Try.func71 (by kernel_rfl) (d := 1) (ro := 0) fun l K r h => by
  split at h
  · exact (i_Grid_component_l2_loop N _ _ _ _ _ _ _ K N _ _).trans h
  · cases h)

/-- (impl.Grid).component -/
def i_Grid_component_a : SPat := ⟨[.agg [.vals [.int .i64], .ints .u8 8, .ints .u8 8]], []⟩
def i_Grid_component_r0 : SPat := ⟨[.tuple [.agg [.ints .i64 8], .int .i64]], []⟩
theorem i_Grid_component_run {α : Type} (N : Nat) (g_0 : Int) (g_1 : Nat → Int) (g_2 : Nat → Int) (K : AV → Heap → Option α) :
    callK Try.prog (E_i_Grid_component_l2 α N) 1 71 0 (buildS i_Grid_component_a [.i g_0, .f g_1, .f g_2]).t (buildS i_Grid_component_a [.i g_0, .f g_1, .f g_2]).h K = i_Grid_component none N g_0 g_1 g_2 (fun r_0_ r_1_ => retK (buildS i_Grid_component_r0 [.f r_0_, .i r_1_]) K) := by kernel_rfl
def E_i_Grid_component (α : Type) (N : Nat) : Env α := (E_i_Grid_component_l2 α N).addFun 71 true 0 i_Grid_component_a (fun l K => match l with
    | [.i g_0, .f g_1, .f g_2] => i_Grid_component none N g_0 g_1 g_2 (fun r_0_ r_1_ => retK (buildS i_Grid_component_r0 [.f r_0_, .i r_1_]) K)
    | _ => none)
theorem E_i_Grid_component_ok {α : Type} (N : Nat) : EnvOk Try.prog (E_i_Grid_component α N) := (E_i_Grid_component_l2_ok N).addFun prog_mixed prog_names (d := 1) fun l K r h => by
  split at h
  · exact (i_Grid_component_run N _ _ _ K).trans h
  · cases h

def A_i_Grid_directions_l0 (α : Type) (N : Nat) : Env α := (E_i_Grid_component α N).addAnn 72 3 { head := [1, 3, 7, 8], grow := [3], out := [3], ret := [2] }
theorem A_i_Grid_directions_l0_ok {α : Type} (N : Nat) : EnvOk Try.prog (A_i_Grid_directions_l0 α N) := (E_i_Grid_component_ok N).addAnn

/-- (impl.Grid).directions, loop -/
def i_Grid_directions_l0_p : SPat := ⟨[.undef, .ptr ⟨⟨0, 0⟩, 0, 0, 1⟩, .undef, .sliceV 1 0 0 1 false, .undef, .undef, .undef, .int .i64, .int .i64] ++ List.replicate 19 .undef, [[.vals [.int .i64], .ints .u8 8, .ints .u8 8], [.vec .i64]]⟩
def i_Grid_directions_l0_o0 : SPat := ⟨[.undef, .undef, .undef, .sliceV 1 0 0 1 false] ++ List.replicate 24 .undef, [[.vals [.int .i64], .ints .u8 8, .ints .u8 8], [.vec .i64]]⟩
theorem i_Grid_directions_l0_round {α : Type} (N : Nat) (out_n : Nat) (out_l : Nat) (out_c : Nat) (t7 : Int) (t8 : Int) (h0_0 : Int) (h0_1 : Nat → Int) (h0_2 : Nat → Int) (h1 : List Int) (kn : St → Option α) (K : AExit → St → Option α) :
    roundK Try.prog (A_i_Grid_directions_l0 α N) 1 0 72 Try.f72 3 2 (buildS i_Grid_directions_l0_p [.n out_n, .n out_l, .n out_c, .i t7, .i t8, .i h0_0, .f h0_1, .f h0_2, .l h1]) kn K = i_Grid_directions_l0_s none t7 h0_0 h0_1 h0_2 out_n out_l out_c t8 h1 (fun out_n out_l out_c t8 h1 => kn (buildS i_Grid_directions_l0_p [.n out_n, .n out_l, .n out_c, .i t7, .i t8, .i h0_0, .f h0_1, .f h0_2, .l h1])) (fun out_n_ out_l_ out_c_ h1_ => K (.exit 0) (buildS i_Grid_directions_l0_o0 [.n out_n_, .n out_l_, .n out_c_, .i h0_0, .f h0_1, .f h0_2, .l h1_])) := by kernel_rfl
theorem i_Grid_directions_l0_loop {α : Type} (N : Nat) (t7 : Int) (h0_0 : Int) (h0_1 : Nat → Int) (h0_2 : Nat → Int) (K : AExit → St → Option α) : ∀ (m : Nat) (out_n : Nat) (out_l : Nat) (out_c : Nat) (t8 : Int) (h1 : List Int),
    loopN (trimSt ((A_i_Grid_directions_l0 α N).ann 72 3).head ((A_i_Grid_directions_l0 α N).ann 72 3).grow 2) (bodyK Try.prog (A_i_Grid_directions_l0 α N) 1 0 72 Try.f72 3) m (buildS i_Grid_directions_l0_p [.n out_n, .n out_l, .n out_c, .i t7, .i t8, .i h0_0, .f h0_1, .f h0_2, .l h1]) (leaveLoop ((A_i_Grid_directions_l0 α N).ann 72 3) 2 K) = i_Grid_directions_l0 none t7 h0_0 h0_1 h0_2 m out_n out_l out_c t8 h1 (fun out_n_ out_l_ out_c_ h1_ => K (.exit 0) (buildS i_Grid_directions_l0_o0 [.n out_n_, .n out_l_, .n out_c_, .i h0_0, .f h0_1, .f h0_2, .l h1_])) := by
  intro m
  induction m with
  | zero => intros; rfl
  | succ m ih =>
    intro out_n out_l out_c t8 h1
    rw [loopN_round]
    refine (i_Grid_directions_l0_round N out_n out_l out_c t7 t8 h0_0 h0_1 h0_2 h1 _ K).trans ?_
    simp only [ih]
    rfl
def E_i_Grid_directions_l0 (α : Type) (N : Nat) : Env α := (A_i_Grid_directions_l0 α N).addLoop2 72 3 (loopSum2 ((A_i_Grid_directions_l0 α N).ann 72 3) 0 i_Grid_directions_l0_p (fun l K => match l with
    | [.n out_n, .n out_l, .n out_c, .i t7, .i t8, .i h0_0, .f h0_1, .f h0_2, .l h1] => i_Grid_directions_l0 none t7 h0_0 h0_1 h0_2 N out_n out_l out_c t8 h1 (fun out_n_ out_l_ out_c_ h1_ => K (.exit 0) (buildS i_Grid_directions_l0_o0 [.n out_n_, .n out_l_, .n out_c_, .i h0_0, .f h0_1, .f h0_2, .l h1_]))
    | _ => none) ((A_i_Grid_directions_l0 α N).ls 72 3))
theorem E_i_Grid_directions_l0_ok {α : Type} (N : Nat) : EnvOk Try.prog (E_i_Grid_directions_l0 α N) := (A_i_Grid_directions_l0_ok N).addLoop2 Try.func72 (by kernel_rfl) (loopSum_ok prog_mixed prog_names (A_i_Grid_directions_l0_ok N) Try.func72 (by kernel_rfl) (d := 1) (ro := 0) fun l K r h => by
  split at h
  · exact (i_Grid_directions_l0_loop N _ _ _ _ K N _ _ _ _ _).trans h
  · cases h)

/-- (impl.Grid).directions -/
def i_Grid_directions_a : SPat := ⟨[.agg [.vals [.int .i64], .ints .u8 8, .ints .u8 8]], []⟩
def i_Grid_directions_r0 : SPat := ⟨[.sliceV 0 0 0 1 false], [[.vec .i64]]⟩
theorem i_Grid_directions_run {α : Type} (N : Nat) (g_0 : Int) (g_1 : Nat → Int) (g_2 : Nat → Int) (K : AV → Heap → Option α) :
    callK Try.prog (E_i_Grid_directions_l0 α N) 1 72 0 (buildS i_Grid_directions_a [.i g_0, .f g_1, .f g_2]).t (buildS i_Grid_directions_a [.i g_0, .f g_1, .f g_2]).h K = i_Grid_directions none N g_0 g_1 g_2 (fun r_n_ r_l_ r_c_ h0_ => retK (buildS i_Grid_directions_r0 [.n r_n_, .n r_l_, .n r_c_, .l h0_]) K) := by kernel_rfl
def E_i_Grid_directions (α : Type) (N : Nat) : Env α := (E_i_Grid_directions_l0 α N).addFun 72 true 0 i_Grid_directions_a (fun l K => match l with
    | [.i g_0, .f g_1, .f g_2] => i_Grid_directions none N g_0 g_1 g_2 (fun r_n_ r_l_ r_c_ h0_ => retK (buildS i_Grid_directions_r0 [.n r_n_, .n r_l_, .n r_c_, .l h0_]) K)
    | _ => none)
theorem E_i_Grid_directions_ok {α : Type} (N : Nat) : EnvOk Try.prog (E_i_Grid_directions α N) := (E_i_Grid_directions_l0_ok N).addFun prog_mixed prog_names (d := 1) fun l K r h => by
  split at h
  · exact (i_Grid_directions_run N _ _ _ K).trans h
  · cases h

def A_i_Grid_relations_l0 (α : Type) (N : Nat) : Env α := (E_i_Grid_directions α N).addAnn 61 3 { head := [1, 3, 10, 11], grow := [3], out := [3], ret := [2] }
theorem A_i_Grid_relations_l0_ok {α : Type} (N : Nat) : EnvOk Try.prog (A_i_Grid_relations_l0 α N) := (E_i_Grid_directions_ok N).addAnn

def A_i_Grid_relations_l1 (α : Type) (N : Nat) : Env α := (A_i_Grid_relations_l0 α N).addAnn 61 7 { head := [1, 3, 4, 5, 10, 11, 16, 17], grow := [5], out := [1, 3, 5, 10, 11], ret := [2] }
theorem A_i_Grid_relations_l1_ok {α : Type} (N : Nat) : EnvOk Try.prog (A_i_Grid_relations_l1 α N) := (A_i_Grid_relations_l0_ok N).addAnn

/-- (impl.Grid).relations, loop -/
def i_Grid_relations_l1_p : SPat := ⟨[.undef, .ptr ⟨⟨0, 0⟩, 0, 0, 1⟩, .undef, .sliceV 2 0 0 1 false, .int .i64, .sliceV 3 0 0 1 false, .undef, .undef, .undef, .undef, .int .i64, .int .i64, .undef, .undef, .undef, .undef, .int .i64, .int .i64] ++ List.replicate 41 .undef, [[.vals [.int .i64], .ints .u8 8, .ints .u8 8], [.pool .i64], [.hdr 1], [.vec .i64]]⟩
def i_Grid_relations_l1_o0 : SPat := ⟨[.undef, .ptr ⟨⟨0, 0⟩, 0, 0, 1⟩, .undef, .sliceV 2 0 0 1 false, .undef, .sliceV 3 0 0 1 false, .undef, .undef, .undef, .undef, .int .i64, .int .i64] ++ List.replicate 47 .undef, [[.vals [.int .i64], .ints .u8 8, .ints .u8 8], [.pool .i64], [.hdr 1], [.vec .i64]]⟩
theorem i_Grid_relations_l1_round {α : Type} (N : Nat) (out_n : Nat) (out_l : Nat) (out_c : Nat) (r_ : Int) (list_n : Nat) (list_l : Nat) (list_c : Nat) (t10 : Int) (t11 : Int) (t16 : Int) (t17 : Int) (h0_0 : Int) (h0_1 : Nat → Int) (h0_2 : Nat → Int) (h1 : List (List Int)) (h2 : List (Nat × Nat)) (h3 : List Int) (kn : St → Option α) (K : AExit → St → Option α) :
    roundK Try.prog (A_i_Grid_relations_l1 α N) 1 0 61 Try.f61 7 4 (buildS i_Grid_relations_l1_p [.n out_n, .n out_l, .n out_c, .i r_, .n list_n, .n list_l, .n list_c, .i t10, .i t11, .i t16, .i t17, .i h0_0, .f h0_1, .f h0_2, .r h1, .p h2, .l h3]) kn K = i_Grid_relations_l1_s none out_n out_l out_c r_ t10 t11 t16 h0_0 h0_1 h0_2 h1 h2 list_n list_l list_c t17 h3 (fun list_n list_l list_c t17 h3 => kn (buildS i_Grid_relations_l1_p [.n out_n, .n out_l, .n out_c, .i r_, .n list_n, .n list_l, .n list_c, .i t10, .i t11, .i t16, .i t17, .i h0_0, .f h0_1, .f h0_2, .r h1, .p h2, .l h3])) (fun list_n_ list_l_ list_c_ h3_ => K (.exit 2) (buildS i_Grid_relations_l1_o0 [.n out_n, .n out_l, .n out_c, .n list_n_, .n list_l_, .n list_c_, .i t10, .i t11, .i h0_0, .f h0_1, .f h0_2, .r h1, .p h2, .l h3_])) := by kernel_rfl
theorem i_Grid_relations_l1_loop {α : Type} (N : Nat) (out_n : Nat) (out_l : Nat) (out_c : Nat) (r_ : Int) (t10 : Int) (t11 : Int) (t16 : Int) (h0_0 : Int) (h0_1 : Nat → Int) (h0_2 : Nat → Int) (h1 : List (List Int)) (h2 : List (Nat × Nat)) (K : AExit → St → Option α) : ∀ (m : Nat) (list_n : Nat) (list_l : Nat) (list_c : Nat) (t17 : Int) (h3 : List Int),
    loopN (trimSt ((A_i_Grid_relations_l1 α N).ann 61 7).head ((A_i_Grid_relations_l1 α N).ann 61 7).grow 4) (bodyK Try.prog (A_i_Grid_relations_l1 α N) 1 0 61 Try.f61 7) m (buildS i_Grid_relations_l1_p [.n out_n, .n out_l, .n out_c, .i r_, .n list_n, .n list_l, .n list_c, .i t10, .i t11, .i t16, .i t17, .i h0_0, .f h0_1, .f h0_2, .r h1, .p h2, .l h3]) (leaveLoop ((A_i_Grid_relations_l1 α N).ann 61 7) 4 K) = i_Grid_relations_l1 none out_n out_l out_c r_ t10 t11 t16 h0_0 h0_1 h0_2 h1 h2 m list_n list_l list_c t17 h3 (fun list_n_ list_l_ list_c_ h3_ => K (.exit 2) (buildS i_Grid_relations_l1_o0 [.n out_n, .n out_l, .n out_c, .n list_n_, .n list_l_, .n list_c_, .i t10, .i t11, .i h0_0, .f h0_1, .f h0_2, .r h1, .p h2, .l h3_])) := by
  intro m
  induction m with
  | zero => intros; rfl
  | succ m ih =>
    intro list_n list_l list_c t17 h3
    rw [loopN_round]
    refine (i_Grid_relations_l1_round N out_n out_l out_c r_ list_n list_l list_c t10 t11 t16 t17 h0_0 h0_1 h0_2 h1 h2 h3 _ K).trans ?_
    simp only [ih]
    rfl
def E_i_Grid_relations_l1 (α : Type) (N : Nat) : Env α := (A_i_Grid_relations_l1 α N).addLoop2 61 7 (loopSum2 ((A_i_Grid_relations_l1 α N).ann 61 7) 0 i_Grid_relations_l1_p (fun l K => match l with
    | [.n out_n, .n out_l, .n out_c, .i r_, .n list_n, .n list_l, .n list_c, .i t10, .i t11, .i t16, .i t17, .i h0_0, .f h0_1, .f h0_2, .r h1, .p h2, .l h3] => i_Grid_relations_l1 none out_n out_l out_c r_ t10 t11 t16 h0_0 h0_1 h0_2 h1 h2 N list_n list_l list_c t17 h3 (fun list_n_ list_l_ list_c_ h3_ => K (.exit 2) (buildS i_Grid_relations_l1_o0 [.n out_n, .n out_l, .n out_c, .n list_n_, .n list_l_, .n list_c_, .i t10, .i t11, .i h0_0, .f h0_1, .f h0_2, .r h1, .p h2, .l h3_]))
    | _ => none) ((A_i_Grid_relations_l1 α N).ls 61 7))
theorem E_i_Grid_relations_l1_ok {α : Type} (N : Nat) : EnvOk Try.prog (E_i_Grid_relations_l1 α N) := (A_i_Grid_relations_l1_ok N).addLoop2 Try.func61 (by kernel_rfl) (loopSum_ok prog_mixed prog_names (A_i_Grid_relations_l1_ok N) Try.func61 (by kernel_rfl) (d := 1) (ro := 0) fun l K r h => by
  split at h
  · exact (i_Grid_relations_l1_loop N _ _ _ _ _ _ _ _ _ _ _ _ K N _ _ _ _ _).trans h
  · cases h)

/-- (impl.Grid).relations, loop -/
def i_Grid_relations_l0_p : SPat := ⟨[.undef, .ptr ⟨⟨0, 0⟩, 0, 0, 1⟩, .undef, .sliceV 2 0 0 1 false, .undef, .undef, .undef, .undef, .undef, .undef, .int .i64, .int .i64] ++ List.replicate 47 .undef, [[.vals [.int .i64], .ints .u8 8, .ints .u8 8], [.pool .i64], [.hdr 1]]⟩
def i_Grid_relations_l0_o0 : SPat := ⟨[.undef, .undef, .undef, .sliceV 2 0 0 1 false] ++ List.replicate 55 .undef, [[.vals [.int .i64], .ints .u8 8, .ints .u8 8], [.pool .i64], [.hdr 1]]⟩
theorem i_Grid_relations_l0_round {α : Type} (N : Nat) (out_n : Nat) (out_l : Nat) (out_c : Nat) (t10 : Int) (t11 : Int) (h0_0 : Int) (h0_1 : Nat → Int) (h0_2 : Nat → Int) (h1 : List (List Int)) (h2 : List (Nat × Nat)) (kn : St → Option α) (K : AExit → St → Option α) :
    roundK Try.prog (E_i_Grid_relations_l1 α N) 1 0 61 Try.f61 3 3 (buildS i_Grid_relations_l0_p [.n out_n, .n out_l, .n out_c, .i t10, .i t11, .i h0_0, .f h0_1, .f h0_2, .r h1, .p h2]) kn K = i_Grid_relations_l0_s none N t10 h0_0 h0_1 h0_2 out_n out_l out_c t11 h1 h2 (fun out_n out_l out_c t11 h1 h2 => kn (buildS i_Grid_relations_l0_p [.n out_n, .n out_l, .n out_c, .i t10, .i t11, .i h0_0, .f h0_1, .f h0_2, .r h1, .p h2])) (fun out_n_ out_l_ out_c_ h1_ h2_ => K (.exit 0) (buildS i_Grid_relations_l0_o0 [.n out_n_, .n out_l_, .n out_c_, .i h0_0, .f h0_1, .f h0_2, .r h1_, .p h2_])) := by kernel_rfl
theorem i_Grid_relations_l0_loop {α : Type} (N : Nat) (t10 : Int) (h0_0 : Int) (h0_1 : Nat → Int) (h0_2 : Nat → Int) (K : AExit → St → Option α) : ∀ (m : Nat) (out_n : Nat) (out_l : Nat) (out_c : Nat) (t11 : Int) (h1 : List (List Int)) (h2 : List (Nat × Nat)),
    loopN (trimSt ((E_i_Grid_relations_l1 α N).ann 61 3).head ((E_i_Grid_relations_l1 α N).ann 61 3).grow 3) (bodyK Try.prog (E_i_Grid_relations_l1 α N) 1 0 61 Try.f61 3) m (buildS i_Grid_relations_l0_p [.n out_n, .n out_l, .n out_c, .i t10, .i t11, .i h0_0, .f h0_1, .f h0_2, .r h1, .p h2]) (leaveLoop ((E_i_Grid_relations_l1 α N).ann 61 3) 3 K) = i_Grid_relations_l0 none N t10 h0_0 h0_1 h0_2 m out_n out_l out_c t11 h1 h2 (fun out_n_ out_l_ out_c_ h1_ h2_ => K (.exit 0) (buildS i_Grid_relations_l0_o0 [.n out_n_, .n out_l_, .n out_c_, .i h0_0, .f h0_1, .f h0_2, .r h1_, .p h2_])) := by
  intro m
  induction m with
  | zero => intros; rfl
  | succ m ih =>
    intro out_n out_l out_c t11 h1 h2
    rw [loopN_round]
    refine (i_Grid_relations_l0_round N out_n out_l out_c t10 t11 h0_0 h0_1 h0_2 h1 h2 _ K).trans ?_
    simp only [ih]
    rfl
def E_i_Grid_relations_l0 (α : Type) (N : Nat) : Env α := (E_i_Grid_relations_l1 α N).addLoop2 61 3 (loopSum2 ((E_i_Grid_relations_l1 α N).ann 61 3) 0 i_Grid_relations_l0_p (fun l K => match l with
    | [.n out_n, .n out_l, .n out_c, .i t10, .i t11, .i h0_0, .f h0_1, .f h0_2, .r h1, .p h2] => i_Grid_relations_l0 none N t10 h0_0 h0_1 h0_2 N out_n out_l out_c t11 h1 h2 (fun out_n_ out_l_ out_c_ h1_ h2_ => K (.exit 0) (buildS i_Grid_relations_l0_o0 [.n out_n_, .n out_l_, .n out_c_, .i h0_0, .f h0_1, .f h0_2, .r h1_, .p h2_]))
    | _ => none) ((E_i_Grid_relations_l1 α N).ls 61 3))
theorem E_i_Grid_relations_l0_ok {α : Type} (N : Nat) : EnvOk Try.prog (E_i_Grid_relations_l0 α N) := (E_i_Grid_relations_l1_ok N).addLoop2 Try.func61 (by kernel_rfl) (loopSum_ok prog_mixed prog_names (E_i_Grid_relations_l1_ok N) Try.func61 (by kernel_rfl) (d := 1) (ro := 0) fun l K r h => by
  split at h
  · exact (i_Grid_relations_l0_loop N _ _ _ _ K N _ _ _ _ _ _).trans h
  · cases h)

/-- (impl.Grid).relations -/
def i_Grid_relations_a : SPat := ⟨[.agg [.vals [.int .i64], .ints .u8 8, .ints .u8 8]], []⟩
def i_Grid_relations_r0 : SPat := ⟨[.sliceV 0 0 0 1 false], [[.hdr 1], [.pool .i64]]⟩
theorem i_Grid_relations_run {α : Type} (N : Nat) (g_0 : Int) (g_1 : Nat → Int) (g_2 : Nat → Int) (K : AV → Heap → Option α) :
    callK Try.prog (E_i_Grid_relations_l0 α N) 1 61 0 (buildS i_Grid_relations_a [.i g_0, .f g_1, .f g_2]).t (buildS i_Grid_relations_a [.i g_0, .f g_1, .f g_2]).h K = i_Grid_relations none N g_0 g_1 g_2 (fun r_n_ r_l_ r_c_ h0_ h1_ => retK (buildS i_Grid_relations_r0 [.n r_n_, .n r_l_, .n r_c_, .p h0_, .r h1_]) K) := by kernel_rfl
def E_i_Grid_relations (α : Type) (N : Nat) : Env α := (E_i_Grid_relations_l0 α N).addFun 61 true 0 i_Grid_relations_a (fun l K => match l with
    | [.i g_0, .f g_1, .f g_2] => i_Grid_relations none N g_0 g_1 g_2 (fun r_n_ r_l_ r_c_ h0_ h1_ => retK (buildS i_Grid_relations_r0 [.n r_n_, .n r_l_, .n r_c_, .p h0_, .r h1_]) K)
    | _ => none)
theorem E_i_Grid_relations_ok {α : Type} (N : Nat) : EnvOk Try.prog (E_i_Grid_relations α N) := (E_i_Grid_relations_l0_ok N).addFun prog_mixed prog_names (d := 1) fun l K r h => by
  split at h
  · exact (i_Grid_relations_run N _ _ _ K).trans h
  · cases h

def A_i_AbelianTable_1_l0 (α : Type) (N : Nat) : Env α := (E_i_Grid_relations α N).addAnn 70 4 { head := [3, 4, 5, 6, 21, 22, 23], grow := [6], out := [6], ret := [2] }
theorem A_i_AbelianTable_1_l0_ok {α : Type} (N : Nat) : EnvOk Try.prog (A_i_AbelianTable_1_l0 α N) := (E_i_Grid_relations_ok N).addAnn

def A_i_AbelianTable_1_l1 (α : Type) (N : Nat) : Env α := (A_i_AbelianTable_1_l0 α N).addAnn 70 8 { head := [3, 4, 5, 6, 9, 21, 22, 23, 29, 30, 31], grow := [], out := [3, 4, 5, 6, 9, 21, 22, 23], ret := [2] }
theorem A_i_AbelianTable_1_l1_ok {α : Type} (N : Nat) : EnvOk Try.prog (A_i_AbelianTable_1_l1 α N) := (A_i_AbelianTable_1_l0_ok N).addAnn

/-- impl.AbelianTable$1, loop -/
def i_AbelianTable_1_l1_p : SPat := ⟨[.undef, .undef, .undef, .ptr ⟨⟨1, 0⟩, 0, 0, 8⟩, .int .i64, .sliceV 2 0 0 1 false, .sliceV 4 0 0 1 false, .undef, .undef, .sliceV 7 0 0 1 true, .undef, .undef, .undef, .undef, .undef, .undef, .undef, .undef, .undef, .undef, .undef, .sliceV 5 0 0 1 false, .int .i64, .int .i64, .undef, .undef, .undef, .undef, .undef, .sliceR 6 1 false, .int .i64, .int .i64] ++ List.replicate 22 .undef, [[.vals [.int .i64], .ints .u8 8, .ints .u8 8], [.ints .i64 8], [.vec .i64], [.pool .i64], [.hdr 3], [.hdr 6], [.pool .i64], [.intsV .i64]]⟩
def i_AbelianTable_1_l1_o0 : SPat := ⟨[.undef, .undef, .undef, .ptr ⟨⟨1, 0⟩, 0, 0, 8⟩, .int .i64, .sliceV 2 0 0 1 false, .sliceV 4 0 0 1 false, .undef, .undef, .sliceV 7 0 0 1 true, .undef, .undef, .undef, .undef, .undef, .undef, .undef, .undef, .undef, .undef, .undef, .sliceV 5 0 0 1 false, .int .i64, .int .i64] ++ List.replicate 30 .undef, [[.vals [.int .i64], .ints .u8 8, .ints .u8 8], [.ints .i64 8], [.vec .i64], [.pool .i64], [.hdr 3], [.hdr 6], [.pool .i64], [.intsV .i64]]⟩
theorem i_AbelianTable_1_l1_round {α : Type} (N : Nat) (many : Int) (signs_n : Nat) (signs_l : Nat) (signs_c : Nat) (out_n : Nat) (out_l : Nat) (out_c : Nat) (sums_n : Nat) (sums_l : Nat) (sums_c : Nat) (t21_n : Nat) (t21_l : Nat) (t21_c : Nat) (t22 : Int) (t23 : Int) (t29_r : Nat) (t29_o : Nat) (t29_n : Nat) (t29_l : Nat) (t29_c : Nat) (t30 : Int) (t31 : Int) (h0_0 : Int) (h0_1 : Nat → Int) (h0_2 : Nat → Int) (h1 : Nat → Int) (h2 : List Int) (h3 : List (List Int)) (h4 : List (Nat × Nat)) (h5 : List (Nat × Nat)) (h6 : List (List Int)) (h7_n : Nat) (h7 : Nat → Int) (kn : St → Option α) (K : AExit → St → Option α) :
    roundK Try.prog (A_i_AbelianTable_1_l1 α N) 1 0 70 Try.f70 8 8 (buildS i_AbelianTable_1_l1_p (.i many :: .n signs_n :: .n signs_l :: .n signs_c :: .n out_n :: .n out_l :: .n out_c :: .n sums_n :: .n sums_l :: .n sums_c :: .n t21_n :: .n t21_l :: .n t21_c :: .i t22 :: .i t23 :: .n t29_r :: .n t29_o :: .n t29_n :: .n t29_l :: .n t29_c :: .i t30 :: .i t31 :: .i h0_0 :: .f h0_1 :: .f h0_2 :: .f h1 :: .l h2 :: .r h3 :: .p h4 :: .p h5 :: .r h6 :: .n h7_n :: .f h7 :: [])) kn K = i_AbelianTable_1_l1_s none many signs_n signs_l signs_c out_n out_l out_c sums_n sums_l sums_c t21_n t21_l t21_c t22 t23 t29_r t29_o t29_n t29_l t29_c t30 h0_0 h0_1 h0_2 h1 h2 h3 h4 h5 h6 h7_n t31 h7 (fun t31 h7 => kn (buildS i_AbelianTable_1_l1_p (.i many :: .n signs_n :: .n signs_l :: .n signs_c :: .n out_n :: .n out_l :: .n out_c :: .n sums_n :: .n sums_l :: .n sums_c :: .n t21_n :: .n t21_l :: .n t21_c :: .i t22 :: .i t23 :: .n t29_r :: .n t29_o :: .n t29_n :: .n t29_l :: .n t29_c :: .i t30 :: .i t31 :: .i h0_0 :: .f h0_1 :: .f h0_2 :: .f h1 :: .l h2 :: .r h3 :: .p h4 :: .p h5 :: .r h6 :: .n h7_n :: .f h7 :: []))) (fun h7_ => K (.exit 2) (buildS i_AbelianTable_1_l1_o0 [.i many, .n signs_n, .n signs_l, .n signs_c, .n out_n, .n out_l, .n out_c, .n sums_n, .n sums_l, .n sums_c, .n t21_n, .n t21_l, .n t21_c, .i t22, .i t23, .i h0_0, .f h0_1, .f h0_2, .f h1, .l h2, .r h3, .p h4, .p h5, .r h6, .n h7_n, .f h7_])) := by kernel_rfl
theorem i_AbelianTable_1_l1_loop {α : Type} (N : Nat) (many : Int) (signs_n : Nat) (signs_l : Nat) (signs_c : Nat) (out_n : Nat) (out_l : Nat) (out_c : Nat) (sums_n : Nat) (sums_l : Nat) (sums_c : Nat) (t21_n : Nat) (t21_l : Nat) (t21_c : Nat) (t22 : Int) (t23 : Int) (t29_r : Nat) (t29_o : Nat) (t29_n : Nat) (t29_l : Nat) (t29_c : Nat) (t30 : Int) (h0_0 : Int) (h0_1 : Nat → Int) (h0_2 : Nat → Int) (h1 : Nat → Int) (h2 : List Int) (h3 : List (List Int)) (h4 : List (Nat × Nat)) (h5 : List (Nat × Nat)) (h6 : List (List Int)) (h7_n : Nat) (K : AExit → St → Option α) : ∀ (m : Nat) (t31 : Int) (h7 : Nat → Int),
    loopN (trimSt ((A_i_AbelianTable_1_l1 α N).ann 70 8).head ((A_i_AbelianTable_1_l1 α N).ann 70 8).grow 8) (bodyK Try.prog (A_i_AbelianTable_1_l1 α N) 1 0 70 Try.f70 8) m (buildS i_AbelianTable_1_l1_p (.i many :: .n signs_n :: .n signs_l :: .n signs_c :: .n out_n :: .n out_l :: .n out_c :: .n sums_n :: .n sums_l :: .n sums_c :: .n t21_n :: .n t21_l :: .n t21_c :: .i t22 :: .i t23 :: .n t29_r :: .n t29_o :: .n t29_n :: .n t29_l :: .n t29_c :: .i t30 :: .i t31 :: .i h0_0 :: .f h0_1 :: .f h0_2 :: .f h1 :: .l h2 :: .r h3 :: .p h4 :: .p h5 :: .r h6 :: .n h7_n :: .f h7 :: [])) (leaveLoop ((A_i_AbelianTable_1_l1 α N).ann 70 8) 8 K) = i_AbelianTable_1_l1 none many signs_n signs_l signs_c out_n out_l out_c sums_n sums_l sums_c t21_n t21_l t21_c t22 t23 t29_r t29_o t29_n t29_l t29_c t30 h0_0 h0_1 h0_2 h1 h2 h3 h4 h5 h6 h7_n m t31 h7 (fun h7_ => K (.exit 2) (buildS i_AbelianTable_1_l1_o0 [.i many, .n signs_n, .n signs_l, .n signs_c, .n out_n, .n out_l, .n out_c, .n sums_n, .n sums_l, .n sums_c, .n t21_n, .n t21_l, .n t21_c, .i t22, .i t23, .i h0_0, .f h0_1, .f h0_2, .f h1, .l h2, .r h3, .p h4, .p h5, .r h6, .n h7_n, .f h7_])) := by
  intro m
  induction m with
  | zero => intros; rfl
  | succ m ih =>
    intro t31 h7
    rw [loopN_round]
    refine (i_AbelianTable_1_l1_round N many signs_n signs_l signs_c out_n out_l out_c sums_n sums_l sums_c t21_n t21_l t21_c t22 t23 t29_r t29_o t29_n t29_l t29_c t30 t31 h0_0 h0_1 h0_2 h1 h2 h3 h4 h5 h6 h7_n h7 _ K).trans ?_
    simp only [ih]
    rfl
def E_i_AbelianTable_1_l1 (α : Type) (N : Nat) : Env α := (A_i_AbelianTable_1_l1 α N).addLoop2 70 8 (loopSum2 ((A_i_AbelianTable_1_l1 α N).ann 70 8) 0 i_AbelianTable_1_l1_p (fun l K => match l with
    | (.i many :: .n signs_n :: .n signs_l :: .n signs_c :: .n out_n :: .n out_l :: .n out_c :: .n sums_n :: .n sums_l :: .n sums_c :: .n t21_n :: .n t21_l :: .n t21_c :: .i t22 :: .i t23 :: .n t29_r :: .n t29_o :: .n t29_n :: .n t29_l :: .n t29_c :: .i t30 :: .i t31 :: .i h0_0 :: .f h0_1 :: .f h0_2 :: .f h1 :: .l h2 :: .r h3 :: .p h4 :: .p h5 :: .r h6 :: .n h7_n :: .f h7 :: []) => i_AbelianTable_1_l1 none many signs_n signs_l signs_c out_n out_l out_c sums_n sums_l sums_c t21_n t21_l t21_c t22 t23 t29_r t29_o t29_n t29_l t29_c t30 h0_0 h0_1 h0_2 h1 h2 h3 h4 h5 h6 h7_n N t31 h7 (fun h7_ => K (.exit 2) (buildS i_AbelianTable_1_l1_o0 [.i many, .n signs_n, .n signs_l, .n signs_c, .n out_n, .n out_l, .n out_c, .n sums_n, .n sums_l, .n sums_c, .n t21_n, .n t21_l, .n t21_c, .i t22, .i t23, .i h0_0, .f h0_1, .f h0_2, .f h1, .l h2, .r h3, .p h4, .p h5, .r h6, .n h7_n, .f h7_]))
    | _ => none) ((A_i_AbelianTable_1_l1 α N).ls 70 8))
theorem E_i_AbelianTable_1_l1_ok {α : Type} (N : Nat) : EnvOk Try.prog (E_i_AbelianTable_1_l1 α N) := (A_i_AbelianTable_1_l1_ok N).addLoop2 Try.func70 (by kernel_rfl) (loopSum_ok prog_mixed prog_names (A_i_AbelianTable_1_l1_ok N) Try.func70 (by kernel_rfl) (d := 1) (ro := 0) fun l K r h => by
  split at h
  · exact (i_AbelianTable_1_l1_loop N _ _ _ _ _ _ _ _ _ _ _ _ _ _ _ _ _ _ _ _ _ _ _ _ _ _ _ _ _ _ _ K N _ _).trans h
  · cases h)

/-- impl.AbelianTable$1, loop -/
def i_AbelianTable_1_l0_p : SPat := ⟨[.undef, .undef, .undef, .ptr ⟨⟨1, 0⟩, 0, 0, 8⟩, .int .i64, .sliceV 2 0 0 1 false, .sliceV 4 0 0 1 false, .undef, .undef, .undef, .undef, .undef, .undef, .undef, .undef, .undef, .undef, .undef, .undef, .undef, .undef, .sliceV 5 0 0 1 false, .int .i64, .int .i64] ++ List.replicate 30 .undef, [[.vals [.int .i64], .ints .u8 8, .ints .u8 8], [.ints .i64 8], [.vec .i64], [.pool .i64], [.hdr 3], [.hdr 6], [.pool .i64]]⟩
def i_AbelianTable_1_l0_o0 : SPat := ⟨[.undef, .undef, .undef, .undef, .undef, .undef, .sliceV 4 0 0 1 false] ++ List.replicate 47 .undef, [[.vals [.int .i64], .ints .u8 8, .ints .u8 8], [.ints .i64 8], [.vec .i64], [.pool .i64], [.hdr 3], [.hdr 6], [.pool .i64]]⟩
theorem i_AbelianTable_1_l0_round {α : Type} (N : Nat) (many : Int) (signs_n : Nat) (signs_l : Nat) (signs_c : Nat) (out_n : Nat) (out_l : Nat) (out_c : Nat) (t21_n : Nat) (t21_l : Nat) (t21_c : Nat) (t22 : Int) (t23 : Int) (h0_0 : Int) (h0_1 : Nat → Int) (h0_2 : Nat → Int) (h1 : Nat → Int) (h2 : List Int) (h3 : List (List Int)) (h4 : List (Nat × Nat)) (h5 : List (Nat × Nat)) (h6 : List (List Int)) (kn : St → Option α) (K : AExit → St → Option α) :
    roundK Try.prog (E_i_AbelianTable_1_l1 α N) 1 0 70 Try.f70 4 7 (buildS i_AbelianTable_1_l0_p [.i many, .n signs_n, .n signs_l, .n signs_c, .n out_n, .n out_l, .n out_c, .n t21_n, .n t21_l, .n t21_c, .i t22, .i t23, .i h0_0, .f h0_1, .f h0_2, .f h1, .l h2, .r h3, .p h4, .p h5, .r h6]) kn K = i_AbelianTable_1_l0_s none N many signs_n signs_l signs_c t21_n t21_l t21_c t22 h0_0 h0_1 h0_2 h1 h2 h5 h6 out_n out_l out_c t23 h3 h4 (fun out_n out_l out_c t23 h3 h4 => kn (buildS i_AbelianTable_1_l0_p [.i many, .n signs_n, .n signs_l, .n signs_c, .n out_n, .n out_l, .n out_c, .n t21_n, .n t21_l, .n t21_c, .i t22, .i t23, .i h0_0, .f h0_1, .f h0_2, .f h1, .l h2, .r h3, .p h4, .p h5, .r h6])) (fun out_n_ out_l_ out_c_ h3_ h4_ => K (.exit 0) (buildS i_AbelianTable_1_l0_o0 [.n out_n_, .n out_l_, .n out_c_, .i h0_0, .f h0_1, .f h0_2, .f h1, .l h2, .r h3_, .p h4_, .p h5, .r h6])) := by kernel_rfl
theorem i_AbelianTable_1_l0_loop {α : Type} (N : Nat) (many : Int) (signs_n : Nat) (signs_l : Nat) (signs_c : Nat) (t21_n : Nat) (t21_l : Nat) (t21_c : Nat) (t22 : Int) (h0_0 : Int) (h0_1 : Nat → Int) (h0_2 : Nat → Int) (h1 : Nat → Int) (h2 : List Int) (h5 : List (Nat × Nat)) (h6 : List (List Int)) (K : AExit → St → Option α) : ∀ (m : Nat) (out_n : Nat) (out_l : Nat) (out_c : Nat) (t23 : Int) (h3 : List (List Int)) (h4 : List (Nat × Nat)),
    loopN (trimSt ((E_i_AbelianTable_1_l1 α N).ann 70 4).head ((E_i_AbelianTable_1_l1 α N).ann 70 4).grow 7) (bodyK Try.prog (E_i_AbelianTable_1_l1 α N) 1 0 70 Try.f70 4) m (buildS i_AbelianTable_1_l0_p [.i many, .n signs_n, .n signs_l, .n signs_c, .n out_n, .n out_l, .n out_c, .n t21_n, .n t21_l, .n t21_c, .i t22, .i t23, .i h0_0, .f h0_1, .f h0_2, .f h1, .l h2, .r h3, .p h4, .p h5, .r h6]) (leaveLoop ((E_i_AbelianTable_1_l1 α N).ann 70 4) 7 K) = i_AbelianTable_1_l0 none N many signs_n signs_l signs_c t21_n t21_l t21_c t22 h0_0 h0_1 h0_2 h1 h2 h5 h6 m out_n out_l out_c t23 h3 h4 (fun out_n_ out_l_ out_c_ h3_ h4_ => K (.exit 0) (buildS i_AbelianTable_1_l0_o0 [.n out_n_, .n out_l_, .n out_c_, .i h0_0, .f h0_1, .f h0_2, .f h1, .l h2, .r h3_, .p h4_, .p h5, .r h6])) := by
  intro m
  induction m with
  | zero => intros; rfl
  | succ m ih =>
    intro out_n out_l out_c t23 h3 h4
    rw [loopN_round]
    refine (i_AbelianTable_1_l0_round N many signs_n signs_l signs_c out_n out_l out_c t21_n t21_l t21_c t22 t23 h0_0 h0_1 h0_2 h1 h2 h3 h4 h5 h6 _ K).trans ?_
    simp only [ih]
    rfl
def E_i_AbelianTable_1_l0 (α : Type) (N : Nat) : Env α := (E_i_AbelianTable_1_l1 α N).addLoop2 70 4 (loopSum2 ((E_i_AbelianTable_1_l1 α N).ann 70 4) 0 i_AbelianTable_1_l0_p (fun l K => match l with
    | [.i many, .n signs_n, .n signs_l, .n signs_c, .n out_n, .n out_l, .n out_c, .n t21_n, .n t21_l, .n t21_c, .i t22, .i t23, .i h0_0, .f h0_1, .f h0_2, .f h1, .l h2, .r h3, .p h4, .p h5, .r h6] => i_AbelianTable_1_l0 none N many signs_n signs_l signs_c t21_n t21_l t21_c t22 h0_0 h0_1 h0_2 h1 h2 h5 h6 N out_n out_l out_c t23 h3 h4 (fun out_n_ out_l_ out_c_ h3_ h4_ => K (.exit 0) (buildS i_AbelianTable_1_l0_o0 [.n out_n_, .n out_l_, .n out_c_, .i h0_0, .f h0_1, .f h0_2, .f h1, .l h2, .r h3_, .p h4_, .p h5, .r h6]))
    | _ => none) ((E_i_AbelianTable_1_l1 α N).ls 70 4))
theorem E_i_AbelianTable_1_l0_ok {α : Type} (N : Nat) : EnvOk Try.prog (E_i_AbelianTable_1_l0 α N) := (E_i_AbelianTable_1_l1_ok N).addLoop2 Try.func70 (by kernel_rfl) (loopSum_ok prog_mixed prog_names (E_i_AbelianTable_1_l1_ok N) Try.func70 (by kernel_rfl) (d := 1) (ro := 0) fun l K r h => by
  split at h
  · exact (i_AbelianTable_1_l0_loop N _ _ _ _ _ _ _ _ _ _ _ _ _ _ _ K N _ _ _ _ _ _).trans h
  · cases h)

/-- impl.AbelianTable$1 -/
def i_AbelianTable_1_a : SPat := ⟨[.agg [.vals [.int .i64], .ints .u8 8, .ints .u8 8]], []⟩
def i_AbelianTable_1_r0 : SPat := ⟨[.sliceV 0 0 0 1 false], [[.hdr 1], [.pool .i64]]⟩
theorem i_AbelianTable_1_run {α : Type} (N : Nat) (g_0 : Int) (g_1 : Nat → Int) (g_2 : Nat → Int) (K : AV → Heap → Option α) :
    callK Try.prog (E_i_AbelianTable_1_l0 α N) 1 70 0 (buildS i_AbelianTable_1_a [.i g_0, .f g_1, .f g_2]).t (buildS i_AbelianTable_1_a [.i g_0, .f g_1, .f g_2]).h K = i_AbelianTable_1 none N g_0 g_1 g_2 (fun r_n_ r_l_ r_c_ h0_ h1_ => retK (buildS i_AbelianTable_1_r0 [.n r_n_, .n r_l_, .n r_c_, .p h0_, .r h1_]) K) := by kernel_rfl
def E_i_AbelianTable_1 (α : Type) (N : Nat) : Env α := (E_i_AbelianTable_1_l0 α N).addFun 70 true 0 i_AbelianTable_1_a (fun l K => match l with
    | [.i g_0, .f g_1, .f g_2] => i_AbelianTable_1 none N g_0 g_1 g_2 (fun r_n_ r_l_ r_c_ h0_ h1_ => retK (buildS i_AbelianTable_1_r0 [.n r_n_, .n r_l_, .n r_c_, .p h0_, .r h1_]) K)
    | _ => none)
theorem E_i_AbelianTable_1_ok {α : Type} (N : Nat) : EnvOk Try.prog (E_i_AbelianTable_1 α N) := (E_i_AbelianTable_1_l0_ok N).addFun prog_mixed prog_names (d := 1) fun l K r h => by
  split at h
  · exact (i_AbelianTable_1_run N _ _ _ K).trans h
  · cases h

/-- impl.whole[[][]int64] -/
def i_whole_int64_s3_a : SPat := ⟨[.agg [.vals [.int .i64], .ints .u8 8, .ints .u8 8], .func 70 []], []⟩
def i_whole_int64_s3_r0 : SPat := ⟨[.tuple [.nils, .int .i64]], []⟩
def i_whole_int64_s3_r1 : SPat := ⟨[.tuple [.sliceV 0 0 0 1 false, .int .i64]], [[.hdr 1], [.pool .i64]]⟩
theorem i_whole_int64_s3_run {α : Type} (N : Nat) (g_0 : Int) (g_1 : Nat → Int) (g_2 : Nat → Int) (K : AV → Heap → Option α) :
    callK Try.prog (E_i_AbelianTable_1 α N) 1 69 0 (buildS i_whole_int64_s3_a [.i g_0, .f g_1, .f g_2]).t (buildS i_whole_int64_s3_a [.i g_0, .f g_1, .f g_2]).h K = i_whole_int64_s3 none N g_0 g_1 g_2 (fun r_1_ => retK (buildS i_whole_int64_s3_r0 [.i r_1_]) K) (fun r_0_n_ r_0_l_ r_0_c_ r_1_ h0_ h1_ => retK (buildS i_whole_int64_s3_r1 [.n r_0_n_, .n r_0_l_, .n r_0_c_, .i r_1_, .p h0_, .r h1_]) K) := by kernel_rfl
def E_i_whole_int64_s3 (α : Type) (N : Nat) : Env α := (E_i_AbelianTable_1 α N).addFun 69 true 0 i_whole_int64_s3_a (fun l K => match l with
    | [.i g_0, .f g_1, .f g_2] => i_whole_int64_s3 none N g_0 g_1 g_2 (fun r_1_ => retK (buildS i_whole_int64_s3_r0 [.i r_1_]) K) (fun r_0_n_ r_0_l_ r_0_c_ r_1_ h0_ h1_ => retK (buildS i_whole_int64_s3_r1 [.n r_0_n_, .n r_0_l_, .n r_0_c_, .i r_1_, .p h0_, .r h1_]) K)
    | _ => none)
theorem E_i_whole_int64_s3_ok {α : Type} (N : Nat) : EnvOk Try.prog (E_i_whole_int64_s3 α N) := (E_i_AbelianTable_1_ok N).addFun prog_mixed prog_names (d := 1) fun l K r h => by
  split at h
  · exact (i_whole_int64_s3_run N _ _ _ K).trans h
  · cases h

/-- impl.AbelianTable -/
def i_AbelianTable_a : SPat := ⟨[.agg [.vals [.int .i64], .ints .u8 8, .ints .u8 8]], []⟩
def i_AbelianTable_r0 : SPat := ⟨[.tuple [.nils, .int .i64]], []⟩
def i_AbelianTable_r1 : SPat := ⟨[.tuple [.sliceV 0 0 0 1 false, .int .i64]], [[.hdr 1], [.pool .i64]]⟩
theorem i_AbelianTable_run {α : Type} (N : Nat) (g_0 : Int) (g_1 : Nat → Int) (g_2 : Nat → Int) (K : AV → Heap → Option α) :
    callK Try.prog (E_i_whole_int64_s3 α N) 1 22 0 (buildS i_AbelianTable_a [.i g_0, .f g_1, .f g_2]).t (buildS i_AbelianTable_a [.i g_0, .f g_1, .f g_2]).h K = i_AbelianTable none N g_0 g_1 g_2 (fun r_1_ => retK (buildS i_AbelianTable_r0 [.i r_1_]) K) (fun r_0_n_ r_0_l_ r_0_c_ r_1_ h0_ h1_ => retK (buildS i_AbelianTable_r1 [.n r_0_n_, .n r_0_l_, .n r_0_c_, .i r_1_, .p h0_, .r h1_]) K) := by kernel_rfl
def E_i_AbelianTable (α : Type) (N : Nat) : Env α := (E_i_whole_int64_s3 α N).addFun 22 true 0 i_AbelianTable_a (fun l K => match l with
    | [.i g_0, .f g_1, .f g_2] => i_AbelianTable none N g_0 g_1 g_2 (fun r_1_ => retK (buildS i_AbelianTable_r0 [.i r_1_]) K) (fun r_0_n_ r_0_l_ r_0_c_ r_1_ h0_ h1_ => retK (buildS i_AbelianTable_r1 [.n r_0_n_, .n r_0_l_, .n r_0_c_, .i r_1_, .p h0_, .r h1_]) K)
    | _ => none)
theorem E_i_AbelianTable_ok {α : Type} (N : Nat) : EnvOk Try.prog (E_i_AbelianTable α N) := (E_i_whole_int64_s3_ok N).addFun prog_mixed prog_names (d := 1) fun l K r h => by
  split at h
  · exact (i_AbelianTable_run N _ _ _ K).trans h
  · cases h

def A_w_eqInt64SS_l0 (α : Type) (N : Nat) : Env α := (E_i_AbelianTable α N).addAnn 23 4 { head := [0, 1, 5], grow := [], out := [], ret := [4] }
theorem A_w_eqInt64SS_l0_ok {α : Type} (N : Nat) : EnvOk Try.prog (A_w_eqInt64SS_l0 α N) := (E_i_AbelianTable_ok N).addAnn

/-- laws.eqInt64SS, loop -/
def w_eqInt64SS_l0_p : SPat := ⟨[.nils, .nils, .undef, .undef, .undef, .int .i64] ++ List.replicate 21 .undef, []⟩
def w_eqInt64SS_l0_o0 : SPat := ⟨[] ++ List.replicate 27 .undef, []⟩
theorem w_eqInt64SS_l0_round {α : Type} (N : Nat) (i : Int) (kn : St → Option α) (K : AExit → St → Option α) :
    roundK Try.prog (A_w_eqInt64SS_l0 α N) 1 0 23 Try.f23 4 0 (buildS w_eqInt64SS_l0_p [.i i]) kn K = w_eqInt64SS_l0_s none i  (kn (buildS w_eqInt64SS_l0_p [.i i])) (K (.exit 0) (buildS w_eqInt64SS_l0_o0 [])) := by kernel_rfl
theorem w_eqInt64SS_l0_loop {α : Type} (N : Nat) (i : Int) (K : AExit → St → Option α) : ∀ (m : Nat),
    loopN (trimSt ((A_w_eqInt64SS_l0 α N).ann 23 4).head ((A_w_eqInt64SS_l0 α N).ann 23 4).grow 0) (bodyK Try.prog (A_w_eqInt64SS_l0 α N) 1 0 23 Try.f23 4) m (buildS w_eqInt64SS_l0_p [.i i]) (leaveLoop ((A_w_eqInt64SS_l0 α N).ann 23 4) 0 K) = w_eqInt64SS_l0 none i m  (K (.exit 0) (buildS w_eqInt64SS_l0_o0 [])) := by
  intro m
  induction m with
  | zero => intros; rfl
  | succ m ih =>
    rw [loopN_round]
    refine (w_eqInt64SS_l0_round N i _ K).trans ?_
    simp only [ih]
    rfl
def E_w_eqInt64SS_l0 (α : Type) (N : Nat) : Env α := (A_w_eqInt64SS_l0 α N).addLoop2 23 4 (loopSum2 ((A_w_eqInt64SS_l0 α N).ann 23 4) 0 w_eqInt64SS_l0_p (fun l K => match l with
    | [.i i] => w_eqInt64SS_l0 none i N  (K (.exit 0) (buildS w_eqInt64SS_l0_o0 []))
    | _ => none) ((A_w_eqInt64SS_l0 α N).ls 23 4))
theorem E_w_eqInt64SS_l0_ok {α : Type} (N : Nat) : EnvOk Try.prog (E_w_eqInt64SS_l0 α N) := (A_w_eqInt64SS_l0_ok N).addLoop2 Try.func23 (by kernel_rfl) (loopSum_ok prog_mixed prog_names (A_w_eqInt64SS_l0_ok N) Try.func23 (by kernel_rfl) (d := 1) (ro := 0) fun l K r h => by
  split at h
  · exact (w_eqInt64SS_l0_loop N _ K N ).trans h
  · cases h)

/-- laws.eqInt64SS -/
def w_eqInt64SS_a : SPat := ⟨[.nils, .nils], []⟩
def w_eqInt64SS_r0 : SPat := ⟨[.bool], []⟩
theorem w_eqInt64SS_run {α : Type} (N : Nat)  (K : AV → Heap → Option α) :
    callK Try.prog (E_w_eqInt64SS_l0 α N) 1 23 0 (buildS w_eqInt64SS_a []).t (buildS w_eqInt64SS_a []).h K = w_eqInt64SS none N  (fun r__ => retK (buildS w_eqInt64SS_r0 [.b r__]) K) := by kernel_rfl
def E_w_eqInt64SS (α : Type) (N : Nat) : Env α := (E_w_eqInt64SS_l0 α N).addFun 23 true 0 w_eqInt64SS_a (fun l K => match l with
    | [] => w_eqInt64SS none N  (fun r__ => retK (buildS w_eqInt64SS_r0 [.b r__]) K)
    | _ => none)
theorem E_w_eqInt64SS_ok {α : Type} (N : Nat) : EnvOk Try.prog (E_w_eqInt64SS α N) := (E_w_eqInt64SS_l0_ok N).addFun prog_mixed prog_names (d := 1) fun l K r h => by
  split at h
  · exact (w_eqInt64SS_run N  K).trans h
  · cases h

def A_w_markInt64SS_l0 (α : Type) (N : Nat) : Env α := (E_w_eqInt64SS α N).addAnn 24 2 { head := [0, 1, 5], grow := [], out := [1], ret := [4] }
theorem A_w_markInt64SS_l0_ok {α : Type} (N : Nat) : EnvOk Try.prog (A_w_markInt64SS_l0 α N) := (E_w_eqInt64SS_ok N).addAnn

/-- laws.markInt64SS, loop -/
def w_markInt64SS_l0_p : SPat := ⟨[.nils, .int .i64, .undef, .undef, .undef, .int .i64] ++ List.replicate 13 .undef, []⟩
def w_markInt64SS_l0_o0 : SPat := ⟨[.undef, .int .i64] ++ List.replicate 17 .undef, []⟩
theorem w_markInt64SS_l0_round {α : Type} (N : Nat) (k : Int) (i : Int) (kn : St → Option α) (K : AExit → St → Option α) :
    roundK Try.prog (A_w_markInt64SS_l0 α N) 1 0 24 Try.f24 2 0 (buildS w_markInt64SS_l0_p [.i k, .i i]) kn K = w_markInt64SS_l0_s none k i  (kn (buildS w_markInt64SS_l0_p [.i k, .i i])) (K (.exit 0) (buildS w_markInt64SS_l0_o0 [.i k])) := by kernel_rfl
theorem w_markInt64SS_l0_loop {α : Type} (N : Nat) (k : Int) (i : Int) (K : AExit → St → Option α) : ∀ (m : Nat),
    loopN (trimSt ((A_w_markInt64SS_l0 α N).ann 24 2).head ((A_w_markInt64SS_l0 α N).ann 24 2).grow 0) (bodyK Try.prog (A_w_markInt64SS_l0 α N) 1 0 24 Try.f24 2) m (buildS w_markInt64SS_l0_p [.i k, .i i]) (leaveLoop ((A_w_markInt64SS_l0 α N).ann 24 2) 0 K) = w_markInt64SS_l0 none k i m  (K (.exit 0) (buildS w_markInt64SS_l0_o0 [.i k])) := by
  intro m
  induction m with
  | zero => intros; rfl
  | succ m ih =>
    rw [loopN_round]
    refine (w_markInt64SS_l0_round N k i _ K).trans ?_
    simp only [ih]
    rfl
def E_w_markInt64SS_l0 (α : Type) (N : Nat) : Env α := (A_w_markInt64SS_l0 α N).addLoop2 24 2 (loopSum2 ((A_w_markInt64SS_l0 α N).ann 24 2) 0 w_markInt64SS_l0_p (fun l K => match l with
    | [.i k, .i i] => w_markInt64SS_l0 none k i N  (K (.exit 0) (buildS w_markInt64SS_l0_o0 [.i k]))
    | _ => none) ((A_w_markInt64SS_l0 α N).ls 24 2))
theorem E_w_markInt64SS_l0_ok {α : Type} (N : Nat) : EnvOk Try.prog (E_w_markInt64SS_l0 α N) := (A_w_markInt64SS_l0_ok N).addLoop2 Try.func24 (by kernel_rfl) (loopSum_ok prog_mixed prog_names (A_w_markInt64SS_l0_ok N) Try.func24 (by kernel_rfl) (d := 1) (ro := 0) fun l K r h => by
  split at h
  · exact (w_markInt64SS_l0_loop N _ _ K N ).trans h
  · cases h)

/-- laws.markInt64SS -/
def w_markInt64SS_a : SPat := ⟨[.nils, .int .i64], []⟩
def w_markInt64SS_r0 : SPat := ⟨[.int .i64], []⟩
theorem w_markInt64SS_run {α : Type} (N : Nat) (k : Int) (K : AV → Heap → Option α) :
    callK Try.prog (E_w_markInt64SS_l0 α N) 1 24 0 (buildS w_markInt64SS_a [.i k]).t (buildS w_markInt64SS_a [.i k]).h K = w_markInt64SS none N k (retK (buildS w_markInt64SS_r0 [.i k]) K) := by kernel_rfl
def E_w_markInt64SS (α : Type) (N : Nat) : Env α := (E_w_markInt64SS_l0 α N).addFun 24 false 0 w_markInt64SS_a (fun l K => match l with
    | [.i k] => w_markInt64SS none N k (retK (buildS w_markInt64SS_r0 [.i k]) K)
    | _ => none)
theorem E_w_markInt64SS_ok {α : Type} (N : Nat) : EnvOk Try.prog (E_w_markInt64SS α N) := (E_w_markInt64SS_l0_ok N).addFun prog_mixed prog_names (d := 1) fun l K r h => by
  split at h
  · exact (w_markInt64SS_run N _ K).trans h
  · cases h

def A_w_heldInt64SS_l0 (α : Type) (N : Nat) : Env α := (E_w_markInt64SS α N).addAnn 25 2 { head := [0, 1, 5], grow := [], out := [1], ret := [4] }
theorem A_w_heldInt64SS_l0_ok {α : Type} (N : Nat) : EnvOk Try.prog (A_w_heldInt64SS_l0 α N) := (E_w_markInt64SS_ok N).addAnn

/-- laws.heldInt64SS, loop -/
def w_heldInt64SS_l0_p : SPat := ⟨[.nils, .int .i64, .undef, .undef, .undef, .int .i64] ++ List.replicate 15 .undef, []⟩
def w_heldInt64SS_l0_o0 : SPat := ⟨[.undef, .int .i64] ++ List.replicate 19 .undef, []⟩
theorem w_heldInt64SS_l0_round {α : Type} (N : Nat) (k : Int) (i : Int) (kn : St → Option α) (K : AExit → St → Option α) :
    roundK Try.prog (A_w_heldInt64SS_l0 α N) 1 0 25 Try.f25 2 0 (buildS w_heldInt64SS_l0_p [.i k, .i i]) kn K = w_heldInt64SS_l0_s none k i  (kn (buildS w_heldInt64SS_l0_p [.i k, .i i])) (K (.exit 0) (buildS w_heldInt64SS_l0_o0 [.i k])) := by kernel_rfl
theorem w_heldInt64SS_l0_loop {α : Type} (N : Nat) (k : Int) (i : Int) (K : AExit → St → Option α) : ∀ (m : Nat),
    loopN (trimSt ((A_w_heldInt64SS_l0 α N).ann 25 2).head ((A_w_heldInt64SS_l0 α N).ann 25 2).grow 0) (bodyK Try.prog (A_w_heldInt64SS_l0 α N) 1 0 25 Try.f25 2) m (buildS w_heldInt64SS_l0_p [.i k, .i i]) (leaveLoop ((A_w_heldInt64SS_l0 α N).ann 25 2) 0 K) = w_heldInt64SS_l0 none k i m  (K (.exit 0) (buildS w_heldInt64SS_l0_o0 [.i k])) := by
  intro m
  induction m with
  | zero => intros; rfl
  | succ m ih =>
    rw [loopN_round]
    refine (w_heldInt64SS_l0_round N k i _ K).trans ?_
    simp only [ih]
    rfl
def E_w_heldInt64SS_l0 (α : Type) (N : Nat) : Env α := (A_w_heldInt64SS_l0 α N).addLoop2 25 2 (loopSum2 ((A_w_heldInt64SS_l0 α N).ann 25 2) 0 w_heldInt64SS_l0_p (fun l K => match l with
    | [.i k, .i i] => w_heldInt64SS_l0 none k i N  (K (.exit 0) (buildS w_heldInt64SS_l0_o0 [.i k]))
    | _ => none) ((A_w_heldInt64SS_l0 α N).ls 25 2))
theorem E_w_heldInt64SS_l0_ok {α : Type} (N : Nat) : EnvOk Try.prog (E_w_heldInt64SS_l0 α N) := (A_w_heldInt64SS_l0_ok N).addLoop2 Try.func25 (by kernel_rfl) (loopSum_ok prog_mixed prog_names (A_w_heldInt64SS_l0_ok N) Try.func25 (by kernel_rfl) (d := 1) (ro := 0) fun l K r h => by
  split at h
  · exact (w_heldInt64SS_l0_loop N _ _ K N ).trans h
  · cases h)

/-- laws.heldInt64SS -/
def w_heldInt64SS_a : SPat := ⟨[.nils, .int .i64], []⟩
def w_heldInt64SS_r0 : SPat := ⟨[.int .i64], []⟩
theorem w_heldInt64SS_run {α : Type} (N : Nat) (k : Int) (K : AV → Heap → Option α) :
    callK Try.prog (E_w_heldInt64SS_l0 α N) 1 25 0 (buildS w_heldInt64SS_a [.i k]).t (buildS w_heldInt64SS_a [.i k]).h K = w_heldInt64SS none N k (retK (buildS w_heldInt64SS_r0 [.i k]) K) := by kernel_rfl
def E_w_heldInt64SS (α : Type) (N : Nat) : Env α := (E_w_heldInt64SS_l0 α N).addFun 25 true 0 w_heldInt64SS_a (fun l K => match l with
    | [.i k] => w_heldInt64SS none N k (retK (buildS w_heldInt64SS_r0 [.i k]) K)
    | _ => none)
theorem E_w_heldInt64SS_ok {α : Type} (N : Nat) : EnvOk Try.prog (E_w_heldInt64SS α N) := (E_w_heldInt64SS_l0_ok N).addFun prog_mixed prog_names (d := 1) fun l K r h => by
  split at h
  · exact (w_heldInt64SS_run N _ K).trans h
  · cases h

/-- laws.eqInt64SS, loop -/
def w_eqInt64SS_l0_s2_p : SPat := ⟨[.sliceV 0 0 0 1 false, .nils, .undef, .undef, .undef, .int .i64] ++ List.replicate 21 .undef, [[.hdr 1], [.pool .i64]]⟩
def w_eqInt64SS_l0_s2_o0 : SPat := ⟨[] ++ List.replicate 27 .undef, [[.hdr 1], [.pool .i64]]⟩
theorem w_eqInt64SS_l0_s2_round {α : Type} (N : Nat) (a_n : Nat) (a_l : Nat) (a_c : Nat) (i : Int) (h0 : List (Nat × Nat)) (h1 : List (List Int)) (kn : St → Option α) (K : AExit → St → Option α) :
    roundK Try.prog (E_w_heldInt64SS α N) 1 2 23 Try.f23 4 2 (buildS w_eqInt64SS_l0_s2_p [.n a_n, .n a_l, .n a_c, .i i, .p h0, .r h1]) kn K = w_eqInt64SS_l0_s2_s none a_n a_l a_c i h0 h1  (kn (buildS w_eqInt64SS_l0_s2_p [.n a_n, .n a_l, .n a_c, .i i, .p h0, .r h1])) (K (.exit 0) (buildS w_eqInt64SS_l0_s2_o0 [.p h0, .r h1])) := by kernel_rfl
theorem w_eqInt64SS_l0_s2_loop {α : Type} (N : Nat) (a_n : Nat) (a_l : Nat) (a_c : Nat) (i : Int) (h0 : List (Nat × Nat)) (h1 : List (List Int)) (K : AExit → St → Option α) : ∀ (m : Nat),
    loopN (trimSt ((E_w_heldInt64SS α N).ann 23 4).head ((E_w_heldInt64SS α N).ann 23 4).grow 2) (bodyK Try.prog (E_w_heldInt64SS α N) 1 2 23 Try.f23 4) m (buildS w_eqInt64SS_l0_s2_p [.n a_n, .n a_l, .n a_c, .i i, .p h0, .r h1]) (leaveLoop ((E_w_heldInt64SS α N).ann 23 4) 2 K) = w_eqInt64SS_l0_s2 none a_n a_l a_c i h0 h1 m  (K (.exit 0) (buildS w_eqInt64SS_l0_s2_o0 [.p h0, .r h1])) := by
  intro m
  induction m with
  | zero => intros; rfl
  | succ m ih =>
    rw [loopN_round]
    refine (w_eqInt64SS_l0_s2_round N a_n a_l a_c i h0 h1 _ K).trans ?_
    simp only [ih]
    rfl
def E_w_eqInt64SS_l0_s2 (α : Type) (N : Nat) : Env α := (E_w_heldInt64SS α N).addLoop2 23 4 (loopSum2 ((E_w_heldInt64SS α N).ann 23 4) 2 w_eqInt64SS_l0_s2_p (fun l K => match l with
    | [.n a_n, .n a_l, .n a_c, .i i, .p h0, .r h1] => w_eqInt64SS_l0_s2 none a_n a_l a_c i h0 h1 N  (K (.exit 0) (buildS w_eqInt64SS_l0_s2_o0 [.p h0, .r h1]))
    | _ => none) ((E_w_heldInt64SS α N).ls 23 4))
theorem E_w_eqInt64SS_l0_s2_ok {α : Type} (N : Nat) : EnvOk Try.prog (E_w_eqInt64SS_l0_s2 α N) := (E_w_heldInt64SS_ok N).addLoop2 Try.func23 (by kernel_rfl) (loopSum_ok prog_mixed prog_names (E_w_heldInt64SS_ok N) Try.func23 (by kernel_rfl) (d := 1) (ro := 2) fun l K r h => by
  split at h
  · exact (w_eqInt64SS_l0_s2_loop N _ _ _ _ _ _ K N ).trans h
  · cases h)

/-- laws.eqInt64SS -/
def w_eqInt64SS_s2_a : SPat := ⟨[.sliceV 0 0 0 1 false, .nils], [[.hdr 1], [.pool .i64]]⟩
def w_eqInt64SS_s2_r0 : SPat := ⟨[.bool], [[.hdr 1], [.pool .i64]]⟩
theorem w_eqInt64SS_s2_run {α : Type} (N : Nat) (a_n : Nat) (a_l : Nat) (a_c : Nat) (h0 : List (Nat × Nat)) (h1 : List (List Int)) (K : AV → Heap → Option α) :
    callK Try.prog (E_w_eqInt64SS_l0_s2 α N) 1 23 2 (buildS w_eqInt64SS_s2_a [.n a_n, .n a_l, .n a_c, .p h0, .r h1]).t (buildS w_eqInt64SS_s2_a [.n a_n, .n a_l, .n a_c, .p h0, .r h1]).h K = w_eqInt64SS_s2 none N a_n a_l a_c h0 h1 (fun r__ => retK (buildS w_eqInt64SS_s2_r0 [.b r__, .p h0, .r h1]) K) := by kernel_rfl
def E_w_eqInt64SS_s2 (α : Type) (N : Nat) : Env α := (E_w_eqInt64SS_l0_s2 α N).addFun 23 true 2 w_eqInt64SS_s2_a (fun l K => match l with
    | [.n a_n, .n a_l, .n a_c, .p h0, .r h1] => w_eqInt64SS_s2 none N a_n a_l a_c h0 h1 (fun r__ => retK (buildS w_eqInt64SS_s2_r0 [.b r__, .p h0, .r h1]) K)
    | _ => none)
theorem E_w_eqInt64SS_s2_ok {α : Type} (N : Nat) : EnvOk Try.prog (E_w_eqInt64SS_s2 α N) := (E_w_eqInt64SS_l0_s2_ok N).addFun prog_mixed prog_names (d := 1) fun l K r h => by
  split at h
  · exact (w_eqInt64SS_s2_run N _ _ _ _ _ K).trans h
  · cases h

def A_w_markInt64S_l0 (α : Type) (N : Nat) : Env α := (E_w_eqInt64SS_s2 α N).addAnn 40 2 { head := [0, 1, 5], grow := [], out := [1], ret := [4] }
theorem A_w_markInt64S_l0_ok {α : Type} (N : Nat) : EnvOk Try.prog (A_w_markInt64S_l0 α N) := (E_w_eqInt64SS_s2_ok N).addAnn

/-- laws.markInt64S, loop -/
def w_markInt64S_l0_s6_p : SPat := ⟨[.sliceR 0 1 false, .int .i64, .undef, .undef, .undef, .int .i64] ++ List.replicate 13 .undef, [[.pool .i64]]⟩
def w_markInt64S_l0_s6_o0 : SPat := ⟨[.undef, .int .i64] ++ List.replicate 17 .undef, [[.pool .i64]]⟩
theorem w_markInt64S_l0_s6_round {α : Type} (N : Nat) (a_r : Nat) (a_o : Nat) (a_n : Nat) (a_l : Nat) (a_c : Nat) (k : Int) (i : Int) (h0 : List (List Int)) (kn : St → Option α) (K : AExit → St → Option α) :
    roundK Try.prog (A_w_markInt64S_l0 α N) 1 0 40 Try.f40 2 1 (buildS w_markInt64S_l0_s6_p [.n a_r, .n a_o, .n a_n, .n a_l, .n a_c, .i k, .i i, .r h0]) kn K = w_markInt64S_l0_s6_s none a_r a_o a_n a_l a_c k i h0 (fun k i h0 => kn (buildS w_markInt64S_l0_s6_p [.n a_r, .n a_o, .n a_n, .n a_l, .n a_c, .i k, .i i, .r h0])) (fun k_ h0_ => K (.exit 0) (buildS w_markInt64S_l0_s6_o0 [.i k_, .r h0_])) := by kernel_rfl
theorem w_markInt64S_l0_s6_loop {α : Type} (N : Nat) (a_r : Nat) (a_o : Nat) (a_n : Nat) (a_l : Nat) (a_c : Nat) (K : AExit → St → Option α) : ∀ (m : Nat) (k : Int) (i : Int) (h0 : List (List Int)),
    loopN (trimSt ((A_w_markInt64S_l0 α N).ann 40 2).head ((A_w_markInt64S_l0 α N).ann 40 2).grow 1) (bodyK Try.prog (A_w_markInt64S_l0 α N) 1 0 40 Try.f40 2) m (buildS w_markInt64S_l0_s6_p [.n a_r, .n a_o, .n a_n, .n a_l, .n a_c, .i k, .i i, .r h0]) (leaveLoop ((A_w_markInt64S_l0 α N).ann 40 2) 1 K) = w_markInt64S_l0_s6 none a_r a_o a_n a_l a_c m k i h0 (fun k_ h0_ => K (.exit 0) (buildS w_markInt64S_l0_s6_o0 [.i k_, .r h0_])) := by
  intro m
  induction m with
  | zero => intros; rfl
  | succ m ih =>
    intro k i h0
    rw [loopN_round]
    refine (w_markInt64S_l0_s6_round N a_r a_o a_n a_l a_c k i h0 _ K).trans ?_
    simp only [ih]
    rfl
def E_w_markInt64S_l0_s6 (α : Type) (N : Nat) : Env α := (A_w_markInt64S_l0 α N).addLoop2 40 2 (loopSum2 ((A_w_markInt64S_l0 α N).ann 40 2) 0 w_markInt64S_l0_s6_p (fun l K => match l with
    | [.n a_r, .n a_o, .n a_n, .n a_l, .n a_c, .i k, .i i, .r h0] => w_markInt64S_l0_s6 none a_r a_o a_n a_l a_c N k i h0 (fun k_ h0_ => K (.exit 0) (buildS w_markInt64S_l0_s6_o0 [.i k_, .r h0_]))
    | _ => none) ((A_w_markInt64S_l0 α N).ls 40 2))
theorem E_w_markInt64S_l0_s6_ok {α : Type} (N : Nat) : EnvOk Try.prog (E_w_markInt64S_l0_s6 α N) := (A_w_markInt64S_l0_ok N).addLoop2 Try.func40 (by kernel_rfl) (loopSum_ok prog_mixed prog_names (A_w_markInt64S_l0_ok N) Try.func40 (by kernel_rfl) (d := 1) (ro := 0) fun l K r h => by
  split at h
  · exact (w_markInt64S_l0_s6_loop N _ _ _ _ _ K N _ _ _).trans h
  · cases h)

/-- laws.markInt64S -/
def w_markInt64S_s6_a : SPat := ⟨[.sliceR 0 1 false, .int .i64], [[.pool .i64]]⟩
def w_markInt64S_s6_r0 : SPat := ⟨[.int .i64], [[.pool .i64]]⟩
theorem w_markInt64S_s6_run {α : Type} (N : Nat) (a_r : Nat) (a_o : Nat) (a_n : Nat) (a_l : Nat) (a_c : Nat) (k : Int) (h0 : List (List Int)) (K : AV → Heap → Option α) :
    callK Try.prog (E_w_markInt64S_l0_s6 α N) 1 40 0 (buildS w_markInt64S_s6_a [.n a_r, .n a_o, .n a_n, .n a_l, .n a_c, .i k, .r h0]).t (buildS w_markInt64S_s6_a [.n a_r, .n a_o, .n a_n, .n a_l, .n a_c, .i k, .r h0]).h K = w_markInt64S_s6 none N a_r a_o a_n a_l a_c k h0 (fun r__ h0_ => retK (buildS w_markInt64S_s6_r0 [.i r__, .r h0_]) K) := by kernel_rfl
def E_w_markInt64S_s6 (α : Type) (N : Nat) : Env α := (E_w_markInt64S_l0_s6 α N).addFun 40 false 0 w_markInt64S_s6_a (fun l K => match l with
    | [.n a_r, .n a_o, .n a_n, .n a_l, .n a_c, .i k, .r h0] => w_markInt64S_s6 none N a_r a_o a_n a_l a_c k h0 (fun r__ h0_ => retK (buildS w_markInt64S_s6_r0 [.i r__, .r h0_]) K)
    | _ => none)
theorem E_w_markInt64S_s6_ok {α : Type} (N : Nat) : EnvOk Try.prog (E_w_markInt64S_s6 α N) := (E_w_markInt64S_l0_s6_ok N).addFun prog_mixed prog_names (d := 1) fun l K r h => by
  split at h
  · exact (w_markInt64S_s6_run N _ _ _ _ _ _ _ K).trans h
  · cases h

/-- laws.markInt64SS, loop -/
def w_markInt64SS_l0_s2_p : SPat := ⟨[.sliceV 0 0 0 1 false, .int .i64, .undef, .undef, .undef, .int .i64] ++ List.replicate 13 .undef, [[.hdr 1], [.pool .i64]]⟩
def w_markInt64SS_l0_s2_o0 : SPat := ⟨[.undef, .int .i64] ++ List.replicate 17 .undef, [[.hdr 1], [.pool .i64]]⟩
theorem w_markInt64SS_l0_s2_round {α : Type} (N : Nat) (a_n : Nat) (a_l : Nat) (a_c : Nat) (k : Int) (i : Int) (h0 : List (Nat × Nat)) (h1 : List (List Int)) (kn : St → Option α) (K : AExit → St → Option α) :
    roundK Try.prog (E_w_markInt64S_s6 α N) 1 0 24 Try.f24 2 2 (buildS w_markInt64SS_l0_s2_p [.n a_n, .n a_l, .n a_c, .i k, .i i, .p h0, .r h1]) kn K = w_markInt64SS_l0_s2_s none N a_n a_l a_c h0 k i h1 (fun k i h1 => kn (buildS w_markInt64SS_l0_s2_p [.n a_n, .n a_l, .n a_c, .i k, .i i, .p h0, .r h1])) (fun k_ h1_ => K (.exit 0) (buildS w_markInt64SS_l0_s2_o0 [.i k_, .p h0, .r h1_])) := by kernel_rfl
theorem w_markInt64SS_l0_s2_loop {α : Type} (N : Nat) (a_n : Nat) (a_l : Nat) (a_c : Nat) (h0 : List (Nat × Nat)) (K : AExit → St → Option α) : ∀ (m : Nat) (k : Int) (i : Int) (h1 : List (List Int)),
    loopN (trimSt ((E_w_markInt64S_s6 α N).ann 24 2).head ((E_w_markInt64S_s6 α N).ann 24 2).grow 2) (bodyK Try.prog (E_w_markInt64S_s6 α N) 1 0 24 Try.f24 2) m (buildS w_markInt64SS_l0_s2_p [.n a_n, .n a_l, .n a_c, .i k, .i i, .p h0, .r h1]) (leaveLoop ((E_w_markInt64S_s6 α N).ann 24 2) 2 K) = w_markInt64SS_l0_s2 none N a_n a_l a_c h0 m k i h1 (fun k_ h1_ => K (.exit 0) (buildS w_markInt64SS_l0_s2_o0 [.i k_, .p h0, .r h1_])) := by
  intro m
  induction m with
  | zero => intros; rfl
  | succ m ih =>
    intro k i h1
    rw [loopN_round]
    refine (w_markInt64SS_l0_s2_round N a_n a_l a_c k i h0 h1 _ K).trans ?_
    simp only [ih]
    rfl
def E_w_markInt64SS_l0_s2 (α : Type) (N : Nat) : Env α := (E_w_markInt64S_s6 α N).addLoop2 24 2 (loopSum2 ((E_w_markInt64S_s6 α N).ann 24 2) 0 w_markInt64SS_l0_s2_p (fun l K => match l with
    | [.n a_n, .n a_l, .n a_c, .i k, .i i, .p h0, .r h1] => w_markInt64SS_l0_s2 none N a_n a_l a_c h0 N k i h1 (fun k_ h1_ => K (.exit 0) (buildS w_markInt64SS_l0_s2_o0 [.i k_, .p h0, .r h1_]))
    | _ => none) ((E_w_markInt64S_s6 α N).ls 24 2))
theorem E_w_markInt64SS_l0_s2_ok {α : Type} (N : Nat) : EnvOk Try.prog (E_w_markInt64SS_l0_s2 α N) := (E_w_markInt64S_s6_ok N).addLoop2 Try.func24 (by kernel_rfl) (loopSum_ok prog_mixed prog_names (E_w_markInt64S_s6_ok N) Try.func24 (by kernel_rfl) (d := 1) (ro := 0) fun l K r h => by
  split at h
  · exact (w_markInt64SS_l0_s2_loop N _ _ _ _ K N _ _ _).trans h
  · cases h)

/-- laws.markInt64SS -/
def w_markInt64SS_s2_a : SPat := ⟨[.sliceV 0 0 0 1 false, .int .i64], [[.hdr 1], [.pool .i64]]⟩
def w_markInt64SS_s2_r0 : SPat := ⟨[.int .i64], [[.hdr 1], [.pool .i64]]⟩
theorem w_markInt64SS_s2_run {α : Type} (N : Nat) (a_n : Nat) (a_l : Nat) (a_c : Nat) (k : Int) (h0 : List (Nat × Nat)) (h1 : List (List Int)) (K : AV → Heap → Option α) :
    callK Try.prog (E_w_markInt64SS_l0_s2 α N) 1 24 0 (buildS w_markInt64SS_s2_a [.n a_n, .n a_l, .n a_c, .i k, .p h0, .r h1]).t (buildS w_markInt64SS_s2_a [.n a_n, .n a_l, .n a_c, .i k, .p h0, .r h1]).h K = w_markInt64SS_s2 none N a_n a_l a_c k h0 h1 (fun r__ h1_ => retK (buildS w_markInt64SS_s2_r0 [.i r__, .p h0, .r h1_]) K) := by kernel_rfl
def E_w_markInt64SS_s2 (α : Type) (N : Nat) : Env α := (E_w_markInt64SS_l0_s2 α N).addFun 24 false 0 w_markInt64SS_s2_a (fun l K => match l with
    | [.n a_n, .n a_l, .n a_c, .i k, .p h0, .r h1] => w_markInt64SS_s2 none N a_n a_l a_c k h0 h1 (fun r__ h1_ => retK (buildS w_markInt64SS_s2_r0 [.i r__, .p h0, .r h1_]) K)
    | _ => none)
theorem E_w_markInt64SS_s2_ok {α : Type} (N : Nat) : EnvOk Try.prog (E_w_markInt64SS_s2 α N) := (E_w_markInt64SS_l0_s2_ok N).addFun prog_mixed prog_names (d := 1) fun l K r h => by
  split at h
  · exact (w_markInt64SS_s2_run N _ _ _ _ _ _ K).trans h
  · cases h

def A_w_heldInt64S_l0 (α : Type) (N : Nat) : Env α := (E_w_markInt64SS_s2 α N).addAnn 41 2 { head := [0, 1, 5], grow := [], out := [1], ret := [4] }
theorem A_w_heldInt64S_l0_ok {α : Type} (N : Nat) : EnvOk Try.prog (A_w_heldInt64S_l0 α N) := (E_w_markInt64SS_s2_ok N).addAnn

/-- laws.heldInt64S, loop -/
def w_heldInt64S_l0_s6_p : SPat := ⟨[.sliceR 0 1 false, .int .i64, .undef, .undef, .undef, .int .i64] ++ List.replicate 15 .undef, [[.pool .i64]]⟩
def w_heldInt64S_l0_s6_o0 : SPat := ⟨[.undef, .undef, .undef, .undef, .intC .i64 (-1)] ++ List.replicate 16 .undef, [[.pool .i64]]⟩
def w_heldInt64S_l0_s6_o1 : SPat := ⟨[.undef, .int .i64] ++ List.replicate 19 .undef, [[.pool .i64]]⟩
theorem w_heldInt64S_l0_s6_round {α : Type} (N : Nat) (a_r : Nat) (a_o : Nat) (a_n : Nat) (a_l : Nat) (a_c : Nat) (k : Int) (i : Int) (h0 : List (List Int)) (kn : St → Option α) (K : AExit → St → Option α) :
    roundK Try.prog (A_w_heldInt64S_l0 α N) 1 1 41 Try.f41 2 1 (buildS w_heldInt64S_l0_s6_p [.n a_r, .n a_o, .n a_n, .n a_l, .n a_c, .i k, .i i, .r h0]) kn K = w_heldInt64S_l0_s6_s none a_r a_o a_n a_l a_c h0 k i (fun k i => kn (buildS w_heldInt64S_l0_s6_p [.n a_r, .n a_o, .n a_n, .n a_l, .n a_c, .i k, .i i, .r h0])) (K .ret (buildS w_heldInt64S_l0_s6_o0 [.r h0])) (fun k_ => K (.exit 0) (buildS w_heldInt64S_l0_s6_o1 [.i k_, .r h0])) := by kernel_rfl
theorem w_heldInt64S_l0_s6_loop {α : Type} (N : Nat) (a_r : Nat) (a_o : Nat) (a_n : Nat) (a_l : Nat) (a_c : Nat) (h0 : List (List Int)) (K : AExit → St → Option α) : ∀ (m : Nat) (k : Int) (i : Int),
    loopN (trimSt ((A_w_heldInt64S_l0 α N).ann 41 2).head ((A_w_heldInt64S_l0 α N).ann 41 2).grow 1) (bodyK Try.prog (A_w_heldInt64S_l0 α N) 1 1 41 Try.f41 2) m (buildS w_heldInt64S_l0_s6_p [.n a_r, .n a_o, .n a_n, .n a_l, .n a_c, .i k, .i i, .r h0]) (leaveLoop ((A_w_heldInt64S_l0 α N).ann 41 2) 1 K) = w_heldInt64S_l0_s6 none a_r a_o a_n a_l a_c h0 m k i (K .ret (buildS w_heldInt64S_l0_s6_o0 [.r h0])) (fun k_ => K (.exit 0) (buildS w_heldInt64S_l0_s6_o1 [.i k_, .r h0])) := by
  intro m
  induction m with
  | zero => intros; rfl
  | succ m ih =>
    intro k i
    rw [loopN_round]
    refine (w_heldInt64S_l0_s6_round N a_r a_o a_n a_l a_c k i h0 _ K).trans ?_
    simp only [ih]
    rfl
def E_w_heldInt64S_l0_s6 (α : Type) (N : Nat) : Env α := (A_w_heldInt64S_l0 α N).addLoop2 41 2 (loopSum2 ((A_w_heldInt64S_l0 α N).ann 41 2) 1 w_heldInt64S_l0_s6_p (fun l K => match l with
    | [.n a_r, .n a_o, .n a_n, .n a_l, .n a_c, .i k, .i i, .r h0] => w_heldInt64S_l0_s6 none a_r a_o a_n a_l a_c h0 N k i (K .ret (buildS w_heldInt64S_l0_s6_o0 [.r h0])) (fun k_ => K (.exit 0) (buildS w_heldInt64S_l0_s6_o1 [.i k_, .r h0]))
    | _ => none) ((A_w_heldInt64S_l0 α N).ls 41 2))
theorem E_w_heldInt64S_l0_s6_ok {α : Type} (N : Nat) : EnvOk Try.prog (E_w_heldInt64S_l0_s6 α N) := (A_w_heldInt64S_l0_ok N).addLoop2 Try.func41 (by kernel_rfl) (loopSum_ok prog_mixed prog_names (A_w_heldInt64S_l0_ok N) Try.func41 (by kernel_rfl) (d := 1) (ro := 1) fun l K r h => by
  split at h
  · exact (w_heldInt64S_l0_s6_loop N _ _ _ _ _ _ K N _ _).trans h
  · cases h)

/-- laws.heldInt64S -/
def w_heldInt64S_s6_a : SPat := ⟨[.sliceR 0 1 false, .int .i64], [[.pool .i64]]⟩
def w_heldInt64S_s6_r0 : SPat := ⟨[.int .i64], [[.pool .i64]]⟩
theorem w_heldInt64S_s6_run {α : Type} (N : Nat) (a_r : Nat) (a_o : Nat) (a_n : Nat) (a_l : Nat) (a_c : Nat) (k : Int) (h0 : List (List Int)) (K : AV → Heap → Option α) :
    callK Try.prog (E_w_heldInt64S_l0_s6 α N) 1 41 1 (buildS w_heldInt64S_s6_a [.n a_r, .n a_o, .n a_n, .n a_l, .n a_c, .i k, .r h0]).t (buildS w_heldInt64S_s6_a [.n a_r, .n a_o, .n a_n, .n a_l, .n a_c, .i k, .r h0]).h K = w_heldInt64S_s6 none N a_r a_o a_n a_l a_c k h0 (fun r__ => retK (buildS w_heldInt64S_s6_r0 [.i r__, .r h0]) K) := by kernel_rfl
def E_w_heldInt64S_s6 (α : Type) (N : Nat) : Env α := (E_w_heldInt64S_l0_s6 α N).addFun 41 true 1 w_heldInt64S_s6_a (fun l K => match l with
    | [.n a_r, .n a_o, .n a_n, .n a_l, .n a_c, .i k, .r h0] => w_heldInt64S_s6 none N a_r a_o a_n a_l a_c k h0 (fun r__ => retK (buildS w_heldInt64S_s6_r0 [.i r__, .r h0]) K)
    | _ => none)
theorem E_w_heldInt64S_s6_ok {α : Type} (N : Nat) : EnvOk Try.prog (E_w_heldInt64S_s6 α N) := (E_w_heldInt64S_l0_s6_ok N).addFun prog_mixed prog_names (d := 1) fun l K r h => by
  split at h
  · exact (w_heldInt64S_s6_run N _ _ _ _ _ _ _ K).trans h
  · cases h

/-- laws.heldInt64SS, loop -/
def w_heldInt64SS_l0_s2_p : SPat := ⟨[.sliceV 0 0 0 1 false, .int .i64, .undef, .undef, .undef, .int .i64] ++ List.replicate 15 .undef, [[.hdr 1], [.pool .i64]]⟩
def w_heldInt64SS_l0_s2_o0 : SPat := ⟨[.undef, .undef, .undef, .undef, .intC .i64 (-1)] ++ List.replicate 16 .undef, [[.hdr 1], [.pool .i64]]⟩
def w_heldInt64SS_l0_s2_o1 : SPat := ⟨[.undef, .int .i64] ++ List.replicate 19 .undef, [[.hdr 1], [.pool .i64]]⟩
theorem w_heldInt64SS_l0_s2_round {α : Type} (N : Nat) (a_n : Nat) (a_l : Nat) (a_c : Nat) (k : Int) (i : Int) (h0 : List (Nat × Nat)) (h1 : List (List Int)) (kn : St → Option α) (K : AExit → St → Option α) :
    roundK Try.prog (E_w_heldInt64S_s6 α N) 1 2 25 Try.f25 2 2 (buildS w_heldInt64SS_l0_s2_p [.n a_n, .n a_l, .n a_c, .i k, .i i, .p h0, .r h1]) kn K = w_heldInt64SS_l0_s2_s none N a_n a_l a_c h0 h1 k i (fun k i => kn (buildS w_heldInt64SS_l0_s2_p [.n a_n, .n a_l, .n a_c, .i k, .i i, .p h0, .r h1])) (K .ret (buildS w_heldInt64SS_l0_s2_o0 [.p h0, .r h1])) (fun k_ => K (.exit 0) (buildS w_heldInt64SS_l0_s2_o1 [.i k_, .p h0, .r h1])) := by kernel_rfl
theorem w_heldInt64SS_l0_s2_loop {α : Type} (N : Nat) (a_n : Nat) (a_l : Nat) (a_c : Nat) (h0 : List (Nat × Nat)) (h1 : List (List Int)) (K : AExit → St → Option α) : ∀ (m : Nat) (k : Int) (i : Int),
    loopN (trimSt ((E_w_heldInt64S_s6 α N).ann 25 2).head ((E_w_heldInt64S_s6 α N).ann 25 2).grow 2) (bodyK Try.prog (E_w_heldInt64S_s6 α N) 1 2 25 Try.f25 2) m (buildS w_heldInt64SS_l0_s2_p [.n a_n, .n a_l, .n a_c, .i k, .i i, .p h0, .r h1]) (leaveLoop ((E_w_heldInt64S_s6 α N).ann 25 2) 2 K) = w_heldInt64SS_l0_s2 none N a_n a_l a_c h0 h1 m k i (K .ret (buildS w_heldInt64SS_l0_s2_o0 [.p h0, .r h1])) (fun k_ => K (.exit 0) (buildS w_heldInt64SS_l0_s2_o1 [.i k_, .p h0, .r h1])) := by
  intro m
  induction m with
  | zero => intros; rfl
  | succ m ih =>
    intro k i
    rw [loopN_round]
    refine (w_heldInt64SS_l0_s2_round N a_n a_l a_c k i h0 h1 _ K).trans ?_
    simp only [ih]
    rfl
def E_w_heldInt64SS_l0_s2 (α : Type) (N : Nat) : Env α := (E_w_heldInt64S_s6 α N).addLoop2 25 2 (loopSum2 ((E_w_heldInt64S_s6 α N).ann 25 2) 2 w_heldInt64SS_l0_s2_p (fun l K => match l with
    | [.n a_n, .n a_l, .n a_c, .i k, .i i, .p h0, .r h1] => w_heldInt64SS_l0_s2 none N a_n a_l a_c h0 h1 N k i (K .ret (buildS w_heldInt64SS_l0_s2_o0 [.p h0, .r h1])) (fun k_ => K (.exit 0) (buildS w_heldInt64SS_l0_s2_o1 [.i k_, .p h0, .r h1]))
    | _ => none) ((E_w_heldInt64S_s6 α N).ls 25 2))
theorem E_w_heldInt64SS_l0_s2_ok {α : Type} (N : Nat) : EnvOk Try.prog (E_w_heldInt64SS_l0_s2 α N) := (E_w_heldInt64S_s6_ok N).addLoop2 Try.func25 (by kernel_rfl) (loopSum_ok prog_mixed prog_names (E_w_heldInt64S_s6_ok N) Try.func25 (by kernel_rfl) (d := 1) (ro := 2) fun l K r h => by
  split at h
  · exact (w_heldInt64SS_l0_s2_loop N _ _ _ _ _ K N _ _).trans h
  · cases h)

/-- laws.heldInt64SS -/
def w_heldInt64SS_s2_a : SPat := ⟨[.sliceV 0 0 0 1 false, .int .i64], [[.hdr 1], [.pool .i64]]⟩
def w_heldInt64SS_s2_r0 : SPat := ⟨[.int .i64], [[.hdr 1], [.pool .i64]]⟩
theorem w_heldInt64SS_s2_run {α : Type} (N : Nat) (a_n : Nat) (a_l : Nat) (a_c : Nat) (k : Int) (h0 : List (Nat × Nat)) (h1 : List (List Int)) (K : AV → Heap → Option α) :
    callK Try.prog (E_w_heldInt64SS_l0_s2 α N) 1 25 2 (buildS w_heldInt64SS_s2_a [.n a_n, .n a_l, .n a_c, .i k, .p h0, .r h1]).t (buildS w_heldInt64SS_s2_a [.n a_n, .n a_l, .n a_c, .i k, .p h0, .r h1]).h K = w_heldInt64SS_s2 none N a_n a_l a_c k h0 h1 (fun r__ => retK (buildS w_heldInt64SS_s2_r0 [.i r__, .p h0, .r h1]) K) := by kernel_rfl
def E_w_heldInt64SS_s2 (α : Type) (N : Nat) : Env α := (E_w_heldInt64SS_l0_s2 α N).addFun 25 true 2 w_heldInt64SS_s2_a (fun l K => match l with
    | [.n a_n, .n a_l, .n a_c, .i k, .p h0, .r h1] => w_heldInt64SS_s2 none N a_n a_l a_c k h0 h1 (fun r__ => retK (buildS w_heldInt64SS_s2_r0 [.i r__, .p h0, .r h1]) K)
    | _ => none)
theorem E_w_heldInt64SS_s2_ok {α : Type} (N : Nat) : EnvOk Try.prog (E_w_heldInt64SS_s2 α N) := (E_w_heldInt64SS_l0_s2_ok N).addFun prog_mixed prog_names (d := 1) fun l K r h => by
  split at h
  · exact (w_heldInt64SS_s2_run N _ _ _ _ _ _ K).trans h
  · cases h

/-- laws.eqInt64SS, loop -/
def w_eqInt64SS_l0_s3_p : SPat := ⟨[.nils, .sliceV 0 0 0 1 false, .undef, .undef, .undef, .int .i64] ++ List.replicate 21 .undef, [[.hdr 1], [.pool .i64]]⟩
def w_eqInt64SS_l0_s3_o0 : SPat := ⟨[] ++ List.replicate 27 .undef, [[.hdr 1], [.pool .i64]]⟩
theorem w_eqInt64SS_l0_s3_round {α : Type} (N : Nat) (b_n : Nat) (b_l : Nat) (b_c : Nat) (i : Int) (h0 : List (Nat × Nat)) (h1 : List (List Int)) (kn : St → Option α) (K : AExit → St → Option α) :
    roundK Try.prog (E_w_heldInt64SS_s2 α N) 1 2 23 Try.f23 4 2 (buildS w_eqInt64SS_l0_s3_p [.n b_n, .n b_l, .n b_c, .i i, .p h0, .r h1]) kn K = w_eqInt64SS_l0_s3_s none b_n b_l b_c i h0 h1  (kn (buildS w_eqInt64SS_l0_s3_p [.n b_n, .n b_l, .n b_c, .i i, .p h0, .r h1])) (K (.exit 0) (buildS w_eqInt64SS_l0_s3_o0 [.p h0, .r h1])) := by kernel_rfl
theorem w_eqInt64SS_l0_s3_loop {α : Type} (N : Nat) (b_n : Nat) (b_l : Nat) (b_c : Nat) (i : Int) (h0 : List (Nat × Nat)) (h1 : List (List Int)) (K : AExit → St → Option α) : ∀ (m : Nat),
    loopN (trimSt ((E_w_heldInt64SS_s2 α N).ann 23 4).head ((E_w_heldInt64SS_s2 α N).ann 23 4).grow 2) (bodyK Try.prog (E_w_heldInt64SS_s2 α N) 1 2 23 Try.f23 4) m (buildS w_eqInt64SS_l0_s3_p [.n b_n, .n b_l, .n b_c, .i i, .p h0, .r h1]) (leaveLoop ((E_w_heldInt64SS_s2 α N).ann 23 4) 2 K) = w_eqInt64SS_l0_s3 none b_n b_l b_c i h0 h1 m  (K (.exit 0) (buildS w_eqInt64SS_l0_s3_o0 [.p h0, .r h1])) := by
  intro m
  induction m with
  | zero => intros; rfl
  | succ m ih =>
    rw [loopN_round]
    refine (w_eqInt64SS_l0_s3_round N b_n b_l b_c i h0 h1 _ K).trans ?_
    simp only [ih]
    rfl
def E_w_eqInt64SS_l0_s3 (α : Type) (N : Nat) : Env α := (E_w_heldInt64SS_s2 α N).addLoop2 23 4 (loopSum2 ((E_w_heldInt64SS_s2 α N).ann 23 4) 2 w_eqInt64SS_l0_s3_p (fun l K => match l with
    | [.n b_n, .n b_l, .n b_c, .i i, .p h0, .r h1] => w_eqInt64SS_l0_s3 none b_n b_l b_c i h0 h1 N  (K (.exit 0) (buildS w_eqInt64SS_l0_s3_o0 [.p h0, .r h1]))
    | _ => none) ((E_w_heldInt64SS_s2 α N).ls 23 4))
theorem E_w_eqInt64SS_l0_s3_ok {α : Type} (N : Nat) : EnvOk Try.prog (E_w_eqInt64SS_l0_s3 α N) := (E_w_heldInt64SS_s2_ok N).addLoop2 Try.func23 (by kernel_rfl) (loopSum_ok prog_mixed prog_names (E_w_heldInt64SS_s2_ok N) Try.func23 (by kernel_rfl) (d := 1) (ro := 2) fun l K r h => by
  split at h
  · exact (w_eqInt64SS_l0_s3_loop N _ _ _ _ _ _ K N ).trans h
  · cases h)

/-- laws.eqInt64SS -/
def w_eqInt64SS_s3_a : SPat := ⟨[.nils, .sliceV 0 0 0 1 false], [[.hdr 1], [.pool .i64]]⟩
def w_eqInt64SS_s3_r0 : SPat := ⟨[.bool], [[.hdr 1], [.pool .i64]]⟩
theorem w_eqInt64SS_s3_run {α : Type} (N : Nat) (b_n : Nat) (b_l : Nat) (b_c : Nat) (h0 : List (Nat × Nat)) (h1 : List (List Int)) (K : AV → Heap → Option α) :
    callK Try.prog (E_w_eqInt64SS_l0_s3 α N) 1 23 2 (buildS w_eqInt64SS_s3_a [.n b_n, .n b_l, .n b_c, .p h0, .r h1]).t (buildS w_eqInt64SS_s3_a [.n b_n, .n b_l, .n b_c, .p h0, .r h1]).h K = w_eqInt64SS_s3 none N b_n b_l b_c h0 h1 (fun r__ => retK (buildS w_eqInt64SS_s3_r0 [.b r__, .p h0, .r h1]) K) := by kernel_rfl
def E_w_eqInt64SS_s3 (α : Type) (N : Nat) : Env α := (E_w_eqInt64SS_l0_s3 α N).addFun 23 true 2 w_eqInt64SS_s3_a (fun l K => match l with
    | [.n b_n, .n b_l, .n b_c, .p h0, .r h1] => w_eqInt64SS_s3 none N b_n b_l b_c h0 h1 (fun r__ => retK (buildS w_eqInt64SS_s3_r0 [.b r__, .p h0, .r h1]) K)
    | _ => none)
theorem E_w_eqInt64SS_s3_ok {α : Type} (N : Nat) : EnvOk Try.prog (E_w_eqInt64SS_s3 α N) := (E_w_eqInt64SS_l0_s3_ok N).addFun prog_mixed prog_names (d := 1) fun l K r h => by
  split at h
  · exact (w_eqInt64SS_s3_run N _ _ _ _ _ K).trans h
  · cases h

def A_w_eqInt64S_l0 (α : Type) (N : Nat) : Env α := (E_w_eqInt64SS_s3 α N).addAnn 39 4 { head := [0, 1, 5], grow := [], out := [], ret := [4] }
theorem A_w_eqInt64S_l0_ok {α : Type} (N : Nat) : EnvOk Try.prog (A_w_eqInt64S_l0 α N) := (E_w_eqInt64SS_s3_ok N).addAnn

/-- laws.eqInt64S, loop -/
def w_eqInt64S_l0_s12_p : SPat := ⟨[.sliceR 0 1 false, .sliceR 1 1 false, .undef, .undef, .undef, .int .i64] ++ List.replicate 20 .undef, [[.pool .i64], [.pool .i64]]⟩
def w_eqInt64S_l0_s12_o0 : SPat := ⟨[.undef, .undef, .undef, .undef, .boolC false] ++ List.replicate 21 .undef, [[.pool .i64], [.pool .i64]]⟩
def w_eqInt64S_l0_s12_o1 : SPat := ⟨[] ++ List.replicate 26 .undef, [[.pool .i64], [.pool .i64]]⟩
theorem w_eqInt64S_l0_s12_round {α : Type} (N : Nat) (a_r : Nat) (a_o : Nat) (a_n : Nat) (a_l : Nat) (a_c : Nat) (b_r : Nat) (b_o : Nat) (b_n : Nat) (b_l : Nat) (b_c : Nat) (i : Int) (h0 : List (List Int)) (h1 : List (List Int)) (kn : St → Option α) (K : AExit → St → Option α) :
    roundK Try.prog (A_w_eqInt64S_l0 α N) 1 2 39 Try.f39 4 2 (buildS w_eqInt64S_l0_s12_p [.n a_r, .n a_o, .n a_n, .n a_l, .n a_c, .n b_r, .n b_o, .n b_n, .n b_l, .n b_c, .i i, .r h0, .r h1]) kn K = w_eqInt64S_l0_s12_s none a_r a_o a_n a_l a_c b_r b_o b_n b_l b_c h0 h1 i (fun i => kn (buildS w_eqInt64S_l0_s12_p [.n a_r, .n a_o, .n a_n, .n a_l, .n a_c, .n b_r, .n b_o, .n b_n, .n b_l, .n b_c, .i i, .r h0, .r h1])) (K .ret (buildS w_eqInt64S_l0_s12_o0 [.r h0, .r h1])) (K (.exit 0) (buildS w_eqInt64S_l0_s12_o1 [.r h0, .r h1])) := by kernel_rfl
theorem w_eqInt64S_l0_s12_loop {α : Type} (N : Nat) (a_r : Nat) (a_o : Nat) (a_n : Nat) (a_l : Nat) (a_c : Nat) (b_r : Nat) (b_o : Nat) (b_n : Nat) (b_l : Nat) (b_c : Nat) (h0 : List (List Int)) (h1 : List (List Int)) (K : AExit → St → Option α) : ∀ (m : Nat) (i : Int),
    loopN (trimSt ((A_w_eqInt64S_l0 α N).ann 39 4).head ((A_w_eqInt64S_l0 α N).ann 39 4).grow 2) (bodyK Try.prog (A_w_eqInt64S_l0 α N) 1 2 39 Try.f39 4) m (buildS w_eqInt64S_l0_s12_p [.n a_r, .n a_o, .n a_n, .n a_l, .n a_c, .n b_r, .n b_o, .n b_n, .n b_l, .n b_c, .i i, .r h0, .r h1]) (leaveLoop ((A_w_eqInt64S_l0 α N).ann 39 4) 2 K) = w_eqInt64S_l0_s12 none a_r a_o a_n a_l a_c b_r b_o b_n b_l b_c h0 h1 m i (K .ret (buildS w_eqInt64S_l0_s12_o0 [.r h0, .r h1])) (K (.exit 0) (buildS w_eqInt64S_l0_s12_o1 [.r h0, .r h1])) := by
  intro m
  induction m with
  | zero => intros; rfl
  | succ m ih =>
    intro i
    rw [loopN_round]
    refine (w_eqInt64S_l0_s12_round N a_r a_o a_n a_l a_c b_r b_o b_n b_l b_c i h0 h1 _ K).trans ?_
    simp only [ih]
    rfl
def E_w_eqInt64S_l0_s12 (α : Type) (N : Nat) : Env α := (A_w_eqInt64S_l0 α N).addLoop2 39 4 (loopSum2 ((A_w_eqInt64S_l0 α N).ann 39 4) 2 w_eqInt64S_l0_s12_p (fun l K => match l with
    | [.n a_r, .n a_o, .n a_n, .n a_l, .n a_c, .n b_r, .n b_o, .n b_n, .n b_l, .n b_c, .i i, .r h0, .r h1] => w_eqInt64S_l0_s12 none a_r a_o a_n a_l a_c b_r b_o b_n b_l b_c h0 h1 N i (K .ret (buildS w_eqInt64S_l0_s12_o0 [.r h0, .r h1])) (K (.exit 0) (buildS w_eqInt64S_l0_s12_o1 [.r h0, .r h1]))
    | _ => none) ((A_w_eqInt64S_l0 α N).ls 39 4))
theorem E_w_eqInt64S_l0_s12_ok {α : Type} (N : Nat) : EnvOk Try.prog (E_w_eqInt64S_l0_s12 α N) := (A_w_eqInt64S_l0_ok N).addLoop2 Try.func39 (by kernel_rfl) (loopSum_ok prog_mixed prog_names (A_w_eqInt64S_l0_ok N) Try.func39 (by kernel_rfl) (d := 1) (ro := 2) fun l K r h => by
  split at h
  · exact (w_eqInt64S_l0_s12_loop N _ _ _ _ _ _ _ _ _ _ _ _ K N _).trans h
  · cases h)

/-- laws.eqInt64S -/
def w_eqInt64S_s14_a : SPat := ⟨[.sliceR 0 1 false, .sliceR 1 1 false], [[.pool .i64], [.pool .i64]]⟩
def w_eqInt64S_s14_r0 : SPat := ⟨[.bool], [[.pool .i64], [.pool .i64]]⟩
theorem w_eqInt64S_s14_run {α : Type} (N : Nat) (a_r : Nat) (a_o : Nat) (a_n : Nat) (a_l : Nat) (a_c : Nat) (b_r : Nat) (b_o : Nat) (b_n : Nat) (b_l : Nat) (b_c : Nat) (h0 : List (List Int)) (h1 : List (List Int)) (K : AV → Heap → Option α) :
    callK Try.prog (E_w_eqInt64S_l0_s12 α N) 1 39 2 (buildS w_eqInt64S_s14_a [.n a_r, .n a_o, .n a_n, .n a_l, .n a_c, .n b_r, .n b_o, .n b_n, .n b_l, .n b_c, .r h0, .r h1]).t (buildS w_eqInt64S_s14_a [.n a_r, .n a_o, .n a_n, .n a_l, .n a_c, .n b_r, .n b_o, .n b_n, .n b_l, .n b_c, .r h0, .r h1]).h K = w_eqInt64S_s14 none N a_r a_o a_n a_l a_c b_r b_o b_n b_l b_c h0 h1 (fun r__ => retK (buildS w_eqInt64S_s14_r0 [.b r__, .r h0, .r h1]) K) := by kernel_rfl
def E_w_eqInt64S_s14 (α : Type) (N : Nat) : Env α := (E_w_eqInt64S_l0_s12 α N).addFun 39 true 2 w_eqInt64S_s14_a (fun l K => match l with
    | [.n a_r, .n a_o, .n a_n, .n a_l, .n a_c, .n b_r, .n b_o, .n b_n, .n b_l, .n b_c, .r h0, .r h1] => w_eqInt64S_s14 none N a_r a_o a_n a_l a_c b_r b_o b_n b_l b_c h0 h1 (fun r__ => retK (buildS w_eqInt64S_s14_r0 [.b r__, .r h0, .r h1]) K)
    | _ => none)
theorem E_w_eqInt64S_s14_ok {α : Type} (N : Nat) : EnvOk Try.prog (E_w_eqInt64S_s14 α N) := (E_w_eqInt64S_l0_s12_ok N).addFun prog_mixed prog_names (d := 1) fun l K r h => by
  split at h
  · exact (w_eqInt64S_s14_run N _ _ _ _ _ _ _ _ _ _ _ _ K).trans h
  · cases h

/-- laws.eqInt64SS, loop -/
def w_eqInt64SS_l0_s4_p : SPat := ⟨[.sliceV 0 0 0 1 false, .sliceV 1 0 0 1 false, .undef, .undef, .undef, .int .i64] ++ List.replicate 21 .undef, [[.hdr 2], [.hdr 3], [.pool .i64], [.pool .i64]]⟩
def w_eqInt64SS_l0_s4_o0 : SPat := ⟨[.undef, .undef, .undef, .undef, .boolC false] ++ List.replicate 22 .undef, [[.hdr 2], [.hdr 3], [.pool .i64], [.pool .i64]]⟩
def w_eqInt64SS_l0_s4_o1 : SPat := ⟨[] ++ List.replicate 27 .undef, [[.hdr 2], [.hdr 3], [.pool .i64], [.pool .i64]]⟩
theorem w_eqInt64SS_l0_s4_round {α : Type} (N : Nat) (a_n : Nat) (a_l : Nat) (a_c : Nat) (b_n : Nat) (b_l : Nat) (b_c : Nat) (i : Int) (h0 : List (Nat × Nat)) (h1 : List (Nat × Nat)) (h2 : List (List Int)) (h3 : List (List Int)) (kn : St → Option α) (K : AExit → St → Option α) :
    roundK Try.prog (E_w_eqInt64S_s14 α N) 1 4 23 Try.f23 4 4 (buildS w_eqInt64SS_l0_s4_p [.n a_n, .n a_l, .n a_c, .n b_n, .n b_l, .n b_c, .i i, .p h0, .p h1, .r h2, .r h3]) kn K = w_eqInt64SS_l0_s4_s none N a_n a_l a_c b_n b_l b_c h0 h1 h2 h3 i (fun i => kn (buildS w_eqInt64SS_l0_s4_p [.n a_n, .n a_l, .n a_c, .n b_n, .n b_l, .n b_c, .i i, .p h0, .p h1, .r h2, .r h3])) (K .ret (buildS w_eqInt64SS_l0_s4_o0 [.p h0, .p h1, .r h2, .r h3])) (K (.exit 0) (buildS w_eqInt64SS_l0_s4_o1 [.p h0, .p h1, .r h2, .r h3])) := by kernel_rfl
theorem w_eqInt64SS_l0_s4_loop {α : Type} (N : Nat) (a_n : Nat) (a_l : Nat) (a_c : Nat) (b_n : Nat) (b_l : Nat) (b_c : Nat) (h0 : List (Nat × Nat)) (h1 : List (Nat × Nat)) (h2 : List (List Int)) (h3 : List (List Int)) (K : AExit → St → Option α) : ∀ (m : Nat) (i : Int),
    loopN (trimSt ((E_w_eqInt64S_s14 α N).ann 23 4).head ((E_w_eqInt64S_s14 α N).ann 23 4).grow 4) (bodyK Try.prog (E_w_eqInt64S_s14 α N) 1 4 23 Try.f23 4) m (buildS w_eqInt64SS_l0_s4_p [.n a_n, .n a_l, .n a_c, .n b_n, .n b_l, .n b_c, .i i, .p h0, .p h1, .r h2, .r h3]) (leaveLoop ((E_w_eqInt64S_s14 α N).ann 23 4) 4 K) = w_eqInt64SS_l0_s4 none N a_n a_l a_c b_n b_l b_c h0 h1 h2 h3 m i (K .ret (buildS w_eqInt64SS_l0_s4_o0 [.p h0, .p h1, .r h2, .r h3])) (K (.exit 0) (buildS w_eqInt64SS_l0_s4_o1 [.p h0, .p h1, .r h2, .r h3])) := by
  intro m
  induction m with
  | zero => intros; rfl
  | succ m ih =>
    intro i
    rw [loopN_round]
    refine (w_eqInt64SS_l0_s4_round N a_n a_l a_c b_n b_l b_c i h0 h1 h2 h3 _ K).trans ?_
    simp only [ih]
    rfl
def E_w_eqInt64SS_l0_s4 (α : Type) (N : Nat) : Env α := (E_w_eqInt64S_s14 α N).addLoop2 23 4 (loopSum2 ((E_w_eqInt64S_s14 α N).ann 23 4) 4 w_eqInt64SS_l0_s4_p (fun l K => match l with
    | [.n a_n, .n a_l, .n a_c, .n b_n, .n b_l, .n b_c, .i i, .p h0, .p h1, .r h2, .r h3] => w_eqInt64SS_l0_s4 none N a_n a_l a_c b_n b_l b_c h0 h1 h2 h3 N i (K .ret (buildS w_eqInt64SS_l0_s4_o0 [.p h0, .p h1, .r h2, .r h3])) (K (.exit 0) (buildS w_eqInt64SS_l0_s4_o1 [.p h0, .p h1, .r h2, .r h3]))
    | _ => none) ((E_w_eqInt64S_s14 α N).ls 23 4))
theorem E_w_eqInt64SS_l0_s4_ok {α : Type} (N : Nat) : EnvOk Try.prog (E_w_eqInt64SS_l0_s4 α N) := (E_w_eqInt64S_s14_ok N).addLoop2 Try.func23 (by kernel_rfl) (loopSum_ok prog_mixed prog_names (E_w_eqInt64S_s14_ok N) Try.func23 (by kernel_rfl) (d := 1) (ro := 4) fun l K r h => by
  split at h
  · exact (w_eqInt64SS_l0_s4_loop N _ _ _ _ _ _ _ _ _ _ K N _).trans h
  · cases h)

/-- laws.eqInt64SS -/
def w_eqInt64SS_s4_a : SPat := ⟨[.sliceV 0 0 0 1 false, .sliceV 1 0 0 1 false], [[.hdr 2], [.hdr 3], [.pool .i64], [.pool .i64]]⟩
def w_eqInt64SS_s4_r0 : SPat := ⟨[.bool], [[.hdr 2], [.hdr 3], [.pool .i64], [.pool .i64]]⟩
theorem w_eqInt64SS_s4_run {α : Type} (N : Nat) (a_n : Nat) (a_l : Nat) (a_c : Nat) (b_n : Nat) (b_l : Nat) (b_c : Nat) (h0 : List (Nat × Nat)) (h1 : List (Nat × Nat)) (h2 : List (List Int)) (h3 : List (List Int)) (K : AV → Heap → Option α) :
    callK Try.prog (E_w_eqInt64SS_l0_s4 α N) 1 23 4 (buildS w_eqInt64SS_s4_a [.n a_n, .n a_l, .n a_c, .n b_n, .n b_l, .n b_c, .p h0, .p h1, .r h2, .r h3]).t (buildS w_eqInt64SS_s4_a [.n a_n, .n a_l, .n a_c, .n b_n, .n b_l, .n b_c, .p h0, .p h1, .r h2, .r h3]).h K = w_eqInt64SS_s4 none N a_n a_l a_c b_n b_l b_c h0 h1 h2 h3 (fun r__ => retK (buildS w_eqInt64SS_s4_r0 [.b r__, .p h0, .p h1, .r h2, .r h3]) K) := by kernel_rfl
def E_w_eqInt64SS_s4 (α : Type) (N : Nat) : Env α := (E_w_eqInt64SS_l0_s4 α N).addFun 23 true 4 w_eqInt64SS_s4_a (fun l K => match l with
    | [.n a_n, .n a_l, .n a_c, .n b_n, .n b_l, .n b_c, .p h0, .p h1, .r h2, .r h3] => w_eqInt64SS_s4 none N a_n a_l a_c b_n b_l b_c h0 h1 h2 h3 (fun r__ => retK (buildS w_eqInt64SS_s4_r0 [.b r__, .p h0, .p h1, .r h2, .r h3]) K)
    | _ => none)
theorem E_w_eqInt64SS_s4_ok {α : Type} (N : Nat) : EnvOk Try.prog (E_w_eqInt64SS_s4 α N) := (E_w_eqInt64SS_l0_s4_ok N).addFun prog_mixed prog_names (d := 1) fun l K r h => by
  split at h
  · exact (w_eqInt64SS_s4_run N _ _ _ _ _ _ _ _ _ _ K).trans h
  · cases h

/-- laws.FnExactAbelianTable -/
def w_FnExactAbelianTable_a : SPat := ⟨[.agg [.vals [.int .i64], .ints .u8 8, .ints .u8 8]], []⟩
def w_FnExactAbelianTable_r0 : SPat := ⟨[.bool], []⟩
theorem w_FnExactAbelianTable_run {α : Type} (N : Nat) (aG_0 : Int) (aG_1 : Nat → Int) (aG_2 : Nat → Int) (K : AV → Heap → Option α) :
    callK Try.prog (E_w_eqInt64SS_s4 α N) 1 4 0 (buildS w_FnExactAbelianTable_a [.i aG_0, .f aG_1, .f aG_2]).t (buildS w_FnExactAbelianTable_a [.i aG_0, .f aG_1, .f aG_2]).h K = w_FnExactAbelianTable none N aG_0 aG_1 aG_2 (fun r__ => retK (buildS w_FnExactAbelianTable_r0 [.b r__]) K) := by kernel_rfl
def E_w_FnExactAbelianTable (α : Type) (N : Nat) : Env α := (E_w_eqInt64SS_s4 α N).addFun 4 true 0 w_FnExactAbelianTable_a (fun l K => match l with
    | [.i aG_0, .f aG_1, .f aG_2] => w_FnExactAbelianTable none N aG_0 aG_1 aG_2 (fun r__ => retK (buildS w_FnExactAbelianTable_r0 [.b r__]) K)
    | _ => none)
theorem E_w_FnExactAbelianTable_ok {α : Type} (N : Nat) : EnvOk Try.prog (E_w_FnExactAbelianTable α N) := (E_w_eqInt64SS_s4_ok N).addFun prog_mixed prog_names (d := 1) fun l K r h => by
  split at h
  · exact (w_FnExactAbelianTable_run N _ _ _ K).trans h
  · cases h
end Go.AM
