/- A part of a proof about the given program: an abstract machine, what the given functions come to, and plain laws. -/
import Derived.Test.YtijijnfmcmeioaaAMEnv2
import Derived.Test.YtijijnfmcmeioaaDLowerState
import Derived.Test.YtijijnfmcmeioaaDIsMosaic
import Derived.Test.YtijijnfmcmeioaaDRelationsOf
import Derived.Test.YtijijnfmcmeioaaDCountTiles
import Derived.Test.YtijijnfmcmeioaaDIsColouring
import Derived.Test.YtijijnfmcmeioaaProg
set_option maxRecDepth 100000
namespace Go.AM
open Go.Proofs

def E0 (α : Type) (N : Nat) : Env α := Env.base (fun _ _ => {}) N
theorem E0_ok {α : Type} (N : Nat) : EnvOk Try.prog (E0 α N) := .base
theorem prog_mixed : Try.prog.follows .mixedOrders = true := by kernel_rfl
theorem prog_names : NamesOk Try.prog := .of_all (by kernel_rfl)
def A_w_toByteA8_l0 (α : Type) (N : Nat) : Env α := (E0 α N).addAnn 62 3 { head := [1, 2, 3, 4], grow := [], out := [2, 3], ret := [2] }
theorem A_w_toByteA8_l0_ok {α : Type} (N : Nat) : EnvOk Try.prog (A_w_toByteA8_l0 α N) := (E0_ok N).addAnn

/-- laws.toByteA8, loop -/
def w_toByteA8_l0_p : SPat := ⟨[.undef, .ptr ⟨⟨0, 0⟩, 0, 0, 8⟩, .ptr ⟨⟨1, 0⟩, 0, 0, 8⟩, .ptr ⟨⟨2, 0⟩, 0, 0, 8⟩, .int .i64] ++ List.replicate 10 .undef, [[.ints .u8 8], [.ints .u8 8], [.ints .u8 8]]⟩
def w_toByteA8_l0_o0 : SPat := ⟨[.undef, .undef, .ptr ⟨⟨1, 0⟩, 0, 0, 8⟩, .ptr ⟨⟨2, 0⟩, 0, 0, 8⟩] ++ List.replicate 11 .undef, [[.ints .u8 8], [.ints .u8 8], [.ints .u8 8]]⟩
theorem w_toByteA8_l0_round {α : Type} (N : Nat) (i : Int) (h0 : Nat → Int) (h1 : Nat → Int) (h2 : Nat → Int) (kn : St → Option α) (K : AExit → St → Option α) :
    roundK Try.prog (A_w_toByteA8_l0 α N) 1 0 62 Try.f62 3 3 (buildS w_toByteA8_l0_p [.i i, .f h0, .f h1, .f h2]) kn K = w_toByteA8_l0_s none h0 h1 i h2 (fun i h2 => kn (buildS w_toByteA8_l0_p [.i i, .f h0, .f h1, .f h2])) (fun h2_ => K (.exit 0) (buildS w_toByteA8_l0_o0 [.f h0, .f h1, .f h2_])) := by kernel_rfl
theorem w_toByteA8_l0_loop {α : Type} (N : Nat) (h0 : Nat → Int) (h1 : Nat → Int) (K : AExit → St → Option α) : ∀ (m : Nat) (i : Int) (h2 : Nat → Int),
    loopN (trimSt ((A_w_toByteA8_l0 α N).ann 62 3).head ((A_w_toByteA8_l0 α N).ann 62 3).grow 3) (bodyK Try.prog (A_w_toByteA8_l0 α N) 1 0 62 Try.f62 3) m (buildS w_toByteA8_l0_p [.i i, .f h0, .f h1, .f h2]) (leaveLoop ((A_w_toByteA8_l0 α N).ann 62 3) 3 K) = w_toByteA8_l0 none h0 h1 m i h2 (fun h2_ => K (.exit 0) (buildS w_toByteA8_l0_o0 [.f h0, .f h1, .f h2_])) := by
  intro m
  induction m with
  | zero => intros; rfl
  | succ m ih =>
    intro i h2
    rw [loopN_round]
    refine (w_toByteA8_l0_round N i h0 h1 h2 _ K).trans ?_
    simp only [ih]
    rfl
def E_w_toByteA8_l0 (α : Type) (N : Nat) : Env α := (A_w_toByteA8_l0 α N).addLoop2 62 3 (loopSum2 ((A_w_toByteA8_l0 α N).ann 62 3) 0 w_toByteA8_l0_p (fun l K => match l with
    | [.i i, .f h0, .f h1, .f h2] => w_toByteA8_l0 none h0 h1 N i h2 (fun h2_ => K (.exit 0) (buildS w_toByteA8_l0_o0 [.f h0, .f h1, .f h2_]))
    | _ => none) ((A_w_toByteA8_l0 α N).ls 62 3))
theorem E_w_toByteA8_l0_ok {α : Type} (N : Nat) : EnvOk Try.prog (E_w_toByteA8_l0 α N) := (A_w_toByteA8_l0_ok N).addLoop2 Try.func62 (by kernel_rfl) (loopSum_ok prog_mixed prog_names (A_w_toByteA8_l0_ok N) Try.func62 (by kernel_rfl) (d := 1) (ro := 0) fun l K r h => by
  split at h
  · exact (w_toByteA8_l0_loop N _ _ K N _ _).trans h
  · cases h)

/-- laws.toByteA8 -/
def w_toByteA8_a : SPat := ⟨[.agg [.ints .u8 8]], []⟩
def w_toByteA8_r0 : SPat := ⟨[.agg [.ints .u8 8]], []⟩
theorem w_toByteA8_run {α : Type} (N : Nat) (a : Nat → Int) (K : AV → Heap → Option α) :
    callK Try.prog (E_w_toByteA8_l0 α N) 1 62 0 (buildS w_toByteA8_a [.f a]).t (buildS w_toByteA8_a [.f a]).h K = w_toByteA8 none N a (fun r__ => retK (buildS w_toByteA8_r0 [.f r__]) K) := by kernel_rfl
def E_w_toByteA8 (α : Type) (N : Nat) : Env α := (E_w_toByteA8_l0 α N).addFun 62 true 0 w_toByteA8_a (fun l K => match l with
    | [.f a] => w_toByteA8 none N a (fun r__ => retK (buildS w_toByteA8_r0 [.f r__]) K)
    | _ => none)
theorem E_w_toByteA8_ok {α : Type} (N : Nat) : EnvOk Try.prog (E_w_toByteA8 α N) := (E_w_toByteA8_l0_ok N).addFun prog_mixed prog_names (d := 1) fun l K r h => by
  split at h
  · exact (w_toByteA8_run N _ K).trans h
  · cases h

/-- laws.toGrid -/
def w_toGrid_a : SPat := ⟨[.agg [.vals [.int .i64], .ints .u8 8, .ints .u8 8]], []⟩
def w_toGrid_r0 : SPat := ⟨[.agg [.vals [.int .i64], .ints .u8 8, .ints .u8 8]], []⟩
theorem w_toGrid_run {α : Type} (N : Nat) (a_0 : Int) (a_1 : Nat → Int) (a_2 : Nat → Int) (K : AV → Heap → Option α) :
    callK Try.prog (E_w_toByteA8 α N) 1 15 0 (buildS w_toGrid_a [.i a_0, .f a_1, .f a_2]).t (buildS w_toGrid_a [.i a_0, .f a_1, .f a_2]).h K = w_toGrid none N a_0 a_1 a_2 (fun r_1_ r_2_ => retK (buildS w_toGrid_r0 [.i a_0, .f r_1_, .f r_2_]) K) := by kernel_rfl
def E_w_toGrid (α : Type) (N : Nat) : Env α := (E_w_toByteA8 α N).addFun 15 true 0 w_toGrid_a (fun l K => match l with
    | [.i a_0, .f a_1, .f a_2] => w_toGrid none N a_0 a_1 a_2 (fun r_1_ r_2_ => retK (buildS w_toGrid_r0 [.i a_0, .f r_1_, .f r_2_]) K)
    | _ => none)
theorem E_w_toGrid_ok {α : Type} (N : Nat) : EnvOk Try.prog (E_w_toGrid α N) := (E_w_toByteA8_ok N).addFun prog_mixed prog_names (d := 1) fun l K r h => by
  split at h
  · exact (w_toGrid_run N _ _ _ K).trans h
  · cases h

/-- spec.l01In -/
def s_l01In_a : SPat := ⟨[.int .i64, .int .i64, .int .i64], []⟩
def s_l01In_r0 : SPat := ⟨[.bool], []⟩
theorem s_l01In_run {α : Type} (N : Nat) (n : Int) (low : Int) (high : Int) (K : AV → Heap → Option α) :
    callK Try.prog (E_w_toGrid α N) 1 92 0 (buildS s_l01In_a [.i n, .i low, .i high]).t (buildS s_l01In_a [.i n, .i low, .i high]).h K = s_l01In none N n low high (fun r__ => retK (buildS s_l01In_r0 [.b r__]) K) := by kernel_rfl
def E_s_l01In (α : Type) (N : Nat) : Env α := (E_w_toGrid α N).addFun 92 true 0 s_l01In_a (fun l K => match l with
    | [.i n, .i low, .i high] => s_l01In none N n low high (fun r__ => retK (buildS s_l01In_r0 [.b r__]) K)
    | _ => none)
theorem E_s_l01In_ok {α : Type} (N : Nat) : EnvOk Try.prog (E_s_l01In α N) := (E_w_toGrid_ok N).addFun prog_mixed prog_names (d := 1) fun l K r h => by
  split at h
  · exact (s_l01In_run N _ _ _ K).trans h
  · cases h

def A_s_l01Perm_l0 (α : Type) (N : Nat) : Env α := (E_s_l01In α N).addAnn 122 3 { head := [1, 2, 5, 6], grow := [], out := [], ret := [4] }
theorem A_s_l01Perm_l0_ok {α : Type} (N : Nat) : EnvOk Try.prog (A_s_l01Perm_l0 α N) := (E_s_l01In_ok N).addAnn

/-- spec.l01Perm, loop -/
def s_l01Perm_l0_p : SPat := ⟨[.undef, .int .i64, .ptr ⟨⟨0, 0⟩, 0, 0, 8⟩, .undef, .undef, .ptr ⟨⟨1, 0⟩, 0, 0, 8⟩, .int .i64] ++ List.replicate 29 .undef, [[.ints .u8 8], [.bools 8]]⟩
def s_l01Perm_l0_o0 : SPat := ⟨[.undef, .undef, .undef, .undef, .boolC false] ++ List.replicate 31 .undef, [[.ints .u8 8], [.bools 8]]⟩
def s_l01Perm_l0_o1 : SPat := ⟨[] ++ List.replicate 36 .undef, [[.ints .u8 8], [.bools 8]]⟩
theorem s_l01Perm_l0_round {α : Type} (N : Nat) (n : Int) (i : Int) (h0 : Nat → Int) (h1 : Nat → Bool) (kn : St → Option α) (K : AExit → St → Option α) :
    roundK Try.prog (A_s_l01Perm_l0 α N) 1 0 122 Try.f122 3 2 (buildS s_l01Perm_l0_p [.i n, .i i, .f h0, .g h1]) kn K = s_l01Perm_l0_s none n h0 i h1 (fun i h1 => kn (buildS s_l01Perm_l0_p [.i n, .i i, .f h0, .g h1])) (fun h1_ => K .ret (buildS s_l01Perm_l0_o0 [.f h0, .g h1_])) (fun h1_ => K (.exit 0) (buildS s_l01Perm_l0_o1 [.f h0, .g h1_])) := by kernel_rfl
theorem s_l01Perm_l0_loop {α : Type} (N : Nat) (n : Int) (h0 : Nat → Int) (K : AExit → St → Option α) : ∀ (m : Nat) (i : Int) (h1 : Nat → Bool),
    loopN (trimSt ((A_s_l01Perm_l0 α N).ann 122 3).head ((A_s_l01Perm_l0 α N).ann 122 3).grow 2) (bodyK Try.prog (A_s_l01Perm_l0 α N) 1 0 122 Try.f122 3) m (buildS s_l01Perm_l0_p [.i n, .i i, .f h0, .g h1]) (leaveLoop ((A_s_l01Perm_l0 α N).ann 122 3) 2 K) = s_l01Perm_l0 none n h0 m i h1 (fun h1_ => K .ret (buildS s_l01Perm_l0_o0 [.f h0, .g h1_])) (fun h1_ => K (.exit 0) (buildS s_l01Perm_l0_o1 [.f h0, .g h1_])) := by
  intro m
  induction m with
  | zero => intros; rfl
  | succ m ih =>
    intro i h1
    rw [loopN_round]
    refine (s_l01Perm_l0_round N n i h0 h1 _ K).trans ?_
    simp only [ih]
    rfl
def E_s_l01Perm_l0 (α : Type) (N : Nat) : Env α := (A_s_l01Perm_l0 α N).addLoop2 122 3 (loopSum2 ((A_s_l01Perm_l0 α N).ann 122 3) 0 s_l01Perm_l0_p (fun l K => match l with
    | [.i n, .i i, .f h0, .g h1] => s_l01Perm_l0 none n h0 N i h1 (fun h1_ => K .ret (buildS s_l01Perm_l0_o0 [.f h0, .g h1_])) (fun h1_ => K (.exit 0) (buildS s_l01Perm_l0_o1 [.f h0, .g h1_]))
    | _ => none) ((A_s_l01Perm_l0 α N).ls 122 3))
theorem E_s_l01Perm_l0_ok {α : Type} (N : Nat) : EnvOk Try.prog (E_s_l01Perm_l0 α N) := (A_s_l01Perm_l0_ok N).addLoop2 Try.func122 (by kernel_rfl) (loopSum_ok prog_mixed prog_names (A_s_l01Perm_l0_ok N) Try.func122 (by kernel_rfl) (d := 1) (ro := 0) fun l K r h => by
  split at h
  · exact (s_l01Perm_l0_loop N _ _ K N _ _).trans h
  · cases h)

/-- spec.l01Perm -/
def s_l01Perm_a : SPat := ⟨[.agg [.ints .u8 8], .int .i64], []⟩
def s_l01Perm_r0 : SPat := ⟨[.bool], []⟩
theorem s_l01Perm_run {α : Type} (N : Nat) (list : Nat → Int) (n : Int) (K : AV → Heap → Option α) :
    callK Try.prog (E_s_l01Perm_l0 α N) 1 122 0 (buildS s_l01Perm_a [.f list, .i n]).t (buildS s_l01Perm_a [.f list, .i n]).h K = s_l01Perm none N list n (fun r__ => retK (buildS s_l01Perm_r0 [.b r__]) K) := by kernel_rfl
def E_s_l01Perm (α : Type) (N : Nat) : Env α := (E_s_l01Perm_l0 α N).addFun 122 true 0 s_l01Perm_a (fun l K => match l with
    | [.f list, .i n] => s_l01Perm none N list n (fun r__ => retK (buildS s_l01Perm_r0 [.b r__]) K)
    | _ => none)
theorem E_s_l01Perm_ok {α : Type} (N : Nat) : EnvOk Try.prog (E_s_l01Perm α N) := (E_s_l01Perm_l0_ok N).addFun prog_mixed prog_names (d := 1) fun l K r h => by
  split at h
  · exact (s_l01Perm_run N _ _ K).trans h
  · cases h

def A_s_l01Is_l0 (α : Type) (N : Nat) : Env α := (E_s_l01Perm α N).addAnn 66 4 { head := [1, 3], grow := [], out := [], ret := [2] }
theorem A_s_l01Is_l0_ok {α : Type} (N : Nat) : EnvOk Try.prog (A_s_l01Is_l0 α N) := (E_s_l01Perm_ok N).addAnn

/-- spec.l01Is, loop -/
def s_l01Is_l0_p : SPat := ⟨[.undef, .ptr ⟨⟨0, 0⟩, 0, 0, 1⟩, .undef, .int .i64] ++ List.replicate 35 .undef, [[.vals [.int .i64], .ints .u8 8, .ints .u8 8]]⟩
def s_l01Is_l0_o0 : SPat := ⟨[.undef, .undef, .boolC false] ++ List.replicate 36 .undef, [[.vals [.int .i64], .ints .u8 8, .ints .u8 8]]⟩
def s_l01Is_l0_o1 : SPat := ⟨[] ++ List.replicate 39 .undef, [[.vals [.int .i64], .ints .u8 8, .ints .u8 8]]⟩
theorem s_l01Is_l0_round {α : Type} (N : Nat) (i : Int) (h0_0 : Int) (h0_1 : Nat → Int) (h0_2 : Nat → Int) (kn : St → Option α) (K : AExit → St → Option α) :
    roundK Try.prog (A_s_l01Is_l0 α N) 1 0 66 Try.f66 4 1 (buildS s_l01Is_l0_p [.i i, .i h0_0, .f h0_1, .f h0_2]) kn K = s_l01Is_l0_s none h0_0 h0_1 h0_2 i (fun i => kn (buildS s_l01Is_l0_p [.i i, .i h0_0, .f h0_1, .f h0_2])) (K .ret (buildS s_l01Is_l0_o0 [.i h0_0, .f h0_1, .f h0_2])) (K (.exit 0) (buildS s_l01Is_l0_o1 [.i h0_0, .f h0_1, .f h0_2])) := by kernel_rfl
theorem s_l01Is_l0_loop {α : Type} (N : Nat) (h0_0 : Int) (h0_1 : Nat → Int) (h0_2 : Nat → Int) (K : AExit → St → Option α) : ∀ (m : Nat) (i : Int),
    loopN (trimSt ((A_s_l01Is_l0 α N).ann 66 4).head ((A_s_l01Is_l0 α N).ann 66 4).grow 1) (bodyK Try.prog (A_s_l01Is_l0 α N) 1 0 66 Try.f66 4) m (buildS s_l01Is_l0_p [.i i, .i h0_0, .f h0_1, .f h0_2]) (leaveLoop ((A_s_l01Is_l0 α N).ann 66 4) 1 K) = s_l01Is_l0 none h0_0 h0_1 h0_2 m i (K .ret (buildS s_l01Is_l0_o0 [.i h0_0, .f h0_1, .f h0_2])) (K (.exit 0) (buildS s_l01Is_l0_o1 [.i h0_0, .f h0_1, .f h0_2])) := by
  intro m
  induction m with
  | zero => intros; rfl
  | succ m ih =>
    intro i
    rw [loopN_round]
    refine (s_l01Is_l0_round N i h0_0 h0_1 h0_2 _ K).trans ?_
    simp only [ih]
    rfl
def E_s_l01Is_l0 (α : Type) (N : Nat) : Env α := (A_s_l01Is_l0 α N).addLoop2 66 4 (loopSum2 ((A_s_l01Is_l0 α N).ann 66 4) 0 s_l01Is_l0_p (fun l K => match l with
    | [.i i, .i h0_0, .f h0_1, .f h0_2] => s_l01Is_l0 none h0_0 h0_1 h0_2 N i (K .ret (buildS s_l01Is_l0_o0 [.i h0_0, .f h0_1, .f h0_2])) (K (.exit 0) (buildS s_l01Is_l0_o1 [.i h0_0, .f h0_1, .f h0_2]))
    | _ => none) ((A_s_l01Is_l0 α N).ls 66 4))
theorem E_s_l01Is_l0_ok {α : Type} (N : Nat) : EnvOk Try.prog (E_s_l01Is_l0 α N) := (A_s_l01Is_l0_ok N).addLoop2 Try.func66 (by kernel_rfl) (loopSum_ok prog_mixed prog_names (A_s_l01Is_l0_ok N) Try.func66 (by kernel_rfl) (d := 1) (ro := 0) fun l K r h => by
  split at h
  · exact (s_l01Is_l0_loop N _ _ _ K N _).trans h
  · cases h)

/-- spec.l01Is -/
def s_l01Is_a : SPat := ⟨[.agg [.vals [.int .i64], .ints .u8 8, .ints .u8 8]], []⟩
def s_l01Is_r0 : SPat := ⟨[.bool], []⟩
theorem s_l01Is_run {α : Type} (N : Nat) (g_0 : Int) (g_1 : Nat → Int) (g_2 : Nat → Int) (K : AV → Heap → Option α) :
    callK Try.prog (E_s_l01Is_l0 α N) 1 66 0 (buildS s_l01Is_a [.i g_0, .f g_1, .f g_2]).t (buildS s_l01Is_a [.i g_0, .f g_1, .f g_2]).h K = s_l01Is none N g_0 g_1 g_2 (fun r__ => retK (buildS s_l01Is_r0 [.b r__]) K) := by kernel_rfl
def E_s_l01Is (α : Type) (N : Nat) : Env α := (E_s_l01Is_l0 α N).addFun 66 true 0 s_l01Is_a (fun l K => match l with
    | [.i g_0, .f g_1, .f g_2] => s_l01Is none N g_0 g_1 g_2 (fun r__ => retK (buildS s_l01Is_r0 [.b r__]) K)
    | _ => none)
theorem E_s_l01Is_ok {α : Type} (N : Nat) : EnvOk Try.prog (E_s_l01Is α N) := (E_s_l01Is_l0_ok N).addFun prog_mixed prog_names (d := 1) fun l K r h => by
  split at h
  · exact (s_l01Is_run N _ _ _ K).trans h
  · cases h

def A_s_l08Relation_l0 (α : Type) (N : Nat) : Env α := (E_s_l01Is α N).addAnn 67 3 { head := [1, 2, 5, 6], grow := [5], out := [5], ret := [4] }
theorem A_s_l08Relation_l0_ok {α : Type} (N : Nat) : EnvOk Try.prog (A_s_l08Relation_l0 α N) := (E_s_l01Is_ok N).addAnn

/-- spec.l08Relation, loop -/
def s_l08Relation_l0_p : SPat := ⟨[.undef, .int .i64, .ptr ⟨⟨0, 0⟩, 0, 0, 1⟩, .undef, .undef, .sliceV 1 0 0 1 false, .int .i64] ++ List.replicate 27 .undef, [[.vals [.int .i64], .ints .u8 8, .ints .u8 8], [.vec .i64]]⟩
def s_l08Relation_l0_o0 : SPat := ⟨[.undef, .undef, .undef, .undef, .undef, .sliceV 1 0 0 1 false] ++ List.replicate 28 .undef, [[.vals [.int .i64], .ints .u8 8, .ints .u8 8], [.vec .i64]]⟩
theorem s_l08Relation_l0_round {α : Type} (N : Nat) (r_ : Int) (out_n : Nat) (out_l : Nat) (out_c : Nat) (i : Int) (h0_0 : Int) (h0_1 : Nat → Int) (h0_2 : Nat → Int) (h1 : List Int) (kn : St → Option α) (K : AExit → St → Option α) :
    roundK Try.prog (A_s_l08Relation_l0 α N) 1 0 67 Try.f67 3 2 (buildS s_l08Relation_l0_p [.i r_, .n out_n, .n out_l, .n out_c, .i i, .i h0_0, .f h0_1, .f h0_2, .l h1]) kn K = s_l08Relation_l0_s none r_ h0_0 h0_1 h0_2 out_n out_l out_c i h1 (fun out_n out_l out_c i h1 => kn (buildS s_l08Relation_l0_p [.i r_, .n out_n, .n out_l, .n out_c, .i i, .i h0_0, .f h0_1, .f h0_2, .l h1])) (fun out_n_ out_l_ out_c_ h1_ => K (.exit 0) (buildS s_l08Relation_l0_o0 [.n out_n_, .n out_l_, .n out_c_, .i h0_0, .f h0_1, .f h0_2, .l h1_])) := by kernel_rfl
theorem s_l08Relation_l0_loop {α : Type} (N : Nat) (r_ : Int) (h0_0 : Int) (h0_1 : Nat → Int) (h0_2 : Nat → Int) (K : AExit → St → Option α) : ∀ (m : Nat) (out_n : Nat) (out_l : Nat) (out_c : Nat) (i : Int) (h1 : List Int),
    loopN (trimSt ((A_s_l08Relation_l0 α N).ann 67 3).head ((A_s_l08Relation_l0 α N).ann 67 3).grow 2) (bodyK Try.prog (A_s_l08Relation_l0 α N) 1 0 67 Try.f67 3) m (buildS s_l08Relation_l0_p [.i r_, .n out_n, .n out_l, .n out_c, .i i, .i h0_0, .f h0_1, .f h0_2, .l h1]) (leaveLoop ((A_s_l08Relation_l0 α N).ann 67 3) 2 K) = s_l08Relation_l0 none r_ h0_0 h0_1 h0_2 m out_n out_l out_c i h1 (fun out_n_ out_l_ out_c_ h1_ => K (.exit 0) (buildS s_l08Relation_l0_o0 [.n out_n_, .n out_l_, .n out_c_, .i h0_0, .f h0_1, .f h0_2, .l h1_])) := by
  intro m
  induction m with
  | zero => intros; rfl
  | succ m ih =>
    intro out_n out_l out_c i h1
    rw [loopN_round]
    refine (s_l08Relation_l0_round N r_ out_n out_l out_c i h0_0 h0_1 h0_2 h1 _ K).trans ?_
    simp only [ih]
    rfl
def E_s_l08Relation_l0 (α : Type) (N : Nat) : Env α := (A_s_l08Relation_l0 α N).addLoop2 67 3 (loopSum2 ((A_s_l08Relation_l0 α N).ann 67 3) 0 s_l08Relation_l0_p (fun l K => match l with
    | [.i r_, .n out_n, .n out_l, .n out_c, .i i, .i h0_0, .f h0_1, .f h0_2, .l h1] => s_l08Relation_l0 none r_ h0_0 h0_1 h0_2 N out_n out_l out_c i h1 (fun out_n_ out_l_ out_c_ h1_ => K (.exit 0) (buildS s_l08Relation_l0_o0 [.n out_n_, .n out_l_, .n out_c_, .i h0_0, .f h0_1, .f h0_2, .l h1_]))
    | _ => none) ((A_s_l08Relation_l0 α N).ls 67 3))
theorem E_s_l08Relation_l0_ok {α : Type} (N : Nat) : EnvOk Try.prog (E_s_l08Relation_l0 α N) := (A_s_l08Relation_l0_ok N).addLoop2 Try.func67 (by kernel_rfl) (loopSum_ok prog_mixed prog_names (A_s_l08Relation_l0_ok N) Try.func67 (by kernel_rfl) (d := 1) (ro := 0) fun l K r h => by
  split at h
  · exact (s_l08Relation_l0_loop N _ _ _ _ K N _ _ _ _ _).trans h
  · cases h)

/-- spec.l08Relation -/
def s_l08Relation_a : SPat := ⟨[.agg [.vals [.int .i64], .ints .u8 8, .ints .u8 8], .int .i64], []⟩
def s_l08Relation_r0 : SPat := ⟨[.sliceV 0 0 0 1 false], [[.vec .i64]]⟩
theorem s_l08Relation_run {α : Type} (N : Nat) (g_0 : Int) (g_1 : Nat → Int) (g_2 : Nat → Int) (r_ : Int) (K : AV → Heap → Option α) :
    callK Try.prog (E_s_l08Relation_l0 α N) 1 67 0 (buildS s_l08Relation_a [.i g_0, .f g_1, .f g_2, .i r_]).t (buildS s_l08Relation_a [.i g_0, .f g_1, .f g_2, .i r_]).h K = s_l08Relation none N g_0 g_1 g_2 r_ (fun r_n_ r_l_ r_c_ h0_ => retK (buildS s_l08Relation_r0 [.n r_n_, .n r_l_, .n r_c_, .l h0_]) K) := by kernel_rfl
def E_s_l08Relation (α : Type) (N : Nat) : Env α := (E_s_l08Relation_l0 α N).addFun 67 true 0 s_l08Relation_a (fun l K => match l with
    | [.i g_0, .f g_1, .f g_2, .i r_] => s_l08Relation none N g_0 g_1 g_2 r_ (fun r_n_ r_l_ r_c_ h0_ => retK (buildS s_l08Relation_r0 [.n r_n_, .n r_l_, .n r_c_, .l h0_]) K)
    | _ => none)
theorem E_s_l08Relation_ok {α : Type} (N : Nat) : EnvOk Try.prog (E_s_l08Relation α N) := (E_s_l08Relation_l0_ok N).addFun prog_mixed prog_names (d := 1) fun l K r h => by
  split at h
  · exact (s_l08Relation_run N _ _ _ _ K).trans h
  · cases h

/-- impl.within -/
def i_within_a : SPat := ⟨[.int .i64, .int .i64, .int .i64], []⟩
def i_within_r0 : SPat := ⟨[.bool], []⟩
theorem i_within_run {α : Type} (N : Nat) (x : Int) (low : Int) (high : Int) (K : AV → Heap → Option α) :
    callK Try.prog (E_s_l08Relation α N) 1 98 0 (buildS i_within_a [.i x, .i low, .i high]).t (buildS i_within_a [.i x, .i low, .i high]).h K = i_within none N x low high (fun r__ => retK (buildS i_within_r0 [.b r__]) K) := by kernel_rfl
def E_i_within (α : Type) (N : Nat) : Env α := (E_s_l08Relation α N).addFun 98 true 0 i_within_a (fun l K => match l with
    | [.i x, .i low, .i high] => i_within none N x low high (fun r__ => retK (buildS i_within_r0 [.b r__]) K)
    | _ => none)
theorem E_i_within_ok {α : Type} (N : Nat) : EnvOk Try.prog (E_i_within α N) := (E_s_l08Relation_ok N).addFun prog_mixed prog_names (d := 1) fun l K r h => by
  split at h
  · exact (i_within_run N _ _ _ K).trans h
  · cases h

/-- (impl.Grid).n -/
def i_Grid_n_a : SPat := ⟨[.agg [.vals [.int .i64], .ints .u8 8, .ints .u8 8]], []⟩
def i_Grid_n_r0 : SPat := ⟨[.int .i64], []⟩
theorem i_Grid_n_run {α : Type} (N : Nat) (g_0 : Int) (g_1 : Nat → Int) (g_2 : Nat → Int) (K : AV → Heap → Option α) :
    callK Try.prog (E_i_within α N) 1 95 0 (buildS i_Grid_n_a [.i g_0, .f g_1, .f g_2]).t (buildS i_Grid_n_a [.i g_0, .f g_1, .f g_2]).h K = i_Grid_n none N g_0 g_1 g_2 (retK (buildS i_Grid_n_r0 [.i g_0]) K) := by kernel_rfl
def E_i_Grid_n (α : Type) (N : Nat) : Env α := (E_i_within α N).addFun 95 true 0 i_Grid_n_a (fun l K => match l with
    | [.i g_0, .f g_1, .f g_2] => i_Grid_n none N g_0 g_1 g_2 (retK (buildS i_Grid_n_r0 [.i g_0]) K)
    | _ => none)
theorem E_i_Grid_n_ok {α : Type} (N : Nat) : EnvOk Try.prog (E_i_Grid_n α N) := (E_i_within_ok N).addFun prog_mixed prog_names (d := 1) fun l K r h => by
  split at h
  · exact (i_Grid_n_run N _ _ _ K).trans h
  · cases h

def A_i_isOrder_l0 (α : Type) (N : Nat) : Env α := (E_i_Grid_n α N).addAnn 126 3 { head := [1, 5, 8, 9, 10], grow := [], out := [1, 5], ret := [4] }
theorem A_i_isOrder_l0_ok {α : Type} (N : Nat) : EnvOk Try.prog (A_i_isOrder_l0 α N) := (E_i_Grid_n_ok N).addAnn

/-- impl.isOrder, loop -/
def i_isOrder_l0_s2_p : SPat := ⟨[.undef, .int .i64, .undef, .undef, .undef, .int .i64, .undef, .undef, .slice ⟨⟨0, 0⟩, 1, 0, 8⟩ 8 8 1 true, .intC .i64 8, .int .i64] ++ List.replicate 30 .undef, [[.vals [.int .i64], .ints .u8 8, .ints .u8 8]]⟩
def i_isOrder_l0_s2_o0 : SPat := ⟨[.undef, .undef, .undef, .undef, .boolC false] ++ List.replicate 36 .undef, [[.vals [.int .i64], .ints .u8 8, .ints .u8 8]]⟩
def i_isOrder_l0_s2_o1 : SPat := ⟨[.undef, .int .i64, .undef, .undef, .undef, .int .i64] ++ List.replicate 35 .undef, [[.vals [.int .i64], .ints .u8 8, .ints .u8 8]]⟩
theorem i_isOrder_l0_s2_round {α : Type} (N : Nat) (n : Int) (seen : Int) (t10 : Int) (h0_0 : Int) (h0_1 : Nat → Int) (h0_2 : Nat → Int) (kn : St → Option α) (K : AExit → St → Option α) :
    roundK Try.prog (A_i_isOrder_l0 α N) 1 1 126 Try.f126 3 1 (buildS i_isOrder_l0_s2_p [.i n, .i seen, .i t10, .i h0_0, .f h0_1, .f h0_2]) kn K = i_isOrder_l0_s2_s none n h0_0 h0_1 h0_2 seen t10 (fun seen t10 => kn (buildS i_isOrder_l0_s2_p [.i n, .i seen, .i t10, .i h0_0, .f h0_1, .f h0_2])) (K .ret (buildS i_isOrder_l0_s2_o0 [.i h0_0, .f h0_1, .f h0_2])) (fun seen_ => K (.exit 0) (buildS i_isOrder_l0_s2_o1 [.i n, .i seen_, .i h0_0, .f h0_1, .f h0_2])) := by kernel_rfl
theorem i_isOrder_l0_s2_loop {α : Type} (N : Nat) (n : Int) (h0_0 : Int) (h0_1 : Nat → Int) (h0_2 : Nat → Int) (K : AExit → St → Option α) : ∀ (m : Nat) (seen : Int) (t10 : Int),
    loopN (trimSt ((A_i_isOrder_l0 α N).ann 126 3).head ((A_i_isOrder_l0 α N).ann 126 3).grow 1) (bodyK Try.prog (A_i_isOrder_l0 α N) 1 1 126 Try.f126 3) m (buildS i_isOrder_l0_s2_p [.i n, .i seen, .i t10, .i h0_0, .f h0_1, .f h0_2]) (leaveLoop ((A_i_isOrder_l0 α N).ann 126 3) 1 K) = i_isOrder_l0_s2 none n h0_0 h0_1 h0_2 m seen t10 (K .ret (buildS i_isOrder_l0_s2_o0 [.i h0_0, .f h0_1, .f h0_2])) (fun seen_ => K (.exit 0) (buildS i_isOrder_l0_s2_o1 [.i n, .i seen_, .i h0_0, .f h0_1, .f h0_2])) := by
  intro m
  induction m with
  | zero => intros; rfl
  | succ m ih =>
    intro seen t10
    rw [loopN_round]
    refine (i_isOrder_l0_s2_round N n seen t10 h0_0 h0_1 h0_2 _ K).trans ?_
    simp only [ih]
    rfl
def E_i_isOrder_l0_s2 (α : Type) (N : Nat) : Env α := (A_i_isOrder_l0 α N).addLoop2 126 3 (loopSum2 ((A_i_isOrder_l0 α N).ann 126 3) 1 i_isOrder_l0_s2_p (fun l K => match l with
    | [.i n, .i seen, .i t10, .i h0_0, .f h0_1, .f h0_2] => i_isOrder_l0_s2 none n h0_0 h0_1 h0_2 N seen t10 (K .ret (buildS i_isOrder_l0_s2_o0 [.i h0_0, .f h0_1, .f h0_2])) (fun seen_ => K (.exit 0) (buildS i_isOrder_l0_s2_o1 [.i n, .i seen_, .i h0_0, .f h0_1, .f h0_2]))
    | _ => none) ((A_i_isOrder_l0 α N).ls 126 3))
theorem E_i_isOrder_l0_s2_ok {α : Type} (N : Nat) : EnvOk Try.prog (E_i_isOrder_l0_s2 α N) := (A_i_isOrder_l0_ok N).addLoop2 Try.func126 (by kernel_rfl) (loopSum_ok prog_mixed prog_names (A_i_isOrder_l0_ok N) Try.func126 (by kernel_rfl) (d := 1) (ro := 1) fun l K r h => by
  split at h
  · exact (i_isOrder_l0_s2_loop N _ _ _ _ K N _ _).trans h
  · cases h)

/-- impl.isOrder -/
def i_isOrder_s2_a : SPat := ⟨[.slice ⟨⟨0, 0⟩, 1, 0, 8⟩ 8 8 1 true, .int .i64], [[.vals [.int .i64], .ints .u8 8, .ints .u8 8]]⟩
def i_isOrder_s2_r0 : SPat := ⟨[.bool], [[.vals [.int .i64], .ints .u8 8, .ints .u8 8]]⟩
theorem i_isOrder_s2_run {α : Type} (N : Nat) (n : Int) (h0_0 : Int) (h0_1 : Nat → Int) (h0_2 : Nat → Int) (K : AV → Heap → Option α) :
    callK Try.prog (E_i_isOrder_l0_s2 α N) 1 126 1 (buildS i_isOrder_s2_a [.i n, .i h0_0, .f h0_1, .f h0_2]).t (buildS i_isOrder_s2_a [.i n, .i h0_0, .f h0_1, .f h0_2]).h K = i_isOrder_s2 none N n h0_0 h0_1 h0_2 (fun r__ => retK (buildS i_isOrder_s2_r0 [.b r__, .i h0_0, .f h0_1, .f h0_2]) K) := by kernel_rfl
def E_i_isOrder_s2 (α : Type) (N : Nat) : Env α := (E_i_isOrder_l0_s2 α N).addFun 126 true 1 i_isOrder_s2_a (fun l K => match l with
    | [.i n, .i h0_0, .f h0_1, .f h0_2] => i_isOrder_s2 none N n h0_0 h0_1 h0_2 (fun r__ => retK (buildS i_isOrder_s2_r0 [.b r__, .i h0_0, .f h0_1, .f h0_2]) K)
    | _ => none)
theorem E_i_isOrder_s2_ok {α : Type} (N : Nat) : EnvOk Try.prog (E_i_isOrder_s2 α N) := (E_i_isOrder_l0_s2_ok N).addFun prog_mixed prog_names (d := 1) fun l K r h => by
  split at h
  · exact (i_isOrder_s2_run N _ _ _ _ K).trans h
  · cases h

/-- impl.isOrder, loop -/
def i_isOrder_l0_s3_p : SPat := ⟨[.undef, .int .i64, .undef, .undef, .undef, .int .i64, .undef, .undef, .slice ⟨⟨0, 0⟩, 2, 0, 8⟩ 8 8 1 true, .intC .i64 8, .int .i64] ++ List.replicate 30 .undef, [[.vals [.int .i64], .ints .u8 8, .ints .u8 8]]⟩
def i_isOrder_l0_s3_o0 : SPat := ⟨[.undef, .undef, .undef, .undef, .boolC false] ++ List.replicate 36 .undef, [[.vals [.int .i64], .ints .u8 8, .ints .u8 8]]⟩
def i_isOrder_l0_s3_o1 : SPat := ⟨[.undef, .int .i64, .undef, .undef, .undef, .int .i64] ++ List.replicate 35 .undef, [[.vals [.int .i64], .ints .u8 8, .ints .u8 8]]⟩
theorem i_isOrder_l0_s3_round {α : Type} (N : Nat) (n : Int) (seen : Int) (t10 : Int) (h0_0 : Int) (h0_1 : Nat → Int) (h0_2 : Nat → Int) (kn : St → Option α) (K : AExit → St → Option α) :
    roundK Try.prog (E_i_isOrder_s2 α N) 1 1 126 Try.f126 3 1 (buildS i_isOrder_l0_s3_p [.i n, .i seen, .i t10, .i h0_0, .f h0_1, .f h0_2]) kn K = i_isOrder_l0_s3_s none n h0_0 h0_1 h0_2 seen t10 (fun seen t10 => kn (buildS i_isOrder_l0_s3_p [.i n, .i seen, .i t10, .i h0_0, .f h0_1, .f h0_2])) (K .ret (buildS i_isOrder_l0_s3_o0 [.i h0_0, .f h0_1, .f h0_2])) (fun seen_ => K (.exit 0) (buildS i_isOrder_l0_s3_o1 [.i n, .i seen_, .i h0_0, .f h0_1, .f h0_2])) := by kernel_rfl
theorem i_isOrder_l0_s3_loop {α : Type} (N : Nat) (n : Int) (h0_0 : Int) (h0_1 : Nat → Int) (h0_2 : Nat → Int) (K : AExit → St → Option α) : ∀ (m : Nat) (seen : Int) (t10 : Int),
    loopN (trimSt ((E_i_isOrder_s2 α N).ann 126 3).head ((E_i_isOrder_s2 α N).ann 126 3).grow 1) (bodyK Try.prog (E_i_isOrder_s2 α N) 1 1 126 Try.f126 3) m (buildS i_isOrder_l0_s3_p [.i n, .i seen, .i t10, .i h0_0, .f h0_1, .f h0_2]) (leaveLoop ((E_i_isOrder_s2 α N).ann 126 3) 1 K) = i_isOrder_l0_s3 none n h0_0 h0_1 h0_2 m seen t10 (K .ret (buildS i_isOrder_l0_s3_o0 [.i h0_0, .f h0_1, .f h0_2])) (fun seen_ => K (.exit 0) (buildS i_isOrder_l0_s3_o1 [.i n, .i seen_, .i h0_0, .f h0_1, .f h0_2])) := by
  intro m
  induction m with
  | zero => intros; rfl
  | succ m ih =>
    intro seen t10
    rw [loopN_round]
    refine (i_isOrder_l0_s3_round N n seen t10 h0_0 h0_1 h0_2 _ K).trans ?_
    simp only [ih]
    rfl
def E_i_isOrder_l0_s3 (α : Type) (N : Nat) : Env α := (E_i_isOrder_s2 α N).addLoop2 126 3 (loopSum2 ((E_i_isOrder_s2 α N).ann 126 3) 1 i_isOrder_l0_s3_p (fun l K => match l with
    | [.i n, .i seen, .i t10, .i h0_0, .f h0_1, .f h0_2] => i_isOrder_l0_s3 none n h0_0 h0_1 h0_2 N seen t10 (K .ret (buildS i_isOrder_l0_s3_o0 [.i h0_0, .f h0_1, .f h0_2])) (fun seen_ => K (.exit 0) (buildS i_isOrder_l0_s3_o1 [.i n, .i seen_, .i h0_0, .f h0_1, .f h0_2]))
    | _ => none) ((E_i_isOrder_s2 α N).ls 126 3))
theorem E_i_isOrder_l0_s3_ok {α : Type} (N : Nat) : EnvOk Try.prog (E_i_isOrder_l0_s3 α N) := (E_i_isOrder_s2_ok N).addLoop2 Try.func126 (by kernel_rfl) (loopSum_ok prog_mixed prog_names (E_i_isOrder_s2_ok N) Try.func126 (by kernel_rfl) (d := 1) (ro := 1) fun l K r h => by
  split at h
  · exact (i_isOrder_l0_s3_loop N _ _ _ _ K N _ _).trans h
  · cases h)

/-- impl.isOrder -/
def i_isOrder_s3_a : SPat := ⟨[.slice ⟨⟨0, 0⟩, 2, 0, 8⟩ 8 8 1 true, .int .i64], [[.vals [.int .i64], .ints .u8 8, .ints .u8 8]]⟩
def i_isOrder_s3_r0 : SPat := ⟨[.bool], [[.vals [.int .i64], .ints .u8 8, .ints .u8 8]]⟩
theorem i_isOrder_s3_run {α : Type} (N : Nat) (n : Int) (h0_0 : Int) (h0_1 : Nat → Int) (h0_2 : Nat → Int) (K : AV → Heap → Option α) :
    callK Try.prog (E_i_isOrder_l0_s3 α N) 1 126 1 (buildS i_isOrder_s3_a [.i n, .i h0_0, .f h0_1, .f h0_2]).t (buildS i_isOrder_s3_a [.i n, .i h0_0, .f h0_1, .f h0_2]).h K = i_isOrder_s3 none N n h0_0 h0_1 h0_2 (fun r__ => retK (buildS i_isOrder_s3_r0 [.b r__, .i h0_0, .f h0_1, .f h0_2]) K) := by kernel_rfl
def E_i_isOrder_s3 (α : Type) (N : Nat) : Env α := (E_i_isOrder_l0_s3 α N).addFun 126 true 1 i_isOrder_s3_a (fun l K => match l with
    | [.i n, .i h0_0, .f h0_1, .f h0_2] => i_isOrder_s3 none N n h0_0 h0_1 h0_2 (fun r__ => retK (buildS i_isOrder_s3_r0 [.b r__, .i h0_0, .f h0_1, .f h0_2]) K)
    | _ => none)
theorem E_i_isOrder_s3_ok {α : Type} (N : Nat) : EnvOk Try.prog (E_i_isOrder_s3 α N) := (E_i_isOrder_l0_s3_ok N).addFun prog_mixed prog_names (d := 1) fun l K r h => by
  split at h
  · exact (i_isOrder_s3_run N _ _ _ _ K).trans h
  · cases h

def A_i_IsGrid_l0 (α : Type) (N : Nat) : Env α := (E_i_isOrder_s3 α N).addAnn 74 4 { head := [1, 25, 26], grow := [], out := [], ret := [2] }
theorem A_i_IsGrid_l0_ok {α : Type} (N : Nat) : EnvOk Try.prog (A_i_IsGrid_l0 α N) := (E_i_isOrder_s3_ok N).addAnn

/-- impl.IsGrid, loop -/
def i_IsGrid_l0_p : SPat := ⟨[.undef, .ptr ⟨⟨0, 0⟩, 0, 0, 1⟩, .undef, .undef, .undef, .undef, .undef, .undef, .undef, .undef, .undef, .undef, .undef, .undef, .undef, .undef, .undef, .undef, .undef, .undef, .undef, .undef, .undef, .undef, .undef, .int .i64, .int .i64] ++ List.replicate 12 .undef, [[.vals [.int .i64], .ints .u8 8, .ints .u8 8]]⟩
def i_IsGrid_l0_o0 : SPat := ⟨[.undef, .undef, .boolC false] ++ List.replicate 36 .undef, [[.vals [.int .i64], .ints .u8 8, .ints .u8 8]]⟩
def i_IsGrid_l0_o1 : SPat := ⟨[] ++ List.replicate 39 .undef, [[.vals [.int .i64], .ints .u8 8, .ints .u8 8]]⟩
theorem i_IsGrid_l0_round {α : Type} (N : Nat) (t25 : Int) (t26 : Int) (h0_0 : Int) (h0_1 : Nat → Int) (h0_2 : Nat → Int) (kn : St → Option α) (K : AExit → St → Option α) :
    roundK Try.prog (A_i_IsGrid_l0 α N) 1 0 74 Try.f74 4 1 (buildS i_IsGrid_l0_p [.i t25, .i t26, .i h0_0, .f h0_1, .f h0_2]) kn K = i_IsGrid_l0_s none t25 h0_0 h0_1 h0_2 t26 (fun t26 => kn (buildS i_IsGrid_l0_p [.i t25, .i t26, .i h0_0, .f h0_1, .f h0_2])) (K .ret (buildS i_IsGrid_l0_o0 [.i h0_0, .f h0_1, .f h0_2])) (K (.exit 0) (buildS i_IsGrid_l0_o1 [.i h0_0, .f h0_1, .f h0_2])) := by kernel_rfl
theorem i_IsGrid_l0_loop {α : Type} (N : Nat) (t25 : Int) (h0_0 : Int) (h0_1 : Nat → Int) (h0_2 : Nat → Int) (K : AExit → St → Option α) : ∀ (m : Nat) (t26 : Int),
    loopN (trimSt ((A_i_IsGrid_l0 α N).ann 74 4).head ((A_i_IsGrid_l0 α N).ann 74 4).grow 1) (bodyK Try.prog (A_i_IsGrid_l0 α N) 1 0 74 Try.f74 4) m (buildS i_IsGrid_l0_p [.i t25, .i t26, .i h0_0, .f h0_1, .f h0_2]) (leaveLoop ((A_i_IsGrid_l0 α N).ann 74 4) 1 K) = i_IsGrid_l0 none t25 h0_0 h0_1 h0_2 m t26 (K .ret (buildS i_IsGrid_l0_o0 [.i h0_0, .f h0_1, .f h0_2])) (K (.exit 0) (buildS i_IsGrid_l0_o1 [.i h0_0, .f h0_1, .f h0_2])) := by
  intro m
  induction m with
  | zero => intros; rfl
  | succ m ih =>
    intro t26
    rw [loopN_round]
    refine (i_IsGrid_l0_round N t25 t26 h0_0 h0_1 h0_2 _ K).trans ?_
    simp only [ih]
    rfl
def E_i_IsGrid_l0 (α : Type) (N : Nat) : Env α := (A_i_IsGrid_l0 α N).addLoop2 74 4 (loopSum2 ((A_i_IsGrid_l0 α N).ann 74 4) 0 i_IsGrid_l0_p (fun l K => match l with
    | [.i t25, .i t26, .i h0_0, .f h0_1, .f h0_2] => i_IsGrid_l0 none t25 h0_0 h0_1 h0_2 N t26 (K .ret (buildS i_IsGrid_l0_o0 [.i h0_0, .f h0_1, .f h0_2])) (K (.exit 0) (buildS i_IsGrid_l0_o1 [.i h0_0, .f h0_1, .f h0_2]))
    | _ => none) ((A_i_IsGrid_l0 α N).ls 74 4))
theorem E_i_IsGrid_l0_ok {α : Type} (N : Nat) : EnvOk Try.prog (E_i_IsGrid_l0 α N) := (A_i_IsGrid_l0_ok N).addLoop2 Try.func74 (by kernel_rfl) (loopSum_ok prog_mixed prog_names (A_i_IsGrid_l0_ok N) Try.func74 (by kernel_rfl) (d := 1) (ro := 0) fun l K r h => by
  split at h
  · exact (i_IsGrid_l0_loop N _ _ _ _ K N _).trans h
  · cases h)

/-- impl.IsGrid -/
def i_IsGrid_a : SPat := ⟨[.agg [.vals [.int .i64], .ints .u8 8, .ints .u8 8]], []⟩
def i_IsGrid_r0 : SPat := ⟨[.bool], []⟩
theorem i_IsGrid_run {α : Type} (N : Nat) (g_0 : Int) (g_1 : Nat → Int) (g_2 : Nat → Int) (K : AV → Heap → Option α) :
    callK Try.prog (E_i_IsGrid_l0 α N) 1 74 0 (buildS i_IsGrid_a [.i g_0, .f g_1, .f g_2]).t (buildS i_IsGrid_a [.i g_0, .f g_1, .f g_2]).h K = i_IsGrid none N g_0 g_1 g_2 (fun r__ => retK (buildS i_IsGrid_r0 [.b r__]) K) := by kernel_rfl
def E_i_IsGrid (α : Type) (N : Nat) : Env α := (E_i_IsGrid_l0 α N).addFun 74 true 0 i_IsGrid_a (fun l K => match l with
    | [.i g_0, .f g_1, .f g_2] => i_IsGrid none N g_0 g_1 g_2 (fun r__ => retK (buildS i_IsGrid_r0 [.b r__]) K)
    | _ => none)
theorem E_i_IsGrid_ok {α : Type} (N : Nat) : EnvOk Try.prog (E_i_IsGrid α N) := (E_i_IsGrid_l0_ok N).addFun prog_mixed prog_names (d := 1) fun l K r h => by
  split at h
  · exact (i_IsGrid_run N _ _ _ K).trans h
  · cases h

def A_i_Grid_relations_l0 (α : Type) (N : Nat) : Env α := (E_i_IsGrid α N).addAnn 70 3 { head := [1, 3, 10, 11], grow := [3], out := [3], ret := [2] }
theorem A_i_Grid_relations_l0_ok {α : Type} (N : Nat) : EnvOk Try.prog (A_i_Grid_relations_l0 α N) := (E_i_IsGrid_ok N).addAnn

def A_i_Grid_relations_l1 (α : Type) (N : Nat) : Env α := (A_i_Grid_relations_l0 α N).addAnn 70 7 { head := [1, 3, 4, 5, 10, 11, 16, 17], grow := [5], out := [1, 3, 5, 10, 11], ret := [2] }
theorem A_i_Grid_relations_l1_ok {α : Type} (N : Nat) : EnvOk Try.prog (A_i_Grid_relations_l1 α N) := (A_i_Grid_relations_l0_ok N).addAnn

/-- (impl.Grid).relations, loop -/
def i_Grid_relations_l1_p : SPat := ⟨[.undef, .ptr ⟨⟨0, 0⟩, 0, 0, 1⟩, .undef, .sliceV 2 0 0 1 false, .int .i64, .sliceV 3 0 0 1 false, .undef, .undef, .undef, .undef, .int .i64, .int .i64, .undef, .undef, .undef, .undef, .int .i64, .int .i64] ++ List.replicate 41 .undef, [[.vals [.int .i64], .ints .u8 8, .ints .u8 8], [.pool .i64], [.hdr 1], [.vec .i64]]⟩
def i_Grid_relations_l1_o0 : SPat := ⟨[.undef, .ptr ⟨⟨0, 0⟩, 0, 0, 1⟩, .undef, .sliceV 2 0 0 1 false, .undef, .sliceV 3 0 0 1 false, .undef, .undef, .undef, .undef, .int .i64, .int .i64] ++ List.replicate 47 .undef, [[.vals [.int .i64], .ints .u8 8, .ints .u8 8], [.pool .i64], [.hdr 1], [.vec .i64]]⟩
theorem i_Grid_relations_l1_round {α : Type} (N : Nat) (out_n : Nat) (out_l : Nat) (out_c : Nat) (r_ : Int) (list_n : Nat) (list_l : Nat) (list_c : Nat) (t10 : Int) (t11 : Int) (t16 : Int) (t17 : Int) (h0_0 : Int) (h0_1 : Nat → Int) (h0_2 : Nat → Int) (h1 : List (List Int)) (h2 : List (Nat × Nat)) (h3 : List Int) (kn : St → Option α) (K : AExit → St → Option α) :
    roundK Try.prog (A_i_Grid_relations_l1 α N) 1 0 70 Try.f70 7 4 (buildS i_Grid_relations_l1_p [.n out_n, .n out_l, .n out_c, .i r_, .n list_n, .n list_l, .n list_c, .i t10, .i t11, .i t16, .i t17, .i h0_0, .f h0_1, .f h0_2, .r h1, .p h2, .l h3]) kn K = i_Grid_relations_l1_s none out_n out_l out_c r_ t10 t11 t16 h0_0 h0_1 h0_2 h1 h2 list_n list_l list_c t17 h3 (fun list_n list_l list_c t17 h3 => kn (buildS i_Grid_relations_l1_p [.n out_n, .n out_l, .n out_c, .i r_, .n list_n, .n list_l, .n list_c, .i t10, .i t11, .i t16, .i t17, .i h0_0, .f h0_1, .f h0_2, .r h1, .p h2, .l h3])) (fun list_n_ list_l_ list_c_ h3_ => K (.exit 2) (buildS i_Grid_relations_l1_o0 [.n out_n, .n out_l, .n out_c, .n list_n_, .n list_l_, .n list_c_, .i t10, .i t11, .i h0_0, .f h0_1, .f h0_2, .r h1, .p h2, .l h3_])) := by kernel_rfl
theorem i_Grid_relations_l1_loop {α : Type} (N : Nat) (out_n : Nat) (out_l : Nat) (out_c : Nat) (r_ : Int) (t10 : Int) (t11 : Int) (t16 : Int) (h0_0 : Int) (h0_1 : Nat → Int) (h0_2 : Nat → Int) (h1 : List (List Int)) (h2 : List (Nat × Nat)) (K : AExit → St → Option α) : ∀ (m : Nat) (list_n : Nat) (list_l : Nat) (list_c : Nat) (t17 : Int) (h3 : List Int),
    loopN (trimSt ((A_i_Grid_relations_l1 α N).ann 70 7).head ((A_i_Grid_relations_l1 α N).ann 70 7).grow 4) (bodyK Try.prog (A_i_Grid_relations_l1 α N) 1 0 70 Try.f70 7) m (buildS i_Grid_relations_l1_p [.n out_n, .n out_l, .n out_c, .i r_, .n list_n, .n list_l, .n list_c, .i t10, .i t11, .i t16, .i t17, .i h0_0, .f h0_1, .f h0_2, .r h1, .p h2, .l h3]) (leaveLoop ((A_i_Grid_relations_l1 α N).ann 70 7) 4 K) = i_Grid_relations_l1 none out_n out_l out_c r_ t10 t11 t16 h0_0 h0_1 h0_2 h1 h2 m list_n list_l list_c t17 h3 (fun list_n_ list_l_ list_c_ h3_ => K (.exit 2) (buildS i_Grid_relations_l1_o0 [.n out_n, .n out_l, .n out_c, .n list_n_, .n list_l_, .n list_c_, .i t10, .i t11, .i h0_0, .f h0_1, .f h0_2, .r h1, .p h2, .l h3_])) := by
  intro m
  induction m with
  | zero => intros; rfl
  | succ m ih =>
    intro list_n list_l list_c t17 h3
    rw [loopN_round]
    refine (i_Grid_relations_l1_round N out_n out_l out_c r_ list_n list_l list_c t10 t11 t16 t17 h0_0 h0_1 h0_2 h1 h2 h3 _ K).trans ?_
    simp only [ih]
    rfl
def E_i_Grid_relations_l1 (α : Type) (N : Nat) : Env α := (A_i_Grid_relations_l1 α N).addLoop2 70 7 (loopSum2 ((A_i_Grid_relations_l1 α N).ann 70 7) 0 i_Grid_relations_l1_p (fun l K => match l with
    | [.n out_n, .n out_l, .n out_c, .i r_, .n list_n, .n list_l, .n list_c, .i t10, .i t11, .i t16, .i t17, .i h0_0, .f h0_1, .f h0_2, .r h1, .p h2, .l h3] => i_Grid_relations_l1 none out_n out_l out_c r_ t10 t11 t16 h0_0 h0_1 h0_2 h1 h2 N list_n list_l list_c t17 h3 (fun list_n_ list_l_ list_c_ h3_ => K (.exit 2) (buildS i_Grid_relations_l1_o0 [.n out_n, .n out_l, .n out_c, .n list_n_, .n list_l_, .n list_c_, .i t10, .i t11, .i h0_0, .f h0_1, .f h0_2, .r h1, .p h2, .l h3_]))
    | _ => none) ((A_i_Grid_relations_l1 α N).ls 70 7))
theorem E_i_Grid_relations_l1_ok {α : Type} (N : Nat) : EnvOk Try.prog (E_i_Grid_relations_l1 α N) := (A_i_Grid_relations_l1_ok N).addLoop2 Try.func70 (by kernel_rfl) (loopSum_ok prog_mixed prog_names (A_i_Grid_relations_l1_ok N) Try.func70 (by kernel_rfl) (d := 1) (ro := 0) fun l K r h => by
  split at h
  · exact (i_Grid_relations_l1_loop N _ _ _ _ _ _ _ _ _ _ _ _ K N _ _ _ _ _).trans h
  · cases h)

/-- (impl.Grid).relations, loop -/
def i_Grid_relations_l0_p : SPat := ⟨[.undef, .ptr ⟨⟨0, 0⟩, 0, 0, 1⟩, .undef, .sliceV 2 0 0 1 false, .undef, .undef, .undef, .undef, .undef, .undef, .int .i64, .int .i64] ++ List.replicate 47 .undef, [[.vals [.int .i64], .ints .u8 8, .ints .u8 8], [.pool .i64], [.hdr 1]]⟩
def i_Grid_relations_l0_o0 : SPat := ⟨[.undef, .undef, .undef, .sliceV 2 0 0 1 false] ++ List.replicate 55 .undef, [[.vals [.int .i64], .ints .u8 8, .ints .u8 8], [.pool .i64], [.hdr 1]]⟩
theorem i_Grid_relations_l0_round {α : Type} (N : Nat) (out_n : Nat) (out_l : Nat) (out_c : Nat) (t10 : Int) (t11 : Int) (h0_0 : Int) (h0_1 : Nat → Int) (h0_2 : Nat → Int) (h1 : List (List Int)) (h2 : List (Nat × Nat)) (kn : St → Option α) (K : AExit → St → Option α) :
    roundK Try.prog (E_i_Grid_relations_l1 α N) 1 0 70 Try.f70 3 3 (buildS i_Grid_relations_l0_p [.n out_n, .n out_l, .n out_c, .i t10, .i t11, .i h0_0, .f h0_1, .f h0_2, .r h1, .p h2]) kn K = i_Grid_relations_l0_s none N t10 h0_0 h0_1 h0_2 out_n out_l out_c t11 h1 h2 (fun out_n out_l out_c t11 h1 h2 => kn (buildS i_Grid_relations_l0_p [.n out_n, .n out_l, .n out_c, .i t10, .i t11, .i h0_0, .f h0_1, .f h0_2, .r h1, .p h2])) (fun out_n_ out_l_ out_c_ h1_ h2_ => K (.exit 0) (buildS i_Grid_relations_l0_o0 [.n out_n_, .n out_l_, .n out_c_, .i h0_0, .f h0_1, .f h0_2, .r h1_, .p h2_])) := by kernel_rfl
theorem i_Grid_relations_l0_loop {α : Type} (N : Nat) (t10 : Int) (h0_0 : Int) (h0_1 : Nat → Int) (h0_2 : Nat → Int) (K : AExit → St → Option α) : ∀ (m : Nat) (out_n : Nat) (out_l : Nat) (out_c : Nat) (t11 : Int) (h1 : List (List Int)) (h2 : List (Nat × Nat)),
    loopN (trimSt ((E_i_Grid_relations_l1 α N).ann 70 3).head ((E_i_Grid_relations_l1 α N).ann 70 3).grow 3) (bodyK Try.prog (E_i_Grid_relations_l1 α N) 1 0 70 Try.f70 3) m (buildS i_Grid_relations_l0_p [.n out_n, .n out_l, .n out_c, .i t10, .i t11, .i h0_0, .f h0_1, .f h0_2, .r h1, .p h2]) (leaveLoop ((E_i_Grid_relations_l1 α N).ann 70 3) 3 K) = i_Grid_relations_l0 none N t10 h0_0 h0_1 h0_2 m out_n out_l out_c t11 h1 h2 (fun out_n_ out_l_ out_c_ h1_ h2_ => K (.exit 0) (buildS i_Grid_relations_l0_o0 [.n out_n_, .n out_l_, .n out_c_, .i h0_0, .f h0_1, .f h0_2, .r h1_, .p h2_])) := by
  intro m
  induction m with
  | zero => intros; rfl
  | succ m ih =>
    intro out_n out_l out_c t11 h1 h2
    rw [loopN_round]
    refine (i_Grid_relations_l0_round N out_n out_l out_c t10 t11 h0_0 h0_1 h0_2 h1 h2 _ K).trans ?_
    simp only [ih]
    rfl
def E_i_Grid_relations_l0 (α : Type) (N : Nat) : Env α := (E_i_Grid_relations_l1 α N).addLoop2 70 3 (loopSum2 ((E_i_Grid_relations_l1 α N).ann 70 3) 0 i_Grid_relations_l0_p (fun l K => match l with
    | [.n out_n, .n out_l, .n out_c, .i t10, .i t11, .i h0_0, .f h0_1, .f h0_2, .r h1, .p h2] => i_Grid_relations_l0 none N t10 h0_0 h0_1 h0_2 N out_n out_l out_c t11 h1 h2 (fun out_n_ out_l_ out_c_ h1_ h2_ => K (.exit 0) (buildS i_Grid_relations_l0_o0 [.n out_n_, .n out_l_, .n out_c_, .i h0_0, .f h0_1, .f h0_2, .r h1_, .p h2_]))
    | _ => none) ((E_i_Grid_relations_l1 α N).ls 70 3))
theorem E_i_Grid_relations_l0_ok {α : Type} (N : Nat) : EnvOk Try.prog (E_i_Grid_relations_l0 α N) := (E_i_Grid_relations_l1_ok N).addLoop2 Try.func70 (by kernel_rfl) (loopSum_ok prog_mixed prog_names (E_i_Grid_relations_l1_ok N) Try.func70 (by kernel_rfl) (d := 1) (ro := 0) fun l K r h => by
  split at h
  · exact (i_Grid_relations_l0_loop N _ _ _ _ K N _ _ _ _ _ _).trans h
  · cases h)

/-- (impl.Grid).relations -/
def i_Grid_relations_a : SPat := ⟨[.agg [.vals [.int .i64], .ints .u8 8, .ints .u8 8]], []⟩
def i_Grid_relations_r0 : SPat := ⟨[.sliceV 0 0 0 1 false], [[.hdr 1], [.pool .i64]]⟩
theorem i_Grid_relations_run {α : Type} (N : Nat) (g_0 : Int) (g_1 : Nat → Int) (g_2 : Nat → Int) (K : AV → Heap → Option α) :
    callK Try.prog (E_i_Grid_relations_l0 α N) 1 70 0 (buildS i_Grid_relations_a [.i g_0, .f g_1, .f g_2]).t (buildS i_Grid_relations_a [.i g_0, .f g_1, .f g_2]).h K = i_Grid_relations none N g_0 g_1 g_2 (fun r_n_ r_l_ r_c_ h0_ h1_ => retK (buildS i_Grid_relations_r0 [.n r_n_, .n r_l_, .n r_c_, .p h0_, .r h1_]) K) := by kernel_rfl
def E_i_Grid_relations (α : Type) (N : Nat) : Env α := (E_i_Grid_relations_l0 α N).addFun 70 true 0 i_Grid_relations_a (fun l K => match l with
    | [.i g_0, .f g_1, .f g_2] => i_Grid_relations none N g_0 g_1 g_2 (fun r_n_ r_l_ r_c_ h0_ h1_ => retK (buildS i_Grid_relations_r0 [.n r_n_, .n r_l_, .n r_c_, .p h0_, .r h1_]) K)
    | _ => none)
theorem E_i_Grid_relations_ok {α : Type} (N : Nat) : EnvOk Try.prog (E_i_Grid_relations α N) := (E_i_Grid_relations_l0_ok N).addFun prog_mixed prog_names (d := 1) fun l K r h => by
  split at h
  · exact (i_Grid_relations_run N _ _ _ K).trans h
  · cases h

def A_w_eqInt64S_l0 (α : Type) (N : Nat) : Env α := (E_i_Grid_relations α N).addAnn 42 4 { head := [0, 1, 5], grow := [], out := [], ret := [4] }
theorem A_w_eqInt64S_l0_ok {α : Type} (N : Nat) : EnvOk Try.prog (A_w_eqInt64S_l0 α N) := (E_i_Grid_relations_ok N).addAnn

def A_w_toInt64S_l0 (α : Type) (N : Nat) : Env α := (A_w_eqInt64S_l0 α N).addAnn 40 3 { head := [0, 3, 4], grow := [], out := [3], ret := [2] }
theorem A_w_toInt64S_l0_ok {α : Type} (N : Nat) : EnvOk Try.prog (A_w_toInt64S_l0 α N) := (A_w_eqInt64S_l0_ok N).addAnn

/-- laws.toInt64S, loop -/
def w_toInt64S_l0_p : SPat := ⟨[.sliceV 0 0 0 1 false, .undef, .undef, .sliceV 1 0 0 1 true, .int .i64] ++ List.replicate 17 .undef, [[.intsV .i64], [.intsV .i64]]⟩
def w_toInt64S_l0_o0 : SPat := ⟨[.undef, .undef, .undef, .sliceV 1 0 0 1 true] ++ List.replicate 18 .undef, [[.intsV .i64], [.intsV .i64]]⟩
theorem w_toInt64S_l0_round {α : Type} (N : Nat) (a_n : Nat) (a_l : Nat) (a_c : Nat) (out_n : Nat) (out_l : Nat) (out_c : Nat) (i : Int) (h0_n : Nat) (h0 : Nat → Int) (h1_n : Nat) (h1 : Nat → Int) (kn : St → Option α) (K : AExit → St → Option α) :
    roundK Try.prog (A_w_toInt64S_l0 α N) 1 1 40 Try.f40 3 2 (buildS w_toInt64S_l0_p [.n a_n, .n a_l, .n a_c, .n out_n, .n out_l, .n out_c, .i i, .n h0_n, .f h0, .n h1_n, .f h1]) kn K = w_toInt64S_l0_s none a_n a_l a_c out_n out_l out_c h0_n h0 h1_n i h1 (fun i h1 => kn (buildS w_toInt64S_l0_p [.n a_n, .n a_l, .n a_c, .n out_n, .n out_l, .n out_c, .i i, .n h0_n, .f h0, .n h1_n, .f h1])) (fun h1_ => K (.exit 0) (buildS w_toInt64S_l0_o0 [.n out_n, .n out_l, .n out_c, .n h0_n, .f h0, .n h1_n, .f h1_])) := by kernel_rfl
theorem w_toInt64S_l0_loop {α : Type} (N : Nat) (a_n : Nat) (a_l : Nat) (a_c : Nat) (out_n : Nat) (out_l : Nat) (out_c : Nat) (h0_n : Nat) (h0 : Nat → Int) (h1_n : Nat) (K : AExit → St → Option α) : ∀ (m : Nat) (i : Int) (h1 : Nat → Int),
    loopN (trimSt ((A_w_toInt64S_l0 α N).ann 40 3).head ((A_w_toInt64S_l0 α N).ann 40 3).grow 2) (bodyK Try.prog (A_w_toInt64S_l0 α N) 1 1 40 Try.f40 3) m (buildS w_toInt64S_l0_p [.n a_n, .n a_l, .n a_c, .n out_n, .n out_l, .n out_c, .i i, .n h0_n, .f h0, .n h1_n, .f h1]) (leaveLoop ((A_w_toInt64S_l0 α N).ann 40 3) 2 K) = w_toInt64S_l0 none a_n a_l a_c out_n out_l out_c h0_n h0 h1_n m i h1 (fun h1_ => K (.exit 0) (buildS w_toInt64S_l0_o0 [.n out_n, .n out_l, .n out_c, .n h0_n, .f h0, .n h1_n, .f h1_])) := by
  intro m
  induction m with
  | zero => intros; rfl
  | succ m ih =>
    intro i h1
    rw [loopN_round]
    refine (w_toInt64S_l0_round N a_n a_l a_c out_n out_l out_c i h0_n h0 h1_n h1 _ K).trans ?_
    simp only [ih]
    rfl
def E_w_toInt64S_l0 (α : Type) (N : Nat) : Env α := (A_w_toInt64S_l0 α N).addLoop2 40 3 (loopSum2 ((A_w_toInt64S_l0 α N).ann 40 3) 1 w_toInt64S_l0_p (fun l K => match l with
    | [.n a_n, .n a_l, .n a_c, .n out_n, .n out_l, .n out_c, .i i, .n h0_n, .f h0, .n h1_n, .f h1] => w_toInt64S_l0 none a_n a_l a_c out_n out_l out_c h0_n h0 h1_n N i h1 (fun h1_ => K (.exit 0) (buildS w_toInt64S_l0_o0 [.n out_n, .n out_l, .n out_c, .n h0_n, .f h0, .n h1_n, .f h1_]))
    | _ => none) ((A_w_toInt64S_l0 α N).ls 40 3))
theorem E_w_toInt64S_l0_ok {α : Type} (N : Nat) : EnvOk Try.prog (E_w_toInt64S_l0 α N) := (A_w_toInt64S_l0_ok N).addLoop2 Try.func40 (by kernel_rfl) (loopSum_ok prog_mixed prog_names (A_w_toInt64S_l0_ok N) Try.func40 (by kernel_rfl) (d := 1) (ro := 1) fun l K r h => by
  split at h
  · exact (w_toInt64S_l0_loop N _ _ _ _ _ _ _ _ _ K N _ _).trans h
  · cases h)

/-- laws.toInt64S -/
def w_toInt64S_a : SPat := ⟨[.sliceV 0 0 0 1 false], [[.intsV .i64]]⟩
def w_toInt64S_r0 : SPat := ⟨[.sliceV 1 0 0 1 true], [[.intsV .i64], [.intsV .i64]]⟩
theorem w_toInt64S_run {α : Type} (N : Nat) (a_n : Nat) (a_l : Nat) (a_c : Nat) (h0_n : Nat) (h0 : Nat → Int) (K : AV → Heap → Option α) :
    callK Try.prog (E_w_toInt64S_l0 α N) 1 40 1 (buildS w_toInt64S_a [.n a_n, .n a_l, .n a_c, .n h0_n, .f h0]).t (buildS w_toInt64S_a [.n a_n, .n a_l, .n a_c, .n h0_n, .f h0]).h K = w_toInt64S none N a_n a_l a_c h0_n h0 (fun r_n_ r_l_ r_c_ h1_n_ h1_ => retK (buildS w_toInt64S_r0 [.n r_n_, .n r_l_, .n r_c_, .n h0_n, .f h0, .n h1_n_, .f h1_]) K) := by kernel_rfl
def E_w_toInt64S (α : Type) (N : Nat) : Env α := (E_w_toInt64S_l0 α N).addFun 40 true 1 w_toInt64S_a (fun l K => match l with
    | [.n a_n, .n a_l, .n a_c, .n h0_n, .f h0] => w_toInt64S none N a_n a_l a_c h0_n h0 (fun r_n_ r_l_ r_c_ h1_n_ h1_ => retK (buildS w_toInt64S_r0 [.n r_n_, .n r_l_, .n r_c_, .n h0_n, .f h0, .n h1_n_, .f h1_]) K)
    | _ => none)
theorem E_w_toInt64S_ok {α : Type} (N : Nat) : EnvOk Try.prog (E_w_toInt64S α N) := (E_w_toInt64S_l0_ok N).addFun prog_mixed prog_names (d := 1) fun l K r h => by
  split at h
  · exact (w_toInt64S_run N _ _ _ _ _ K).trans h
  · cases h

def A_s_l08Prime_l0 (α : Type) (N : Nat) : Env α := (E_w_toInt64S α N).addAnn 136 4 { head := [0, 3], grow := [], out := [], ret := [2] }
theorem A_s_l08Prime_l0_ok {α : Type} (N : Nat) : EnvOk Try.prog (A_s_l08Prime_l0 α N) := (E_w_toInt64S_ok N).addAnn

/-- spec.l08Prime, loop -/
def s_l08Prime_l0_p : SPat := ⟨[.int .i64, .undef, .undef, .int .i64] ++ List.replicate 12 .undef, []⟩
def s_l08Prime_l0_o0 : SPat := ⟨[.undef, .undef, .boolC false] ++ List.replicate 13 .undef, []⟩
def s_l08Prime_l0_o1 : SPat := ⟨[] ++ List.replicate 16 .undef, []⟩
theorem s_l08Prime_l0_round {α : Type} (N : Nat) (p : Int) (k : Int) (kn : St → Option α) (K : AExit → St → Option α) :
    roundK Try.prog (A_s_l08Prime_l0 α N) 1 0 136 Try.f136 4 0 (buildS s_l08Prime_l0_p [.i p, .i k]) kn K = s_l08Prime_l0_s none p k (fun k => kn (buildS s_l08Prime_l0_p [.i p, .i k])) (K .ret (buildS s_l08Prime_l0_o0 [])) (K (.exit 0) (buildS s_l08Prime_l0_o1 [])) := by kernel_rfl
theorem s_l08Prime_l0_loop {α : Type} (N : Nat) (p : Int) (K : AExit → St → Option α) : ∀ (m : Nat) (k : Int),
    loopN (trimSt ((A_s_l08Prime_l0 α N).ann 136 4).head ((A_s_l08Prime_l0 α N).ann 136 4).grow 0) (bodyK Try.prog (A_s_l08Prime_l0 α N) 1 0 136 Try.f136 4) m (buildS s_l08Prime_l0_p [.i p, .i k]) (leaveLoop ((A_s_l08Prime_l0 α N).ann 136 4) 0 K) = s_l08Prime_l0 none p m k (K .ret (buildS s_l08Prime_l0_o0 [])) (K (.exit 0) (buildS s_l08Prime_l0_o1 [])) := by
  intro m
  induction m with
  | zero => intros; rfl
  | succ m ih =>
    intro k
    rw [loopN_round]
    refine (s_l08Prime_l0_round N p k _ K).trans ?_
    simp only [ih]
    rfl
def E_s_l08Prime_l0 (α : Type) (N : Nat) : Env α := (A_s_l08Prime_l0 α N).addLoop2 136 4 (loopSum2 ((A_s_l08Prime_l0 α N).ann 136 4) 0 s_l08Prime_l0_p (fun l K => match l with
    | [.i p, .i k] => s_l08Prime_l0 none p N k (K .ret (buildS s_l08Prime_l0_o0 [])) (K (.exit 0) (buildS s_l08Prime_l0_o1 []))
    | _ => none) ((A_s_l08Prime_l0 α N).ls 136 4))
theorem E_s_l08Prime_l0_ok {α : Type} (N : Nat) : EnvOk Try.prog (E_s_l08Prime_l0 α N) := (A_s_l08Prime_l0_ok N).addLoop2 Try.func136 (by kernel_rfl) (loopSum_ok prog_mixed prog_names (A_s_l08Prime_l0_ok N) Try.func136 (by kernel_rfl) (d := 1) (ro := 0) fun l K r h => by
  split at h
  · exact (s_l08Prime_l0_loop N _ K N _).trans h
  · cases h)

/-- spec.l08Prime -/
def s_l08Prime_a : SPat := ⟨[.int .i64], []⟩
def s_l08Prime_r0 : SPat := ⟨[.bool], []⟩
theorem s_l08Prime_run {α : Type} (N : Nat) (p : Int) (K : AV → Heap → Option α) :
    callK Try.prog (E_s_l08Prime_l0 α N) 1 136 0 (buildS s_l08Prime_a [.i p]).t (buildS s_l08Prime_a [.i p]).h K = s_l08Prime none N p (fun r__ => retK (buildS s_l08Prime_r0 [.b r__]) K) := by kernel_rfl
def E_s_l08Prime (α : Type) (N : Nat) : Env α := (E_s_l08Prime_l0 α N).addFun 136 true 0 s_l08Prime_a (fun l K => match l with
    | [.i p] => s_l08Prime none N p (fun r__ => retK (buildS s_l08Prime_r0 [.b r__]) K)
    | _ => none)
theorem E_s_l08Prime_ok {α : Type} (N : Nat) : EnvOk Try.prog (E_s_l08Prime α N) := (E_s_l08Prime_l0_ok N).addFun prog_mixed prog_names (d := 1) fun l K r h => by
  split at h
  · exact (s_l08Prime_run N _ K).trans h
  · cases h

/-- spec.l08Code -/
def s_l08Code_a : SPat := ⟨[.agg [.vals [.int .i64], .ints .u8 8, .ints .u8 8], .int .i64], []⟩
def s_l08Code_r0 : SPat := ⟨[.int .i64], []⟩
theorem s_l08Code_run {α : Type} (N : Nat) (g_0 : Int) (g_1 : Nat → Int) (g_2 : Nat → Int) (p : Int) (K : AV → Heap → Option α) :
    callK Try.prog (E_s_l08Prime α N) 1 91 0 (buildS s_l08Code_a [.i g_0, .f g_1, .f g_2, .i p]).t (buildS s_l08Code_a [.i g_0, .f g_1, .f g_2, .i p]).h K = s_l08Code none N g_0 g_1 g_2 p (fun r__ => retK (buildS s_l08Code_r0 [.i r__]) K) := by kernel_rfl
def E_s_l08Code (α : Type) (N : Nat) : Env α := (E_s_l08Prime α N).addFun 91 true 0 s_l08Code_a (fun l K => match l with
    | [.i g_0, .f g_1, .f g_2, .i p] => s_l08Code none N g_0 g_1 g_2 p (fun r__ => retK (buildS s_l08Code_r0 [.i r__]) K)
    | _ => none)
theorem E_s_l08Code_ok {α : Type} (N : Nat) : EnvOk Try.prog (E_s_l08Code α N) := (E_s_l08Prime_ok N).addFun prog_mixed prog_names (d := 1) fun l K r h => by
  split at h
  · exact (s_l08Code_run N _ _ _ _ K).trans h
  · cases h

def A_s_IsColouring_l0 (α : Type) (N : Nat) : Env α := (E_s_l08Code α N).addAnn 39 5 { head := [1, 2, 3, 8, 9], grow := [], out := [1, 2, 3, 8], ret := [6, 7] }
theorem A_s_IsColouring_l0_ok {α : Type} (N : Nat) : EnvOk Try.prog (A_s_IsColouring_l0 α N) := (E_s_l08Code_ok N).addAnn

/-- spec.IsColouring, loop -/
def s_IsColouring_l0_p : SPat := ⟨[.undef, .int .i64, .sliceV 0 0 0 1 true, .ptr ⟨⟨1, 0⟩, 0, 0, 1⟩, .undef, .undef, .undef, .undef, .int .i64, .int .i64] ++ List.replicate 37 .undef, [[.intsV .i64], [.vals [.int .i64], .ints .u8 8, .ints .u8 8]]⟩
def s_IsColouring_l0_o0 : SPat := ⟨[.undef, .int .i64, .sliceV 0 0 0 1 true, .ptr ⟨⟨1, 0⟩, 0, 0, 1⟩, .undef, .undef, .undef, .undef, .int .i64] ++ List.replicate 38 .undef, [[.intsV .i64], [.vals [.int .i64], .ints .u8 8, .ints .u8 8]]⟩
theorem s_IsColouring_l0_round {α : Type} (N : Nat) (p : Int) (colours_n : Nat) (colours_l : Nat) (colours_c : Nat) (code : Int) (i : Int) (h0_n : Nat) (h0 : Nat → Int) (h1_0 : Int) (h1_1 : Nat → Int) (h1_2 : Nat → Int) (kn : St → Option α) (K : AExit → St → Option α) :
    roundK Try.prog (A_s_IsColouring_l0 α N) 1 1 39 Try.f39 5 2 (buildS s_IsColouring_l0_p [.i p, .n colours_n, .n colours_l, .n colours_c, .i code, .i i, .n h0_n, .f h0, .i h1_0, .f h1_1, .f h1_2]) kn K = s_IsColouring_l0_s none N p colours_n colours_l colours_c h0_n h0 h1_0 h1_1 h1_2 code i (fun code i => kn (buildS s_IsColouring_l0_p [.i p, .n colours_n, .n colours_l, .n colours_c, .i code, .i i, .n h0_n, .f h0, .i h1_0, .f h1_1, .f h1_2])) (fun code_ => K (.exit 0) (buildS s_IsColouring_l0_o0 [.i p, .n colours_n, .n colours_l, .n colours_c, .i code_, .n h0_n, .f h0, .i h1_0, .f h1_1, .f h1_2])) := by kernel_rfl
theorem s_IsColouring_l0_loop {α : Type} (N : Nat) (p : Int) (colours_n : Nat) (colours_l : Nat) (colours_c : Nat) (h0_n : Nat) (h0 : Nat → Int) (h1_0 : Int) (h1_1 : Nat → Int) (h1_2 : Nat → Int) (K : AExit → St → Option α) : ∀ (m : Nat) (code : Int) (i : Int),
    loopN (trimSt ((A_s_IsColouring_l0 α N).ann 39 5).head ((A_s_IsColouring_l0 α N).ann 39 5).grow 2) (bodyK Try.prog (A_s_IsColouring_l0 α N) 1 1 39 Try.f39 5) m (buildS s_IsColouring_l0_p [.i p, .n colours_n, .n colours_l, .n colours_c, .i code, .i i, .n h0_n, .f h0, .i h1_0, .f h1_1, .f h1_2]) (leaveLoop ((A_s_IsColouring_l0 α N).ann 39 5) 2 K) = s_IsColouring_l0 none N p colours_n colours_l colours_c h0_n h0 h1_0 h1_1 h1_2 m code i (fun code_ => K (.exit 0) (buildS s_IsColouring_l0_o0 [.i p, .n colours_n, .n colours_l, .n colours_c, .i code_, .n h0_n, .f h0, .i h1_0, .f h1_1, .f h1_2])) := by
  intro m
  induction m with
  | zero => intros; rfl
  | succ m ih =>
    intro code i
    rw [loopN_round]
    refine (s_IsColouring_l0_round N p colours_n colours_l colours_c code i h0_n h0 h1_0 h1_1 h1_2 _ K).trans ?_
    simp only [ih]
    rfl
def E_s_IsColouring_l0 (α : Type) (N : Nat) : Env α := (A_s_IsColouring_l0 α N).addLoop2 39 5 (loopSum2 ((A_s_IsColouring_l0 α N).ann 39 5) 1 s_IsColouring_l0_p (fun l K => match l with
    | [.i p, .n colours_n, .n colours_l, .n colours_c, .i code, .i i, .n h0_n, .f h0, .i h1_0, .f h1_1, .f h1_2] => s_IsColouring_l0 none N p colours_n colours_l colours_c h0_n h0 h1_0 h1_1 h1_2 N code i (fun code_ => K (.exit 0) (buildS s_IsColouring_l0_o0 [.i p, .n colours_n, .n colours_l, .n colours_c, .i code_, .n h0_n, .f h0, .i h1_0, .f h1_1, .f h1_2]))
    | _ => none) ((A_s_IsColouring_l0 α N).ls 39 5))
theorem E_s_IsColouring_l0_ok {α : Type} (N : Nat) : EnvOk Try.prog (E_s_IsColouring_l0 α N) := (A_s_IsColouring_l0_ok N).addLoop2 Try.func39 (by kernel_rfl) (loopSum_ok prog_mixed prog_names (A_s_IsColouring_l0_ok N) Try.func39 (by kernel_rfl) (d := 1) (ro := 1) fun l K r h => by
  split at h
  · exact (s_IsColouring_l0_loop N _ _ _ _ _ _ _ _ _ K N _ _).trans h
  · cases h)

def A_s_l08Good_l0 (α : Type) (N : Nat) : Env α := (E_s_IsColouring_l0 α N).addAnn 93 2 { head := [1, 2, 3, 7], grow := [], out := [], ret := [6] }
theorem A_s_l08Good_l0_ok {α : Type} (N : Nat) : EnvOk Try.prog (A_s_l08Good_l0 α N) := (E_s_IsColouring_l0_ok N).addAnn

def A_s_l08Good_l1 (α : Type) (N : Nat) : Env α := (A_s_l08Good_l0 α N).addAnn 93 6 { head := [1, 2, 3, 7, 8, 9, 10], grow := [], out := [1, 2, 3, 7, 9], ret := [6] }
theorem A_s_l08Good_l1_ok {α : Type} (N : Nat) : EnvOk Try.prog (A_s_l08Good_l1 α N) := (A_s_l08Good_l0_ok N).addAnn

/-- spec.l08Good, loop -/
def s_l08Good_l1_p : SPat := ⟨[.undef, .int .i64, .sliceV 0 0 0 1 true, .ptr ⟨⟨1, 0⟩, 0, 0, 1⟩, .undef, .undef, .undef, .int .i64, .sliceV 2 0 0 1 false, .int .i64, .int .i64] ++ List.replicate 34 .undef, [[.intsV .i64], [.vals [.int .i64], .ints .u8 8, .ints .u8 8], [.vec .i64]]⟩
def s_l08Good_l1_o0 : SPat := ⟨[.undef, .int .i64, .sliceV 0 0 0 1 true, .ptr ⟨⟨1, 0⟩, 0, 0, 1⟩, .undef, .undef, .undef, .int .i64, .undef, .int .i64] ++ List.replicate 35 .undef, [[.intsV .i64], [.vals [.int .i64], .ints .u8 8, .ints .u8 8], [.vec .i64]]⟩
theorem s_l08Good_l1_round {α : Type} (N : Nat) (p : Int) (colours_n : Nat) (colours_l : Nat) (colours_c : Nat) (r_ : Int) (list_n : Nat) (list_l : Nat) (list_c : Nat) (sum : Int) (i : Int) (h0_n : Nat) (h0 : Nat → Int) (h1_0 : Int) (h1_1 : Nat → Int) (h1_2 : Nat → Int) (h2 : List Int) (kn : St → Option α) (K : AExit → St → Option α) :
    roundK Try.prog (A_s_l08Good_l1 α N) 1 1 93 Try.f93 6 3 (buildS s_l08Good_l1_p [.i p, .n colours_n, .n colours_l, .n colours_c, .i r_, .n list_n, .n list_l, .n list_c, .i sum, .i i, .n h0_n, .f h0, .i h1_0, .f h1_1, .f h1_2, .l h2]) kn K = s_l08Good_l1_s none p colours_n colours_l colours_c r_ list_n list_l list_c h0_n h0 h1_0 h1_1 h1_2 h2 sum i (fun sum i => kn (buildS s_l08Good_l1_p [.i p, .n colours_n, .n colours_l, .n colours_c, .i r_, .n list_n, .n list_l, .n list_c, .i sum, .i i, .n h0_n, .f h0, .i h1_0, .f h1_1, .f h1_2, .l h2])) (fun sum_ => K (.exit 2) (buildS s_l08Good_l1_o0 [.i p, .n colours_n, .n colours_l, .n colours_c, .i r_, .i sum_, .n h0_n, .f h0, .i h1_0, .f h1_1, .f h1_2, .l h2])) := by kernel_rfl
theorem s_l08Good_l1_loop {α : Type} (N : Nat) (p : Int) (colours_n : Nat) (colours_l : Nat) (colours_c : Nat) (r_ : Int) (list_n : Nat) (list_l : Nat) (list_c : Nat) (h0_n : Nat) (h0 : Nat → Int) (h1_0 : Int) (h1_1 : Nat → Int) (h1_2 : Nat → Int) (h2 : List Int) (K : AExit → St → Option α) : ∀ (m : Nat) (sum : Int) (i : Int),
    loopN (trimSt ((A_s_l08Good_l1 α N).ann 93 6).head ((A_s_l08Good_l1 α N).ann 93 6).grow 3) (bodyK Try.prog (A_s_l08Good_l1 α N) 1 1 93 Try.f93 6) m (buildS s_l08Good_l1_p [.i p, .n colours_n, .n colours_l, .n colours_c, .i r_, .n list_n, .n list_l, .n list_c, .i sum, .i i, .n h0_n, .f h0, .i h1_0, .f h1_1, .f h1_2, .l h2]) (leaveLoop ((A_s_l08Good_l1 α N).ann 93 6) 3 K) = s_l08Good_l1 none p colours_n colours_l colours_c r_ list_n list_l list_c h0_n h0 h1_0 h1_1 h1_2 h2 m sum i (fun sum_ => K (.exit 2) (buildS s_l08Good_l1_o0 [.i p, .n colours_n, .n colours_l, .n colours_c, .i r_, .i sum_, .n h0_n, .f h0, .i h1_0, .f h1_1, .f h1_2, .l h2])) := by
  intro m
  induction m with
  | zero => intros; rfl
  | succ m ih =>
    intro sum i
    rw [loopN_round]
    refine (s_l08Good_l1_round N p colours_n colours_l colours_c r_ list_n list_l list_c sum i h0_n h0 h1_0 h1_1 h1_2 h2 _ K).trans ?_
    simp only [ih]
    rfl
def E_s_l08Good_l1 (α : Type) (N : Nat) : Env α := (A_s_l08Good_l1 α N).addLoop2 93 6 (loopSum2 ((A_s_l08Good_l1 α N).ann 93 6) 1 s_l08Good_l1_p (fun l K => match l with
    | [.i p, .n colours_n, .n colours_l, .n colours_c, .i r_, .n list_n, .n list_l, .n list_c, .i sum, .i i, .n h0_n, .f h0, .i h1_0, .f h1_1, .f h1_2, .l h2] => s_l08Good_l1 none p colours_n colours_l colours_c r_ list_n list_l list_c h0_n h0 h1_0 h1_1 h1_2 h2 N sum i (fun sum_ => K (.exit 2) (buildS s_l08Good_l1_o0 [.i p, .n colours_n, .n colours_l, .n colours_c, .i r_, .i sum_, .n h0_n, .f h0, .i h1_0, .f h1_1, .f h1_2, .l h2]))
    | _ => none) ((A_s_l08Good_l1 α N).ls 93 6))
theorem E_s_l08Good_l1_ok {α : Type} (N : Nat) : EnvOk Try.prog (E_s_l08Good_l1 α N) := (A_s_l08Good_l1_ok N).addLoop2 Try.func93 (by kernel_rfl) (loopSum_ok prog_mixed prog_names (A_s_l08Good_l1_ok N) Try.func93 (by kernel_rfl) (d := 1) (ro := 1) fun l K r h => by
  split at h
  · exact (s_l08Good_l1_loop N _ _ _ _ _ _ _ _ _ _ _ _ _ _ K N _ _).trans h
  · cases h)

/-- spec.l08Good, loop -/
def s_l08Good_l0_p : SPat := ⟨[.undef, .int .i64, .sliceV 0 0 0 1 true, .ptr ⟨⟨1, 0⟩, 0, 0, 1⟩, .undef, .undef, .undef, .int .i64] ++ List.replicate 37 .undef, [[.intsV .i64], [.vals [.int .i64], .ints .u8 8, .ints .u8 8]]⟩
def s_l08Good_l0_o0 : SPat := ⟨[.undef, .undef, .undef, .undef, .undef, .undef, .boolC false] ++ List.replicate 38 .undef, [[.intsV .i64], [.vals [.int .i64], .ints .u8 8, .ints .u8 8]]⟩
def s_l08Good_l0_o1 : SPat := ⟨[] ++ List.replicate 45 .undef, [[.intsV .i64], [.vals [.int .i64], .ints .u8 8, .ints .u8 8]]⟩
theorem s_l08Good_l0_round {α : Type} (N : Nat) (p : Int) (colours_n : Nat) (colours_l : Nat) (colours_c : Nat) (r_ : Int) (h0_n : Nat) (h0 : Nat → Int) (h1_0 : Int) (h1_1 : Nat → Int) (h1_2 : Nat → Int) (kn : St → Option α) (K : AExit → St → Option α) :
    roundK Try.prog (E_s_l08Good_l1 α N) 1 1 93 Try.f93 2 2 (buildS s_l08Good_l0_p [.i p, .n colours_n, .n colours_l, .n colours_c, .i r_, .n h0_n, .f h0, .i h1_0, .f h1_1, .f h1_2]) kn K = s_l08Good_l0_s none N p colours_n colours_l colours_c h0_n h0 h1_0 h1_1 h1_2 r_ (fun r_ => kn (buildS s_l08Good_l0_p [.i p, .n colours_n, .n colours_l, .n colours_c, .i r_, .n h0_n, .f h0, .i h1_0, .f h1_1, .f h1_2])) (K .ret (buildS s_l08Good_l0_o0 [.n h0_n, .f h0, .i h1_0, .f h1_1, .f h1_2])) (K (.exit 0) (buildS s_l08Good_l0_o1 [.n h0_n, .f h0, .i h1_0, .f h1_1, .f h1_2])) := by kernel_rfl
theorem s_l08Good_l0_loop {α : Type} (N : Nat) (p : Int) (colours_n : Nat) (colours_l : Nat) (colours_c : Nat) (h0_n : Nat) (h0 : Nat → Int) (h1_0 : Int) (h1_1 : Nat → Int) (h1_2 : Nat → Int) (K : AExit → St → Option α) : ∀ (m : Nat) (r_ : Int),
    loopN (trimSt ((E_s_l08Good_l1 α N).ann 93 2).head ((E_s_l08Good_l1 α N).ann 93 2).grow 2) (bodyK Try.prog (E_s_l08Good_l1 α N) 1 1 93 Try.f93 2) m (buildS s_l08Good_l0_p [.i p, .n colours_n, .n colours_l, .n colours_c, .i r_, .n h0_n, .f h0, .i h1_0, .f h1_1, .f h1_2]) (leaveLoop ((E_s_l08Good_l1 α N).ann 93 2) 2 K) = s_l08Good_l0 none N p colours_n colours_l colours_c h0_n h0 h1_0 h1_1 h1_2 m r_ (K .ret (buildS s_l08Good_l0_o0 [.n h0_n, .f h0, .i h1_0, .f h1_1, .f h1_2])) (K (.exit 0) (buildS s_l08Good_l0_o1 [.n h0_n, .f h0, .i h1_0, .f h1_1, .f h1_2])) := by
  intro m
  induction m with
  | zero => intros; rfl
  | succ m ih =>
    intro r_
    rw [loopN_round]
    refine (s_l08Good_l0_round N p colours_n colours_l colours_c r_ h0_n h0 h1_0 h1_1 h1_2 _ K).trans ?_
    simp only [ih]
    rfl
def E_s_l08Good_l0 (α : Type) (N : Nat) : Env α := (E_s_l08Good_l1 α N).addLoop2 93 2 (loopSum2 ((E_s_l08Good_l1 α N).ann 93 2) 1 s_l08Good_l0_p (fun l K => match l with
    | [.i p, .n colours_n, .n colours_l, .n colours_c, .i r_, .n h0_n, .f h0, .i h1_0, .f h1_1, .f h1_2] => s_l08Good_l0 none N p colours_n colours_l colours_c h0_n h0 h1_0 h1_1 h1_2 N r_ (K .ret (buildS s_l08Good_l0_o0 [.n h0_n, .f h0, .i h1_0, .f h1_1, .f h1_2])) (K (.exit 0) (buildS s_l08Good_l0_o1 [.n h0_n, .f h0, .i h1_0, .f h1_1, .f h1_2]))
    | _ => none) ((E_s_l08Good_l1 α N).ls 93 2))
theorem E_s_l08Good_l0_ok {α : Type} (N : Nat) : EnvOk Try.prog (E_s_l08Good_l0 α N) := (E_s_l08Good_l1_ok N).addLoop2 Try.func93 (by kernel_rfl) (loopSum_ok prog_mixed prog_names (E_s_l08Good_l1_ok N) Try.func93 (by kernel_rfl) (d := 1) (ro := 1) fun l K r h => by
  split at h
  · exact (s_l08Good_l0_loop N _ _ _ _ _ _ _ _ _ K N _).trans h
  · cases h)

/-- spec.l08Good -/
def s_l08Good_a : SPat := ⟨[.agg [.vals [.int .i64], .ints .u8 8, .ints .u8 8], .int .i64, .sliceV 0 0 0 1 true], [[.intsV .i64]]⟩
def s_l08Good_r0 : SPat := ⟨[.bool], [[.intsV .i64]]⟩
theorem s_l08Good_run {α : Type} (N : Nat) (g_0 : Int) (g_1 : Nat → Int) (g_2 : Nat → Int) (p : Int) (colours_n : Nat) (colours_l : Nat) (colours_c : Nat) (h0_n : Nat) (h0 : Nat → Int) (K : AV → Heap → Option α) :
    callK Try.prog (E_s_l08Good_l0 α N) 1 93 1 (buildS s_l08Good_a [.i g_0, .f g_1, .f g_2, .i p, .n colours_n, .n colours_l, .n colours_c, .n h0_n, .f h0]).t (buildS s_l08Good_a [.i g_0, .f g_1, .f g_2, .i p, .n colours_n, .n colours_l, .n colours_c, .n h0_n, .f h0]).h K = s_l08Good none N g_0 g_1 g_2 p colours_n colours_l colours_c h0_n h0 (fun r__ => retK (buildS s_l08Good_r0 [.b r__, .n h0_n, .f h0]) K) := by kernel_rfl
def E_s_l08Good (α : Type) (N : Nat) : Env α := (E_s_l08Good_l0 α N).addFun 93 true 1 s_l08Good_a (fun l K => match l with
    | [.i g_0, .f g_1, .f g_2, .i p, .n colours_n, .n colours_l, .n colours_c, .n h0_n, .f h0] => s_l08Good none N g_0 g_1 g_2 p colours_n colours_l colours_c h0_n h0 (fun r__ => retK (buildS s_l08Good_r0 [.b r__, .n h0_n, .f h0]) K)
    | _ => none)
theorem E_s_l08Good_ok {α : Type} (N : Nat) : EnvOk Try.prog (E_s_l08Good α N) := (E_s_l08Good_l0_ok N).addFun prog_mixed prog_names (d := 1) fun l K r h => by
  split at h
  · exact (s_l08Good_run N _ _ _ _ _ _ _ _ _ K).trans h
  · cases h

/-- spec.IsColouring -/
def s_IsColouring_a : SPat := ⟨[.agg [.vals [.int .i64], .ints .u8 8, .ints .u8 8], .int .i64, .sliceV 0 0 0 1 true], [[.intsV .i64]]⟩
def s_IsColouring_r0 : SPat := ⟨[.tuple [.bool, .int .i64]], [[.intsV .i64]]⟩
theorem s_IsColouring_run {α : Type} (N : Nat) (g_0 : Int) (g_1 : Nat → Int) (g_2 : Nat → Int) (p : Int) (colours_n : Nat) (colours_l : Nat) (colours_c : Nat) (h0_n : Nat) (h0 : Nat → Int) (K : AV → Heap → Option α) :
    callK Try.prog (E_s_l08Good α N) 1 39 1 (buildS s_IsColouring_a [.i g_0, .f g_1, .f g_2, .i p, .n colours_n, .n colours_l, .n colours_c, .n h0_n, .f h0]).t (buildS s_IsColouring_a [.i g_0, .f g_1, .f g_2, .i p, .n colours_n, .n colours_l, .n colours_c, .n h0_n, .f h0]).h K = s_IsColouring none N g_0 g_1 g_2 p colours_n colours_l colours_c h0_n h0 (fun r_0_ r_1_ => retK (buildS s_IsColouring_r0 [.b r_0_, .i r_1_, .n h0_n, .f h0]) K) := by kernel_rfl
def E_s_IsColouring (α : Type) (N : Nat) : Env α := (E_s_l08Good α N).addFun 39 true 1 s_IsColouring_a (fun l K => match l with
    | [.i g_0, .f g_1, .f g_2, .i p, .n colours_n, .n colours_l, .n colours_c, .n h0_n, .f h0] => s_IsColouring none N g_0 g_1 g_2 p colours_n colours_l colours_c h0_n h0 (fun r_0_ r_1_ => retK (buildS s_IsColouring_r0 [.b r_0_, .i r_1_, .n h0_n, .f h0]) K)
    | _ => none)
theorem E_s_IsColouring_ok {α : Type} (N : Nat) : EnvOk Try.prog (E_s_IsColouring α N) := (E_s_l08Good_ok N).addFun prog_mixed prog_names (d := 1) fun l K r h => by
  split at h
  · exact (s_IsColouring_run N _ _ _ _ _ _ _ _ _ K).trans h
  · cases h

def A_i_isPrime_l0 (α : Type) (N : Nat) : Env α := (E_s_IsColouring α N).addAnn 94 4 { head := [0, 3], grow := [], out := [], ret := [2] }
theorem A_i_isPrime_l0_ok {α : Type} (N : Nat) : EnvOk Try.prog (A_i_isPrime_l0 α N) := (E_s_IsColouring_ok N).addAnn

/-- impl.isPrime, loop -/
def i_isPrime_l0_p : SPat := ⟨[.int .i64, .undef, .undef, .int .i64] ++ List.replicate 14 .undef, []⟩
def i_isPrime_l0_o0 : SPat := ⟨[.undef, .undef, .boolC false] ++ List.replicate 15 .undef, []⟩
def i_isPrime_l0_o1 : SPat := ⟨[] ++ List.replicate 18 .undef, []⟩
theorem i_isPrime_l0_round {α : Type} (N : Nat) (p : Int) (d : Int) (kn : St → Option α) (K : AExit → St → Option α) :
    roundK Try.prog (A_i_isPrime_l0 α N) 1 0 94 Try.f94 4 0 (buildS i_isPrime_l0_p [.i p, .i d]) kn K = i_isPrime_l0_s none p d (fun d => kn (buildS i_isPrime_l0_p [.i p, .i d])) (K .ret (buildS i_isPrime_l0_o0 [])) (K (.exit 0) (buildS i_isPrime_l0_o1 [])) := by kernel_rfl
theorem i_isPrime_l0_loop {α : Type} (N : Nat) (p : Int) (K : AExit → St → Option α) : ∀ (m : Nat) (d : Int),
    loopN (trimSt ((A_i_isPrime_l0 α N).ann 94 4).head ((A_i_isPrime_l0 α N).ann 94 4).grow 0) (bodyK Try.prog (A_i_isPrime_l0 α N) 1 0 94 Try.f94 4) m (buildS i_isPrime_l0_p [.i p, .i d]) (leaveLoop ((A_i_isPrime_l0 α N).ann 94 4) 0 K) = i_isPrime_l0 none p m d (K .ret (buildS i_isPrime_l0_o0 [])) (K (.exit 0) (buildS i_isPrime_l0_o1 [])) := by
  intro m
  induction m with
  | zero => intros; rfl
  | succ m ih =>
    intro d
    rw [loopN_round]
    refine (i_isPrime_l0_round N p d _ K).trans ?_
    simp only [ih]
    rfl
def E_i_isPrime_l0 (α : Type) (N : Nat) : Env α := (A_i_isPrime_l0 α N).addLoop2 94 4 (loopSum2 ((A_i_isPrime_l0 α N).ann 94 4) 0 i_isPrime_l0_p (fun l K => match l with
    | [.i p, .i d] => i_isPrime_l0 none p N d (K .ret (buildS i_isPrime_l0_o0 [])) (K (.exit 0) (buildS i_isPrime_l0_o1 []))
    | _ => none) ((A_i_isPrime_l0 α N).ls 94 4))
theorem E_i_isPrime_l0_ok {α : Type} (N : Nat) : EnvOk Try.prog (E_i_isPrime_l0 α N) := (A_i_isPrime_l0_ok N).addLoop2 Try.func94 (by kernel_rfl) (loopSum_ok prog_mixed prog_names (A_i_isPrime_l0_ok N) Try.func94 (by kernel_rfl) (d := 1) (ro := 0) fun l K r h => by
  split at h
  · exact (i_isPrime_l0_loop N _ K N _).trans h
  · cases h)

/-- impl.isPrime -/
def i_isPrime_a : SPat := ⟨[.int .i64], []⟩
def i_isPrime_r0 : SPat := ⟨[.bool], []⟩
theorem i_isPrime_run {α : Type} (N : Nat) (p : Int) (K : AV → Heap → Option α) :
    callK Try.prog (E_i_isPrime_l0 α N) 1 94 0 (buildS i_isPrime_a [.i p]).t (buildS i_isPrime_a [.i p]).h K = i_isPrime none N p (fun r__ => retK (buildS i_isPrime_r0 [.b r__]) K) := by kernel_rfl
def E_i_isPrime (α : Type) (N : Nat) : Env α := (E_i_isPrime_l0 α N).addFun 94 true 0 i_isPrime_a (fun l K => match l with
    | [.i p] => i_isPrime none N p (fun r__ => retK (buildS i_isPrime_r0 [.b r__]) K)
    | _ => none)
theorem E_i_isPrime_ok {α : Type} (N : Nat) : EnvOk Try.prog (E_i_isPrime α N) := (E_i_isPrime_l0_ok N).addFun prog_mixed prog_names (d := 1) fun l K r h => by
  split at h
  · exact (i_isPrime_run N _ K).trans h
  · cases h

def A_slices_IndexFunc_int64_int64_l0 (α : Type) (N : Nat) : Env α := (E_i_isPrime α N).addAnn 137 2 { head := [0, 1, 7, 8], grow := [], out := [], ret := [4] }
theorem A_slices_IndexFunc_int64_int64_l0_ok {α : Type} (N : Nat) : EnvOk Try.prog (A_slices_IndexFunc_int64_int64_l0 α N) := (E_i_isPrime_ok N).addAnn

/-- impl.IsColouring$1 -/
def i_IsColouring_1_a : SPat := ⟨[.int .i64, .ptr ⟨⟨0, 0⟩, 0, 0, 1⟩], [[.vals [.int .i64]]]⟩
def i_IsColouring_1_r0 : SPat := ⟨[.bool], [[.vals [.int .i64]]]⟩
theorem i_IsColouring_1_run {α : Type} (N : Nat) (c : Int) (h0 : Int) (K : AV → Heap → Option α) :
    callK Try.prog (A_slices_IndexFunc_int64_int64_l0 α N) 1 97 1 (buildS i_IsColouring_1_a [.i c, .i h0]).t (buildS i_IsColouring_1_a [.i c, .i h0]).h K = i_IsColouring_1 none N c h0 (fun r__ => retK (buildS i_IsColouring_1_r0 [.b r__, .i h0]) K) := by kernel_rfl
def E_i_IsColouring_1 (α : Type) (N : Nat) : Env α := (A_slices_IndexFunc_int64_int64_l0 α N).addFun 97 true 1 i_IsColouring_1_a (fun l K => match l with
    | [.i c, .i h0] => i_IsColouring_1 none N c h0 (fun r__ => retK (buildS i_IsColouring_1_r0 [.b r__, .i h0]) K)
    | _ => none)
theorem E_i_IsColouring_1_ok {α : Type} (N : Nat) : EnvOk Try.prog (E_i_IsColouring_1 α N) := (A_slices_IndexFunc_int64_int64_l0_ok N).addFun prog_mixed prog_names (d := 1) fun l K r h => by
  split at h
  · exact (i_IsColouring_1_run N _ _ K).trans h
  · cases h

/-- slices.IndexFunc[[]int64,int64], loop -/
def slices_IndexFunc_int64_int64_l0_p : SPat := ⟨[.sliceV 0 0 0 1 true, .func 97 [.ptr ⟨⟨1, 0⟩, 0, 0, 1⟩], .undef, .undef, .undef, .undef, .undef, .int .i64, .int .i64] ++ List.replicate 10 .undef, [[.intsV .i64], [.vals [.int .i64]]]⟩
def slices_IndexFunc_int64_int64_l0_o0 : SPat := ⟨[.undef, .undef, .undef, .undef, .int .i64] ++ List.replicate 14 .undef, [[.intsV .i64], [.vals [.int .i64]]]⟩
def slices_IndexFunc_int64_int64_l0_o1 : SPat := ⟨[] ++ List.replicate 19 .undef, [[.intsV .i64], [.vals [.int .i64]]]⟩
theorem slices_IndexFunc_int64_int64_l0_round {α : Type} (N : Nat) (s_n : Nat) (s_l : Nat) (s_c : Nat) (t7 : Int) (t8 : Int) (h0_n : Nat) (h0 : Nat → Int) (h1 : Int) (kn : St → Option α) (K : AExit → St → Option α) :
    roundK Try.prog (E_i_IsColouring_1 α N) 1 2 137 Try.f137 2 2 (buildS slices_IndexFunc_int64_int64_l0_p [.n s_n, .n s_l, .n s_c, .i t7, .i t8, .n h0_n, .f h0, .i h1]) kn K = slices_IndexFunc_int64_int64_l0_s none N s_n s_l s_c t7 h0_n h0 h1 t8 (fun t8 => kn (buildS slices_IndexFunc_int64_int64_l0_p [.n s_n, .n s_l, .n s_c, .i t7, .i t8, .n h0_n, .f h0, .i h1])) (fun t4_ => K .ret (buildS slices_IndexFunc_int64_int64_l0_o0 [.i t4_, .n h0_n, .f h0, .i h1])) (K (.exit 0) (buildS slices_IndexFunc_int64_int64_l0_o1 [.n h0_n, .f h0, .i h1])) := by kernel_rfl
theorem slices_IndexFunc_int64_int64_l0_loop {α : Type} (N : Nat) (s_n : Nat) (s_l : Nat) (s_c : Nat) (t7 : Int) (h0_n : Nat) (h0 : Nat → Int) (h1 : Int) (K : AExit → St → Option α) : ∀ (m : Nat) (t8 : Int),
    loopN (trimSt ((E_i_IsColouring_1 α N).ann 137 2).head ((E_i_IsColouring_1 α N).ann 137 2).grow 2) (bodyK Try.prog (E_i_IsColouring_1 α N) 1 2 137 Try.f137 2) m (buildS slices_IndexFunc_int64_int64_l0_p [.n s_n, .n s_l, .n s_c, .i t7, .i t8, .n h0_n, .f h0, .i h1]) (leaveLoop ((E_i_IsColouring_1 α N).ann 137 2) 2 K) = slices_IndexFunc_int64_int64_l0 none N s_n s_l s_c t7 h0_n h0 h1 m t8 (fun t4_ => K .ret (buildS slices_IndexFunc_int64_int64_l0_o0 [.i t4_, .n h0_n, .f h0, .i h1])) (K (.exit 0) (buildS slices_IndexFunc_int64_int64_l0_o1 [.n h0_n, .f h0, .i h1])) := by
  intro m
  induction m with
  | zero => intros; rfl
  | succ m ih =>
    intro t8
    rw [loopN_round]
    refine (slices_IndexFunc_int64_int64_l0_round N s_n s_l s_c t7 t8 h0_n h0 h1 _ K).trans ?_
    simp only [ih]
    rfl
def E_slices_IndexFunc_int64_int64_l0 (α : Type) (N : Nat) : Env α := (E_i_IsColouring_1 α N).addLoop2 137 2 (loopSum2 ((E_i_IsColouring_1 α N).ann 137 2) 2 slices_IndexFunc_int64_int64_l0_p (fun l K => match l with
    | [.n s_n, .n s_l, .n s_c, .i t7, .i t8, .n h0_n, .f h0, .i h1] => slices_IndexFunc_int64_int64_l0 none N s_n s_l s_c t7 h0_n h0 h1 N t8 (fun t4_ => K .ret (buildS slices_IndexFunc_int64_int64_l0_o0 [.i t4_, .n h0_n, .f h0, .i h1])) (K (.exit 0) (buildS slices_IndexFunc_int64_int64_l0_o1 [.n h0_n, .f h0, .i h1]))
    | _ => none) ((E_i_IsColouring_1 α N).ls 137 2))
theorem E_slices_IndexFunc_int64_int64_l0_ok {α : Type} (N : Nat) : EnvOk Try.prog (E_slices_IndexFunc_int64_int64_l0 α N) := (E_i_IsColouring_1_ok N).addLoop2 Try.func137 (by kernel_rfl) (loopSum_ok prog_mixed prog_names (E_i_IsColouring_1_ok N) Try.func137 (by kernel_rfl) (d := 1) (ro := 2) fun l K r h => by
  split at h
  · exact (slices_IndexFunc_int64_int64_l0_loop N _ _ _ _ _ _ _ K N _).trans h
  · cases h)

/-- slices.IndexFunc[[]int64,int64] -/
def slices_IndexFunc_int64_int64_a : SPat := ⟨[.sliceV 0 0 0 1 true, .func 97 [.ptr ⟨⟨1, 0⟩, 0, 0, 1⟩]], [[.intsV .i64], [.vals [.int .i64]]]⟩
def slices_IndexFunc_int64_int64_r0 : SPat := ⟨[.int .i64], [[.intsV .i64], [.vals [.int .i64]]]⟩
theorem slices_IndexFunc_int64_int64_run {α : Type} (N : Nat) (s_n : Nat) (s_l : Nat) (s_c : Nat) (h0_n : Nat) (h0 : Nat → Int) (h1 : Int) (K : AV → Heap → Option α) :
    callK Try.prog (E_slices_IndexFunc_int64_int64_l0 α N) 1 137 2 (buildS slices_IndexFunc_int64_int64_a [.n s_n, .n s_l, .n s_c, .n h0_n, .f h0, .i h1]).t (buildS slices_IndexFunc_int64_int64_a [.n s_n, .n s_l, .n s_c, .n h0_n, .f h0, .i h1]).h K = slices_IndexFunc_int64_int64 none N s_n s_l s_c h0_n h0 h1 (fun r__ => retK (buildS slices_IndexFunc_int64_int64_r0 [.i r__, .n h0_n, .f h0, .i h1]) K) := by kernel_rfl
def E_slices_IndexFunc_int64_int64 (α : Type) (N : Nat) : Env α := (E_slices_IndexFunc_int64_int64_l0 α N).addFun 137 true 2 slices_IndexFunc_int64_int64_a (fun l K => match l with
    | [.n s_n, .n s_l, .n s_c, .n h0_n, .f h0, .i h1] => slices_IndexFunc_int64_int64 none N s_n s_l s_c h0_n h0 h1 (fun r__ => retK (buildS slices_IndexFunc_int64_int64_r0 [.i r__, .n h0_n, .f h0, .i h1]) K)
    | _ => none)
theorem E_slices_IndexFunc_int64_int64_ok {α : Type} (N : Nat) : EnvOk Try.prog (E_slices_IndexFunc_int64_int64 α N) := (E_slices_IndexFunc_int64_int64_l0_ok N).addFun prog_mixed prog_names (d := 1) fun l K r h => by
  split at h
  · exact (slices_IndexFunc_int64_int64_run N _ _ _ _ _ _ K).trans h
  · cases h

/-- slices.ContainsFunc[[]int64,int64] -/
def slices_ContainsFunc_int64_int64_a : SPat := ⟨[.sliceV 0 0 0 1 true, .func 97 [.ptr ⟨⟨1, 0⟩, 0, 0, 1⟩]], [[.intsV .i64], [.vals [.int .i64]]]⟩
def slices_ContainsFunc_int64_int64_r0 : SPat := ⟨[.bool], [[.intsV .i64], [.vals [.int .i64]]]⟩
theorem slices_ContainsFunc_int64_int64_run {α : Type} (N : Nat) (s_n : Nat) (s_l : Nat) (s_c : Nat) (h0_n : Nat) (h0 : Nat → Int) (h1 : Int) (K : AV → Heap → Option α) :
    callK Try.prog (E_slices_IndexFunc_int64_int64 α N) 1 96 2 (buildS slices_ContainsFunc_int64_int64_a [.n s_n, .n s_l, .n s_c, .n h0_n, .f h0, .i h1]).t (buildS slices_ContainsFunc_int64_int64_a [.n s_n, .n s_l, .n s_c, .n h0_n, .f h0, .i h1]).h K = slices_ContainsFunc_int64_int64 none N s_n s_l s_c h0_n h0 h1 (fun r__ => retK (buildS slices_ContainsFunc_int64_int64_r0 [.b r__, .n h0_n, .f h0, .i h1]) K) := by kernel_rfl
def E_slices_ContainsFunc_int64_int64 (α : Type) (N : Nat) : Env α := (E_slices_IndexFunc_int64_int64 α N).addFun 96 true 2 slices_ContainsFunc_int64_int64_a (fun l K => match l with
    | [.n s_n, .n s_l, .n s_c, .n h0_n, .f h0, .i h1] => slices_ContainsFunc_int64_int64 none N s_n s_l s_c h0_n h0 h1 (fun r__ => retK (buildS slices_ContainsFunc_int64_int64_r0 [.b r__, .n h0_n, .f h0, .i h1]) K)
    | _ => none)
theorem E_slices_ContainsFunc_int64_int64_ok {α : Type} (N : Nat) : EnvOk Try.prog (E_slices_ContainsFunc_int64_int64 α N) := (E_slices_IndexFunc_int64_int64_ok N).addFun prog_mixed prog_names (d := 1) fun l K r h => by
  split at h
  · exact (slices_ContainsFunc_int64_int64_run N _ _ _ _ _ _ K).trans h
  · cases h

def A_i_Grid_equations_l0 (α : Type) (N : Nat) : Env α := (E_slices_ContainsFunc_int64_int64 α N).addAnn 99 3 { head := [1, 3, 12, 13, 14], grow := [3], out := [3], ret := [2] }
theorem A_i_Grid_equations_l0_ok {α : Type} (N : Nat) : EnvOk Try.prog (A_i_Grid_equations_l0 α N) := (E_slices_ContainsFunc_int64_int64_ok N).addAnn

def A_i_Grid_equations_l1 (α : Type) (N : Nat) : Env α := (A_i_Grid_equations_l0 α N).addAnn 99 8 { head := [1, 3, 6, 7, 12, 13, 14, 21, 22, 23], grow := [], out := [1, 3, 6, 12, 13, 14], ret := [2] }
theorem A_i_Grid_equations_l1_ok {α : Type} (N : Nat) : EnvOk Try.prog (A_i_Grid_equations_l1 α N) := (A_i_Grid_equations_l0_ok N).addAnn

/-- (impl.Grid).equations, loop -/
def i_Grid_equations_l1_p : SPat := ⟨[.undef, .ptr ⟨⟨0, 0⟩, 0, 0, 1⟩, .undef, .sliceV 2 0 0 1 false, .undef, .undef, .sliceV 5 0 0 1 true, .int .i64, .undef, .undef, .undef, .undef, .sliceV 3 0 0 1 false, .int .i64, .int .i64, .undef, .undef, .undef, .undef, .undef, .undef, .sliceR 4 1 false, .int .i64, .int .i64] ++ List.replicate 16 .undef, [[.vals [.int .i64], .ints .u8 8, .ints .u8 8], [.pool .i64], [.hdr 1], [.hdr 4], [.pool .i64], [.intsV .i64]]⟩
def i_Grid_equations_l1_o0 : SPat := ⟨[.undef, .ptr ⟨⟨0, 0⟩, 0, 0, 1⟩, .undef, .sliceV 2 0 0 1 false, .undef, .undef, .sliceV 5 0 0 1 true, .undef, .undef, .undef, .undef, .undef, .sliceV 3 0 0 1 false, .int .i64, .int .i64] ++ List.replicate 25 .undef, [[.vals [.int .i64], .ints .u8 8, .ints .u8 8], [.pool .i64], [.hdr 1], [.hdr 4], [.pool .i64], [.intsV .i64]]⟩
theorem i_Grid_equations_l1_round {α : Type} (N : Nat) (out_n : Nat) (out_l : Nat) (out_c : Nat) (line_n : Nat) (line_l : Nat) (line_c : Nat) (sign : Int) (t12_n : Nat) (t12_l : Nat) (t12_c : Nat) (t13 : Int) (t14 : Int) (t21_r : Nat) (t21_o : Nat) (t21_n : Nat) (t21_l : Nat) (t21_c : Nat) (t22 : Int) (t23 : Int) (h0_0 : Int) (h0_1 : Nat → Int) (h0_2 : Nat → Int) (h1 : List (List Int)) (h2 : List (Nat × Nat)) (h3 : List (Nat × Nat)) (h4 : List (List Int)) (h5_n : Nat) (h5 : Nat → Int) (kn : St → Option α) (K : AExit → St → Option α) :
    roundK Try.prog (A_i_Grid_equations_l1 α N) 1 0 99 Try.f99 8 6 (buildS i_Grid_equations_l1_p [.n out_n, .n out_l, .n out_c, .n line_n, .n line_l, .n line_c, .i sign, .n t12_n, .n t12_l, .n t12_c, .i t13, .i t14, .n t21_r, .n t21_o, .n t21_n, .n t21_l, .n t21_c, .i t22, .i t23, .i h0_0, .f h0_1, .f h0_2, .r h1, .p h2, .p h3, .r h4, .n h5_n, .f h5]) kn K = i_Grid_equations_l1_s none out_n out_l out_c line_n line_l line_c t12_n t12_l t12_c t13 t14 t21_r t21_o t21_n t21_l t21_c t22 h0_0 h0_1 h0_2 h1 h2 h3 h4 h5_n sign t23 h5 (fun sign t23 h5 => kn (buildS i_Grid_equations_l1_p [.n out_n, .n out_l, .n out_c, .n line_n, .n line_l, .n line_c, .i sign, .n t12_n, .n t12_l, .n t12_c, .i t13, .i t14, .n t21_r, .n t21_o, .n t21_n, .n t21_l, .n t21_c, .i t22, .i t23, .i h0_0, .f h0_1, .f h0_2, .r h1, .p h2, .p h3, .r h4, .n h5_n, .f h5])) (fun h5_ => K (.exit 2) (buildS i_Grid_equations_l1_o0 [.n out_n, .n out_l, .n out_c, .n line_n, .n line_l, .n line_c, .n t12_n, .n t12_l, .n t12_c, .i t13, .i t14, .i h0_0, .f h0_1, .f h0_2, .r h1, .p h2, .p h3, .r h4, .n h5_n, .f h5_])) := by kernel_rfl
theorem i_Grid_equations_l1_loop {α : Type} (N : Nat) (out_n : Nat) (out_l : Nat) (out_c : Nat) (line_n : Nat) (line_l : Nat) (line_c : Nat) (t12_n : Nat) (t12_l : Nat) (t12_c : Nat) (t13 : Int) (t14 : Int) (t21_r : Nat) (t21_o : Nat) (t21_n : Nat) (t21_l : Nat) (t21_c : Nat) (t22 : Int) (h0_0 : Int) (h0_1 : Nat → Int) (h0_2 : Nat → Int) (h1 : List (List Int)) (h2 : List (Nat × Nat)) (h3 : List (Nat × Nat)) (h4 : List (List Int)) (h5_n : Nat) (K : AExit → St → Option α) : ∀ (m : Nat) (sign : Int) (t23 : Int) (h5 : Nat → Int),
    loopN (trimSt ((A_i_Grid_equations_l1 α N).ann 99 8).head ((A_i_Grid_equations_l1 α N).ann 99 8).grow 6) (bodyK Try.prog (A_i_Grid_equations_l1 α N) 1 0 99 Try.f99 8) m (buildS i_Grid_equations_l1_p [.n out_n, .n out_l, .n out_c, .n line_n, .n line_l, .n line_c, .i sign, .n t12_n, .n t12_l, .n t12_c, .i t13, .i t14, .n t21_r, .n t21_o, .n t21_n, .n t21_l, .n t21_c, .i t22, .i t23, .i h0_0, .f h0_1, .f h0_2, .r h1, .p h2, .p h3, .r h4, .n h5_n, .f h5]) (leaveLoop ((A_i_Grid_equations_l1 α N).ann 99 8) 6 K) = i_Grid_equations_l1 none out_n out_l out_c line_n line_l line_c t12_n t12_l t12_c t13 t14 t21_r t21_o t21_n t21_l t21_c t22 h0_0 h0_1 h0_2 h1 h2 h3 h4 h5_n m sign t23 h5 (fun h5_ => K (.exit 2) (buildS i_Grid_equations_l1_o0 [.n out_n, .n out_l, .n out_c, .n line_n, .n line_l, .n line_c, .n t12_n, .n t12_l, .n t12_c, .i t13, .i t14, .i h0_0, .f h0_1, .f h0_2, .r h1, .p h2, .p h3, .r h4, .n h5_n, .f h5_])) := by
  intro m
  induction m with
  | zero => intros; rfl
  | succ m ih =>
    intro sign t23 h5
    rw [loopN_round]
    refine (i_Grid_equations_l1_round N out_n out_l out_c line_n line_l line_c sign t12_n t12_l t12_c t13 t14 t21_r t21_o t21_n t21_l t21_c t22 t23 h0_0 h0_1 h0_2 h1 h2 h3 h4 h5_n h5 _ K).trans ?_
    simp only [ih]
    rfl
def E_i_Grid_equations_l1 (α : Type) (N : Nat) : Env α := (A_i_Grid_equations_l1 α N).addLoop2 99 8 (loopSum2 ((A_i_Grid_equations_l1 α N).ann 99 8) 0 i_Grid_equations_l1_p (fun l K => match l with
    | [.n out_n, .n out_l, .n out_c, .n line_n, .n line_l, .n line_c, .i sign, .n t12_n, .n t12_l, .n t12_c, .i t13, .i t14, .n t21_r, .n t21_o, .n t21_n, .n t21_l, .n t21_c, .i t22, .i t23, .i h0_0, .f h0_1, .f h0_2, .r h1, .p h2, .p h3, .r h4, .n h5_n, .f h5] => i_Grid_equations_l1 none out_n out_l out_c line_n line_l line_c t12_n t12_l t12_c t13 t14 t21_r t21_o t21_n t21_l t21_c t22 h0_0 h0_1 h0_2 h1 h2 h3 h4 h5_n N sign t23 h5 (fun h5_ => K (.exit 2) (buildS i_Grid_equations_l1_o0 [.n out_n, .n out_l, .n out_c, .n line_n, .n line_l, .n line_c, .n t12_n, .n t12_l, .n t12_c, .i t13, .i t14, .i h0_0, .f h0_1, .f h0_2, .r h1, .p h2, .p h3, .r h4, .n h5_n, .f h5_]))
    | _ => none) ((A_i_Grid_equations_l1 α N).ls 99 8))
theorem E_i_Grid_equations_l1_ok {α : Type} (N : Nat) : EnvOk Try.prog (E_i_Grid_equations_l1 α N) := (A_i_Grid_equations_l1_ok N).addLoop2 Try.func99 (by kernel_rfl) (loopSum_ok prog_mixed prog_names (A_i_Grid_equations_l1_ok N) Try.func99 (by kernel_rfl) (d := 1) (ro := 0) fun l K r h => by
  split at h
  · exact (i_Grid_equations_l1_loop N _ _ _ _ _ _ _ _ _ _ _ _ _ _ _ _ _ _ _ _ _ _ _ _ _ K N _ _ _).trans h
  · cases h)

/-- (impl.Grid).equations, loop -/
def i_Grid_equations_l0_p : SPat := ⟨[.undef, .ptr ⟨⟨0, 0⟩, 0, 0, 1⟩, .undef, .sliceV 2 0 0 1 false, .undef, .undef, .undef, .undef, .undef, .undef, .undef, .undef, .sliceV 3 0 0 1 false, .int .i64, .int .i64] ++ List.replicate 25 .undef, [[.vals [.int .i64], .ints .u8 8, .ints .u8 8], [.pool .i64], [.hdr 1], [.hdr 4], [.pool .i64]]⟩
def i_Grid_equations_l0_o0 : SPat := ⟨[.undef, .undef, .undef, .sliceV 2 0 0 1 false] ++ List.replicate 36 .undef, [[.vals [.int .i64], .ints .u8 8, .ints .u8 8], [.pool .i64], [.hdr 1], [.hdr 4], [.pool .i64]]⟩
theorem i_Grid_equations_l0_round {α : Type} (N : Nat) (out_n : Nat) (out_l : Nat) (out_c : Nat) (t12_n : Nat) (t12_l : Nat) (t12_c : Nat) (t13 : Int) (t14 : Int) (h0_0 : Int) (h0_1 : Nat → Int) (h0_2 : Nat → Int) (h1 : List (List Int)) (h2 : List (Nat × Nat)) (h3 : List (Nat × Nat)) (h4 : List (List Int)) (kn : St → Option α) (K : AExit → St → Option α) :
    roundK Try.prog (E_i_Grid_equations_l1 α N) 1 0 99 Try.f99 3 5 (buildS i_Grid_equations_l0_p [.n out_n, .n out_l, .n out_c, .n t12_n, .n t12_l, .n t12_c, .i t13, .i t14, .i h0_0, .f h0_1, .f h0_2, .r h1, .p h2, .p h3, .r h4]) kn K = i_Grid_equations_l0_s none N t12_n t12_l t12_c t13 h0_0 h0_1 h0_2 h3 h4 out_n out_l out_c t14 h1 h2 (fun out_n out_l out_c t14 h1 h2 => kn (buildS i_Grid_equations_l0_p [.n out_n, .n out_l, .n out_c, .n t12_n, .n t12_l, .n t12_c, .i t13, .i t14, .i h0_0, .f h0_1, .f h0_2, .r h1, .p h2, .p h3, .r h4])) (fun out_n_ out_l_ out_c_ h1_ h2_ => K (.exit 0) (buildS i_Grid_equations_l0_o0 [.n out_n_, .n out_l_, .n out_c_, .i h0_0, .f h0_1, .f h0_2, .r h1_, .p h2_, .p h3, .r h4])) := by kernel_rfl
theorem i_Grid_equations_l0_loop {α : Type} (N : Nat) (t12_n : Nat) (t12_l : Nat) (t12_c : Nat) (t13 : Int) (h0_0 : Int) (h0_1 : Nat → Int) (h0_2 : Nat → Int) (h3 : List (Nat × Nat)) (h4 : List (List Int)) (K : AExit → St → Option α) : ∀ (m : Nat) (out_n : Nat) (out_l : Nat) (out_c : Nat) (t14 : Int) (h1 : List (List Int)) (h2 : List (Nat × Nat)),
    loopN (trimSt ((E_i_Grid_equations_l1 α N).ann 99 3).head ((E_i_Grid_equations_l1 α N).ann 99 3).grow 5) (bodyK Try.prog (E_i_Grid_equations_l1 α N) 1 0 99 Try.f99 3) m (buildS i_Grid_equations_l0_p [.n out_n, .n out_l, .n out_c, .n t12_n, .n t12_l, .n t12_c, .i t13, .i t14, .i h0_0, .f h0_1, .f h0_2, .r h1, .p h2, .p h3, .r h4]) (leaveLoop ((E_i_Grid_equations_l1 α N).ann 99 3) 5 K) = i_Grid_equations_l0 none N t12_n t12_l t12_c t13 h0_0 h0_1 h0_2 h3 h4 m out_n out_l out_c t14 h1 h2 (fun out_n_ out_l_ out_c_ h1_ h2_ => K (.exit 0) (buildS i_Grid_equations_l0_o0 [.n out_n_, .n out_l_, .n out_c_, .i h0_0, .f h0_1, .f h0_2, .r h1_, .p h2_, .p h3, .r h4])) := by
  intro m
  induction m with
  | zero => intros; rfl
  | succ m ih =>
    intro out_n out_l out_c t14 h1 h2
    rw [loopN_round]
    refine (i_Grid_equations_l0_round N out_n out_l out_c t12_n t12_l t12_c t13 t14 h0_0 h0_1 h0_2 h1 h2 h3 h4 _ K).trans ?_
    simp only [ih]
    rfl
def E_i_Grid_equations_l0 (α : Type) (N : Nat) : Env α := (E_i_Grid_equations_l1 α N).addLoop2 99 3 (loopSum2 ((E_i_Grid_equations_l1 α N).ann 99 3) 0 i_Grid_equations_l0_p (fun l K => match l with
    | [.n out_n, .n out_l, .n out_c, .n t12_n, .n t12_l, .n t12_c, .i t13, .i t14, .i h0_0, .f h0_1, .f h0_2, .r h1, .p h2, .p h3, .r h4] => i_Grid_equations_l0 none N t12_n t12_l t12_c t13 h0_0 h0_1 h0_2 h3 h4 N out_n out_l out_c t14 h1 h2 (fun out_n_ out_l_ out_c_ h1_ h2_ => K (.exit 0) (buildS i_Grid_equations_l0_o0 [.n out_n_, .n out_l_, .n out_c_, .i h0_0, .f h0_1, .f h0_2, .r h1_, .p h2_, .p h3, .r h4]))
    | _ => none) ((E_i_Grid_equations_l1 α N).ls 99 3))
theorem E_i_Grid_equations_l0_ok {α : Type} (N : Nat) : EnvOk Try.prog (E_i_Grid_equations_l0 α N) := (E_i_Grid_equations_l1_ok N).addLoop2 Try.func99 (by kernel_rfl) (loopSum_ok prog_mixed prog_names (E_i_Grid_equations_l1_ok N) Try.func99 (by kernel_rfl) (d := 1) (ro := 0) fun l K r h => by
  split at h
  · exact (i_Grid_equations_l0_loop N _ _ _ _ _ _ _ _ _ K N _ _ _ _ _ _).trans h
  · cases h)

/-- (impl.Grid).equations -/
def i_Grid_equations_a : SPat := ⟨[.agg [.vals [.int .i64], .ints .u8 8, .ints .u8 8]], []⟩
def i_Grid_equations_r0 : SPat := ⟨[.sliceV 0 0 0 1 false], [[.hdr 1], [.pool .i64]]⟩
theorem i_Grid_equations_run {α : Type} (N : Nat) (g_0 : Int) (g_1 : Nat → Int) (g_2 : Nat → Int) (K : AV → Heap → Option α) :
    callK Try.prog (E_i_Grid_equations_l0 α N) 1 99 0 (buildS i_Grid_equations_a [.i g_0, .f g_1, .f g_2]).t (buildS i_Grid_equations_a [.i g_0, .f g_1, .f g_2]).h K = i_Grid_equations none N g_0 g_1 g_2 (fun r_n_ r_l_ r_c_ h0_ h1_ => retK (buildS i_Grid_equations_r0 [.n r_n_, .n r_l_, .n r_c_, .p h0_, .r h1_]) K) := by kernel_rfl
def E_i_Grid_equations (α : Type) (N : Nat) : Env α := (E_i_Grid_equations_l0 α N).addFun 99 true 0 i_Grid_equations_a (fun l K => match l with
    | [.i g_0, .f g_1, .f g_2] => i_Grid_equations none N g_0 g_1 g_2 (fun r_n_ r_l_ r_c_ h0_ h1_ => retK (buildS i_Grid_equations_r0 [.n r_n_, .n r_l_, .n r_c_, .p h0_, .r h1_]) K)
    | _ => none)
theorem E_i_Grid_equations_ok {α : Type} (N : Nat) : EnvOk Try.prog (E_i_Grid_equations α N) := (E_i_Grid_equations_l0_ok N).addFun prog_mixed prog_names (d := 1) fun l K r h => by
  split at h
  · exact (i_Grid_equations_run N _ _ _ K).trans h
  · cases h

def A_i_IsColouring_l0 (α : Type) (N : Nat) : Env α := (E_i_Grid_equations α N).addAnn 41 6 { head := [2, 4, 34, 35, 36], grow := [], out := [], ret := [6, 7] }
theorem A_i_IsColouring_l0_ok {α : Type} (N : Nat) : EnvOk Try.prog (A_i_IsColouring_l0 α N) := (E_i_Grid_equations_ok N).addAnn

def A_i_IsColouring_l1 (α : Type) (N : Nat) : Env α := (A_i_IsColouring_l0 α N).addAnn 41 10 { head := [2, 4, 10, 34, 35, 36, 40, 41, 42], grow := [], out := [2, 4, 10, 34, 35, 36], ret := [6, 7] }
theorem A_i_IsColouring_l1_ok {α : Type} (N : Nat) : EnvOk Try.prog (A_i_IsColouring_l1 α N) := (A_i_IsColouring_l0_ok N).addAnn

/-- impl.IsColouring, loop -/
def i_IsColouring_l1_p : SPat := ⟨[.undef, .undef, .sliceV 0 0 0 1 true, .undef, .ptr ⟨⟨2, 0⟩, 0, 0, 1⟩, .undef, .undef, .undef, .undef, .undef, .int .i64, .undef, .undef, .undef, .undef, .undef, .undef, .undef, .undef, .undef, .undef, .undef, .undef, .undef, .undef, .undef, .undef, .undef, .undef, .undef, .undef, .undef, .undef, .undef, .sliceV 3 0 0 1 false, .int .i64, .int .i64, .undef, .undef, .undef, .sliceR 4 1 false, .int .i64, .int .i64] ++ List.replicate 18 .undef, [[.intsV .i64], [.vals [.int .i64], .ints .u8 8, .ints .u8 8], [.vals [.int .i64]], [.hdr 4], [.pool .i64]]⟩
def i_IsColouring_l1_o0 : SPat := ⟨[.undef, .undef, .sliceV 0 0 0 1 true, .undef, .ptr ⟨⟨2, 0⟩, 0, 0, 1⟩, .undef, .undef, .undef, .undef, .undef, .int .i64, .undef, .undef, .undef, .undef, .undef, .undef, .undef, .undef, .undef, .undef, .undef, .undef, .undef, .undef, .undef, .undef, .undef, .undef, .undef, .undef, .undef, .undef, .undef, .sliceV 3 0 0 1 false, .int .i64, .int .i64] ++ List.replicate 24 .undef, [[.intsV .i64], [.vals [.int .i64], .ints .u8 8, .ints .u8 8], [.vals [.int .i64]], [.hdr 4], [.pool .i64]]⟩
theorem i_IsColouring_l1_round {α : Type} (N : Nat) (colours_n : Nat) (colours_l : Nat) (colours_c : Nat) (sum : Int) (t34_n : Nat) (t34_l : Nat) (t34_c : Nat) (t35 : Int) (t36 : Int) (t40_r : Nat) (t40_o : Nat) (t40_n : Nat) (t40_l : Nat) (t40_c : Nat) (t41 : Int) (t42 : Int) (h0_n : Nat) (h0 : Nat → Int) (h1_0 : Int) (h1_1 : Nat → Int) (h1_2 : Nat → Int) (h2 : Int) (h3 : List (Nat × Nat)) (h4 : List (List Int)) (kn : St → Option α) (K : AExit → St → Option α) :
    roundK Try.prog (A_i_IsColouring_l1 α N) 1 1 41 Try.f41 10 5 (buildS i_IsColouring_l1_p [.n colours_n, .n colours_l, .n colours_c, .i sum, .n t34_n, .n t34_l, .n t34_c, .i t35, .i t36, .n t40_r, .n t40_o, .n t40_n, .n t40_l, .n t40_c, .i t41, .i t42, .n h0_n, .f h0, .i h1_0, .f h1_1, .f h1_2, .i h2, .p h3, .r h4]) kn K = i_IsColouring_l1_s none colours_n colours_l colours_c t34_n t34_l t34_c t35 t36 t40_r t40_o t40_n t40_l t40_c t41 h0_n h0 h1_0 h1_1 h1_2 h2 h3 h4 sum t42 (fun sum t42 => kn (buildS i_IsColouring_l1_p [.n colours_n, .n colours_l, .n colours_c, .i sum, .n t34_n, .n t34_l, .n t34_c, .i t35, .i t36, .n t40_r, .n t40_o, .n t40_n, .n t40_l, .n t40_c, .i t41, .i t42, .n h0_n, .f h0, .i h1_0, .f h1_1, .f h1_2, .i h2, .p h3, .r h4])) (fun sum_ => K (.exit 3) (buildS i_IsColouring_l1_o0 [.n colours_n, .n colours_l, .n colours_c, .i sum_, .n t34_n, .n t34_l, .n t34_c, .i t35, .i t36, .n h0_n, .f h0, .i h1_0, .f h1_1, .f h1_2, .i h2, .p h3, .r h4])) := by kernel_rfl
theorem i_IsColouring_l1_loop {α : Type} (N : Nat) (colours_n : Nat) (colours_l : Nat) (colours_c : Nat) (t34_n : Nat) (t34_l : Nat) (t34_c : Nat) (t35 : Int) (t36 : Int) (t40_r : Nat) (t40_o : Nat) (t40_n : Nat) (t40_l : Nat) (t40_c : Nat) (t41 : Int) (h0_n : Nat) (h0 : Nat → Int) (h1_0 : Int) (h1_1 : Nat → Int) (h1_2 : Nat → Int) (h2 : Int) (h3 : List (Nat × Nat)) (h4 : List (List Int)) (K : AExit → St → Option α) : ∀ (m : Nat) (sum : Int) (t42 : Int),
    loopN (trimSt ((A_i_IsColouring_l1 α N).ann 41 10).head ((A_i_IsColouring_l1 α N).ann 41 10).grow 5) (bodyK Try.prog (A_i_IsColouring_l1 α N) 1 1 41 Try.f41 10) m (buildS i_IsColouring_l1_p [.n colours_n, .n colours_l, .n colours_c, .i sum, .n t34_n, .n t34_l, .n t34_c, .i t35, .i t36, .n t40_r, .n t40_o, .n t40_n, .n t40_l, .n t40_c, .i t41, .i t42, .n h0_n, .f h0, .i h1_0, .f h1_1, .f h1_2, .i h2, .p h3, .r h4]) (leaveLoop ((A_i_IsColouring_l1 α N).ann 41 10) 5 K) = i_IsColouring_l1 none colours_n colours_l colours_c t34_n t34_l t34_c t35 t36 t40_r t40_o t40_n t40_l t40_c t41 h0_n h0 h1_0 h1_1 h1_2 h2 h3 h4 m sum t42 (fun sum_ => K (.exit 3) (buildS i_IsColouring_l1_o0 [.n colours_n, .n colours_l, .n colours_c, .i sum_, .n t34_n, .n t34_l, .n t34_c, .i t35, .i t36, .n h0_n, .f h0, .i h1_0, .f h1_1, .f h1_2, .i h2, .p h3, .r h4])) := by
  intro m
  induction m with
  | zero => intros; rfl
  | succ m ih =>
    intro sum t42
    rw [loopN_round]
    refine (i_IsColouring_l1_round N colours_n colours_l colours_c sum t34_n t34_l t34_c t35 t36 t40_r t40_o t40_n t40_l t40_c t41 t42 h0_n h0 h1_0 h1_1 h1_2 h2 h3 h4 _ K).trans ?_
    simp only [ih]
    rfl
def E_i_IsColouring_l1 (α : Type) (N : Nat) : Env α := (A_i_IsColouring_l1 α N).addLoop2 41 10 (loopSum2 ((A_i_IsColouring_l1 α N).ann 41 10) 1 i_IsColouring_l1_p (fun l K => match l with
    | [.n colours_n, .n colours_l, .n colours_c, .i sum, .n t34_n, .n t34_l, .n t34_c, .i t35, .i t36, .n t40_r, .n t40_o, .n t40_n, .n t40_l, .n t40_c, .i t41, .i t42, .n h0_n, .f h0, .i h1_0, .f h1_1, .f h1_2, .i h2, .p h3, .r h4] => i_IsColouring_l1 none colours_n colours_l colours_c t34_n t34_l t34_c t35 t36 t40_r t40_o t40_n t40_l t40_c t41 h0_n h0 h1_0 h1_1 h1_2 h2 h3 h4 N sum t42 (fun sum_ => K (.exit 3) (buildS i_IsColouring_l1_o0 [.n colours_n, .n colours_l, .n colours_c, .i sum_, .n t34_n, .n t34_l, .n t34_c, .i t35, .i t36, .n h0_n, .f h0, .i h1_0, .f h1_1, .f h1_2, .i h2, .p h3, .r h4]))
    | _ => none) ((A_i_IsColouring_l1 α N).ls 41 10))
theorem E_i_IsColouring_l1_ok {α : Type} (N : Nat) : EnvOk Try.prog (E_i_IsColouring_l1 α N) := (A_i_IsColouring_l1_ok N).addLoop2 Try.func41 (by kernel_rfl) (loopSum_ok prog_mixed prog_names (A_i_IsColouring_l1_ok N) Try.func41 (by kernel_rfl) (d := 1) (ro := 1) fun l K r h => by
  split at h
  · exact (i_IsColouring_l1_loop N _ _ _ _ _ _ _ _ _ _ _ _ _ _ _ _ _ _ _ _ _ _ K N _ _).trans h
  · cases h)

/-- impl.IsColouring, loop -/
def i_IsColouring_l0_p : SPat := ⟨[.undef, .undef, .sliceV 0 0 0 1 true, .undef, .ptr ⟨⟨2, 0⟩, 0, 0, 1⟩, .undef, .undef, .undef, .undef, .undef, .undef, .undef, .undef, .undef, .undef, .undef, .undef, .undef, .undef, .undef, .undef, .undef, .undef, .undef, .undef, .undef, .undef, .undef, .undef, .undef, .undef, .undef, .undef, .undef, .sliceV 3 0 0 1 false, .int .i64, .int .i64] ++ List.replicate 24 .undef, [[.intsV .i64], [.vals [.int .i64], .ints .u8 8, .ints .u8 8], [.vals [.int .i64]], [.hdr 4], [.pool .i64]]⟩
def i_IsColouring_l0_o0 : SPat := ⟨[.undef, .undef, .undef, .undef, .undef, .undef, .boolC false, .intC .i64 0] ++ List.replicate 53 .undef, [[.intsV .i64], [.vals [.int .i64], .ints .u8 8, .ints .u8 8], [.vals [.int .i64]], [.hdr 4], [.pool .i64]]⟩
def i_IsColouring_l0_o1 : SPat := ⟨[] ++ List.replicate 61 .undef, [[.intsV .i64], [.vals [.int .i64], .ints .u8 8, .ints .u8 8], [.vals [.int .i64]], [.hdr 4], [.pool .i64]]⟩
theorem i_IsColouring_l0_round {α : Type} (N : Nat) (colours_n : Nat) (colours_l : Nat) (colours_c : Nat) (t34_n : Nat) (t34_l : Nat) (t34_c : Nat) (t35 : Int) (t36 : Int) (h0_n : Nat) (h0 : Nat → Int) (h1_0 : Int) (h1_1 : Nat → Int) (h1_2 : Nat → Int) (h2 : Int) (h3 : List (Nat × Nat)) (h4 : List (List Int)) (kn : St → Option α) (K : AExit → St → Option α) :
    roundK Try.prog (E_i_IsColouring_l1 α N) 1 1 41 Try.f41 6 5 (buildS i_IsColouring_l0_p [.n colours_n, .n colours_l, .n colours_c, .n t34_n, .n t34_l, .n t34_c, .i t35, .i t36, .n h0_n, .f h0, .i h1_0, .f h1_1, .f h1_2, .i h2, .p h3, .r h4]) kn K = i_IsColouring_l0_s none N colours_n colours_l colours_c t34_n t34_l t34_c t35 h0_n h0 h1_0 h1_1 h1_2 h2 h3 h4 t36 (fun t36 => kn (buildS i_IsColouring_l0_p [.n colours_n, .n colours_l, .n colours_c, .n t34_n, .n t34_l, .n t34_c, .i t35, .i t36, .n h0_n, .f h0, .i h1_0, .f h1_1, .f h1_2, .i h2, .p h3, .r h4])) (K .ret (buildS i_IsColouring_l0_o0 [.n h0_n, .f h0, .i h1_0, .f h1_1, .f h1_2, .i h2, .p h3, .r h4])) (K (.exit 1) (buildS i_IsColouring_l0_o1 [.n h0_n, .f h0, .i h1_0, .f h1_1, .f h1_2, .i h2, .p h3, .r h4])) := by kernel_rfl
theorem i_IsColouring_l0_loop {α : Type} (N : Nat) (colours_n : Nat) (colours_l : Nat) (colours_c : Nat) (t34_n : Nat) (t34_l : Nat) (t34_c : Nat) (t35 : Int) (h0_n : Nat) (h0 : Nat → Int) (h1_0 : Int) (h1_1 : Nat → Int) (h1_2 : Nat → Int) (h2 : Int) (h3 : List (Nat × Nat)) (h4 : List (List Int)) (K : AExit → St → Option α) : ∀ (m : Nat) (t36 : Int),
    loopN (trimSt ((E_i_IsColouring_l1 α N).ann 41 6).head ((E_i_IsColouring_l1 α N).ann 41 6).grow 5) (bodyK Try.prog (E_i_IsColouring_l1 α N) 1 1 41 Try.f41 6) m (buildS i_IsColouring_l0_p [.n colours_n, .n colours_l, .n colours_c, .n t34_n, .n t34_l, .n t34_c, .i t35, .i t36, .n h0_n, .f h0, .i h1_0, .f h1_1, .f h1_2, .i h2, .p h3, .r h4]) (leaveLoop ((E_i_IsColouring_l1 α N).ann 41 6) 5 K) = i_IsColouring_l0 none N colours_n colours_l colours_c t34_n t34_l t34_c t35 h0_n h0 h1_0 h1_1 h1_2 h2 h3 h4 m t36 (K .ret (buildS i_IsColouring_l0_o0 [.n h0_n, .f h0, .i h1_0, .f h1_1, .f h1_2, .i h2, .p h3, .r h4])) (K (.exit 1) (buildS i_IsColouring_l0_o1 [.n h0_n, .f h0, .i h1_0, .f h1_1, .f h1_2, .i h2, .p h3, .r h4])) := by
  intro m
  induction m with
  | zero => intros; rfl
  | succ m ih =>
    intro t36
    rw [loopN_round]
    refine (i_IsColouring_l0_round N colours_n colours_l colours_c t34_n t34_l t34_c t35 t36 h0_n h0 h1_0 h1_1 h1_2 h2 h3 h4 _ K).trans ?_
    simp only [ih]
    rfl
def E_i_IsColouring_l0 (α : Type) (N : Nat) : Env α := (E_i_IsColouring_l1 α N).addLoop2 41 6 (loopSum2 ((E_i_IsColouring_l1 α N).ann 41 6) 1 i_IsColouring_l0_p (fun l K => match l with
    | [.n colours_n, .n colours_l, .n colours_c, .n t34_n, .n t34_l, .n t34_c, .i t35, .i t36, .n h0_n, .f h0, .i h1_0, .f h1_1, .f h1_2, .i h2, .p h3, .r h4] => i_IsColouring_l0 none N colours_n colours_l colours_c t34_n t34_l t34_c t35 h0_n h0 h1_0 h1_1 h1_2 h2 h3 h4 N t36 (K .ret (buildS i_IsColouring_l0_o0 [.n h0_n, .f h0, .i h1_0, .f h1_1, .f h1_2, .i h2, .p h3, .r h4])) (K (.exit 1) (buildS i_IsColouring_l0_o1 [.n h0_n, .f h0, .i h1_0, .f h1_1, .f h1_2, .i h2, .p h3, .r h4]))
    | _ => none) ((E_i_IsColouring_l1 α N).ls 41 6))
theorem E_i_IsColouring_l0_ok {α : Type} (N : Nat) : EnvOk Try.prog (E_i_IsColouring_l0 α N) := (E_i_IsColouring_l1_ok N).addLoop2 Try.func41 (by kernel_rfl) (loopSum_ok prog_mixed prog_names (E_i_IsColouring_l1_ok N) Try.func41 (by kernel_rfl) (d := 1) (ro := 1) fun l K r h => by
  split at h
  · exact (i_IsColouring_l0_loop N _ _ _ _ _ _ _ _ _ _ _ _ _ _ _ K N _).trans h
  · cases h)

/-- impl.IsColouring -/
def i_IsColouring_a : SPat := ⟨[.agg [.vals [.int .i64], .ints .u8 8, .ints .u8 8], .int .i64, .sliceV 0 0 0 1 true], [[.intsV .i64]]⟩
def i_IsColouring_r0 : SPat := ⟨[.tuple [.bool, .int .i64]], [[.intsV .i64]]⟩
theorem i_IsColouring_run {α : Type} (N : Nat) (g_0 : Int) (g_1 : Nat → Int) (g_2 : Nat → Int) (p : Int) (colours_n : Nat) (colours_l : Nat) (colours_c : Nat) (h0_n : Nat) (h0 : Nat → Int) (K : AV → Heap → Option α) :
    callK Try.prog (E_i_IsColouring_l0 α N) 1 41 1 (buildS i_IsColouring_a [.i g_0, .f g_1, .f g_2, .i p, .n colours_n, .n colours_l, .n colours_c, .n h0_n, .f h0]).t (buildS i_IsColouring_a [.i g_0, .f g_1, .f g_2, .i p, .n colours_n, .n colours_l, .n colours_c, .n h0_n, .f h0]).h K = i_IsColouring none N g_0 g_1 g_2 p colours_n colours_l colours_c h0_n h0 (fun r_0_ r_1_ => retK (buildS i_IsColouring_r0 [.b r_0_, .i r_1_, .n h0_n, .f h0]) K) := by kernel_rfl
def E_i_IsColouring (α : Type) (N : Nat) : Env α := (E_i_IsColouring_l0 α N).addFun 41 true 1 i_IsColouring_a (fun l K => match l with
    | [.i g_0, .f g_1, .f g_2, .i p, .n colours_n, .n colours_l, .n colours_c, .n h0_n, .f h0] => i_IsColouring none N g_0 g_1 g_2 p colours_n colours_l colours_c h0_n h0 (fun r_0_ r_1_ => retK (buildS i_IsColouring_r0 [.b r_0_, .i r_1_, .n h0_n, .f h0]) K)
    | _ => none)
theorem E_i_IsColouring_ok {α : Type} (N : Nat) : EnvOk Try.prog (E_i_IsColouring α N) := (E_i_IsColouring_l0_ok N).addFun prog_mixed prog_names (d := 1) fun l K r h => by
  split at h
  · exact (i_IsColouring_run N _ _ _ _ _ _ _ _ _ K).trans h
  · cases h

/-- laws.eqInt64S, loop -/
def w_eqInt64S_l0_s8_p : SPat := ⟨[.sliceV 0 0 0 1 true, .sliceV 1 0 0 1 true, .undef, .undef, .undef, .int .i64] ++ List.replicate 20 .undef, [[.intsV .i64], [.intsV .i64]]⟩
def w_eqInt64S_l0_s8_o0 : SPat := ⟨[.undef, .undef, .undef, .undef, .boolC false] ++ List.replicate 21 .undef, [[.intsV .i64], [.intsV .i64]]⟩
def w_eqInt64S_l0_s8_o1 : SPat := ⟨[] ++ List.replicate 26 .undef, [[.intsV .i64], [.intsV .i64]]⟩
theorem w_eqInt64S_l0_s8_round {α : Type} (N : Nat) (a_n : Nat) (a_l : Nat) (a_c : Nat) (b_n : Nat) (b_l : Nat) (b_c : Nat) (i : Int) (h0_n : Nat) (h0 : Nat → Int) (h1_n : Nat) (h1 : Nat → Int) (kn : St → Option α) (K : AExit → St → Option α) :
    roundK Try.prog (E_i_IsColouring α N) 1 2 42 Try.f42 4 2 (buildS w_eqInt64S_l0_s8_p [.n a_n, .n a_l, .n a_c, .n b_n, .n b_l, .n b_c, .i i, .n h0_n, .f h0, .n h1_n, .f h1]) kn K = w_eqInt64S_l0_s8_s none a_n a_l a_c b_n b_l b_c h0_n h0 h1_n h1 i (fun i => kn (buildS w_eqInt64S_l0_s8_p [.n a_n, .n a_l, .n a_c, .n b_n, .n b_l, .n b_c, .i i, .n h0_n, .f h0, .n h1_n, .f h1])) (K .ret (buildS w_eqInt64S_l0_s8_o0 [.n h0_n, .f h0, .n h1_n, .f h1])) (K (.exit 0) (buildS w_eqInt64S_l0_s8_o1 [.n h0_n, .f h0, .n h1_n, .f h1])) := by kernel_rfl
theorem w_eqInt64S_l0_s8_loop {α : Type} (N : Nat) (a_n : Nat) (a_l : Nat) (a_c : Nat) (b_n : Nat) (b_l : Nat) (b_c : Nat) (h0_n : Nat) (h0 : Nat → Int) (h1_n : Nat) (h1 : Nat → Int) (K : AExit → St → Option α) : ∀ (m : Nat) (i : Int),
    loopN (trimSt ((E_i_IsColouring α N).ann 42 4).head ((E_i_IsColouring α N).ann 42 4).grow 2) (bodyK Try.prog (E_i_IsColouring α N) 1 2 42 Try.f42 4) m (buildS w_eqInt64S_l0_s8_p [.n a_n, .n a_l, .n a_c, .n b_n, .n b_l, .n b_c, .i i, .n h0_n, .f h0, .n h1_n, .f h1]) (leaveLoop ((E_i_IsColouring α N).ann 42 4) 2 K) = w_eqInt64S_l0_s8 none a_n a_l a_c b_n b_l b_c h0_n h0 h1_n h1 m i (K .ret (buildS w_eqInt64S_l0_s8_o0 [.n h0_n, .f h0, .n h1_n, .f h1])) (K (.exit 0) (buildS w_eqInt64S_l0_s8_o1 [.n h0_n, .f h0, .n h1_n, .f h1])) := by
  intro m
  induction m with
  | zero => intros; rfl
  | succ m ih =>
    intro i
    rw [loopN_round]
    refine (w_eqInt64S_l0_s8_round N a_n a_l a_c b_n b_l b_c i h0_n h0 h1_n h1 _ K).trans ?_
    simp only [ih]
    rfl
def E_w_eqInt64S_l0_s8 (α : Type) (N : Nat) : Env α := (E_i_IsColouring α N).addLoop2 42 4 (loopSum2 ((E_i_IsColouring α N).ann 42 4) 2 w_eqInt64S_l0_s8_p (fun l K => match l with
    | [.n a_n, .n a_l, .n a_c, .n b_n, .n b_l, .n b_c, .i i, .n h0_n, .f h0, .n h1_n, .f h1] => w_eqInt64S_l0_s8 none a_n a_l a_c b_n b_l b_c h0_n h0 h1_n h1 N i (K .ret (buildS w_eqInt64S_l0_s8_o0 [.n h0_n, .f h0, .n h1_n, .f h1])) (K (.exit 0) (buildS w_eqInt64S_l0_s8_o1 [.n h0_n, .f h0, .n h1_n, .f h1]))
    | _ => none) ((E_i_IsColouring α N).ls 42 4))
theorem E_w_eqInt64S_l0_s8_ok {α : Type} (N : Nat) : EnvOk Try.prog (E_w_eqInt64S_l0_s8 α N) := (E_i_IsColouring_ok N).addLoop2 Try.func42 (by kernel_rfl) (loopSum_ok prog_mixed prog_names (E_i_IsColouring_ok N) Try.func42 (by kernel_rfl) (d := 1) (ro := 2) fun l K r h => by
  split at h
  · exact (w_eqInt64S_l0_s8_loop N _ _ _ _ _ _ _ _ _ _ K N _).trans h
  · cases h)

/-- laws.eqInt64S -/
def w_eqInt64S_s10_a : SPat := ⟨[.sliceV 0 0 0 1 true, .sliceV 1 0 0 1 true], [[.intsV .i64], [.intsV .i64]]⟩
def w_eqInt64S_s10_r0 : SPat := ⟨[.bool], [[.intsV .i64], [.intsV .i64]]⟩
theorem w_eqInt64S_s10_run {α : Type} (N : Nat) (a_n : Nat) (a_l : Nat) (a_c : Nat) (b_n : Nat) (b_l : Nat) (b_c : Nat) (h0_n : Nat) (h0 : Nat → Int) (h1_n : Nat) (h1 : Nat → Int) (K : AV → Heap → Option α) :
    callK Try.prog (E_w_eqInt64S_l0_s8 α N) 1 42 2 (buildS w_eqInt64S_s10_a [.n a_n, .n a_l, .n a_c, .n b_n, .n b_l, .n b_c, .n h0_n, .f h0, .n h1_n, .f h1]).t (buildS w_eqInt64S_s10_a [.n a_n, .n a_l, .n a_c, .n b_n, .n b_l, .n b_c, .n h0_n, .f h0, .n h1_n, .f h1]).h K = w_eqInt64S_s10 none N a_n a_l a_c b_n b_l b_c h0_n h0 h1_n h1 (fun r__ => retK (buildS w_eqInt64S_s10_r0 [.b r__, .n h0_n, .f h0, .n h1_n, .f h1]) K) := by kernel_rfl
def E_w_eqInt64S_s10 (α : Type) (N : Nat) : Env α := (E_w_eqInt64S_l0_s8 α N).addFun 42 true 2 w_eqInt64S_s10_a (fun l K => match l with
    | [.n a_n, .n a_l, .n a_c, .n b_n, .n b_l, .n b_c, .n h0_n, .f h0, .n h1_n, .f h1] => w_eqInt64S_s10 none N a_n a_l a_c b_n b_l b_c h0_n h0 h1_n h1 (fun r__ => retK (buildS w_eqInt64S_s10_r0 [.b r__, .n h0_n, .f h0, .n h1_n, .f h1]) K)
    | _ => none)
theorem E_w_eqInt64S_s10_ok {α : Type} (N : Nat) : EnvOk Try.prog (E_w_eqInt64S_s10 α N) := (E_w_eqInt64S_l0_s8_ok N).addFun prog_mixed prog_names (d := 1) fun l K r h => by
  split at h
  · exact (w_eqInt64S_s10_run N _ _ _ _ _ _ _ _ _ _ K).trans h
  · cases h

/-- laws.FnExactIsColouring -/
def w_FnExactIsColouring_a : SPat := ⟨[.agg [.vals [.int .i64], .ints .u8 8, .ints .u8 8], .int .i64, .sliceV 0 0 0 1 false], [[.intsV .i64]]⟩
def w_FnExactIsColouring_r0 : SPat := ⟨[.bool], [[.intsV .i64]]⟩
theorem w_FnExactIsColouring_run {α : Type} (N : Nat) (aG_0 : Int) (aG_1 : Nat → Int) (aG_2 : Nat → Int) (aP : Int) (aColours_n : Nat) (aColours_l : Nat) (aColours_c : Nat) (h0_n : Nat) (h0 : Nat → Int) (K : AV → Heap → Option α) :
    callK Try.prog (E_w_eqInt64S_s10 α N) 1 9 1 (buildS w_FnExactIsColouring_a [.i aG_0, .f aG_1, .f aG_2, .i aP, .n aColours_n, .n aColours_l, .n aColours_c, .n h0_n, .f h0]).t (buildS w_FnExactIsColouring_a [.i aG_0, .f aG_1, .f aG_2, .i aP, .n aColours_n, .n aColours_l, .n aColours_c, .n h0_n, .f h0]).h K = w_FnExactIsColouring none N aG_0 aG_1 aG_2 aP aColours_n aColours_l aColours_c h0_n h0 (fun r__ => retK (buildS w_FnExactIsColouring_r0 [.b r__, .n h0_n, .f h0]) K) := by kernel_rfl
def E_w_FnExactIsColouring (α : Type) (N : Nat) : Env α := (E_w_eqInt64S_s10 α N).addFun 9 true 1 w_FnExactIsColouring_a (fun l K => match l with
    | [.i aG_0, .f aG_1, .f aG_2, .i aP, .n aColours_n, .n aColours_l, .n aColours_c, .n h0_n, .f h0] => w_FnExactIsColouring none N aG_0 aG_1 aG_2 aP aColours_n aColours_l aColours_c h0_n h0 (fun r__ => retK (buildS w_FnExactIsColouring_r0 [.b r__, .n h0_n, .f h0]) K)
    | _ => none)
theorem E_w_FnExactIsColouring_ok {α : Type} (N : Nat) : EnvOk Try.prog (E_w_FnExactIsColouring α N) := (E_w_eqInt64S_s10_ok N).addFun prog_mixed prog_names (d := 1) fun l K r h => by
  split at h
  · exact (w_FnExactIsColouring_run N _ _ _ _ _ _ _ _ _ K).trans h
  · cases h
end Go.AM
