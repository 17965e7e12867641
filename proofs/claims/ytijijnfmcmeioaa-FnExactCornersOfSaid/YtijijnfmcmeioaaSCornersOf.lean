/- A part of a proof about the given program: an abstract machine, what the given functions come to, and plain laws. -/
import Derived.Test.YtijijnfmcmeioaaAMEnv2
import Derived.Test.YtijijnfmcmeioaaDLowerState
import Derived.Test.YtijijnfmcmeioaaDIsMosaic
import Derived.Test.YtijijnfmcmeioaaDExchangeRows
import Derived.Test.YtijijnfmcmeioaaDCornersOf
import Derived.Test.YtijijnfmcmeioaaProg
set_option maxRecDepth 100000
namespace Go.AM
open Go.Proofs

def E0 (α : Type) (N : Nat) : Env α := Env.base (fun _ _ => {}) N
theorem E0_ok {α : Type} (N : Nat) : EnvOk Try.prog (E0 α N) := .base
theorem prog_mixed : Try.prog.follows .mixedOrders = true := by kernel_rfl
theorem prog_names : NamesOk Try.prog := .of_all (by kernel_rfl)
def A_w_toByteA8_l0 (α : Type) (N : Nat) : Env α := (E0 α N).addAnn 62 3 { head := [1, 2, 3, 4], grow := [], out := [2, 3], ret := [2] }
theorem A_w_toByteA8_l0_ok {α : Type} (N : Nat) : EnvOk Try.prog (A_w_toByteA8_l0 α N) := (E0_ok N).addAnn

/-- laws.toByteA8, loop -/
def w_toByteA8_l0_p : SPat := ⟨[.undef, .ptr ⟨0, 0, 0, 8⟩, .ptr ⟨1, 0, 0, 8⟩, .ptr ⟨2, 0, 0, 8⟩, .int .i64] ++ List.replicate 10 .undef, [[.ints .u8 8], [.ints .u8 8], [.ints .u8 8]]⟩
def w_toByteA8_l0_o0 : SPat := ⟨[.undef, .undef, .ptr ⟨1, 0, 0, 8⟩, .ptr ⟨2, 0, 0, 8⟩] ++ List.replicate 11 .undef, [[.ints .u8 8], [.ints .u8 8], [.ints .u8 8]]⟩
theorem w_toByteA8_l0_round {α : Type} (N : Nat) (i : Int) (h0 : Nat → Int) (h1 : Nat → Int) (h2 : Nat → Int) (kn : St → Option α) (K : AExit → St → Option α) :
    roundK Try.prog (A_w_toByteA8_l0 α N) 1 0 62 Try.f62 3 3 (buildS w_toByteA8_l0_p [.i i, .f h0, .f h1, .f h2]) kn K = w_toByteA8_l0_s none h0 h1 i h2 (fun i h2 => kn (buildS w_toByteA8_l0_p [.i i, .f h0, .f h1, .f h2])) (fun h2_ => K (.exit 0) (buildS w_toByteA8_l0_o0 [.f h0, .f h1, .f h2_])) := by kernel_rfl
theorem w_toByteA8_l0_loop {α : Type} (N : Nat) (h0 : Nat → Int) (h1 : Nat → Int) (K : AExit → St → Option α) : ∀ (m : Nat) (i : Int) (h2 : Nat → Int),
    loopN (trimSt ((A_w_toByteA8_l0 α N).ann 62 3).head ((A_w_toByteA8_l0 α N).ann 62 3).grow 3) (bodyK Try.prog (A_w_toByteA8_l0 α N) 1 0 62 Try.f62 3) m (buildS w_toByteA8_l0_p [.i i, .f h0, .f h1, .f h2]) (leaveLoop ((A_w_toByteA8_l0 α N).ann 62 3) 3 K) = w_toByteA8_l0 none h0 h1 m i h2 (fun h2_ => K (.exit 0) (buildS w_toByteA8_l0_o0 [.f h0, .f h1, .f h2_])) := by
  intro m
  induction m with
  | zero => intros; rfl
  | succ m ih =>
    intro i h2
    rw [loopN_round]
    refine (w_toByteA8_l0_round N i h0 h1 h2 _ K).trans ?_
    simp only [ih]
    rfl
def E_w_toByteA8_l0 (α : Type) (N : Nat) : Env α := (A_w_toByteA8_l0 α N).addLoop2 62 3 (loopSum2 ((A_w_toByteA8_l0 α N).ann 62 3) 0 w_toByteA8_l0_p (fun l K => match l with
    | [.i i, .f h0, .f h1, .f h2] => w_toByteA8_l0 none h0 h1 N i h2 (fun h2_ => K (.exit 0) (buildS w_toByteA8_l0_o0 [.f h0, .f h1, .f h2_]))
    | _ => none) ((A_w_toByteA8_l0 α N).ls 62 3))
theorem E_w_toByteA8_l0_ok {α : Type} (N : Nat) : EnvOk Try.prog (E_w_toByteA8_l0 α N) := (A_w_toByteA8_l0_ok N).addLoop2 Try.func62 (by kernel_rfl) (loopSum_ok prog_mixed prog_names (A_w_toByteA8_l0_ok N) Try.func62 (by kernel_rfl) (d := 1) (ro := 0) fun l K r h => by
  split at h
  · exact (w_toByteA8_l0_loop N _ _ K N _ _).trans h
  · cases h)

/-- laws.toByteA8 -/
def w_toByteA8_a : SPat := ⟨[.agg [.ints .u8 8]], []⟩
def w_toByteA8_r0 : SPat := ⟨[.agg [.ints .u8 8]], []⟩
theorem w_toByteA8_run {α : Type} (N : Nat) (a : Nat → Int) (K : AV → Heap → Option α) :
    callK Try.prog (E_w_toByteA8_l0 α N) 1 62 0 (buildS w_toByteA8_a [.f a]).t (buildS w_toByteA8_a [.f a]).h K = w_toByteA8 none N a (fun r__ => retK (buildS w_toByteA8_r0 [.f r__]) K) := by kernel_rfl
def E_w_toByteA8 (α : Type) (N : Nat) : Env α := (E_w_toByteA8_l0 α N).addFun 62 true 0 w_toByteA8_a (fun l K => match l with
    | [.f a] => w_toByteA8 none N a (fun r__ => retK (buildS w_toByteA8_r0 [.f r__]) K)
    | _ => none)
theorem E_w_toByteA8_ok {α : Type} (N : Nat) : EnvOk Try.prog (E_w_toByteA8 α N) := (E_w_toByteA8_l0_ok N).addFun prog_mixed prog_names (d := 1) fun l K r h => by
  split at h
  · exact (w_toByteA8_run N _ K).trans h
  · cases h

/-- laws.toGrid -/
def w_toGrid_a : SPat := ⟨[.agg [.vals [.int .i64], .ints .u8 8, .ints .u8 8]], []⟩
def w_toGrid_r0 : SPat := ⟨[.agg [.vals [.int .i64], .ints .u8 8, .ints .u8 8]], []⟩
theorem w_toGrid_run {α : Type} (N : Nat) (a_0 : Int) (a_1 : Nat → Int) (a_2 : Nat → Int) (K : AV → Heap → Option α) :
    callK Try.prog (E_w_toByteA8 α N) 1 15 0 (buildS w_toGrid_a [.i a_0, .f a_1, .f a_2]).t (buildS w_toGrid_a [.i a_0, .f a_1, .f a_2]).h K = w_toGrid none N a_0 a_1 a_2 (fun r_1_ r_2_ => retK (buildS w_toGrid_r0 [.i a_0, .f r_1_, .f r_2_]) K) := by kernel_rfl
def E_w_toGrid (α : Type) (N : Nat) : Env α := (E_w_toByteA8 α N).addFun 15 true 0 w_toGrid_a (fun l K => match l with
    | [.i a_0, .f a_1, .f a_2] => w_toGrid none N a_0 a_1 a_2 (fun r_1_ r_2_ => retK (buildS w_toGrid_r0 [.i a_0, .f r_1_, .f r_2_]) K)
    | _ => none)
theorem E_w_toGrid_ok {α : Type} (N : Nat) : EnvOk Try.prog (E_w_toGrid α N) := (E_w_toByteA8_ok N).addFun prog_mixed prog_names (d := 1) fun l K r h => by
  split at h
  · exact (w_toGrid_run N _ _ _ K).trans h
  · cases h

/-- spec.l01In -/
def s_l01In_a : SPat := ⟨[.int .i64, .int .i64, .int .i64], []⟩
def s_l01In_r0 : SPat := ⟨[.bool], []⟩
theorem s_l01In_run {α : Type} (N : Nat) (n : Int) (low : Int) (high : Int) (K : AV → Heap → Option α) :
    callK Try.prog (E_w_toGrid α N) 1 92 0 (buildS s_l01In_a [.i n, .i low, .i high]).t (buildS s_l01In_a [.i n, .i low, .i high]).h K = s_l01In none N n low high (fun r__ => retK (buildS s_l01In_r0 [.b r__]) K) := by kernel_rfl
def E_s_l01In (α : Type) (N : Nat) : Env α := (E_w_toGrid α N).addFun 92 true 0 s_l01In_a (fun l K => match l with
    | [.i n, .i low, .i high] => s_l01In none N n low high (fun r__ => retK (buildS s_l01In_r0 [.b r__]) K)
    | _ => none)
theorem E_s_l01In_ok {α : Type} (N : Nat) : EnvOk Try.prog (E_s_l01In α N) := (E_w_toGrid_ok N).addFun prog_mixed prog_names (d := 1) fun l K r h => by
  split at h
  · exact (s_l01In_run N _ _ _ K).trans h
  · cases h

def A_s_l01Perm_l0 (α : Type) (N : Nat) : Env α := (E_s_l01In α N).addAnn 122 3 { head := [1, 2, 5, 6], grow := [], out := [], ret := [4] }
theorem A_s_l01Perm_l0_ok {α : Type} (N : Nat) : EnvOk Try.prog (A_s_l01Perm_l0 α N) := (E_s_l01In_ok N).addAnn

/-- spec.l01Perm, loop -/
def s_l01Perm_l0_p : SPat := ⟨[.undef, .int .i64, .ptr ⟨0, 0, 0, 8⟩, .undef, .undef, .ptr ⟨1, 0, 0, 8⟩, .int .i64] ++ List.replicate 29 .undef, [[.ints .u8 8], [.bools 8]]⟩
def s_l01Perm_l0_o0 : SPat := ⟨[.undef, .undef, .undef, .undef, .boolC false] ++ List.replicate 31 .undef, [[.ints .u8 8], [.bools 8]]⟩
def s_l01Perm_l0_o1 : SPat := ⟨[] ++ List.replicate 36 .undef, [[.ints .u8 8], [.bools 8]]⟩
theorem s_l01Perm_l0_round {α : Type} (N : Nat) (n : Int) (i : Int) (h0 : Nat → Int) (h1 : Nat → Bool) (kn : St → Option α) (K : AExit → St → Option α) :
    roundK Try.prog (A_s_l01Perm_l0 α N) 1 0 122 Try.f122 3 2 (buildS s_l01Perm_l0_p [.i n, .i i, .f h0, .g h1]) kn K = s_l01Perm_l0_s none n h0 i h1 (fun i h1 => kn (buildS s_l01Perm_l0_p [.i n, .i i, .f h0, .g h1])) (fun h1_ => K .ret (buildS s_l01Perm_l0_o0 [.f h0, .g h1_])) (fun h1_ => K (.exit 0) (buildS s_l01Perm_l0_o1 [.f h0, .g h1_])) := by kernel_rfl
theorem s_l01Perm_l0_loop {α : Type} (N : Nat) (n : Int) (h0 : Nat → Int) (K : AExit → St → Option α) : ∀ (m : Nat) (i : Int) (h1 : Nat → Bool),
    loopN (trimSt ((A_s_l01Perm_l0 α N).ann 122 3).head ((A_s_l01Perm_l0 α N).ann 122 3).grow 2) (bodyK Try.prog (A_s_l01Perm_l0 α N) 1 0 122 Try.f122 3) m (buildS s_l01Perm_l0_p [.i n, .i i, .f h0, .g h1]) (leaveLoop ((A_s_l01Perm_l0 α N).ann 122 3) 2 K) = s_l01Perm_l0 none n h0 m i h1 (fun h1_ => K .ret (buildS s_l01Perm_l0_o0 [.f h0, .g h1_])) (fun h1_ => K (.exit 0) (buildS s_l01Perm_l0_o1 [.f h0, .g h1_])) := by
  intro m
  induction m with
  | zero => intros; rfl
  | succ m ih =>
    intro i h1
    rw [loopN_round]
    refine (s_l01Perm_l0_round N n i h0 h1 _ K).trans ?_
    simp only [ih]
    rfl
def E_s_l01Perm_l0 (α : Type) (N : Nat) : Env α := (A_s_l01Perm_l0 α N).addLoop2 122 3 (loopSum2 ((A_s_l01Perm_l0 α N).ann 122 3) 0 s_l01Perm_l0_p (fun l K => match l with
    | [.i n, .i i, .f h0, .g h1] => s_l01Perm_l0 none n h0 N i h1 (fun h1_ => K .ret (buildS s_l01Perm_l0_o0 [.f h0, .g h1_])) (fun h1_ => K (.exit 0) (buildS s_l01Perm_l0_o1 [.f h0, .g h1_]))
    | _ => none) ((A_s_l01Perm_l0 α N).ls 122 3))
theorem E_s_l01Perm_l0_ok {α : Type} (N : Nat) : EnvOk Try.prog (E_s_l01Perm_l0 α N) := (A_s_l01Perm_l0_ok N).addLoop2 Try.func122 (by kernel_rfl) (loopSum_ok prog_mixed prog_names (A_s_l01Perm_l0_ok N) Try.func122 (by kernel_rfl) (d := 1) (ro := 0) fun l K r h => by
  split at h
  · exact (s_l01Perm_l0_loop N _ _ K N _ _).trans h
  · cases h)

/-- spec.l01Perm -/
def s_l01Perm_a : SPat := ⟨[.agg [.ints .u8 8], .int .i64], []⟩
def s_l01Perm_r0 : SPat := ⟨[.bool], []⟩
theorem s_l01Perm_run {α : Type} (N : Nat) (list : Nat → Int) (n : Int) (K : AV → Heap → Option α) :
    callK Try.prog (E_s_l01Perm_l0 α N) 1 122 0 (buildS s_l01Perm_a [.f list, .i n]).t (buildS s_l01Perm_a [.f list, .i n]).h K = s_l01Perm none N list n (fun r__ => retK (buildS s_l01Perm_r0 [.b r__]) K) := by kernel_rfl
def E_s_l01Perm (α : Type) (N : Nat) : Env α := (E_s_l01Perm_l0 α N).addFun 122 true 0 s_l01Perm_a (fun l K => match l with
    | [.f list, .i n] => s_l01Perm none N list n (fun r__ => retK (buildS s_l01Perm_r0 [.b r__]) K)
    | _ => none)
theorem E_s_l01Perm_ok {α : Type} (N : Nat) : EnvOk Try.prog (E_s_l01Perm α N) := (E_s_l01Perm_l0_ok N).addFun prog_mixed prog_names (d := 1) fun l K r h => by
  split at h
  · exact (s_l01Perm_run N _ _ K).trans h
  · cases h

def A_s_l01Is_l0 (α : Type) (N : Nat) : Env α := (E_s_l01Perm α N).addAnn 66 4 { head := [1, 3], grow := [], out := [], ret := [2] }
theorem A_s_l01Is_l0_ok {α : Type} (N : Nat) : EnvOk Try.prog (A_s_l01Is_l0 α N) := (E_s_l01Perm_ok N).addAnn

/-- spec.l01Is, loop -/
def s_l01Is_l0_p : SPat := ⟨[.undef, .ptr ⟨0, 0, 0, 1⟩, .undef, .int .i64] ++ List.replicate 35 .undef, [[.vals [.int .i64], .ints .u8 8, .ints .u8 8]]⟩
def s_l01Is_l0_o0 : SPat := ⟨[.undef, .undef, .boolC false] ++ List.replicate 36 .undef, [[.vals [.int .i64], .ints .u8 8, .ints .u8 8]]⟩
def s_l01Is_l0_o1 : SPat := ⟨[] ++ List.replicate 39 .undef, [[.vals [.int .i64], .ints .u8 8, .ints .u8 8]]⟩
theorem s_l01Is_l0_round {α : Type} (N : Nat) (i : Int) (h0_0 : Int) (h0_1 : Nat → Int) (h0_2 : Nat → Int) (kn : St → Option α) (K : AExit → St → Option α) :
    roundK Try.prog (A_s_l01Is_l0 α N) 1 0 66 Try.f66 4 1 (buildS s_l01Is_l0_p [.i i, .i h0_0, .f h0_1, .f h0_2]) kn K = s_l01Is_l0_s none h0_0 h0_1 h0_2 i (fun i => kn (buildS s_l01Is_l0_p [.i i, .i h0_0, .f h0_1, .f h0_2])) (K .ret (buildS s_l01Is_l0_o0 [.i h0_0, .f h0_1, .f h0_2])) (K (.exit 0) (buildS s_l01Is_l0_o1 [.i h0_0, .f h0_1, .f h0_2])) := by kernel_rfl
theorem s_l01Is_l0_loop {α : Type} (N : Nat) (h0_0 : Int) (h0_1 : Nat → Int) (h0_2 : Nat → Int) (K : AExit → St → Option α) : ∀ (m : Nat) (i : Int),
    loopN (trimSt ((A_s_l01Is_l0 α N).ann 66 4).head ((A_s_l01Is_l0 α N).ann 66 4).grow 1) (bodyK Try.prog (A_s_l01Is_l0 α N) 1 0 66 Try.f66 4) m (buildS s_l01Is_l0_p [.i i, .i h0_0, .f h0_1, .f h0_2]) (leaveLoop ((A_s_l01Is_l0 α N).ann 66 4) 1 K) = s_l01Is_l0 none h0_0 h0_1 h0_2 m i (K .ret (buildS s_l01Is_l0_o0 [.i h0_0, .f h0_1, .f h0_2])) (K (.exit 0) (buildS s_l01Is_l0_o1 [.i h0_0, .f h0_1, .f h0_2])) := by
  intro m
  induction m with
  | zero => intros; rfl
  | succ m ih =>
    intro i
    rw [loopN_round]
    refine (s_l01Is_l0_round N i h0_0 h0_1 h0_2 _ K).trans ?_
    simp only [ih]
    rfl
def E_s_l01Is_l0 (α : Type) (N : Nat) : Env α := (A_s_l01Is_l0 α N).addLoop2 66 4 (loopSum2 ((A_s_l01Is_l0 α N).ann 66 4) 0 s_l01Is_l0_p (fun l K => match l with
    | [.i i, .i h0_0, .f h0_1, .f h0_2] => s_l01Is_l0 none h0_0 h0_1 h0_2 N i (K .ret (buildS s_l01Is_l0_o0 [.i h0_0, .f h0_1, .f h0_2])) (K (.exit 0) (buildS s_l01Is_l0_o1 [.i h0_0, .f h0_1, .f h0_2]))
    | _ => none) ((A_s_l01Is_l0 α N).ls 66 4))
theorem E_s_l01Is_l0_ok {α : Type} (N : Nat) : EnvOk Try.prog (E_s_l01Is_l0 α N) := (A_s_l01Is_l0_ok N).addLoop2 Try.func66 (by kernel_rfl) (loopSum_ok prog_mixed prog_names (A_s_l01Is_l0_ok N) Try.func66 (by kernel_rfl) (d := 1) (ro := 0) fun l K r h => by
  split at h
  · exact (s_l01Is_l0_loop N _ _ _ K N _).trans h
  · cases h)

/-- spec.l01Is -/
def s_l01Is_a : SPat := ⟨[.agg [.vals [.int .i64], .ints .u8 8, .ints .u8 8]], []⟩
def s_l01Is_r0 : SPat := ⟨[.bool], []⟩
theorem s_l01Is_run {α : Type} (N : Nat) (g_0 : Int) (g_1 : Nat → Int) (g_2 : Nat → Int) (K : AV → Heap → Option α) :
    callK Try.prog (E_s_l01Is_l0 α N) 1 66 0 (buildS s_l01Is_a [.i g_0, .f g_1, .f g_2]).t (buildS s_l01Is_a [.i g_0, .f g_1, .f g_2]).h K = s_l01Is none N g_0 g_1 g_2 (fun r__ => retK (buildS s_l01Is_r0 [.b r__]) K) := by kernel_rfl
def E_s_l01Is (α : Type) (N : Nat) : Env α := (E_s_l01Is_l0 α N).addFun 66 true 0 s_l01Is_a (fun l K => match l with
    | [.i g_0, .f g_1, .f g_2] => s_l01Is none N g_0 g_1 g_2 (fun r__ => retK (buildS s_l01Is_r0 [.b r__]) K)
    | _ => none)
theorem E_s_l01Is_ok {α : Type} (N : Nat) : EnvOk Try.prog (E_s_l01Is α N) := (E_s_l01Is_l0_ok N).addFun prog_mixed prog_names (d := 1) fun l K r h => by
  split at h
  · exact (s_l01Is_run N _ _ _ K).trans h
  · cases h

/-- impl.within -/
def i_within_a : SPat := ⟨[.int .i64, .int .i64, .int .i64], []⟩
def i_within_r0 : SPat := ⟨[.bool], []⟩
theorem i_within_run {α : Type} (N : Nat) (x : Int) (low : Int) (high : Int) (K : AV → Heap → Option α) :
    callK Try.prog (E_s_l01Is α N) 1 98 0 (buildS i_within_a [.i x, .i low, .i high]).t (buildS i_within_a [.i x, .i low, .i high]).h K = i_within none N x low high (fun r__ => retK (buildS i_within_r0 [.b r__]) K) := by kernel_rfl
def E_i_within (α : Type) (N : Nat) : Env α := (E_s_l01Is α N).addFun 98 true 0 i_within_a (fun l K => match l with
    | [.i x, .i low, .i high] => i_within none N x low high (fun r__ => retK (buildS i_within_r0 [.b r__]) K)
    | _ => none)
theorem E_i_within_ok {α : Type} (N : Nat) : EnvOk Try.prog (E_i_within α N) := (E_s_l01Is_ok N).addFun prog_mixed prog_names (d := 1) fun l K r h => by
  split at h
  · exact (i_within_run N _ _ _ K).trans h
  · cases h

/-- (impl.Grid).n -/
def i_Grid_n_a : SPat := ⟨[.agg [.vals [.int .i64], .ints .u8 8, .ints .u8 8]], []⟩
def i_Grid_n_r0 : SPat := ⟨[.int .i64], []⟩
theorem i_Grid_n_run {α : Type} (N : Nat) (g_0 : Int) (g_1 : Nat → Int) (g_2 : Nat → Int) (K : AV → Heap → Option α) :
    callK Try.prog (E_i_within α N) 1 95 0 (buildS i_Grid_n_a [.i g_0, .f g_1, .f g_2]).t (buildS i_Grid_n_a [.i g_0, .f g_1, .f g_2]).h K = i_Grid_n none N g_0 g_1 g_2 (retK (buildS i_Grid_n_r0 [.i g_0]) K) := by kernel_rfl
def E_i_Grid_n (α : Type) (N : Nat) : Env α := (E_i_within α N).addFun 95 true 0 i_Grid_n_a (fun l K => match l with
    | [.i g_0, .f g_1, .f g_2] => i_Grid_n none N g_0 g_1 g_2 (retK (buildS i_Grid_n_r0 [.i g_0]) K)
    | _ => none)
theorem E_i_Grid_n_ok {α : Type} (N : Nat) : EnvOk Try.prog (E_i_Grid_n α N) := (E_i_within_ok N).addFun prog_mixed prog_names (d := 1) fun l K r h => by
  split at h
  · exact (i_Grid_n_run N _ _ _ K).trans h
  · cases h

def A_i_isOrder_l0 (α : Type) (N : Nat) : Env α := (E_i_Grid_n α N).addAnn 126 3 { head := [1, 5, 8, 9, 10], grow := [], out := [1, 5], ret := [4] }
theorem A_i_isOrder_l0_ok {α : Type} (N : Nat) : EnvOk Try.prog (A_i_isOrder_l0 α N) := (E_i_Grid_n_ok N).addAnn

/-- impl.isOrder, loop -/
def i_isOrder_l0_s2_p : SPat := ⟨[.undef, .int .i64, .undef, .undef, .undef, .int .i64, .undef, .undef, .slice ⟨0, 1, 0, 8⟩ 8 8 1 true, .intC .i64 8, .int .i64] ++ List.replicate 30 .undef, [[.vals [.int .i64], .ints .u8 8, .ints .u8 8]]⟩
def i_isOrder_l0_s2_o0 : SPat := ⟨[.undef, .undef, .undef, .undef, .boolC false] ++ List.replicate 36 .undef, [[.vals [.int .i64], .ints .u8 8, .ints .u8 8]]⟩
def i_isOrder_l0_s2_o1 : SPat := ⟨[.undef, .int .i64, .undef, .undef, .undef, .int .i64] ++ List.replicate 35 .undef, [[.vals [.int .i64], .ints .u8 8, .ints .u8 8]]⟩
theorem i_isOrder_l0_s2_round {α : Type} (N : Nat) (n : Int) (seen : Int) (t10 : Int) (h0_0 : Int) (h0_1 : Nat → Int) (h0_2 : Nat → Int) (kn : St → Option α) (K : AExit → St → Option α) :
    roundK Try.prog (A_i_isOrder_l0 α N) 1 1 126 Try.f126 3 1 (buildS i_isOrder_l0_s2_p [.i n, .i seen, .i t10, .i h0_0, .f h0_1, .f h0_2]) kn K = i_isOrder_l0_s2_s none n h0_0 h0_1 h0_2 seen t10 (fun seen t10 => kn (buildS i_isOrder_l0_s2_p [.i n, .i seen, .i t10, .i h0_0, .f h0_1, .f h0_2])) (K .ret (buildS i_isOrder_l0_s2_o0 [.i h0_0, .f h0_1, .f h0_2])) (fun seen_ => K (.exit 0) (buildS i_isOrder_l0_s2_o1 [.i n, .i seen_, .i h0_0, .f h0_1, .f h0_2])) := by kernel_rfl
theorem i_isOrder_l0_s2_loop {α : Type} (N : Nat) (n : Int) (h0_0 : Int) (h0_1 : Nat → Int) (h0_2 : Nat → Int) (K : AExit → St → Option α) : ∀ (m : Nat) (seen : Int) (t10 : Int),
    loopN (trimSt ((A_i_isOrder_l0 α N).ann 126 3).head ((A_i_isOrder_l0 α N).ann 126 3).grow 1) (bodyK Try.prog (A_i_isOrder_l0 α N) 1 1 126 Try.f126 3) m (buildS i_isOrder_l0_s2_p [.i n, .i seen, .i t10, .i h0_0, .f h0_1, .f h0_2]) (leaveLoop ((A_i_isOrder_l0 α N).ann 126 3) 1 K) = i_isOrder_l0_s2 none n h0_0 h0_1 h0_2 m seen t10 (K .ret (buildS i_isOrder_l0_s2_o0 [.i h0_0, .f h0_1, .f h0_2])) (fun seen_ => K (.exit 0) (buildS i_isOrder_l0_s2_o1 [.i n, .i seen_, .i h0_0, .f h0_1, .f h0_2])) := by
  intro m
  induction m with
  | zero => intros; rfl
  | succ m ih =>
    intro seen t10
    rw [loopN_round]
    refine (i_isOrder_l0_s2_round N n seen t10 h0_0 h0_1 h0_2 _ K).trans ?_
    simp only [ih]
    rfl
def E_i_isOrder_l0_s2 (α : Type) (N : Nat) : Env α := (A_i_isOrder_l0 α N).addLoop2 126 3 (loopSum2 ((A_i_isOrder_l0 α N).ann 126 3) 1 i_isOrder_l0_s2_p (fun l K => match l with
    | [.i n, .i seen, .i t10, .i h0_0, .f h0_1, .f h0_2] => i_isOrder_l0_s2 none n h0_0 h0_1 h0_2 N seen t10 (K .ret (buildS i_isOrder_l0_s2_o0 [.i h0_0, .f h0_1, .f h0_2])) (fun seen_ => K (.exit 0) (buildS i_isOrder_l0_s2_o1 [.i n, .i seen_, .i h0_0, .f h0_1, .f h0_2]))
    | _ => none) ((A_i_isOrder_l0 α N).ls 126 3))
theorem E_i_isOrder_l0_s2_ok {α : Type} (N : Nat) : EnvOk Try.prog (E_i_isOrder_l0_s2 α N) := (A_i_isOrder_l0_ok N).addLoop2 Try.func126 (by kernel_rfl) (loopSum_ok prog_mixed prog_names (A_i_isOrder_l0_ok N) Try.func126 (by kernel_rfl) (d := 1) (ro := 1) fun l K r h => by
  split at h
  · exact (i_isOrder_l0_s2_loop N _ _ _ _ K N _ _).trans h
  · cases h)

/-- impl.isOrder -/
def i_isOrder_s2_a : SPat := ⟨[.slice ⟨0, 1, 0, 8⟩ 8 8 1 true, .int .i64], [[.vals [.int .i64], .ints .u8 8, .ints .u8 8]]⟩
def i_isOrder_s2_r0 : SPat := ⟨[.bool], [[.vals [.int .i64], .ints .u8 8, .ints .u8 8]]⟩
theorem i_isOrder_s2_run {α : Type} (N : Nat) (n : Int) (h0_0 : Int) (h0_1 : Nat → Int) (h0_2 : Nat → Int) (K : AV → Heap → Option α) :
    callK Try.prog (E_i_isOrder_l0_s2 α N) 1 126 1 (buildS i_isOrder_s2_a [.i n, .i h0_0, .f h0_1, .f h0_2]).t (buildS i_isOrder_s2_a [.i n, .i h0_0, .f h0_1, .f h0_2]).h K = i_isOrder_s2 none N n h0_0 h0_1 h0_2 (fun r__ => retK (buildS i_isOrder_s2_r0 [.b r__, .i h0_0, .f h0_1, .f h0_2]) K) := by kernel_rfl
def E_i_isOrder_s2 (α : Type) (N : Nat) : Env α := (E_i_isOrder_l0_s2 α N).addFun 126 true 1 i_isOrder_s2_a (fun l K => match l with
    | [.i n, .i h0_0, .f h0_1, .f h0_2] => i_isOrder_s2 none N n h0_0 h0_1 h0_2 (fun r__ => retK (buildS i_isOrder_s2_r0 [.b r__, .i h0_0, .f h0_1, .f h0_2]) K)
    | _ => none)
theorem E_i_isOrder_s2_ok {α : Type} (N : Nat) : EnvOk Try.prog (E_i_isOrder_s2 α N) := (E_i_isOrder_l0_s2_ok N).addFun prog_mixed prog_names (d := 1) fun l K r h => by
  split at h
  · exact (i_isOrder_s2_run N _ _ _ _ K).trans h
  · cases h

/-- impl.isOrder, loop -/
def i_isOrder_l0_s3_p : SPat := ⟨[.undef, .int .i64, .undef, .undef, .undef, .int .i64, .undef, .undef, .slice ⟨0, 2, 0, 8⟩ 8 8 1 true, .intC .i64 8, .int .i64] ++ List.replicate 30 .undef, [[.vals [.int .i64], .ints .u8 8, .ints .u8 8]]⟩
def i_isOrder_l0_s3_o0 : SPat := ⟨[.undef, .undef, .undef, .undef, .boolC false] ++ List.replicate 36 .undef, [[.vals [.int .i64], .ints .u8 8, .ints .u8 8]]⟩
def i_isOrder_l0_s3_o1 : SPat := ⟨[.undef, .int .i64, .undef, .undef, .undef, .int .i64] ++ List.replicate 35 .undef, [[.vals [.int .i64], .ints .u8 8, .ints .u8 8]]⟩
theorem i_isOrder_l0_s3_round {α : Type} (N : Nat) (n : Int) (seen : Int) (t10 : Int) (h0_0 : Int) (h0_1 : Nat → Int) (h0_2 : Nat → Int) (kn : St → Option α) (K : AExit → St → Option α) :
    roundK Try.prog (E_i_isOrder_s2 α N) 1 1 126 Try.f126 3 1 (buildS i_isOrder_l0_s3_p [.i n, .i seen, .i t10, .i h0_0, .f h0_1, .f h0_2]) kn K = i_isOrder_l0_s3_s none n h0_0 h0_1 h0_2 seen t10 (fun seen t10 => kn (buildS i_isOrder_l0_s3_p [.i n, .i seen, .i t10, .i h0_0, .f h0_1, .f h0_2])) (K .ret (buildS i_isOrder_l0_s3_o0 [.i h0_0, .f h0_1, .f h0_2])) (fun seen_ => K (.exit 0) (buildS i_isOrder_l0_s3_o1 [.i n, .i seen_, .i h0_0, .f h0_1, .f h0_2])) := by kernel_rfl
theorem i_isOrder_l0_s3_loop {α : Type} (N : Nat) (n : Int) (h0_0 : Int) (h0_1 : Nat → Int) (h0_2 : Nat → Int) (K : AExit → St → Option α) : ∀ (m : Nat) (seen : Int) (t10 : Int),
    loopN (trimSt ((E_i_isOrder_s2 α N).ann 126 3).head ((E_i_isOrder_s2 α N).ann 126 3).grow 1) (bodyK Try.prog (E_i_isOrder_s2 α N) 1 1 126 Try.f126 3) m (buildS i_isOrder_l0_s3_p [.i n, .i seen, .i t10, .i h0_0, .f h0_1, .f h0_2]) (leaveLoop ((E_i_isOrder_s2 α N).ann 126 3) 1 K) = i_isOrder_l0_s3 none n h0_0 h0_1 h0_2 m seen t10 (K .ret (buildS i_isOrder_l0_s3_o0 [.i h0_0, .f h0_1, .f h0_2])) (fun seen_ => K (.exit 0) (buildS i_isOrder_l0_s3_o1 [.i n, .i seen_, .i h0_0, .f h0_1, .f h0_2])) := by
  intro m
  induction m with
  | zero => intros; rfl
  | succ m ih =>
    intro seen t10
    rw [loopN_round]
    refine (i_isOrder_l0_s3_round N n seen t10 h0_0 h0_1 h0_2 _ K).trans ?_
    simp only [ih]
    rfl
def E_i_isOrder_l0_s3 (α : Type) (N : Nat) : Env α := (E_i_isOrder_s2 α N).addLoop2 126 3 (loopSum2 ((E_i_isOrder_s2 α N).ann 126 3) 1 i_isOrder_l0_s3_p (fun l K => match l with
    | [.i n, .i seen, .i t10, .i h0_0, .f h0_1, .f h0_2] => i_isOrder_l0_s3 none n h0_0 h0_1 h0_2 N seen t10 (K .ret (buildS i_isOrder_l0_s3_o0 [.i h0_0, .f h0_1, .f h0_2])) (fun seen_ => K (.exit 0) (buildS i_isOrder_l0_s3_o1 [.i n, .i seen_, .i h0_0, .f h0_1, .f h0_2]))
    | _ => none) ((E_i_isOrder_s2 α N).ls 126 3))
theorem E_i_isOrder_l0_s3_ok {α : Type} (N : Nat) : EnvOk Try.prog (E_i_isOrder_l0_s3 α N) := (E_i_isOrder_s2_ok N).addLoop2 Try.func126 (by kernel_rfl) (loopSum_ok prog_mixed prog_names (E_i_isOrder_s2_ok N) Try.func126 (by kernel_rfl) (d := 1) (ro := 1) fun l K r h => by
  split at h
  · exact (i_isOrder_l0_s3_loop N _ _ _ _ K N _ _).trans h
  · cases h)

/-- impl.isOrder -/
def i_isOrder_s3_a : SPat := ⟨[.slice ⟨0, 2, 0, 8⟩ 8 8 1 true, .int .i64], [[.vals [.int .i64], .ints .u8 8, .ints .u8 8]]⟩
def i_isOrder_s3_r0 : SPat := ⟨[.bool], [[.vals [.int .i64], .ints .u8 8, .ints .u8 8]]⟩
theorem i_isOrder_s3_run {α : Type} (N : Nat) (n : Int) (h0_0 : Int) (h0_1 : Nat → Int) (h0_2 : Nat → Int) (K : AV → Heap → Option α) :
    callK Try.prog (E_i_isOrder_l0_s3 α N) 1 126 1 (buildS i_isOrder_s3_a [.i n, .i h0_0, .f h0_1, .f h0_2]).t (buildS i_isOrder_s3_a [.i n, .i h0_0, .f h0_1, .f h0_2]).h K = i_isOrder_s3 none N n h0_0 h0_1 h0_2 (fun r__ => retK (buildS i_isOrder_s3_r0 [.b r__, .i h0_0, .f h0_1, .f h0_2]) K) := by kernel_rfl
def E_i_isOrder_s3 (α : Type) (N : Nat) : Env α := (E_i_isOrder_l0_s3 α N).addFun 126 true 1 i_isOrder_s3_a (fun l K => match l with
    | [.i n, .i h0_0, .f h0_1, .f h0_2] => i_isOrder_s3 none N n h0_0 h0_1 h0_2 (fun r__ => retK (buildS i_isOrder_s3_r0 [.b r__, .i h0_0, .f h0_1, .f h0_2]) K)
    | _ => none)
theorem E_i_isOrder_s3_ok {α : Type} (N : Nat) : EnvOk Try.prog (E_i_isOrder_s3 α N) := (E_i_isOrder_l0_s3_ok N).addFun prog_mixed prog_names (d := 1) fun l K r h => by
  split at h
  · exact (i_isOrder_s3_run N _ _ _ _ K).trans h
  · cases h

def A_i_IsGrid_l0 (α : Type) (N : Nat) : Env α := (E_i_isOrder_s3 α N).addAnn 74 4 { head := [1, 25, 26], grow := [], out := [], ret := [2] }
theorem A_i_IsGrid_l0_ok {α : Type} (N : Nat) : EnvOk Try.prog (A_i_IsGrid_l0 α N) := (E_i_isOrder_s3_ok N).addAnn

/-- impl.IsGrid, loop -/
def i_IsGrid_l0_p : SPat := ⟨[.undef, .ptr ⟨0, 0, 0, 1⟩, .undef, .undef, .undef, .undef, .undef, .undef, .undef, .undef, .undef, .undef, .undef, .undef, .undef, .undef, .undef, .undef, .undef, .undef, .undef, .undef, .undef, .undef, .undef, .int .i64, .int .i64] ++ List.replicate 12 .undef, [[.vals [.int .i64], .ints .u8 8, .ints .u8 8]]⟩
def i_IsGrid_l0_o0 : SPat := ⟨[.undef, .undef, .boolC false] ++ List.replicate 36 .undef, [[.vals [.int .i64], .ints .u8 8, .ints .u8 8]]⟩
def i_IsGrid_l0_o1 : SPat := ⟨[] ++ List.replicate 39 .undef, [[.vals [.int .i64], .ints .u8 8, .ints .u8 8]]⟩
theorem i_IsGrid_l0_round {α : Type} (N : Nat) (t25 : Int) (t26 : Int) (h0_0 : Int) (h0_1 : Nat → Int) (h0_2 : Nat → Int) (kn : St → Option α) (K : AExit → St → Option α) :
    roundK Try.prog (A_i_IsGrid_l0 α N) 1 0 74 Try.f74 4 1 (buildS i_IsGrid_l0_p [.i t25, .i t26, .i h0_0, .f h0_1, .f h0_2]) kn K = i_IsGrid_l0_s none t25 h0_0 h0_1 h0_2 t26 (fun t26 => kn (buildS i_IsGrid_l0_p [.i t25, .i t26, .i h0_0, .f h0_1, .f h0_2])) (K .ret (buildS i_IsGrid_l0_o0 [.i h0_0, .f h0_1, .f h0_2])) (K (.exit 0) (buildS i_IsGrid_l0_o1 [.i h0_0, .f h0_1, .f h0_2])) := by kernel_rfl
theorem i_IsGrid_l0_loop {α : Type} (N : Nat) (t25 : Int) (h0_0 : Int) (h0_1 : Nat → Int) (h0_2 : Nat → Int) (K : AExit → St → Option α) : ∀ (m : Nat) (t26 : Int),
    loopN (trimSt ((A_i_IsGrid_l0 α N).ann 74 4).head ((A_i_IsGrid_l0 α N).ann 74 4).grow 1) (bodyK Try.prog (A_i_IsGrid_l0 α N) 1 0 74 Try.f74 4) m (buildS i_IsGrid_l0_p [.i t25, .i t26, .i h0_0, .f h0_1, .f h0_2]) (leaveLoop ((A_i_IsGrid_l0 α N).ann 74 4) 1 K) = i_IsGrid_l0 none t25 h0_0 h0_1 h0_2 m t26 (K .ret (buildS i_IsGrid_l0_o0 [.i h0_0, .f h0_1, .f h0_2])) (K (.exit 0) (buildS i_IsGrid_l0_o1 [.i h0_0, .f h0_1, .f h0_2])) := by
  intro m
  induction m with
  | zero => intros; rfl
  | succ m ih =>
    intro t26
    rw [loopN_round]
    refine (i_IsGrid_l0_round N t25 t26 h0_0 h0_1 h0_2 _ K).trans ?_
    simp only [ih]
    rfl
def E_i_IsGrid_l0 (α : Type) (N : Nat) : Env α := (A_i_IsGrid_l0 α N).addLoop2 74 4 (loopSum2 ((A_i_IsGrid_l0 α N).ann 74 4) 0 i_IsGrid_l0_p (fun l K => match l with
    | [.i t25, .i t26, .i h0_0, .f h0_1, .f h0_2] => i_IsGrid_l0 none t25 h0_0 h0_1 h0_2 N t26 (K .ret (buildS i_IsGrid_l0_o0 [.i h0_0, .f h0_1, .f h0_2])) (K (.exit 0) (buildS i_IsGrid_l0_o1 [.i h0_0, .f h0_1, .f h0_2]))
    | _ => none) ((A_i_IsGrid_l0 α N).ls 74 4))
theorem E_i_IsGrid_l0_ok {α : Type} (N : Nat) : EnvOk Try.prog (E_i_IsGrid_l0 α N) := (A_i_IsGrid_l0_ok N).addLoop2 Try.func74 (by kernel_rfl) (loopSum_ok prog_mixed prog_names (A_i_IsGrid_l0_ok N) Try.func74 (by kernel_rfl) (d := 1) (ro := 0) fun l K r h => by
  split at h
  · exact (i_IsGrid_l0_loop N _ _ _ _ K N _).trans h
  · cases h)

/-- impl.IsGrid -/
def i_IsGrid_a : SPat := ⟨[.agg [.vals [.int .i64], .ints .u8 8, .ints .u8 8]], []⟩
def i_IsGrid_r0 : SPat := ⟨[.bool], []⟩
theorem i_IsGrid_run {α : Type} (N : Nat) (g_0 : Int) (g_1 : Nat → Int) (g_2 : Nat → Int) (K : AV → Heap → Option α) :
    callK Try.prog (E_i_IsGrid_l0 α N) 1 74 0 (buildS i_IsGrid_a [.i g_0, .f g_1, .f g_2]).t (buildS i_IsGrid_a [.i g_0, .f g_1, .f g_2]).h K = i_IsGrid none N g_0 g_1 g_2 (fun r__ => retK (buildS i_IsGrid_r0 [.b r__]) K) := by kernel_rfl
def E_i_IsGrid (α : Type) (N : Nat) : Env α := (E_i_IsGrid_l0 α N).addFun 74 true 0 i_IsGrid_a (fun l K => match l with
    | [.i g_0, .f g_1, .f g_2] => i_IsGrid none N g_0 g_1 g_2 (fun r__ => retK (buildS i_IsGrid_r0 [.b r__]) K)
    | _ => none)
theorem E_i_IsGrid_ok {α : Type} (N : Nat) : EnvOk Try.prog (E_i_IsGrid α N) := (E_i_IsGrid_l0_ok N).addFun prog_mixed prog_names (d := 1) fun l K r h => by
  split at h
  · exact (i_IsGrid_run N _ _ _ K).trans h
  · cases h

def A_s_l07Corners_l0 (α : Type) (N : Nat) : Env α := (E_i_IsGrid α N).addAnn 83 3 { head := [1, 3, 4], grow := [3], out := [3], ret := [2] }
theorem A_s_l07Corners_l0_ok {α : Type} (N : Nat) : EnvOk Try.prog (A_s_l07Corners_l0 α N) := (E_i_IsGrid_ok N).addAnn

def A_s_l01Row_l0 (α : Type) (N : Nat) : Env α := (A_s_l07Corners_l0 α N).addAnn 139 2 { head := [1, 2, 3, 7], grow := [], out := [], ret := [6] }
theorem A_s_l01Row_l0_ok {α : Type} (N : Nat) : EnvOk Try.prog (A_s_l01Row_l0 α N) := (A_s_l07Corners_l0_ok N).addAnn

/-- spec.l01Row, loop -/
def s_l01Row_l0_p : SPat := ⟨[.undef, .int .i64, .int .i64, .ptr ⟨0, 0, 0, 8⟩, .undef, .undef, .undef, .int .i64] ++ List.replicate 12 .undef, [[.ints .u8 8]]⟩
def s_l01Row_l0_o0 : SPat := ⟨[.undef, .undef, .undef, .undef, .undef, .undef, .int .i64] ++ List.replicate 13 .undef, [[.ints .u8 8]]⟩
def s_l01Row_l0_o1 : SPat := ⟨[] ++ List.replicate 20 .undef, [[.ints .u8 8]]⟩
theorem s_l01Row_l0_round {α : Type} (N : Nat) (n : Int) (r_ : Int) (i : Int) (h0 : Nat → Int) (kn : St → Option α) (K : AExit → St → Option α) :
    roundK Try.prog (A_s_l01Row_l0 α N) 1 0 139 Try.f139 2 1 (buildS s_l01Row_l0_p [.i n, .i r_, .i i, .f h0]) kn K = s_l01Row_l0_s none n r_ h0 i (fun i => kn (buildS s_l01Row_l0_p [.i n, .i r_, .i i, .f h0])) (fun t6_ => K .ret (buildS s_l01Row_l0_o0 [.i t6_, .f h0])) (K (.exit 0) (buildS s_l01Row_l0_o1 [.f h0])) := by kernel_rfl
theorem s_l01Row_l0_loop {α : Type} (N : Nat) (n : Int) (r_ : Int) (h0 : Nat → Int) (K : AExit → St → Option α) : ∀ (m : Nat) (i : Int),
    loopN (trimSt ((A_s_l01Row_l0 α N).ann 139 2).head ((A_s_l01Row_l0 α N).ann 139 2).grow 1) (bodyK Try.prog (A_s_l01Row_l0 α N) 1 0 139 Try.f139 2) m (buildS s_l01Row_l0_p [.i n, .i r_, .i i, .f h0]) (leaveLoop ((A_s_l01Row_l0 α N).ann 139 2) 1 K) = s_l01Row_l0 none n r_ h0 m i (fun t6_ => K .ret (buildS s_l01Row_l0_o0 [.i t6_, .f h0])) (K (.exit 0) (buildS s_l01Row_l0_o1 [.f h0])) := by
  intro m
  induction m with
  | zero => intros; rfl
  | succ m ih =>
    intro i
    rw [loopN_round]
    refine (s_l01Row_l0_round N n r_ i h0 _ K).trans ?_
    simp only [ih]
    rfl
def E_s_l01Row_l0 (α : Type) (N : Nat) : Env α := (A_s_l01Row_l0 α N).addLoop2 139 2 (loopSum2 ((A_s_l01Row_l0 α N).ann 139 2) 0 s_l01Row_l0_p (fun l K => match l with
    | [.i n, .i r_, .i i, .f h0] => s_l01Row_l0 none n r_ h0 N i (fun t6_ => K .ret (buildS s_l01Row_l0_o0 [.i t6_, .f h0])) (K (.exit 0) (buildS s_l01Row_l0_o1 [.f h0]))
    | _ => none) ((A_s_l01Row_l0 α N).ls 139 2))
theorem E_s_l01Row_l0_ok {α : Type} (N : Nat) : EnvOk Try.prog (E_s_l01Row_l0 α N) := (A_s_l01Row_l0_ok N).addLoop2 Try.func139 (by kernel_rfl) (loopSum_ok prog_mixed prog_names (A_s_l01Row_l0_ok N) Try.func139 (by kernel_rfl) (d := 1) (ro := 0) fun l K r h => by
  split at h
  · exact (s_l01Row_l0_loop N _ _ _ K N _).trans h
  · cases h)

/-- spec.l01Row -/
def s_l01Row_a : SPat := ⟨[.agg [.ints .u8 8], .int .i64, .int .i64], []⟩
def s_l01Row_r0 : SPat := ⟨[.int .i64], []⟩
theorem s_l01Row_run {α : Type} (N : Nat) (list : Nat → Int) (n : Int) (r_ : Int) (K : AV → Heap → Option α) :
    callK Try.prog (E_s_l01Row_l0 α N) 1 139 0 (buildS s_l01Row_a [.f list, .i n, .i r_]).t (buildS s_l01Row_a [.f list, .i n, .i r_]).h K = s_l01Row none N list n r_ (fun r__ => retK (buildS s_l01Row_r0 [.i r__]) K) := by kernel_rfl
def E_s_l01Row (α : Type) (N : Nat) : Env α := (E_s_l01Row_l0 α N).addFun 139 true 0 s_l01Row_a (fun l K => match l with
    | [.f list, .i n, .i r_] => s_l01Row none N list n r_ (fun r__ => retK (buildS s_l01Row_r0 [.i r__]) K)
    | _ => none)
theorem E_s_l01Row_ok {α : Type} (N : Nat) : EnvOk Try.prog (E_s_l01Row α N) := (E_s_l01Row_l0_ok N).addFun prog_mixed prog_names (d := 1) fun l K r h => by
  split at h
  · exact (s_l01Row_run N _ _ _ K).trans h
  · cases h

/-- spec.l07Kind -/
def s_l07Kind_a : SPat := ⟨[.agg [.vals [.int .i64], .ints .u8 8, .ints .u8 8], .int .i64, .int .i64, .bool], []⟩
def s_l07Kind_r0 : SPat := ⟨[.int .i64], []⟩
theorem s_l07Kind_run {α : Type} (N : Nat) (g_0 : Int) (g_1 : Nat → Int) (g_2 : Nat → Int) (i : Int) (r_ : Int) (isX : Bool) (K : AV → Heap → Option α) :
    callK Try.prog (E_s_l01Row α N) 1 131 0 (buildS s_l07Kind_a [.i g_0, .f g_1, .f g_2, .i i, .i r_, .b isX]).t (buildS s_l07Kind_a [.i g_0, .f g_1, .f g_2, .i i, .i r_, .b isX]).h K = s_l07Kind none N g_0 g_1 g_2 i r_ isX (fun r__ => retK (buildS s_l07Kind_r0 [.i r__]) K) := by kernel_rfl
def E_s_l07Kind (α : Type) (N : Nat) : Env α := (E_s_l01Row α N).addFun 131 true 0 s_l07Kind_a (fun l K => match l with
    | [.i g_0, .f g_1, .f g_2, .i i, .i r_, .b isX] => s_l07Kind none N g_0 g_1 g_2 i r_ isX (fun r__ => retK (buildS s_l07Kind_r0 [.i r__]) K)
    | _ => none)
theorem E_s_l07Kind_ok {α : Type} (N : Nat) : EnvOk Try.prog (E_s_l07Kind α N) := (E_s_l01Row_ok N).addFun prog_mixed prog_names (d := 1) fun l K r h => by
  split at h
  · exact (s_l07Kind_run N _ _ _ _ _ _ K).trans h
  · cases h

/-- spec.l07Corners, loop -/
def s_l07Corners_l0_p : SPat := ⟨[.undef, .ptr ⟨0, 0, 0, 1⟩, .undef, .sliceV 1 0 0 4 false, .int .i64] ++ List.replicate 37 .undef, [[.vals [.int .i64], .ints .u8 8, .ints .u8 8], [.recs [some IntKind.i64, some IntKind.i64, some IntKind.i64, none]]]⟩
def s_l07Corners_l0_o0 : SPat := ⟨[.undef, .undef, .undef, .sliceV 1 0 0 4 false] ++ List.replicate 38 .undef, [[.vals [.int .i64], .ints .u8 8, .ints .u8 8], [.recs [some IntKind.i64, some IntKind.i64, some IntKind.i64, none]]]⟩
theorem s_l07Corners_l0_round {α : Type} (N : Nat) (out_n : Nat) (out_l : Nat) (out_c : Nat) (i : Int) (h0_0 : Int) (h0_1 : Nat → Int) (h0_2 : Nat → Int) (h1 : List Int) (kn : St → Option α) (K : AExit → St → Option α) :
    roundK Try.prog (E_s_l07Kind α N) 1 0 83 Try.f83 3 2 (buildS s_l07Corners_l0_p [.n out_n, .n out_l, .n out_c, .i i, .i h0_0, .f h0_1, .f h0_2, .l h1]) kn K = s_l07Corners_l0_s none N h0_0 h0_1 h0_2 out_n out_l out_c i h1 (fun out_n out_l out_c i h1 => kn (buildS s_l07Corners_l0_p [.n out_n, .n out_l, .n out_c, .i i, .i h0_0, .f h0_1, .f h0_2, .l h1])) (fun out_n_ out_l_ out_c_ h1_ => K (.exit 0) (buildS s_l07Corners_l0_o0 [.n out_n_, .n out_l_, .n out_c_, .i h0_0, .f h0_1, .f h0_2, .l h1_])) := by kernel_rfl
theorem s_l07Corners_l0_loop {α : Type} (N : Nat) (h0_0 : Int) (h0_1 : Nat → Int) (h0_2 : Nat → Int) (K : AExit → St → Option α) : ∀ (m : Nat) (out_n : Nat) (out_l : Nat) (out_c : Nat) (i : Int) (h1 : List Int),
    loopN (trimSt ((E_s_l07Kind α N).ann 83 3).head ((E_s_l07Kind α N).ann 83 3).grow 2) (bodyK Try.prog (E_s_l07Kind α N) 1 0 83 Try.f83 3) m (buildS s_l07Corners_l0_p [.n out_n, .n out_l, .n out_c, .i i, .i h0_0, .f h0_1, .f h0_2, .l h1]) (leaveLoop ((E_s_l07Kind α N).ann 83 3) 2 K) = s_l07Corners_l0 none N h0_0 h0_1 h0_2 m out_n out_l out_c i h1 (fun out_n_ out_l_ out_c_ h1_ => K (.exit 0) (buildS s_l07Corners_l0_o0 [.n out_n_, .n out_l_, .n out_c_, .i h0_0, .f h0_1, .f h0_2, .l h1_])) := by
  intro m
  induction m with
  | zero => intros; rfl
  | succ m ih =>
    intro out_n out_l out_c i h1
    rw [loopN_round]
    refine (s_l07Corners_l0_round N out_n out_l out_c i h0_0 h0_1 h0_2 h1 _ K).trans ?_
    simp only [ih]
    rfl
def E_s_l07Corners_l0 (α : Type) (N : Nat) : Env α := (E_s_l07Kind α N).addLoop2 83 3 (loopSum2 ((E_s_l07Kind α N).ann 83 3) 0 s_l07Corners_l0_p (fun l K => match l with
    | [.n out_n, .n out_l, .n out_c, .i i, .i h0_0, .f h0_1, .f h0_2, .l h1] => s_l07Corners_l0 none N h0_0 h0_1 h0_2 N out_n out_l out_c i h1 (fun out_n_ out_l_ out_c_ h1_ => K (.exit 0) (buildS s_l07Corners_l0_o0 [.n out_n_, .n out_l_, .n out_c_, .i h0_0, .f h0_1, .f h0_2, .l h1_]))
    | _ => none) ((E_s_l07Kind α N).ls 83 3))
theorem E_s_l07Corners_l0_ok {α : Type} (N : Nat) : EnvOk Try.prog (E_s_l07Corners_l0 α N) := (E_s_l07Kind_ok N).addLoop2 Try.func83 (by kernel_rfl) (loopSum_ok prog_mixed prog_names (E_s_l07Kind_ok N) Try.func83 (by kernel_rfl) (d := 1) (ro := 0) fun l K r h => by
  split at h
  · exact (s_l07Corners_l0_loop N _ _ _ K N _ _ _ _ _).trans h
  · cases h)

/-- spec.l07Corners -/
def s_l07Corners_a : SPat := ⟨[.agg [.vals [.int .i64], .ints .u8 8, .ints .u8 8]], []⟩
def s_l07Corners_r0 : SPat := ⟨[.sliceV 0 0 0 4 false], [[.recs [some IntKind.i64, some IntKind.i64, some IntKind.i64, none]]]⟩
theorem s_l07Corners_run {α : Type} (N : Nat) (g_0 : Int) (g_1 : Nat → Int) (g_2 : Nat → Int) (K : AV → Heap → Option α) :
    callK Try.prog (E_s_l07Corners_l0 α N) 1 83 0 (buildS s_l07Corners_a [.i g_0, .f g_1, .f g_2]).t (buildS s_l07Corners_a [.i g_0, .f g_1, .f g_2]).h K = s_l07Corners none N g_0 g_1 g_2 (fun r_n_ r_l_ r_c_ h0_ => retK (buildS s_l07Corners_r0 [.n r_n_, .n r_l_, .n r_c_, .l h0_]) K) := by kernel_rfl
def E_s_l07Corners (α : Type) (N : Nat) : Env α := (E_s_l07Corners_l0 α N).addFun 83 true 0 s_l07Corners_a (fun l K => match l with
    | [.i g_0, .f g_1, .f g_2] => s_l07Corners none N g_0 g_1 g_2 (fun r_n_ r_l_ r_c_ h0_ => retK (buildS s_l07Corners_r0 [.n r_n_, .n r_l_, .n r_c_, .l h0_]) K)
    | _ => none)
theorem E_s_l07Corners_ok {α : Type} (N : Nat) : EnvOk Try.prog (E_s_l07Corners α N) := (E_s_l07Corners_l0_ok N).addFun prog_mixed prog_names (d := 1) fun l K r h => by
  split at h
  · exact (s_l07Corners_run N _ _ _ K).trans h
  · cases h

/-- spec.CornersOf -/
def s_CornersOf_a : SPat := ⟨[.agg [.vals [.int .i64], .ints .u8 8, .ints .u8 8]], []⟩
def s_CornersOf_r0 : SPat := ⟨[.tuple [.nils, .int .i64]], []⟩
def s_CornersOf_r1 : SPat := ⟨[.tuple [.sliceV 0 0 0 4 false, .int .i64]], [[.recs [some IntKind.i64, some IntKind.i64, some IntKind.i64, none]]]⟩
theorem s_CornersOf_run {α : Type} (N : Nat) (g_0 : Int) (g_1 : Nat → Int) (g_2 : Nat → Int) (K : AV → Heap → Option α) :
    callK Try.prog (E_s_l07Corners α N) 1 32 0 (buildS s_CornersOf_a [.i g_0, .f g_1, .f g_2]).t (buildS s_CornersOf_a [.i g_0, .f g_1, .f g_2]).h K = s_CornersOf none N g_0 g_1 g_2 (fun r_1_ => retK (buildS s_CornersOf_r0 [.i r_1_]) K) (fun r_0_n_ r_0_l_ r_0_c_ r_1_ h0_ => retK (buildS s_CornersOf_r1 [.n r_0_n_, .n r_0_l_, .n r_0_c_, .i r_1_, .l h0_]) K) := by kernel_rfl
def E_s_CornersOf (α : Type) (N : Nat) : Env α := (E_s_l07Corners α N).addFun 32 true 0 s_CornersOf_a (fun l K => match l with
    | [.i g_0, .f g_1, .f g_2] => s_CornersOf none N g_0 g_1 g_2 (fun r_1_ => retK (buildS s_CornersOf_r0 [.i r_1_]) K) (fun r_0_n_ r_0_l_ r_0_c_ r_1_ h0_ => retK (buildS s_CornersOf_r1 [.n r_0_n_, .n r_0_l_, .n r_0_c_, .i r_1_, .l h0_]) K)
    | _ => none)
theorem E_s_CornersOf_ok {α : Type} (N : Nat) : EnvOk Try.prog (E_s_CornersOf α N) := (E_s_l07Corners_ok N).addFun prog_mixed prog_names (d := 1) fun l K r h => by
  split at h
  · exact (s_CornersOf_run N _ _ _ K).trans h
  · cases h

def A_i_Grid_places_l0 (α : Type) (N : Nat) : Env α := (E_s_CornersOf α N).addAnn 132 3 { head := [3, 4, 5, 9, 10], grow := [], out := [4, 5], ret := [4] }
theorem A_i_Grid_places_l0_ok {α : Type} (N : Nat) : EnvOk Try.prog (A_i_Grid_places_l0 α N) := (E_s_CornersOf_ok N).addAnn

/-- (impl.Grid).places, loop -/
def i_Grid_places_l0_p : SPat := ⟨[.undef, .undef, .undef, .ptr ⟨1, 0, 0, 8⟩, .ptr ⟨2, 0, 0, 8⟩, .ptr ⟨3, 0, 0, 8⟩, .undef, .undef, .undef, .int .i64, .int .i64] ++ List.replicate 9 .undef, [[.vals [.int .i64], .ints .u8 8, .ints .u8 8], [.ints .u8 8], [.ints .i64 8], [.ints .i64 8]]⟩
def i_Grid_places_l0_o0 : SPat := ⟨[.undef, .undef, .undef, .undef, .ptr ⟨2, 0, 0, 8⟩, .ptr ⟨3, 0, 0, 8⟩] ++ List.replicate 14 .undef, [[.vals [.int .i64], .ints .u8 8, .ints .u8 8], [.ints .u8 8], [.ints .i64 8], [.ints .i64 8]]⟩
theorem i_Grid_places_l0_round {α : Type} (N : Nat) (t9 : Int) (t10 : Int) (h0_0 : Int) (h0_1 : Nat → Int) (h0_2 : Nat → Int) (h1 : Nat → Int) (h2 : Nat → Int) (h3 : Nat → Int) (kn : St → Option α) (K : AExit → St → Option α) :
    roundK Try.prog (A_i_Grid_places_l0 α N) 1 0 132 Try.f132 3 4 (buildS i_Grid_places_l0_p [.i t9, .i t10, .i h0_0, .f h0_1, .f h0_2, .f h1, .f h2, .f h3]) kn K = i_Grid_places_l0_s none t9 h0_0 h0_1 h0_2 h1 h2 t10 h3 (fun t10 h3 => kn (buildS i_Grid_places_l0_p [.i t9, .i t10, .i h0_0, .f h0_1, .f h0_2, .f h1, .f h2, .f h3])) (fun h3_ => K (.exit 0) (buildS i_Grid_places_l0_o0 [.i h0_0, .f h0_1, .f h0_2, .f h1, .f h2, .f h3_])) := by kernel_rfl
theorem i_Grid_places_l0_loop {α : Type} (N : Nat) (t9 : Int) (h0_0 : Int) (h0_1 : Nat → Int) (h0_2 : Nat → Int) (h1 : Nat → Int) (h2 : Nat → Int) (K : AExit → St → Option α) : ∀ (m : Nat) (t10 : Int) (h3 : Nat → Int),
    loopN (trimSt ((A_i_Grid_places_l0 α N).ann 132 3).head ((A_i_Grid_places_l0 α N).ann 132 3).grow 4) (bodyK Try.prog (A_i_Grid_places_l0 α N) 1 0 132 Try.f132 3) m (buildS i_Grid_places_l0_p [.i t9, .i t10, .i h0_0, .f h0_1, .f h0_2, .f h1, .f h2, .f h3]) (leaveLoop ((A_i_Grid_places_l0 α N).ann 132 3) 4 K) = i_Grid_places_l0 none t9 h0_0 h0_1 h0_2 h1 h2 m t10 h3 (fun h3_ => K (.exit 0) (buildS i_Grid_places_l0_o0 [.i h0_0, .f h0_1, .f h0_2, .f h1, .f h2, .f h3_])) := by
  intro m
  induction m with
  | zero => intros; rfl
  | succ m ih =>
    intro t10 h3
    rw [loopN_round]
    refine (i_Grid_places_l0_round N t9 t10 h0_0 h0_1 h0_2 h1 h2 h3 _ K).trans ?_
    simp only [ih]
    rfl
def E_i_Grid_places_l0 (α : Type) (N : Nat) : Env α := (A_i_Grid_places_l0 α N).addLoop2 132 3 (loopSum2 ((A_i_Grid_places_l0 α N).ann 132 3) 0 i_Grid_places_l0_p (fun l K => match l with
    | [.i t9, .i t10, .i h0_0, .f h0_1, .f h0_2, .f h1, .f h2, .f h3] => i_Grid_places_l0 none t9 h0_0 h0_1 h0_2 h1 h2 N t10 h3 (fun h3_ => K (.exit 0) (buildS i_Grid_places_l0_o0 [.i h0_0, .f h0_1, .f h0_2, .f h1, .f h2, .f h3_]))
    | _ => none) ((A_i_Grid_places_l0 α N).ls 132 3))
theorem E_i_Grid_places_l0_ok {α : Type} (N : Nat) : EnvOk Try.prog (E_i_Grid_places_l0 α N) := (A_i_Grid_places_l0_ok N).addLoop2 Try.func132 (by kernel_rfl) (loopSum_ok prog_mixed prog_names (A_i_Grid_places_l0_ok N) Try.func132 (by kernel_rfl) (d := 1) (ro := 0) fun l K r h => by
  split at h
  · exact (i_Grid_places_l0_loop N _ _ _ _ _ _ K N _ _).trans h
  · cases h)

/-- (impl.Grid).places -/
def i_Grid_places_a : SPat := ⟨[.agg [.vals [.int .i64], .ints .u8 8, .ints .u8 8], .agg [.ints .u8 8]], []⟩
def i_Grid_places_r0 : SPat := ⟨[.agg [.ints .i64 8]], []⟩
theorem i_Grid_places_run {α : Type} (N : Nat) (g_0 : Int) (g_1 : Nat → Int) (g_2 : Nat → Int) (rows : Nat → Int) (K : AV → Heap → Option α) :
    callK Try.prog (E_i_Grid_places_l0 α N) 1 132 0 (buildS i_Grid_places_a [.i g_0, .f g_1, .f g_2, .f rows]).t (buildS i_Grid_places_a [.i g_0, .f g_1, .f g_2, .f rows]).h K = i_Grid_places none N g_0 g_1 g_2 rows (fun r__ => retK (buildS i_Grid_places_r0 [.f r__]) K) := by kernel_rfl
def E_i_Grid_places (α : Type) (N : Nat) : Env α := (E_i_Grid_places_l0 α N).addFun 132 true 0 i_Grid_places_a (fun l K => match l with
    | [.i g_0, .f g_1, .f g_2, .f rows] => i_Grid_places none N g_0 g_1 g_2 rows (fun r__ => retK (buildS i_Grid_places_r0 [.f r__]) K)
    | _ => none)
theorem E_i_Grid_places_ok {α : Type} (N : Nat) : EnvOk Try.prog (E_i_Grid_places α N) := (E_i_Grid_places_l0_ok N).addFun prog_mixed prog_names (d := 1) fun l K r h => by
  split at h
  · exact (i_Grid_places_run N _ _ _ _ K).trans h
  · cases h

def A_i_Grid_corners_l0 (α : Type) (N : Nat) : Env α := (E_i_Grid_places α N).addAnn 85 3 { head := [1, 3, 4, 5, 19, 20], grow := [5], out := [5], ret := [2] }
theorem A_i_Grid_corners_l0_ok {α : Type} (N : Nat) : EnvOk Try.prog (A_i_Grid_corners_l0 α N) := (E_i_Grid_places_ok N).addAnn

/-- impl.kind -/
def i_kind_a : SPat := ⟨[.int .i64, .int .i64, .int .i64, .int .i64], []⟩
def i_kind_r0 : SPat := ⟨[.int .i64], []⟩
theorem i_kind_run {α : Type} (N : Nat) (column : Int) (row : Int) (otherRow : Int) (otherColumn : Int) (K : AV → Heap → Option α) :
    callK Try.prog (A_i_Grid_corners_l0 α N) 1 133 0 (buildS i_kind_a [.i column, .i row, .i otherRow, .i otherColumn]).t (buildS i_kind_a [.i column, .i row, .i otherRow, .i otherColumn]).h K = i_kind none N column row otherRow otherColumn (fun r__ => retK (buildS i_kind_r0 [.i r__]) K) := by kernel_rfl
def E_i_kind (α : Type) (N : Nat) : Env α := (A_i_Grid_corners_l0 α N).addFun 133 true 0 i_kind_a (fun l K => match l with
    | [.i column, .i row, .i otherRow, .i otherColumn] => i_kind none N column row otherRow otherColumn (fun r__ => retK (buildS i_kind_r0 [.i r__]) K)
    | _ => none)
theorem E_i_kind_ok {α : Type} (N : Nat) : EnvOk Try.prog (E_i_kind α N) := (A_i_Grid_corners_l0_ok N).addFun prog_mixed prog_names (d := 1) fun l K r h => by
  split at h
  · exact (i_kind_run N _ _ _ _ K).trans h
  · cases h

/-- (impl.Grid).corners, loop -/
def i_Grid_corners_l0_p : SPat := ⟨[.undef, .ptr ⟨0, 0, 0, 1⟩, .undef, .ptr ⟨2, 0, 0, 8⟩, .ptr ⟨3, 0, 0, 8⟩, .sliceV 1 0 0 4 false, .undef, .undef, .undef, .undef, .undef, .undef, .undef, .undef, .undef, .undef, .undef, .undef, .undef, .int .i64, .int .i64] ++ List.replicate 40 .undef, [[.vals [.int .i64], .ints .u8 8, .ints .u8 8], [.recs [some IntKind.i64, some IntKind.i64, some IntKind.i64, none]], [.ints .i64 8], [.ints .i64 8]]⟩
def i_Grid_corners_l0_o0 : SPat := ⟨[.undef, .undef, .undef, .undef, .undef, .sliceV 1 0 0 4 false] ++ List.replicate 55 .undef, [[.vals [.int .i64], .ints .u8 8, .ints .u8 8], [.recs [some IntKind.i64, some IntKind.i64, some IntKind.i64, none]], [.ints .i64 8], [.ints .i64 8]]⟩
theorem i_Grid_corners_l0_round {α : Type} (N : Nat) (out_n : Nat) (out_l : Nat) (out_c : Nat) (t19 : Int) (t20 : Int) (h0_0 : Int) (h0_1 : Nat → Int) (h0_2 : Nat → Int) (h1 : List Int) (h2 : Nat → Int) (h3 : Nat → Int) (kn : St → Option α) (K : AExit → St → Option α) :
    roundK Try.prog (E_i_kind α N) 1 0 85 Try.f85 3 4 (buildS i_Grid_corners_l0_p [.n out_n, .n out_l, .n out_c, .i t19, .i t20, .i h0_0, .f h0_1, .f h0_2, .l h1, .f h2, .f h3]) kn K = i_Grid_corners_l0_s none N t19 h0_0 h0_1 h0_2 h2 h3 out_n out_l out_c t20 h1 (fun out_n out_l out_c t20 h1 => kn (buildS i_Grid_corners_l0_p [.n out_n, .n out_l, .n out_c, .i t19, .i t20, .i h0_0, .f h0_1, .f h0_2, .l h1, .f h2, .f h3])) (fun out_n_ out_l_ out_c_ h1_ => K (.exit 0) (buildS i_Grid_corners_l0_o0 [.n out_n_, .n out_l_, .n out_c_, .i h0_0, .f h0_1, .f h0_2, .l h1_, .f h2, .f h3])) := by kernel_rfl
theorem i_Grid_corners_l0_loop {α : Type} (N : Nat) (t19 : Int) (h0_0 : Int) (h0_1 : Nat → Int) (h0_2 : Nat → Int) (h2 : Nat → Int) (h3 : Nat → Int) (K : AExit → St → Option α) : ∀ (m : Nat) (out_n : Nat) (out_l : Nat) (out_c : Nat) (t20 : Int) (h1 : List Int),
    loopN (trimSt ((E_i_kind α N).ann 85 3).head ((E_i_kind α N).ann 85 3).grow 4) (bodyK Try.prog (E_i_kind α N) 1 0 85 Try.f85 3) m (buildS i_Grid_corners_l0_p [.n out_n, .n out_l, .n out_c, .i t19, .i t20, .i h0_0, .f h0_1, .f h0_2, .l h1, .f h2, .f h3]) (leaveLoop ((E_i_kind α N).ann 85 3) 4 K) = i_Grid_corners_l0 none N t19 h0_0 h0_1 h0_2 h2 h3 m out_n out_l out_c t20 h1 (fun out_n_ out_l_ out_c_ h1_ => K (.exit 0) (buildS i_Grid_corners_l0_o0 [.n out_n_, .n out_l_, .n out_c_, .i h0_0, .f h0_1, .f h0_2, .l h1_, .f h2, .f h3])) := by
  intro m
  induction m with
  | zero => intros; rfl
  | succ m ih =>
    intro out_n out_l out_c t20 h1
    rw [loopN_round]
    refine (i_Grid_corners_l0_round N out_n out_l out_c t19 t20 h0_0 h0_1 h0_2 h1 h2 h3 _ K).trans ?_
    simp only [ih]
    rfl
def E_i_Grid_corners_l0 (α : Type) (N : Nat) : Env α := (E_i_kind α N).addLoop2 85 3 (loopSum2 ((E_i_kind α N).ann 85 3) 0 i_Grid_corners_l0_p (fun l K => match l with
    | [.n out_n, .n out_l, .n out_c, .i t19, .i t20, .i h0_0, .f h0_1, .f h0_2, .l h1, .f h2, .f h3] => i_Grid_corners_l0 none N t19 h0_0 h0_1 h0_2 h2 h3 N out_n out_l out_c t20 h1 (fun out_n_ out_l_ out_c_ h1_ => K (.exit 0) (buildS i_Grid_corners_l0_o0 [.n out_n_, .n out_l_, .n out_c_, .i h0_0, .f h0_1, .f h0_2, .l h1_, .f h2, .f h3]))
    | _ => none) ((E_i_kind α N).ls 85 3))
theorem E_i_Grid_corners_l0_ok {α : Type} (N : Nat) : EnvOk Try.prog (E_i_Grid_corners_l0 α N) := (E_i_kind_ok N).addLoop2 Try.func85 (by kernel_rfl) (loopSum_ok prog_mixed prog_names (E_i_kind_ok N) Try.func85 (by kernel_rfl) (d := 1) (ro := 0) fun l K r h => by
  split at h
  · exact (i_Grid_corners_l0_loop N _ _ _ _ _ _ K N _ _ _ _ _).trans h
  · cases h)

/-- (impl.Grid).corners -/
def i_Grid_corners_a : SPat := ⟨[.agg [.vals [.int .i64], .ints .u8 8, .ints .u8 8]], []⟩
def i_Grid_corners_r0 : SPat := ⟨[.sliceV 0 0 0 4 false], [[.recs [some IntKind.i64, some IntKind.i64, some IntKind.i64, none]]]⟩
theorem i_Grid_corners_run {α : Type} (N : Nat) (g_0 : Int) (g_1 : Nat → Int) (g_2 : Nat → Int) (K : AV → Heap → Option α) :
    callK Try.prog (E_i_Grid_corners_l0 α N) 1 85 0 (buildS i_Grid_corners_a [.i g_0, .f g_1, .f g_2]).t (buildS i_Grid_corners_a [.i g_0, .f g_1, .f g_2]).h K = i_Grid_corners none N g_0 g_1 g_2 (fun r_n_ r_l_ r_c_ h0_ => retK (buildS i_Grid_corners_r0 [.n r_n_, .n r_l_, .n r_c_, .l h0_]) K) := by kernel_rfl
def E_i_Grid_corners (α : Type) (N : Nat) : Env α := (E_i_Grid_corners_l0 α N).addFun 85 true 0 i_Grid_corners_a (fun l K => match l with
    | [.i g_0, .f g_1, .f g_2] => i_Grid_corners none N g_0 g_1 g_2 (fun r_n_ r_l_ r_c_ h0_ => retK (buildS i_Grid_corners_r0 [.n r_n_, .n r_l_, .n r_c_, .l h0_]) K)
    | _ => none)
theorem E_i_Grid_corners_ok {α : Type} (N : Nat) : EnvOk Try.prog (E_i_Grid_corners α N) := (E_i_Grid_corners_l0_ok N).addFun prog_mixed prog_names (d := 1) fun l K r h => by
  split at h
  · exact (i_Grid_corners_run N _ _ _ K).trans h
  · cases h

/-- impl.whole[[]impl.Corner] -/
def i_whole_i_Corner_a : SPat := ⟨[.agg [.vals [.int .i64], .ints .u8 8, .ints .u8 8], .func 85 []], []⟩
def i_whole_i_Corner_r0 : SPat := ⟨[.tuple [.nils, .int .i64]], []⟩
def i_whole_i_Corner_r1 : SPat := ⟨[.tuple [.sliceV 0 0 0 4 false, .int .i64]], [[.recs [some IntKind.i64, some IntKind.i64, some IntKind.i64, none]]]⟩
theorem i_whole_i_Corner_run {α : Type} (N : Nat) (g_0 : Int) (g_1 : Nat → Int) (g_2 : Nat → Int) (K : AV → Heap → Option α) :
    callK Try.prog (E_i_Grid_corners α N) 1 84 0 (buildS i_whole_i_Corner_a [.i g_0, .f g_1, .f g_2]).t (buildS i_whole_i_Corner_a [.i g_0, .f g_1, .f g_2]).h K = i_whole_i_Corner none N g_0 g_1 g_2 (fun r_1_ => retK (buildS i_whole_i_Corner_r0 [.i r_1_]) K) (fun r_0_n_ r_0_l_ r_0_c_ r_1_ h0_ => retK (buildS i_whole_i_Corner_r1 [.n r_0_n_, .n r_0_l_, .n r_0_c_, .i r_1_, .l h0_]) K) := by kernel_rfl
def E_i_whole_i_Corner (α : Type) (N : Nat) : Env α := (E_i_Grid_corners α N).addFun 84 true 0 i_whole_i_Corner_a (fun l K => match l with
    | [.i g_0, .f g_1, .f g_2] => i_whole_i_Corner none N g_0 g_1 g_2 (fun r_1_ => retK (buildS i_whole_i_Corner_r0 [.i r_1_]) K) (fun r_0_n_ r_0_l_ r_0_c_ r_1_ h0_ => retK (buildS i_whole_i_Corner_r1 [.n r_0_n_, .n r_0_l_, .n r_0_c_, .i r_1_, .l h0_]) K)
    | _ => none)
theorem E_i_whole_i_Corner_ok {α : Type} (N : Nat) : EnvOk Try.prog (E_i_whole_i_Corner α N) := (E_i_Grid_corners_ok N).addFun prog_mixed prog_names (d := 1) fun l K r h => by
  split at h
  · exact (i_whole_i_Corner_run N _ _ _ K).trans h
  · cases h

/-- impl.CornersOf -/
def i_CornersOf_a : SPat := ⟨[.agg [.vals [.int .i64], .ints .u8 8, .ints .u8 8]], []⟩
def i_CornersOf_r0 : SPat := ⟨[.tuple [.nils, .int .i64]], []⟩
def i_CornersOf_r1 : SPat := ⟨[.tuple [.sliceV 0 0 0 4 false, .int .i64]], [[.recs [some IntKind.i64, some IntKind.i64, some IntKind.i64, none]]]⟩
theorem i_CornersOf_run {α : Type} (N : Nat) (g_0 : Int) (g_1 : Nat → Int) (g_2 : Nat → Int) (K : AV → Heap → Option α) :
    callK Try.prog (E_i_whole_i_Corner α N) 1 33 0 (buildS i_CornersOf_a [.i g_0, .f g_1, .f g_2]).t (buildS i_CornersOf_a [.i g_0, .f g_1, .f g_2]).h K = i_CornersOf none N g_0 g_1 g_2 (fun r_1_ => retK (buildS i_CornersOf_r0 [.i r_1_]) K) (fun r_0_n_ r_0_l_ r_0_c_ r_1_ h0_ => retK (buildS i_CornersOf_r1 [.n r_0_n_, .n r_0_l_, .n r_0_c_, .i r_1_, .l h0_]) K) := by kernel_rfl
def E_i_CornersOf (α : Type) (N : Nat) : Env α := (E_i_whole_i_Corner α N).addFun 33 true 0 i_CornersOf_a (fun l K => match l with
    | [.i g_0, .f g_1, .f g_2] => i_CornersOf none N g_0 g_1 g_2 (fun r_1_ => retK (buildS i_CornersOf_r0 [.i r_1_]) K) (fun r_0_n_ r_0_l_ r_0_c_ r_1_ h0_ => retK (buildS i_CornersOf_r1 [.n r_0_n_, .n r_0_l_, .n r_0_c_, .i r_1_, .l h0_]) K)
    | _ => none)
theorem E_i_CornersOf_ok {α : Type} (N : Nat) : EnvOk Try.prog (E_i_CornersOf α N) := (E_i_whole_i_Corner_ok N).addFun prog_mixed prog_names (d := 1) fun l K r h => by
  split at h
  · exact (i_CornersOf_run N _ _ _ K).trans h
  · cases h

def A_w_eqCornerS_l0 (α : Type) (N : Nat) : Env α := (E_i_CornersOf α N).addAnn 34 4 { head := [0, 1, 5], grow := [], out := [], ret := [4] }
theorem A_w_eqCornerS_l0_ok {α : Type} (N : Nat) : EnvOk Try.prog (A_w_eqCornerS_l0 α N) := (E_i_CornersOf_ok N).addAnn

/-- laws.eqCornerS, loop -/
def w_eqCornerS_l0_p : SPat := ⟨[.nils, .nils, .undef, .undef, .undef, .int .i64] ++ List.replicate 21 .undef, []⟩
def w_eqCornerS_l0_o0 : SPat := ⟨[] ++ List.replicate 27 .undef, []⟩
theorem w_eqCornerS_l0_round {α : Type} (N : Nat) (i : Int) (kn : St → Option α) (K : AExit → St → Option α) :
    roundK Try.prog (A_w_eqCornerS_l0 α N) 1 0 34 Try.f34 4 0 (buildS w_eqCornerS_l0_p [.i i]) kn K = w_eqCornerS_l0_s none i  (kn (buildS w_eqCornerS_l0_p [.i i])) (K (.exit 0) (buildS w_eqCornerS_l0_o0 [])) := by kernel_rfl
theorem w_eqCornerS_l0_loop {α : Type} (N : Nat) (i : Int) (K : AExit → St → Option α) : ∀ (m : Nat),
    loopN (trimSt ((A_w_eqCornerS_l0 α N).ann 34 4).head ((A_w_eqCornerS_l0 α N).ann 34 4).grow 0) (bodyK Try.prog (A_w_eqCornerS_l0 α N) 1 0 34 Try.f34 4) m (buildS w_eqCornerS_l0_p [.i i]) (leaveLoop ((A_w_eqCornerS_l0 α N).ann 34 4) 0 K) = w_eqCornerS_l0 none i m  (K (.exit 0) (buildS w_eqCornerS_l0_o0 [])) := by
  intro m
  induction m with
  | zero => intros; rfl
  | succ m ih =>
    rw [loopN_round]
    refine (w_eqCornerS_l0_round N i _ K).trans ?_
    simp only [ih]
    rfl
def E_w_eqCornerS_l0 (α : Type) (N : Nat) : Env α := (A_w_eqCornerS_l0 α N).addLoop2 34 4 (loopSum2 ((A_w_eqCornerS_l0 α N).ann 34 4) 0 w_eqCornerS_l0_p (fun l K => match l with
    | [.i i] => w_eqCornerS_l0 none i N  (K (.exit 0) (buildS w_eqCornerS_l0_o0 []))
    | _ => none) ((A_w_eqCornerS_l0 α N).ls 34 4))
theorem E_w_eqCornerS_l0_ok {α : Type} (N : Nat) : EnvOk Try.prog (E_w_eqCornerS_l0 α N) := (A_w_eqCornerS_l0_ok N).addLoop2 Try.func34 (by kernel_rfl) (loopSum_ok prog_mixed prog_names (A_w_eqCornerS_l0_ok N) Try.func34 (by kernel_rfl) (d := 1) (ro := 0) fun l K r h => by
  split at h
  · exact (w_eqCornerS_l0_loop N _ K N ).trans h
  · cases h)

/-- laws.eqCornerS -/
def w_eqCornerS_a : SPat := ⟨[.nils, .nils], []⟩
def w_eqCornerS_r0 : SPat := ⟨[.bool], []⟩
theorem w_eqCornerS_run {α : Type} (N : Nat)  (K : AV → Heap → Option α) :
    callK Try.prog (E_w_eqCornerS_l0 α N) 1 34 0 (buildS w_eqCornerS_a []).t (buildS w_eqCornerS_a []).h K = w_eqCornerS none N  (fun r__ => retK (buildS w_eqCornerS_r0 [.b r__]) K) := by kernel_rfl
def E_w_eqCornerS (α : Type) (N : Nat) : Env α := (E_w_eqCornerS_l0 α N).addFun 34 true 0 w_eqCornerS_a (fun l K => match l with
    | [] => w_eqCornerS none N  (fun r__ => retK (buildS w_eqCornerS_r0 [.b r__]) K)
    | _ => none)
theorem E_w_eqCornerS_ok {α : Type} (N : Nat) : EnvOk Try.prog (E_w_eqCornerS α N) := (E_w_eqCornerS_l0_ok N).addFun prog_mixed prog_names (d := 1) fun l K r h => by
  split at h
  · exact (w_eqCornerS_run N  K).trans h
  · cases h

def A_w_markCornerS_l0 (α : Type) (N : Nat) : Env α := (E_w_eqCornerS α N).addAnn 35 2 { head := [0, 1, 5], grow := [], out := [1], ret := [4] }
theorem A_w_markCornerS_l0_ok {α : Type} (N : Nat) : EnvOk Try.prog (A_w_markCornerS_l0 α N) := (E_w_eqCornerS_ok N).addAnn

/-- laws.markCornerS, loop -/
def w_markCornerS_l0_p : SPat := ⟨[.nils, .int .i64, .undef, .undef, .undef, .int .i64] ++ List.replicate 37 .undef, []⟩
def w_markCornerS_l0_o0 : SPat := ⟨[.undef, .int .i64] ++ List.replicate 41 .undef, []⟩
theorem w_markCornerS_l0_round {α : Type} (N : Nat) (k : Int) (i : Int) (kn : St → Option α) (K : AExit → St → Option α) :
    roundK Try.prog (A_w_markCornerS_l0 α N) 1 0 35 Try.f35 2 0 (buildS w_markCornerS_l0_p [.i k, .i i]) kn K = w_markCornerS_l0_s none k i  (kn (buildS w_markCornerS_l0_p [.i k, .i i])) (K (.exit 0) (buildS w_markCornerS_l0_o0 [.i k])) := by kernel_rfl
theorem w_markCornerS_l0_loop {α : Type} (N : Nat) (k : Int) (i : Int) (K : AExit → St → Option α) : ∀ (m : Nat),
    loopN (trimSt ((A_w_markCornerS_l0 α N).ann 35 2).head ((A_w_markCornerS_l0 α N).ann 35 2).grow 0) (bodyK Try.prog (A_w_markCornerS_l0 α N) 1 0 35 Try.f35 2) m (buildS w_markCornerS_l0_p [.i k, .i i]) (leaveLoop ((A_w_markCornerS_l0 α N).ann 35 2) 0 K) = w_markCornerS_l0 none k i m  (K (.exit 0) (buildS w_markCornerS_l0_o0 [.i k])) := by
  intro m
  induction m with
  | zero => intros; rfl
  | succ m ih =>
    rw [loopN_round]
    refine (w_markCornerS_l0_round N k i _ K).trans ?_
    simp only [ih]
    rfl
def E_w_markCornerS_l0 (α : Type) (N : Nat) : Env α := (A_w_markCornerS_l0 α N).addLoop2 35 2 (loopSum2 ((A_w_markCornerS_l0 α N).ann 35 2) 0 w_markCornerS_l0_p (fun l K => match l with
    | [.i k, .i i] => w_markCornerS_l0 none k i N  (K (.exit 0) (buildS w_markCornerS_l0_o0 [.i k]))
    | _ => none) ((A_w_markCornerS_l0 α N).ls 35 2))
theorem E_w_markCornerS_l0_ok {α : Type} (N : Nat) : EnvOk Try.prog (E_w_markCornerS_l0 α N) := (A_w_markCornerS_l0_ok N).addLoop2 Try.func35 (by kernel_rfl) (loopSum_ok prog_mixed prog_names (A_w_markCornerS_l0_ok N) Try.func35 (by kernel_rfl) (d := 1) (ro := 0) fun l K r h => by
  split at h
  · exact (w_markCornerS_l0_loop N _ _ K N ).trans h
  · cases h)

/-- laws.markCornerS -/
def w_markCornerS_a : SPat := ⟨[.nils, .int .i64], []⟩
def w_markCornerS_r0 : SPat := ⟨[.int .i64], []⟩
theorem w_markCornerS_run {α : Type} (N : Nat) (k : Int) (K : AV → Heap → Option α) :
    callK Try.prog (E_w_markCornerS_l0 α N) 1 35 0 (buildS w_markCornerS_a [.i k]).t (buildS w_markCornerS_a [.i k]).h K = w_markCornerS none N k (retK (buildS w_markCornerS_r0 [.i k]) K) := by kernel_rfl
def E_w_markCornerS (α : Type) (N : Nat) : Env α := (E_w_markCornerS_l0 α N).addFun 35 false 0 w_markCornerS_a (fun l K => match l with
    | [.i k] => w_markCornerS none N k (retK (buildS w_markCornerS_r0 [.i k]) K)
    | _ => none)
theorem E_w_markCornerS_ok {α : Type} (N : Nat) : EnvOk Try.prog (E_w_markCornerS α N) := (E_w_markCornerS_l0_ok N).addFun prog_mixed prog_names (d := 1) fun l K r h => by
  split at h
  · exact (w_markCornerS_run N _ K).trans h
  · cases h

def A_w_heldCornerS_l0 (α : Type) (N : Nat) : Env α := (E_w_markCornerS α N).addAnn 36 2 { head := [0, 1, 5], grow := [], out := [1], ret := [4] }
theorem A_w_heldCornerS_l0_ok {α : Type} (N : Nat) : EnvOk Try.prog (A_w_heldCornerS_l0 α N) := (E_w_markCornerS_ok N).addAnn

/-- laws.heldCornerS, loop -/
def w_heldCornerS_l0_p : SPat := ⟨[.nils, .int .i64, .undef, .undef, .undef, .int .i64] ++ List.replicate 45 .undef, []⟩
def w_heldCornerS_l0_o0 : SPat := ⟨[.undef, .int .i64] ++ List.replicate 49 .undef, []⟩
theorem w_heldCornerS_l0_round {α : Type} (N : Nat) (k : Int) (i : Int) (kn : St → Option α) (K : AExit → St → Option α) :
    roundK Try.prog (A_w_heldCornerS_l0 α N) 1 0 36 Try.f36 2 0 (buildS w_heldCornerS_l0_p [.i k, .i i]) kn K = w_heldCornerS_l0_s none k i  (kn (buildS w_heldCornerS_l0_p [.i k, .i i])) (K (.exit 0) (buildS w_heldCornerS_l0_o0 [.i k])) := by kernel_rfl
theorem w_heldCornerS_l0_loop {α : Type} (N : Nat) (k : Int) (i : Int) (K : AExit → St → Option α) : ∀ (m : Nat),
    loopN (trimSt ((A_w_heldCornerS_l0 α N).ann 36 2).head ((A_w_heldCornerS_l0 α N).ann 36 2).grow 0) (bodyK Try.prog (A_w_heldCornerS_l0 α N) 1 0 36 Try.f36 2) m (buildS w_heldCornerS_l0_p [.i k, .i i]) (leaveLoop ((A_w_heldCornerS_l0 α N).ann 36 2) 0 K) = w_heldCornerS_l0 none k i m  (K (.exit 0) (buildS w_heldCornerS_l0_o0 [.i k])) := by
  intro m
  induction m with
  | zero => intros; rfl
  | succ m ih =>
    rw [loopN_round]
    refine (w_heldCornerS_l0_round N k i _ K).trans ?_
    simp only [ih]
    rfl
def E_w_heldCornerS_l0 (α : Type) (N : Nat) : Env α := (A_w_heldCornerS_l0 α N).addLoop2 36 2 (loopSum2 ((A_w_heldCornerS_l0 α N).ann 36 2) 0 w_heldCornerS_l0_p (fun l K => match l with
    | [.i k, .i i] => w_heldCornerS_l0 none k i N  (K (.exit 0) (buildS w_heldCornerS_l0_o0 [.i k]))
    | _ => none) ((A_w_heldCornerS_l0 α N).ls 36 2))
theorem E_w_heldCornerS_l0_ok {α : Type} (N : Nat) : EnvOk Try.prog (E_w_heldCornerS_l0 α N) := (A_w_heldCornerS_l0_ok N).addLoop2 Try.func36 (by kernel_rfl) (loopSum_ok prog_mixed prog_names (A_w_heldCornerS_l0_ok N) Try.func36 (by kernel_rfl) (d := 1) (ro := 0) fun l K r h => by
  split at h
  · exact (w_heldCornerS_l0_loop N _ _ K N ).trans h
  · cases h)

/-- laws.heldCornerS -/
def w_heldCornerS_a : SPat := ⟨[.nils, .int .i64], []⟩
def w_heldCornerS_r0 : SPat := ⟨[.int .i64], []⟩
theorem w_heldCornerS_run {α : Type} (N : Nat) (k : Int) (K : AV → Heap → Option α) :
    callK Try.prog (E_w_heldCornerS_l0 α N) 1 36 0 (buildS w_heldCornerS_a [.i k]).t (buildS w_heldCornerS_a [.i k]).h K = w_heldCornerS none N k (retK (buildS w_heldCornerS_r0 [.i k]) K) := by kernel_rfl
def E_w_heldCornerS (α : Type) (N : Nat) : Env α := (E_w_heldCornerS_l0 α N).addFun 36 true 0 w_heldCornerS_a (fun l K => match l with
    | [.i k] => w_heldCornerS none N k (retK (buildS w_heldCornerS_r0 [.i k]) K)
    | _ => none)
theorem E_w_heldCornerS_ok {α : Type} (N : Nat) : EnvOk Try.prog (E_w_heldCornerS α N) := (E_w_heldCornerS_l0_ok N).addFun prog_mixed prog_names (d := 1) fun l K r h => by
  split at h
  · exact (w_heldCornerS_run N _ K).trans h
  · cases h

/-- laws.eqCornerS, loop -/
def w_eqCornerS_l0_s2_p : SPat := ⟨[.sliceV 0 0 0 4 false, .nils, .undef, .undef, .undef, .int .i64] ++ List.replicate 21 .undef, [[.recs [some IntKind.i64, some IntKind.i64, some IntKind.i64, none]]]⟩
def w_eqCornerS_l0_s2_o0 : SPat := ⟨[] ++ List.replicate 27 .undef, [[.recs [some IntKind.i64, some IntKind.i64, some IntKind.i64, none]]]⟩
theorem w_eqCornerS_l0_s2_round {α : Type} (N : Nat) (a_n : Nat) (a_l : Nat) (a_c : Nat) (i : Int) (h0 : List Int) (kn : St → Option α) (K : AExit → St → Option α) :
    roundK Try.prog (E_w_heldCornerS α N) 1 1 34 Try.f34 4 1 (buildS w_eqCornerS_l0_s2_p [.n a_n, .n a_l, .n a_c, .i i, .l h0]) kn K = w_eqCornerS_l0_s2_s none a_n a_l a_c i h0  (kn (buildS w_eqCornerS_l0_s2_p [.n a_n, .n a_l, .n a_c, .i i, .l h0])) (K (.exit 0) (buildS w_eqCornerS_l0_s2_o0 [.l h0])) := by kernel_rfl
theorem w_eqCornerS_l0_s2_loop {α : Type} (N : Nat) (a_n : Nat) (a_l : Nat) (a_c : Nat) (i : Int) (h0 : List Int) (K : AExit → St → Option α) : ∀ (m : Nat),
    loopN (trimSt ((E_w_heldCornerS α N).ann 34 4).head ((E_w_heldCornerS α N).ann 34 4).grow 1) (bodyK Try.prog (E_w_heldCornerS α N) 1 1 34 Try.f34 4) m (buildS w_eqCornerS_l0_s2_p [.n a_n, .n a_l, .n a_c, .i i, .l h0]) (leaveLoop ((E_w_heldCornerS α N).ann 34 4) 1 K) = w_eqCornerS_l0_s2 none a_n a_l a_c i h0 m  (K (.exit 0) (buildS w_eqCornerS_l0_s2_o0 [.l h0])) := by
  intro m
  induction m with
  | zero => intros; rfl
  | succ m ih =>
    rw [loopN_round]
    refine (w_eqCornerS_l0_s2_round N a_n a_l a_c i h0 _ K).trans ?_
    simp only [ih]
    rfl
def E_w_eqCornerS_l0_s2 (α : Type) (N : Nat) : Env α := (E_w_heldCornerS α N).addLoop2 34 4 (loopSum2 ((E_w_heldCornerS α N).ann 34 4) 1 w_eqCornerS_l0_s2_p (fun l K => match l with
    | [.n a_n, .n a_l, .n a_c, .i i, .l h0] => w_eqCornerS_l0_s2 none a_n a_l a_c i h0 N  (K (.exit 0) (buildS w_eqCornerS_l0_s2_o0 [.l h0]))
    | _ => none) ((E_w_heldCornerS α N).ls 34 4))
theorem E_w_eqCornerS_l0_s2_ok {α : Type} (N : Nat) : EnvOk Try.prog (E_w_eqCornerS_l0_s2 α N) := (E_w_heldCornerS_ok N).addLoop2 Try.func34 (by kernel_rfl) (loopSum_ok prog_mixed prog_names (E_w_heldCornerS_ok N) Try.func34 (by kernel_rfl) (d := 1) (ro := 1) fun l K r h => by
  split at h
  · exact (w_eqCornerS_l0_s2_loop N _ _ _ _ _ K N ).trans h
  · cases h)

/-- laws.eqCornerS -/
def w_eqCornerS_s2_a : SPat := ⟨[.sliceV 0 0 0 4 false, .nils], [[.recs [some IntKind.i64, some IntKind.i64, some IntKind.i64, none]]]⟩
def w_eqCornerS_s2_r0 : SPat := ⟨[.bool], [[.recs [some IntKind.i64, some IntKind.i64, some IntKind.i64, none]]]⟩
theorem w_eqCornerS_s2_run {α : Type} (N : Nat) (a_n : Nat) (a_l : Nat) (a_c : Nat) (h0 : List Int) (K : AV → Heap → Option α) :
    callK Try.prog (E_w_eqCornerS_l0_s2 α N) 1 34 1 (buildS w_eqCornerS_s2_a [.n a_n, .n a_l, .n a_c, .l h0]).t (buildS w_eqCornerS_s2_a [.n a_n, .n a_l, .n a_c, .l h0]).h K = w_eqCornerS_s2 none N a_n a_l a_c h0 (fun r__ => retK (buildS w_eqCornerS_s2_r0 [.b r__, .l h0]) K) := by kernel_rfl
def E_w_eqCornerS_s2 (α : Type) (N : Nat) : Env α := (E_w_eqCornerS_l0_s2 α N).addFun 34 true 1 w_eqCornerS_s2_a (fun l K => match l with
    | [.n a_n, .n a_l, .n a_c, .l h0] => w_eqCornerS_s2 none N a_n a_l a_c h0 (fun r__ => retK (buildS w_eqCornerS_s2_r0 [.b r__, .l h0]) K)
    | _ => none)
theorem E_w_eqCornerS_s2_ok {α : Type} (N : Nat) : EnvOk Try.prog (E_w_eqCornerS_s2 α N) := (E_w_eqCornerS_l0_s2_ok N).addFun prog_mixed prog_names (d := 1) fun l K r h => by
  split at h
  · exact (w_eqCornerS_s2_run N _ _ _ _ K).trans h
  · cases h

/-- laws.markCornerS, loop -/
def w_markCornerS_l0_s2_p : SPat := ⟨[.sliceV 0 0 0 4 false, .int .i64, .undef, .undef, .undef, .int .i64] ++ List.replicate 37 .undef, [[.recs [some IntKind.i64, some IntKind.i64, some IntKind.i64, none]]]⟩
def w_markCornerS_l0_s2_o0 : SPat := ⟨[.undef, .int .i64] ++ List.replicate 41 .undef, [[.recs [some IntKind.i64, some IntKind.i64, some IntKind.i64, none]]]⟩
theorem w_markCornerS_l0_s2_round {α : Type} (N : Nat) (a_n : Nat) (a_l : Nat) (a_c : Nat) (k : Int) (i : Int) (h0 : List Int) (kn : St → Option α) (K : AExit → St → Option α) :
    roundK Try.prog (E_w_eqCornerS_s2 α N) 1 0 35 Try.f35 2 1 (buildS w_markCornerS_l0_s2_p [.n a_n, .n a_l, .n a_c, .i k, .i i, .l h0]) kn K = w_markCornerS_l0_s2_s none a_n a_l a_c k i h0 (fun k i h0 => kn (buildS w_markCornerS_l0_s2_p [.n a_n, .n a_l, .n a_c, .i k, .i i, .l h0])) (fun k_ h0_ => K (.exit 0) (buildS w_markCornerS_l0_s2_o0 [.i k_, .l h0_])) := by kernel_rfl
theorem w_markCornerS_l0_s2_loop {α : Type} (N : Nat) (a_n : Nat) (a_l : Nat) (a_c : Nat) (K : AExit → St → Option α) : ∀ (m : Nat) (k : Int) (i : Int) (h0 : List Int),
    loopN (trimSt ((E_w_eqCornerS_s2 α N).ann 35 2).head ((E_w_eqCornerS_s2 α N).ann 35 2).grow 1) (bodyK Try.prog (E_w_eqCornerS_s2 α N) 1 0 35 Try.f35 2) m (buildS w_markCornerS_l0_s2_p [.n a_n, .n a_l, .n a_c, .i k, .i i, .l h0]) (leaveLoop ((E_w_eqCornerS_s2 α N).ann 35 2) 1 K) = w_markCornerS_l0_s2 none a_n a_l a_c m k i h0 (fun k_ h0_ => K (.exit 0) (buildS w_markCornerS_l0_s2_o0 [.i k_, .l h0_])) := by
  intro m
  induction m with
  | zero => intros; rfl
  | succ m ih =>
    intro k i h0
    rw [loopN_round]
    refine (w_markCornerS_l0_s2_round N a_n a_l a_c k i h0 _ K).trans ?_
    simp only [ih]
    rfl
def E_w_markCornerS_l0_s2 (α : Type) (N : Nat) : Env α := (E_w_eqCornerS_s2 α N).addLoop2 35 2 (loopSum2 ((E_w_eqCornerS_s2 α N).ann 35 2) 0 w_markCornerS_l0_s2_p (fun l K => match l with
    | [.n a_n, .n a_l, .n a_c, .i k, .i i, .l h0] => w_markCornerS_l0_s2 none a_n a_l a_c N k i h0 (fun k_ h0_ => K (.exit 0) (buildS w_markCornerS_l0_s2_o0 [.i k_, .l h0_]))
    | _ => none) ((E_w_eqCornerS_s2 α N).ls 35 2))
theorem E_w_markCornerS_l0_s2_ok {α : Type} (N : Nat) : EnvOk Try.prog (E_w_markCornerS_l0_s2 α N) := (E_w_eqCornerS_s2_ok N).addLoop2 Try.func35 (by kernel_rfl) (loopSum_ok prog_mixed prog_names (E_w_eqCornerS_s2_ok N) Try.func35 (by kernel_rfl) (d := 1) (ro := 0) fun l K r h => by
  split at h
  · exact (w_markCornerS_l0_s2_loop N _ _ _ K N _ _ _).trans h
  · cases h)

/-- laws.markCornerS -/
def w_markCornerS_s2_a : SPat := ⟨[.sliceV 0 0 0 4 false, .int .i64], [[.recs [some IntKind.i64, some IntKind.i64, some IntKind.i64, none]]]⟩
def w_markCornerS_s2_r0 : SPat := ⟨[.int .i64], [[.recs [some IntKind.i64, some IntKind.i64, some IntKind.i64, none]]]⟩
theorem w_markCornerS_s2_run {α : Type} (N : Nat) (a_n : Nat) (a_l : Nat) (a_c : Nat) (k : Int) (h0 : List Int) (K : AV → Heap → Option α) :
    callK Try.prog (E_w_markCornerS_l0_s2 α N) 1 35 0 (buildS w_markCornerS_s2_a [.n a_n, .n a_l, .n a_c, .i k, .l h0]).t (buildS w_markCornerS_s2_a [.n a_n, .n a_l, .n a_c, .i k, .l h0]).h K = w_markCornerS_s2 none N a_n a_l a_c k h0 (fun r__ h0_ => retK (buildS w_markCornerS_s2_r0 [.i r__, .l h0_]) K) := by kernel_rfl
def E_w_markCornerS_s2 (α : Type) (N : Nat) : Env α := (E_w_markCornerS_l0_s2 α N).addFun 35 false 0 w_markCornerS_s2_a (fun l K => match l with
    | [.n a_n, .n a_l, .n a_c, .i k, .l h0] => w_markCornerS_s2 none N a_n a_l a_c k h0 (fun r__ h0_ => retK (buildS w_markCornerS_s2_r0 [.i r__, .l h0_]) K)
    | _ => none)
theorem E_w_markCornerS_s2_ok {α : Type} (N : Nat) : EnvOk Try.prog (E_w_markCornerS_s2 α N) := (E_w_markCornerS_l0_s2_ok N).addFun prog_mixed prog_names (d := 1) fun l K r h => by
  split at h
  · exact (w_markCornerS_s2_run N _ _ _ _ _ K).trans h
  · cases h

/-- laws.heldCornerS, loop -/
def w_heldCornerS_l0_s2_p : SPat := ⟨[.sliceV 0 0 0 4 false, .int .i64, .undef, .undef, .undef, .int .i64] ++ List.replicate 45 .undef, [[.recs [some IntKind.i64, some IntKind.i64, some IntKind.i64, none]]]⟩
def w_heldCornerS_l0_s2_o0 : SPat := ⟨[.undef, .undef, .undef, .undef, .intC .i64 (-1)] ++ List.replicate 46 .undef, [[.recs [some IntKind.i64, some IntKind.i64, some IntKind.i64, none]]]⟩
def w_heldCornerS_l0_s2_o1 : SPat := ⟨[.undef, .int .i64] ++ List.replicate 49 .undef, [[.recs [some IntKind.i64, some IntKind.i64, some IntKind.i64, none]]]⟩
theorem w_heldCornerS_l0_s2_round {α : Type} (N : Nat) (a_n : Nat) (a_l : Nat) (a_c : Nat) (k : Int) (i : Int) (h0 : List Int) (kn : St → Option α) (K : AExit → St → Option α) :
    roundK Try.prog (E_w_markCornerS_s2 α N) 1 1 36 Try.f36 2 1 (buildS w_heldCornerS_l0_s2_p [.n a_n, .n a_l, .n a_c, .i k, .i i, .l h0]) kn K = w_heldCornerS_l0_s2_s none a_n a_l a_c h0 k i (fun k i => kn (buildS w_heldCornerS_l0_s2_p [.n a_n, .n a_l, .n a_c, .i k, .i i, .l h0])) (K .ret (buildS w_heldCornerS_l0_s2_o0 [.l h0])) (fun k_ => K (.exit 0) (buildS w_heldCornerS_l0_s2_o1 [.i k_, .l h0])) := by kernel_rfl
theorem w_heldCornerS_l0_s2_loop {α : Type} (N : Nat) (a_n : Nat) (a_l : Nat) (a_c : Nat) (h0 : List Int) (K : AExit → St → Option α) : ∀ (m : Nat) (k : Int) (i : Int),
    loopN (trimSt ((E_w_markCornerS_s2 α N).ann 36 2).head ((E_w_markCornerS_s2 α N).ann 36 2).grow 1) (bodyK Try.prog (E_w_markCornerS_s2 α N) 1 1 36 Try.f36 2) m (buildS w_heldCornerS_l0_s2_p [.n a_n, .n a_l, .n a_c, .i k, .i i, .l h0]) (leaveLoop ((E_w_markCornerS_s2 α N).ann 36 2) 1 K) = w_heldCornerS_l0_s2 none a_n a_l a_c h0 m k i (K .ret (buildS w_heldCornerS_l0_s2_o0 [.l h0])) (fun k_ => K (.exit 0) (buildS w_heldCornerS_l0_s2_o1 [.i k_, .l h0])) := by
  intro m
  induction m with
  | zero => intros; rfl
  | succ m ih =>
    intro k i
    rw [loopN_round]
    refine (w_heldCornerS_l0_s2_round N a_n a_l a_c k i h0 _ K).trans ?_
    simp only [ih]
    rfl
def E_w_heldCornerS_l0_s2 (α : Type) (N : Nat) : Env α := (E_w_markCornerS_s2 α N).addLoop2 36 2 (loopSum2 ((E_w_markCornerS_s2 α N).ann 36 2) 1 w_heldCornerS_l0_s2_p (fun l K => match l with
    | [.n a_n, .n a_l, .n a_c, .i k, .i i, .l h0] => w_heldCornerS_l0_s2 none a_n a_l a_c h0 N k i (K .ret (buildS w_heldCornerS_l0_s2_o0 [.l h0])) (fun k_ => K (.exit 0) (buildS w_heldCornerS_l0_s2_o1 [.i k_, .l h0]))
    | _ => none) ((E_w_markCornerS_s2 α N).ls 36 2))
theorem E_w_heldCornerS_l0_s2_ok {α : Type} (N : Nat) : EnvOk Try.prog (E_w_heldCornerS_l0_s2 α N) := (E_w_markCornerS_s2_ok N).addLoop2 Try.func36 (by kernel_rfl) (loopSum_ok prog_mixed prog_names (E_w_markCornerS_s2_ok N) Try.func36 (by kernel_rfl) (d := 1) (ro := 1) fun l K r h => by
  split at h
  · exact (w_heldCornerS_l0_s2_loop N _ _ _ _ K N _ _).trans h
  · cases h)

/-- laws.heldCornerS -/
def w_heldCornerS_s2_a : SPat := ⟨[.sliceV 0 0 0 4 false, .int .i64], [[.recs [some IntKind.i64, some IntKind.i64, some IntKind.i64, none]]]⟩
def w_heldCornerS_s2_r0 : SPat := ⟨[.int .i64], [[.recs [some IntKind.i64, some IntKind.i64, some IntKind.i64, none]]]⟩
theorem w_heldCornerS_s2_run {α : Type} (N : Nat) (a_n : Nat) (a_l : Nat) (a_c : Nat) (k : Int) (h0 : List Int) (K : AV → Heap → Option α) :
    callK Try.prog (E_w_heldCornerS_l0_s2 α N) 1 36 1 (buildS w_heldCornerS_s2_a [.n a_n, .n a_l, .n a_c, .i k, .l h0]).t (buildS w_heldCornerS_s2_a [.n a_n, .n a_l, .n a_c, .i k, .l h0]).h K = w_heldCornerS_s2 none N a_n a_l a_c k h0 (fun r__ => retK (buildS w_heldCornerS_s2_r0 [.i r__, .l h0]) K) := by kernel_rfl
def E_w_heldCornerS_s2 (α : Type) (N : Nat) : Env α := (E_w_heldCornerS_l0_s2 α N).addFun 36 true 1 w_heldCornerS_s2_a (fun l K => match l with
    | [.n a_n, .n a_l, .n a_c, .i k, .l h0] => w_heldCornerS_s2 none N a_n a_l a_c k h0 (fun r__ => retK (buildS w_heldCornerS_s2_r0 [.i r__, .l h0]) K)
    | _ => none)
theorem E_w_heldCornerS_s2_ok {α : Type} (N : Nat) : EnvOk Try.prog (E_w_heldCornerS_s2 α N) := (E_w_heldCornerS_l0_s2_ok N).addFun prog_mixed prog_names (d := 1) fun l K r h => by
  split at h
  · exact (w_heldCornerS_s2_run N _ _ _ _ _ K).trans h
  · cases h

/-- laws.eqCornerS, loop -/
def w_eqCornerS_l0_s3_p : SPat := ⟨[.nils, .sliceV 0 0 0 4 false, .undef, .undef, .undef, .int .i64] ++ List.replicate 21 .undef, [[.recs [some IntKind.i64, some IntKind.i64, some IntKind.i64, none]]]⟩
def w_eqCornerS_l0_s3_o0 : SPat := ⟨[] ++ List.replicate 27 .undef, [[.recs [some IntKind.i64, some IntKind.i64, some IntKind.i64, none]]]⟩
theorem w_eqCornerS_l0_s3_round {α : Type} (N : Nat) (b_n : Nat) (b_l : Nat) (b_c : Nat) (i : Int) (h0 : List Int) (kn : St → Option α) (K : AExit → St → Option α) :
    roundK Try.prog (E_w_heldCornerS_s2 α N) 1 1 34 Try.f34 4 1 (buildS w_eqCornerS_l0_s3_p [.n b_n, .n b_l, .n b_c, .i i, .l h0]) kn K = w_eqCornerS_l0_s3_s none b_n b_l b_c i h0  (kn (buildS w_eqCornerS_l0_s3_p [.n b_n, .n b_l, .n b_c, .i i, .l h0])) (K (.exit 0) (buildS w_eqCornerS_l0_s3_o0 [.l h0])) := by kernel_rfl
theorem w_eqCornerS_l0_s3_loop {α : Type} (N : Nat) (b_n : Nat) (b_l : Nat) (b_c : Nat) (i : Int) (h0 : List Int) (K : AExit → St → Option α) : ∀ (m : Nat),
    loopN (trimSt ((E_w_heldCornerS_s2 α N).ann 34 4).head ((E_w_heldCornerS_s2 α N).ann 34 4).grow 1) (bodyK Try.prog (E_w_heldCornerS_s2 α N) 1 1 34 Try.f34 4) m (buildS w_eqCornerS_l0_s3_p [.n b_n, .n b_l, .n b_c, .i i, .l h0]) (leaveLoop ((E_w_heldCornerS_s2 α N).ann 34 4) 1 K) = w_eqCornerS_l0_s3 none b_n b_l b_c i h0 m  (K (.exit 0) (buildS w_eqCornerS_l0_s3_o0 [.l h0])) := by
  intro m
  induction m with
  | zero => intros; rfl
  | succ m ih =>
    rw [loopN_round]
    refine (w_eqCornerS_l0_s3_round N b_n b_l b_c i h0 _ K).trans ?_
    simp only [ih]
    rfl
def E_w_eqCornerS_l0_s3 (α : Type) (N : Nat) : Env α := (E_w_heldCornerS_s2 α N).addLoop2 34 4 (loopSum2 ((E_w_heldCornerS_s2 α N).ann 34 4) 1 w_eqCornerS_l0_s3_p (fun l K => match l with
    | [.n b_n, .n b_l, .n b_c, .i i, .l h0] => w_eqCornerS_l0_s3 none b_n b_l b_c i h0 N  (K (.exit 0) (buildS w_eqCornerS_l0_s3_o0 [.l h0]))
    | _ => none) ((E_w_heldCornerS_s2 α N).ls 34 4))
theorem E_w_eqCornerS_l0_s3_ok {α : Type} (N : Nat) : EnvOk Try.prog (E_w_eqCornerS_l0_s3 α N) := (E_w_heldCornerS_s2_ok N).addLoop2 Try.func34 (by kernel_rfl) (loopSum_ok prog_mixed prog_names (E_w_heldCornerS_s2_ok N) Try.func34 (by kernel_rfl) (d := 1) (ro := 1) fun l K r h => by
  split at h
  · exact (w_eqCornerS_l0_s3_loop N _ _ _ _ _ K N ).trans h
  · cases h)

/-- laws.eqCornerS -/
def w_eqCornerS_s3_a : SPat := ⟨[.nils, .sliceV 0 0 0 4 false], [[.recs [some IntKind.i64, some IntKind.i64, some IntKind.i64, none]]]⟩
def w_eqCornerS_s3_r0 : SPat := ⟨[.bool], [[.recs [some IntKind.i64, some IntKind.i64, some IntKind.i64, none]]]⟩
theorem w_eqCornerS_s3_run {α : Type} (N : Nat) (b_n : Nat) (b_l : Nat) (b_c : Nat) (h0 : List Int) (K : AV → Heap → Option α) :
    callK Try.prog (E_w_eqCornerS_l0_s3 α N) 1 34 1 (buildS w_eqCornerS_s3_a [.n b_n, .n b_l, .n b_c, .l h0]).t (buildS w_eqCornerS_s3_a [.n b_n, .n b_l, .n b_c, .l h0]).h K = w_eqCornerS_s3 none N b_n b_l b_c h0 (fun r__ => retK (buildS w_eqCornerS_s3_r0 [.b r__, .l h0]) K) := by kernel_rfl
def E_w_eqCornerS_s3 (α : Type) (N : Nat) : Env α := (E_w_eqCornerS_l0_s3 α N).addFun 34 true 1 w_eqCornerS_s3_a (fun l K => match l with
    | [.n b_n, .n b_l, .n b_c, .l h0] => w_eqCornerS_s3 none N b_n b_l b_c h0 (fun r__ => retK (buildS w_eqCornerS_s3_r0 [.b r__, .l h0]) K)
    | _ => none)
theorem E_w_eqCornerS_s3_ok {α : Type} (N : Nat) : EnvOk Try.prog (E_w_eqCornerS_s3 α N) := (E_w_eqCornerS_l0_s3_ok N).addFun prog_mixed prog_names (d := 1) fun l K r h => by
  split at h
  · exact (w_eqCornerS_s3_run N _ _ _ _ K).trans h
  · cases h

/-- laws.eqCorner -/
def w_eqCorner_a : SPat := ⟨[.agg [.vals [.int .i64, .int .i64, .int .i64, .bool]], .agg [.vals [.int .i64, .int .i64, .int .i64, .bool]]], []⟩
def w_eqCorner_r0 : SPat := ⟨[.bool], []⟩
theorem w_eqCorner_run {α : Type} (N : Nat) (a_0 : Int) (a_1 : Int) (a_2 : Int) (a_3 : Bool) (b_0 : Int) (b_1 : Int) (b_2 : Int) (b_3 : Bool) (K : AV → Heap → Option α) :
    callK Try.prog (E_w_eqCornerS_s3 α N) 1 86 0 (buildS w_eqCorner_a [.i a_0, .i a_1, .i a_2, .b a_3, .i b_0, .i b_1, .i b_2, .b b_3]).t (buildS w_eqCorner_a [.i a_0, .i a_1, .i a_2, .b a_3, .i b_0, .i b_1, .i b_2, .b b_3]).h K = w_eqCorner none N a_0 a_1 a_2 a_3 b_0 b_1 b_2 b_3 (fun r__ => retK (buildS w_eqCorner_r0 [.b r__]) K) := by kernel_rfl
def E_w_eqCorner (α : Type) (N : Nat) : Env α := (E_w_eqCornerS_s3 α N).addFun 86 true 0 w_eqCorner_a (fun l K => match l with
    | [.i a_0, .i a_1, .i a_2, .b a_3, .i b_0, .i b_1, .i b_2, .b b_3] => w_eqCorner none N a_0 a_1 a_2 a_3 b_0 b_1 b_2 b_3 (fun r__ => retK (buildS w_eqCorner_r0 [.b r__]) K)
    | _ => none)
theorem E_w_eqCorner_ok {α : Type} (N : Nat) : EnvOk Try.prog (E_w_eqCorner α N) := (E_w_eqCornerS_s3_ok N).addFun prog_mixed prog_names (d := 1) fun l K r h => by
  split at h
  · exact (w_eqCorner_run N _ _ _ _ _ _ _ _ K).trans h
  · cases h

/-- laws.eqCornerS, loop -/
def w_eqCornerS_l0_s4_p : SPat := ⟨[.sliceV 0 0 0 4 false, .sliceV 1 0 0 4 false, .undef, .undef, .undef, .int .i64] ++ List.replicate 21 .undef, [[.recs [some IntKind.i64, some IntKind.i64, some IntKind.i64, none]], [.recs [some IntKind.i64, some IntKind.i64, some IntKind.i64, none]]]⟩
def w_eqCornerS_l0_s4_o0 : SPat := ⟨[.undef, .undef, .undef, .undef, .boolC false] ++ List.replicate 22 .undef, [[.recs [some IntKind.i64, some IntKind.i64, some IntKind.i64, none]], [.recs [some IntKind.i64, some IntKind.i64, some IntKind.i64, none]]]⟩
def w_eqCornerS_l0_s4_o1 : SPat := ⟨[] ++ List.replicate 27 .undef, [[.recs [some IntKind.i64, some IntKind.i64, some IntKind.i64, none]], [.recs [some IntKind.i64, some IntKind.i64, some IntKind.i64, none]]]⟩
theorem w_eqCornerS_l0_s4_round {α : Type} (N : Nat) (a_n : Nat) (a_l : Nat) (a_c : Nat) (b_n : Nat) (b_l : Nat) (b_c : Nat) (i : Int) (h0 : List Int) (h1 : List Int) (kn : St → Option α) (K : AExit → St → Option α) :
    roundK Try.prog (E_w_eqCorner α N) 1 2 34 Try.f34 4 2 (buildS w_eqCornerS_l0_s4_p [.n a_n, .n a_l, .n a_c, .n b_n, .n b_l, .n b_c, .i i, .l h0, .l h1]) kn K = w_eqCornerS_l0_s4_s none N a_n a_l a_c b_n b_l b_c h0 h1 i (fun i => kn (buildS w_eqCornerS_l0_s4_p [.n a_n, .n a_l, .n a_c, .n b_n, .n b_l, .n b_c, .i i, .l h0, .l h1])) (K .ret (buildS w_eqCornerS_l0_s4_o0 [.l h0, .l h1])) (K (.exit 0) (buildS w_eqCornerS_l0_s4_o1 [.l h0, .l h1])) := by kernel_rfl
theorem w_eqCornerS_l0_s4_loop {α : Type} (N : Nat) (a_n : Nat) (a_l : Nat) (a_c : Nat) (b_n : Nat) (b_l : Nat) (b_c : Nat) (h0 : List Int) (h1 : List Int) (K : AExit → St → Option α) : ∀ (m : Nat) (i : Int),
    loopN (trimSt ((E_w_eqCorner α N).ann 34 4).head ((E_w_eqCorner α N).ann 34 4).grow 2) (bodyK Try.prog (E_w_eqCorner α N) 1 2 34 Try.f34 4) m (buildS w_eqCornerS_l0_s4_p [.n a_n, .n a_l, .n a_c, .n b_n, .n b_l, .n b_c, .i i, .l h0, .l h1]) (leaveLoop ((E_w_eqCorner α N).ann 34 4) 2 K) = w_eqCornerS_l0_s4 none N a_n a_l a_c b_n b_l b_c h0 h1 m i (K .ret (buildS w_eqCornerS_l0_s4_o0 [.l h0, .l h1])) (K (.exit 0) (buildS w_eqCornerS_l0_s4_o1 [.l h0, .l h1])) := by
  intro m
  induction m with
  | zero => intros; rfl
  | succ m ih =>
    intro i
    rw [loopN_round]
    refine (w_eqCornerS_l0_s4_round N a_n a_l a_c b_n b_l b_c i h0 h1 _ K).trans ?_
    simp only [ih]
    rfl
def E_w_eqCornerS_l0_s4 (α : Type) (N : Nat) : Env α := (E_w_eqCorner α N).addLoop2 34 4 (loopSum2 ((E_w_eqCorner α N).ann 34 4) 2 w_eqCornerS_l0_s4_p (fun l K => match l with
    | [.n a_n, .n a_l, .n a_c, .n b_n, .n b_l, .n b_c, .i i, .l h0, .l h1] => w_eqCornerS_l0_s4 none N a_n a_l a_c b_n b_l b_c h0 h1 N i (K .ret (buildS w_eqCornerS_l0_s4_o0 [.l h0, .l h1])) (K (.exit 0) (buildS w_eqCornerS_l0_s4_o1 [.l h0, .l h1]))
    | _ => none) ((E_w_eqCorner α N).ls 34 4))
theorem E_w_eqCornerS_l0_s4_ok {α : Type} (N : Nat) : EnvOk Try.prog (E_w_eqCornerS_l0_s4 α N) := (E_w_eqCorner_ok N).addLoop2 Try.func34 (by kernel_rfl) (loopSum_ok prog_mixed prog_names (E_w_eqCorner_ok N) Try.func34 (by kernel_rfl) (d := 1) (ro := 2) fun l K r h => by
  split at h
  · exact (w_eqCornerS_l0_s4_loop N _ _ _ _ _ _ _ _ K N _).trans h
  · cases h)

/-- laws.eqCornerS -/
def w_eqCornerS_s4_a : SPat := ⟨[.sliceV 0 0 0 4 false, .sliceV 1 0 0 4 false], [[.recs [some IntKind.i64, some IntKind.i64, some IntKind.i64, none]], [.recs [some IntKind.i64, some IntKind.i64, some IntKind.i64, none]]]⟩
def w_eqCornerS_s4_r0 : SPat := ⟨[.bool], [[.recs [some IntKind.i64, some IntKind.i64, some IntKind.i64, none]], [.recs [some IntKind.i64, some IntKind.i64, some IntKind.i64, none]]]⟩
theorem w_eqCornerS_s4_run {α : Type} (N : Nat) (a_n : Nat) (a_l : Nat) (a_c : Nat) (b_n : Nat) (b_l : Nat) (b_c : Nat) (h0 : List Int) (h1 : List Int) (K : AV → Heap → Option α) :
    callK Try.prog (E_w_eqCornerS_l0_s4 α N) 1 34 2 (buildS w_eqCornerS_s4_a [.n a_n, .n a_l, .n a_c, .n b_n, .n b_l, .n b_c, .l h0, .l h1]).t (buildS w_eqCornerS_s4_a [.n a_n, .n a_l, .n a_c, .n b_n, .n b_l, .n b_c, .l h0, .l h1]).h K = w_eqCornerS_s4 none N a_n a_l a_c b_n b_l b_c h0 h1 (fun r__ => retK (buildS w_eqCornerS_s4_r0 [.b r__, .l h0, .l h1]) K) := by kernel_rfl
def E_w_eqCornerS_s4 (α : Type) (N : Nat) : Env α := (E_w_eqCornerS_l0_s4 α N).addFun 34 true 2 w_eqCornerS_s4_a (fun l K => match l with
    | [.n a_n, .n a_l, .n a_c, .n b_n, .n b_l, .n b_c, .l h0, .l h1] => w_eqCornerS_s4 none N a_n a_l a_c b_n b_l b_c h0 h1 (fun r__ => retK (buildS w_eqCornerS_s4_r0 [.b r__, .l h0, .l h1]) K)
    | _ => none)
theorem E_w_eqCornerS_s4_ok {α : Type} (N : Nat) : EnvOk Try.prog (E_w_eqCornerS_s4 α N) := (E_w_eqCornerS_l0_s4_ok N).addFun prog_mixed prog_names (d := 1) fun l K r h => by
  split at h
  · exact (w_eqCornerS_s4_run N _ _ _ _ _ _ _ _ K).trans h
  · cases h

/-- laws.FnExactCornersOf -/
def w_FnExactCornersOf_a : SPat := ⟨[.agg [.vals [.int .i64], .ints .u8 8, .ints .u8 8]], []⟩
def w_FnExactCornersOf_r0 : SPat := ⟨[.bool], []⟩
theorem w_FnExactCornersOf_run {α : Type} (N : Nat) (aG_0 : Int) (aG_1 : Nat → Int) (aG_2 : Nat → Int) (K : AV → Heap → Option α) :
    callK Try.prog (E_w_eqCornerS_s4 α N) 1 7 0 (buildS w_FnExactCornersOf_a [.i aG_0, .f aG_1, .f aG_2]).t (buildS w_FnExactCornersOf_a [.i aG_0, .f aG_1, .f aG_2]).h K = w_FnExactCornersOf none N aG_0 aG_1 aG_2 (fun r__ => retK (buildS w_FnExactCornersOf_r0 [.b r__]) K) := by kernel_rfl
def E_w_FnExactCornersOf (α : Type) (N : Nat) : Env α := (E_w_eqCornerS_s4 α N).addFun 7 true 0 w_FnExactCornersOf_a (fun l K => match l with
    | [.i aG_0, .f aG_1, .f aG_2] => w_FnExactCornersOf none N aG_0 aG_1 aG_2 (fun r__ => retK (buildS w_FnExactCornersOf_r0 [.b r__]) K)
    | _ => none)
theorem E_w_FnExactCornersOf_ok {α : Type} (N : Nat) : EnvOk Try.prog (E_w_FnExactCornersOf α N) := (E_w_eqCornerS_s4_ok N).addFun prog_mixed prog_names (d := 1) fun l K r h => by
  split at h
  · exact (w_FnExactCornersOf_run N _ _ _ K).trans h
  · cases h
end Go.AM
