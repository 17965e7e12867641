/- A part of a proof about the given program: an abstract machine, what the given functions come to, and plain laws. -/
import Derived.Test.YtijijnfmcmeioaaAMEnv2
import Derived.Test.YtijijnfmcmeioaaDLowerState
import Derived.Test.YtijijnfmcmeioaaDIsMosaic
import Derived.Test.YtijijnfmcmeioaaDTransposeOf
import Derived.Test.YtijijnfmcmeioaaDExchangeRows
import Derived.Test.YtijijnfmcmeioaaProg
set_option maxRecDepth 100000
namespace Go.AM
open Go.Proofs

def E0 (α : Type) (N : Nat) : Env α := Env.base (fun _ _ => {}) N
theorem E0_ok {α : Type} (N : Nat) : EnvOk Try.prog (E0 α N) := .base
theorem prog_mixed : Try.prog.follows .mixedOrders = true := by kernel_rfl
theorem prog_names : NamesOk Try.prog := .of_all (by kernel_rfl)
def A_w_toByteA8_l0 (α : Type) (N : Nat) : Env α := (E0 α N).addAnn 62 3 { head := [1, 2, 3, 4], grow := [], out := [2, 3], ret := [2] }
theorem A_w_toByteA8_l0_ok {α : Type} (N : Nat) : EnvOk Try.prog (A_w_toByteA8_l0 α N) := (E0_ok N).addAnn

/-- laws.toByteA8, loop -/
def w_toByteA8_l0_p : SPat := ⟨[.undef, .ptr ⟨0, 0, 0, 8⟩, .ptr ⟨1, 0, 0, 8⟩, .ptr ⟨2, 0, 0, 8⟩, .int .i64] ++ List.replicate 10 .undef, [[.ints .u8 8], [.ints .u8 8], [.ints .u8 8]]⟩
def w_toByteA8_l0_o0 : SPat := ⟨[.undef, .undef, .ptr ⟨1, 0, 0, 8⟩, .ptr ⟨2, 0, 0, 8⟩] ++ List.replicate 11 .undef, [[.ints .u8 8], [.ints .u8 8], [.ints .u8 8]]⟩
theorem w_toByteA8_l0_round {α : Type} (N : Nat) (i : Int) (h0 : Nat → Int) (h1 : Nat → Int) (h2 : Nat → Int) (kn : St → Option α) (K : AExit → St → Option α) :
    roundK Try.prog (A_w_toByteA8_l0 α N) 1 0 62 Try.f62 3 3 (buildS w_toByteA8_l0_p [.i i, .f h0, .f h1, .f h2]) kn K = w_toByteA8_l0_s none h0 h1 i h2 (fun i h2 => kn (buildS w_toByteA8_l0_p [.i i, .f h0, .f h1, .f h2])) (fun h2_ => K (.exit 0) (buildS w_toByteA8_l0_o0 [.f h0, .f h1, .f h2_])) := by kernel_rfl
theorem w_toByteA8_l0_loop {α : Type} (N : Nat) (h0 : Nat → Int) (h1 : Nat → Int) (K : AExit → St → Option α) : ∀ (m : Nat) (i : Int) (h2 : Nat → Int),
    loopN (trimSt ((A_w_toByteA8_l0 α N).ann 62 3).head ((A_w_toByteA8_l0 α N).ann 62 3).grow 3) (bodyK Try.prog (A_w_toByteA8_l0 α N) 1 0 62 Try.f62 3) m (buildS w_toByteA8_l0_p [.i i, .f h0, .f h1, .f h2]) (leaveLoop ((A_w_toByteA8_l0 α N).ann 62 3) 3 K) = w_toByteA8_l0 none h0 h1 m i h2 (fun h2_ => K (.exit 0) (buildS w_toByteA8_l0_o0 [.f h0, .f h1, .f h2_])) := by
  intro m
  induction m with
  | zero => intros; rfl
  | succ m ih =>
    intro i h2
    rw [loopN_round]
    refine (w_toByteA8_l0_round N i h0 h1 h2 _ K).trans ?_
    simp only [ih]
    rfl
def E_w_toByteA8_l0 (α : Type) (N : Nat) : Env α := (A_w_toByteA8_l0 α N).addLoop2 62 3 (loopSum2 ((A_w_toByteA8_l0 α N).ann 62 3) 0 w_toByteA8_l0_p (fun l K => match l with
    | [.i i, .f h0, .f h1, .f h2] => w_toByteA8_l0 none h0 h1 N i h2 (fun h2_ => K (.exit 0) (buildS w_toByteA8_l0_o0 [.f h0, .f h1, .f h2_]))
    | _ => none) ((A_w_toByteA8_l0 α N).ls 62 3))
theorem E_w_toByteA8_l0_ok {α : Type} (N : Nat) : EnvOk Try.prog (E_w_toByteA8_l0 α N) := (A_w_toByteA8_l0_ok N).addLoop2 Try.func62 (by kernel_rfl) (loopSum_ok prog_mixed prog_names (A_w_toByteA8_l0_ok N) Try.func62 (by kernel_rfl) (d := 1) (ro := 0) fun l K r h => by
  split at h
  · exact (w_toByteA8_l0_loop N _ _ K N _ _).trans h
  · cases h)

/-- laws.toByteA8 -/
def w_toByteA8_a : SPat := ⟨[.agg [.ints .u8 8]], []⟩
def w_toByteA8_r0 : SPat := ⟨[.agg [.ints .u8 8]], []⟩
theorem w_toByteA8_run {α : Type} (N : Nat) (a : Nat → Int) (K : AV → Heap → Option α) :
    callK Try.prog (E_w_toByteA8_l0 α N) 1 62 0 (buildS w_toByteA8_a [.f a]).t (buildS w_toByteA8_a [.f a]).h K = w_toByteA8 none N a (fun r__ => retK (buildS w_toByteA8_r0 [.f r__]) K) := by kernel_rfl
def E_w_toByteA8 (α : Type) (N : Nat) : Env α := (E_w_toByteA8_l0 α N).addFun 62 true 0 w_toByteA8_a (fun l K => match l with
    | [.f a] => w_toByteA8 none N a (fun r__ => retK (buildS w_toByteA8_r0 [.f r__]) K)
    | _ => none)
theorem E_w_toByteA8_ok {α : Type} (N : Nat) : EnvOk Try.prog (E_w_toByteA8 α N) := (E_w_toByteA8_l0_ok N).addFun prog_mixed prog_names (d := 1) fun l K r h => by
  split at h
  · exact (w_toByteA8_run N _ K).trans h
  · cases h

/-- laws.toGrid -/
def w_toGrid_a : SPat := ⟨[.agg [.vals [.int .i64], .ints .u8 8, .ints .u8 8]], []⟩
def w_toGrid_r0 : SPat := ⟨[.agg [.vals [.int .i64], .ints .u8 8, .ints .u8 8]], []⟩
theorem w_toGrid_run {α : Type} (N : Nat) (a_0 : Int) (a_1 : Nat → Int) (a_2 : Nat → Int) (K : AV → Heap → Option α) :
    callK Try.prog (E_w_toByteA8 α N) 1 15 0 (buildS w_toGrid_a [.i a_0, .f a_1, .f a_2]).t (buildS w_toGrid_a [.i a_0, .f a_1, .f a_2]).h K = w_toGrid none N a_0 a_1 a_2 (fun r_1_ r_2_ => retK (buildS w_toGrid_r0 [.i a_0, .f r_1_, .f r_2_]) K) := by kernel_rfl
def E_w_toGrid (α : Type) (N : Nat) : Env α := (E_w_toByteA8 α N).addFun 15 true 0 w_toGrid_a (fun l K => match l with
    | [.i a_0, .f a_1, .f a_2] => w_toGrid none N a_0 a_1 a_2 (fun r_1_ r_2_ => retK (buildS w_toGrid_r0 [.i a_0, .f r_1_, .f r_2_]) K)
    | _ => none)
theorem E_w_toGrid_ok {α : Type} (N : Nat) : EnvOk Try.prog (E_w_toGrid α N) := (E_w_toByteA8_ok N).addFun prog_mixed prog_names (d := 1) fun l K r h => by
  split at h
  · exact (w_toGrid_run N _ _ _ K).trans h
  · cases h

/-- spec.l01In -/
def s_l01In_a : SPat := ⟨[.int .i64, .int .i64, .int .i64], []⟩
def s_l01In_r0 : SPat := ⟨[.bool], []⟩
theorem s_l01In_run {α : Type} (N : Nat) (n : Int) (low : Int) (high : Int) (K : AV → Heap → Option α) :
    callK Try.prog (E_w_toGrid α N) 1 92 0 (buildS s_l01In_a [.i n, .i low, .i high]).t (buildS s_l01In_a [.i n, .i low, .i high]).h K = s_l01In none N n low high (fun r__ => retK (buildS s_l01In_r0 [.b r__]) K) := by kernel_rfl
def E_s_l01In (α : Type) (N : Nat) : Env α := (E_w_toGrid α N).addFun 92 true 0 s_l01In_a (fun l K => match l with
    | [.i n, .i low, .i high] => s_l01In none N n low high (fun r__ => retK (buildS s_l01In_r0 [.b r__]) K)
    | _ => none)
theorem E_s_l01In_ok {α : Type} (N : Nat) : EnvOk Try.prog (E_s_l01In α N) := (E_w_toGrid_ok N).addFun prog_mixed prog_names (d := 1) fun l K r h => by
  split at h
  · exact (s_l01In_run N _ _ _ K).trans h
  · cases h

def A_s_l01Perm_l0 (α : Type) (N : Nat) : Env α := (E_s_l01In α N).addAnn 122 3 { head := [1, 2, 5, 6], grow := [], out := [], ret := [4] }
theorem A_s_l01Perm_l0_ok {α : Type} (N : Nat) : EnvOk Try.prog (A_s_l01Perm_l0 α N) := (E_s_l01In_ok N).addAnn

/-- spec.l01Perm, loop -/
def s_l01Perm_l0_p : SPat := ⟨[.undef, .int .i64, .ptr ⟨0, 0, 0, 8⟩, .undef, .undef, .ptr ⟨1, 0, 0, 8⟩, .int .i64] ++ List.replicate 29 .undef, [[.ints .u8 8], [.bools 8]]⟩
def s_l01Perm_l0_o0 : SPat := ⟨[.undef, .undef, .undef, .undef, .boolC false] ++ List.replicate 31 .undef, [[.ints .u8 8], [.bools 8]]⟩
def s_l01Perm_l0_o1 : SPat := ⟨[] ++ List.replicate 36 .undef, [[.ints .u8 8], [.bools 8]]⟩
theorem s_l01Perm_l0_round {α : Type} (N : Nat) (n : Int) (i : Int) (h0 : Nat → Int) (h1 : Nat → Bool) (kn : St → Option α) (K : AExit → St → Option α) :
    roundK Try.prog (A_s_l01Perm_l0 α N) 1 0 122 Try.f122 3 2 (buildS s_l01Perm_l0_p [.i n, .i i, .f h0, .g h1]) kn K = s_l01Perm_l0_s none n h0 i h1 (fun i h1 => kn (buildS s_l01Perm_l0_p [.i n, .i i, .f h0, .g h1])) (fun h1_ => K .ret (buildS s_l01Perm_l0_o0 [.f h0, .g h1_])) (fun h1_ => K (.exit 0) (buildS s_l01Perm_l0_o1 [.f h0, .g h1_])) := by kernel_rfl
theorem s_l01Perm_l0_loop {α : Type} (N : Nat) (n : Int) (h0 : Nat → Int) (K : AExit → St → Option α) : ∀ (m : Nat) (i : Int) (h1 : Nat → Bool),
    loopN (trimSt ((A_s_l01Perm_l0 α N).ann 122 3).head ((A_s_l01Perm_l0 α N).ann 122 3).grow 2) (bodyK Try.prog (A_s_l01Perm_l0 α N) 1 0 122 Try.f122 3) m (buildS s_l01Perm_l0_p [.i n, .i i, .f h0, .g h1]) (leaveLoop ((A_s_l01Perm_l0 α N).ann 122 3) 2 K) = s_l01Perm_l0 none n h0 m i h1 (fun h1_ => K .ret (buildS s_l01Perm_l0_o0 [.f h0, .g h1_])) (fun h1_ => K (.exit 0) (buildS s_l01Perm_l0_o1 [.f h0, .g h1_])) := by
  intro m
  induction m with
  | zero => intros; rfl
  | succ m ih =>
    intro i h1
    rw [loopN_round]
    refine (s_l01Perm_l0_round N n i h0 h1 _ K).trans ?_
    simp only [ih]
    rfl
def E_s_l01Perm_l0 (α : Type) (N : Nat) : Env α := (A_s_l01Perm_l0 α N).addLoop2 122 3 (loopSum2 ((A_s_l01Perm_l0 α N).ann 122 3) 0 s_l01Perm_l0_p (fun l K => match l with
    | [.i n, .i i, .f h0, .g h1] => s_l01Perm_l0 none n h0 N i h1 (fun h1_ => K .ret (buildS s_l01Perm_l0_o0 [.f h0, .g h1_])) (fun h1_ => K (.exit 0) (buildS s_l01Perm_l0_o1 [.f h0, .g h1_]))
    | _ => none) ((A_s_l01Perm_l0 α N).ls 122 3))
theorem E_s_l01Perm_l0_ok {α : Type} (N : Nat) : EnvOk Try.prog (E_s_l01Perm_l0 α N) := (A_s_l01Perm_l0_ok N).addLoop2 Try.func122 (by kernel_rfl) (loopSum_ok prog_mixed prog_names (A_s_l01Perm_l0_ok N) Try.func122 (by kernel_rfl) (d := 1) (ro := 0) fun l K r h => by
  split at h
  · exact (s_l01Perm_l0_loop N _ _ K N _ _).trans h
  · cases h)

/-- spec.l01Perm -/
def s_l01Perm_a : SPat := ⟨[.agg [.ints .u8 8], .int .i64], []⟩
def s_l01Perm_r0 : SPat := ⟨[.bool], []⟩
theorem s_l01Perm_run {α : Type} (N : Nat) (list : Nat → Int) (n : Int) (K : AV → Heap → Option α) :
    callK Try.prog (E_s_l01Perm_l0 α N) 1 122 0 (buildS s_l01Perm_a [.f list, .i n]).t (buildS s_l01Perm_a [.f list, .i n]).h K = s_l01Perm none N list n (fun r__ => retK (buildS s_l01Perm_r0 [.b r__]) K) := by kernel_rfl
def E_s_l01Perm (α : Type) (N : Nat) : Env α := (E_s_l01Perm_l0 α N).addFun 122 true 0 s_l01Perm_a (fun l K => match l with
    | [.f list, .i n] => s_l01Perm none N list n (fun r__ => retK (buildS s_l01Perm_r0 [.b r__]) K)
    | _ => none)
theorem E_s_l01Perm_ok {α : Type} (N : Nat) : EnvOk Try.prog (E_s_l01Perm α N) := (E_s_l01Perm_l0_ok N).addFun prog_mixed prog_names (d := 1) fun l K r h => by
  split at h
  · exact (s_l01Perm_run N _ _ K).trans h
  · cases h

def A_s_l01Is_l0 (α : Type) (N : Nat) : Env α := (E_s_l01Perm α N).addAnn 66 4 { head := [1, 3], grow := [], out := [], ret := [2] }
theorem A_s_l01Is_l0_ok {α : Type} (N : Nat) : EnvOk Try.prog (A_s_l01Is_l0 α N) := (E_s_l01Perm_ok N).addAnn

/-- spec.l01Is, loop -/
def s_l01Is_l0_p : SPat := ⟨[.undef, .ptr ⟨0, 0, 0, 1⟩, .undef, .int .i64] ++ List.replicate 35 .undef, [[.vals [.int .i64], .ints .u8 8, .ints .u8 8]]⟩
def s_l01Is_l0_o0 : SPat := ⟨[.undef, .undef, .boolC false] ++ List.replicate 36 .undef, [[.vals [.int .i64], .ints .u8 8, .ints .u8 8]]⟩
def s_l01Is_l0_o1 : SPat := ⟨[] ++ List.replicate 39 .undef, [[.vals [.int .i64], .ints .u8 8, .ints .u8 8]]⟩
theorem s_l01Is_l0_round {α : Type} (N : Nat) (i : Int) (h0_0 : Int) (h0_1 : Nat → Int) (h0_2 : Nat → Int) (kn : St → Option α) (K : AExit → St → Option α) :
    roundK Try.prog (A_s_l01Is_l0 α N) 1 0 66 Try.f66 4 1 (buildS s_l01Is_l0_p [.i i, .i h0_0, .f h0_1, .f h0_2]) kn K = s_l01Is_l0_s none h0_0 h0_1 h0_2 i (fun i => kn (buildS s_l01Is_l0_p [.i i, .i h0_0, .f h0_1, .f h0_2])) (K .ret (buildS s_l01Is_l0_o0 [.i h0_0, .f h0_1, .f h0_2])) (K (.exit 0) (buildS s_l01Is_l0_o1 [.i h0_0, .f h0_1, .f h0_2])) := by kernel_rfl
theorem s_l01Is_l0_loop {α : Type} (N : Nat) (h0_0 : Int) (h0_1 : Nat → Int) (h0_2 : Nat → Int) (K : AExit → St → Option α) : ∀ (m : Nat) (i : Int),
    loopN (trimSt ((A_s_l01Is_l0 α N).ann 66 4).head ((A_s_l01Is_l0 α N).ann 66 4).grow 1) (bodyK Try.prog (A_s_l01Is_l0 α N) 1 0 66 Try.f66 4) m (buildS s_l01Is_l0_p [.i i, .i h0_0, .f h0_1, .f h0_2]) (leaveLoop ((A_s_l01Is_l0 α N).ann 66 4) 1 K) = s_l01Is_l0 none h0_0 h0_1 h0_2 m i (K .ret (buildS s_l01Is_l0_o0 [.i h0_0, .f h0_1, .f h0_2])) (K (.exit 0) (buildS s_l01Is_l0_o1 [.i h0_0, .f h0_1, .f h0_2])) := by
  intro m
  induction m with
  | zero => intros; rfl
  | succ m ih =>
    intro i
    rw [loopN_round]
    refine (s_l01Is_l0_round N i h0_0 h0_1 h0_2 _ K).trans ?_
    simp only [ih]
    rfl
def E_s_l01Is_l0 (α : Type) (N : Nat) : Env α := (A_s_l01Is_l0 α N).addLoop2 66 4 (loopSum2 ((A_s_l01Is_l0 α N).ann 66 4) 0 s_l01Is_l0_p (fun l K => match l with
    | [.i i, .i h0_0, .f h0_1, .f h0_2] => s_l01Is_l0 none h0_0 h0_1 h0_2 N i (K .ret (buildS s_l01Is_l0_o0 [.i h0_0, .f h0_1, .f h0_2])) (K (.exit 0) (buildS s_l01Is_l0_o1 [.i h0_0, .f h0_1, .f h0_2]))
    | _ => none) ((A_s_l01Is_l0 α N).ls 66 4))
theorem E_s_l01Is_l0_ok {α : Type} (N : Nat) : EnvOk Try.prog (E_s_l01Is_l0 α N) := (A_s_l01Is_l0_ok N).addLoop2 Try.func66 (by kernel_rfl) (loopSum_ok prog_mixed prog_names (A_s_l01Is_l0_ok N) Try.func66 (by kernel_rfl) (d := 1) (ro := 0) fun l K r h => by
  split at h
  · exact (s_l01Is_l0_loop N _ _ _ K N _).trans h
  · cases h)

/-- spec.l01Is -/
def s_l01Is_a : SPat := ⟨[.agg [.vals [.int .i64], .ints .u8 8, .ints .u8 8]], []⟩
def s_l01Is_r0 : SPat := ⟨[.bool], []⟩
theorem s_l01Is_run {α : Type} (N : Nat) (g_0 : Int) (g_1 : Nat → Int) (g_2 : Nat → Int) (K : AV → Heap → Option α) :
    callK Try.prog (E_s_l01Is_l0 α N) 1 66 0 (buildS s_l01Is_a [.i g_0, .f g_1, .f g_2]).t (buildS s_l01Is_a [.i g_0, .f g_1, .f g_2]).h K = s_l01Is none N g_0 g_1 g_2 (fun r__ => retK (buildS s_l01Is_r0 [.b r__]) K) := by kernel_rfl
def E_s_l01Is (α : Type) (N : Nat) : Env α := (E_s_l01Is_l0 α N).addFun 66 true 0 s_l01Is_a (fun l K => match l with
    | [.i g_0, .f g_1, .f g_2] => s_l01Is none N g_0 g_1 g_2 (fun r__ => retK (buildS s_l01Is_r0 [.b r__]) K)
    | _ => none)
theorem E_s_l01Is_ok {α : Type} (N : Nat) : EnvOk Try.prog (E_s_l01Is α N) := (E_s_l01Is_l0_ok N).addFun prog_mixed prog_names (d := 1) fun l K r h => by
  split at h
  · exact (s_l01Is_run N _ _ _ K).trans h
  · cases h

/-- impl.within -/
def i_within_a : SPat := ⟨[.int .i64, .int .i64, .int .i64], []⟩
def i_within_r0 : SPat := ⟨[.bool], []⟩
theorem i_within_run {α : Type} (N : Nat) (x : Int) (low : Int) (high : Int) (K : AV → Heap → Option α) :
    callK Try.prog (E_s_l01Is α N) 1 98 0 (buildS i_within_a [.i x, .i low, .i high]).t (buildS i_within_a [.i x, .i low, .i high]).h K = i_within none N x low high (fun r__ => retK (buildS i_within_r0 [.b r__]) K) := by kernel_rfl
def E_i_within (α : Type) (N : Nat) : Env α := (E_s_l01Is α N).addFun 98 true 0 i_within_a (fun l K => match l with
    | [.i x, .i low, .i high] => i_within none N x low high (fun r__ => retK (buildS i_within_r0 [.b r__]) K)
    | _ => none)
theorem E_i_within_ok {α : Type} (N : Nat) : EnvOk Try.prog (E_i_within α N) := (E_s_l01Is_ok N).addFun prog_mixed prog_names (d := 1) fun l K r h => by
  split at h
  · exact (i_within_run N _ _ _ K).trans h
  · cases h

/-- (impl.Grid).n -/
def i_Grid_n_a : SPat := ⟨[.agg [.vals [.int .i64], .ints .u8 8, .ints .u8 8]], []⟩
def i_Grid_n_r0 : SPat := ⟨[.int .i64], []⟩
theorem i_Grid_n_run {α : Type} (N : Nat) (g_0 : Int) (g_1 : Nat → Int) (g_2 : Nat → Int) (K : AV → Heap → Option α) :
    callK Try.prog (E_i_within α N) 1 95 0 (buildS i_Grid_n_a [.i g_0, .f g_1, .f g_2]).t (buildS i_Grid_n_a [.i g_0, .f g_1, .f g_2]).h K = i_Grid_n none N g_0 g_1 g_2 (retK (buildS i_Grid_n_r0 [.i g_0]) K) := by kernel_rfl
def E_i_Grid_n (α : Type) (N : Nat) : Env α := (E_i_within α N).addFun 95 true 0 i_Grid_n_a (fun l K => match l with
    | [.i g_0, .f g_1, .f g_2] => i_Grid_n none N g_0 g_1 g_2 (retK (buildS i_Grid_n_r0 [.i g_0]) K)
    | _ => none)
theorem E_i_Grid_n_ok {α : Type} (N : Nat) : EnvOk Try.prog (E_i_Grid_n α N) := (E_i_within_ok N).addFun prog_mixed prog_names (d := 1) fun l K r h => by
  split at h
  · exact (i_Grid_n_run N _ _ _ K).trans h
  · cases h

def A_i_isOrder_l0 (α : Type) (N : Nat) : Env α := (E_i_Grid_n α N).addAnn 126 3 { head := [1, 5, 8, 9, 10], grow := [], out := [1, 5], ret := [4] }
theorem A_i_isOrder_l0_ok {α : Type} (N : Nat) : EnvOk Try.prog (A_i_isOrder_l0 α N) := (E_i_Grid_n_ok N).addAnn

/-- impl.isOrder, loop -/
def i_isOrder_l0_s2_p : SPat := ⟨[.undef, .int .i64, .undef, .undef, .undef, .int .i64, .undef, .undef, .slice ⟨0, 1, 0, 8⟩ 8 8 1 true, .intC .i64 8, .int .i64] ++ List.replicate 30 .undef, [[.vals [.int .i64], .ints .u8 8, .ints .u8 8]]⟩
def i_isOrder_l0_s2_o0 : SPat := ⟨[.undef, .undef, .undef, .undef, .boolC false] ++ List.replicate 36 .undef, [[.vals [.int .i64], .ints .u8 8, .ints .u8 8]]⟩
def i_isOrder_l0_s2_o1 : SPat := ⟨[.undef, .int .i64, .undef, .undef, .undef, .int .i64] ++ List.replicate 35 .undef, [[.vals [.int .i64], .ints .u8 8, .ints .u8 8]]⟩
theorem i_isOrder_l0_s2_round {α : Type} (N : Nat) (n : Int) (seen : Int) (t10 : Int) (h0_0 : Int) (h0_1 : Nat → Int) (h0_2 : Nat → Int) (kn : St → Option α) (K : AExit → St → Option α) :
    roundK Try.prog (A_i_isOrder_l0 α N) 1 1 126 Try.f126 3 1 (buildS i_isOrder_l0_s2_p [.i n, .i seen, .i t10, .i h0_0, .f h0_1, .f h0_2]) kn K = i_isOrder_l0_s2_s none n h0_0 h0_1 h0_2 seen t10 (fun seen t10 => kn (buildS i_isOrder_l0_s2_p [.i n, .i seen, .i t10, .i h0_0, .f h0_1, .f h0_2])) (K .ret (buildS i_isOrder_l0_s2_o0 [.i h0_0, .f h0_1, .f h0_2])) (fun seen_ => K (.exit 0) (buildS i_isOrder_l0_s2_o1 [.i n, .i seen_, .i h0_0, .f h0_1, .f h0_2])) := by kernel_rfl
theorem i_isOrder_l0_s2_loop {α : Type} (N : Nat) (n : Int) (h0_0 : Int) (h0_1 : Nat → Int) (h0_2 : Nat → Int) (K : AExit → St → Option α) : ∀ (m : Nat) (seen : Int) (t10 : Int),
    loopN (trimSt ((A_i_isOrder_l0 α N).ann 126 3).head ((A_i_isOrder_l0 α N).ann 126 3).grow 1) (bodyK Try.prog (A_i_isOrder_l0 α N) 1 1 126 Try.f126 3) m (buildS i_isOrder_l0_s2_p [.i n, .i seen, .i t10, .i h0_0, .f h0_1, .f h0_2]) (leaveLoop ((A_i_isOrder_l0 α N).ann 126 3) 1 K) = i_isOrder_l0_s2 none n h0_0 h0_1 h0_2 m seen t10 (K .ret (buildS i_isOrder_l0_s2_o0 [.i h0_0, .f h0_1, .f h0_2])) (fun seen_ => K (.exit 0) (buildS i_isOrder_l0_s2_o1 [.i n, .i seen_, .i h0_0, .f h0_1, .f h0_2])) := by
  intro m
  induction m with
  | zero => intros; rfl
  | succ m ih =>
    intro seen t10
    rw [loopN_round]
    refine (i_isOrder_l0_s2_round N n seen t10 h0_0 h0_1 h0_2 _ K).trans ?_
    simp only [ih]
    rfl
def E_i_isOrder_l0_s2 (α : Type) (N : Nat) : Env α := (A_i_isOrder_l0 α N).addLoop2 126 3 (loopSum2 ((A_i_isOrder_l0 α N).ann 126 3) 1 i_isOrder_l0_s2_p (fun l K => match l with
    | [.i n, .i seen, .i t10, .i h0_0, .f h0_1, .f h0_2] => i_isOrder_l0_s2 none n h0_0 h0_1 h0_2 N seen t10 (K .ret (buildS i_isOrder_l0_s2_o0 [.i h0_0, .f h0_1, .f h0_2])) (fun seen_ => K (.exit 0) (buildS i_isOrder_l0_s2_o1 [.i n, .i seen_, .i h0_0, .f h0_1, .f h0_2]))
    | _ => none) ((A_i_isOrder_l0 α N).ls 126 3))
theorem E_i_isOrder_l0_s2_ok {α : Type} (N : Nat) : EnvOk Try.prog (E_i_isOrder_l0_s2 α N) := (A_i_isOrder_l0_ok N).addLoop2 Try.func126 (by kernel_rfl) (loopSum_ok prog_mixed prog_names (A_i_isOrder_l0_ok N) Try.func126 (by kernel_rfl) (d := 1) (ro := 1) fun l K r h => by
  split at h
  · exact (i_isOrder_l0_s2_loop N _ _ _ _ K N _ _).trans h
  · cases h)

/-- impl.isOrder -/
def i_isOrder_s2_a : SPat := ⟨[.slice ⟨0, 1, 0, 8⟩ 8 8 1 true, .int .i64], [[.vals [.int .i64], .ints .u8 8, .ints .u8 8]]⟩
def i_isOrder_s2_r0 : SPat := ⟨[.bool], [[.vals [.int .i64], .ints .u8 8, .ints .u8 8]]⟩
theorem i_isOrder_s2_run {α : Type} (N : Nat) (n : Int) (h0_0 : Int) (h0_1 : Nat → Int) (h0_2 : Nat → Int) (K : AV → Heap → Option α) :
    callK Try.prog (E_i_isOrder_l0_s2 α N) 1 126 1 (buildS i_isOrder_s2_a [.i n, .i h0_0, .f h0_1, .f h0_2]).t (buildS i_isOrder_s2_a [.i n, .i h0_0, .f h0_1, .f h0_2]).h K = i_isOrder_s2 none N n h0_0 h0_1 h0_2 (fun r__ => retK (buildS i_isOrder_s2_r0 [.b r__, .i h0_0, .f h0_1, .f h0_2]) K) := by kernel_rfl
def E_i_isOrder_s2 (α : Type) (N : Nat) : Env α := (E_i_isOrder_l0_s2 α N).addFun 126 true 1 i_isOrder_s2_a (fun l K => match l with
    | [.i n, .i h0_0, .f h0_1, .f h0_2] => i_isOrder_s2 none N n h0_0 h0_1 h0_2 (fun r__ => retK (buildS i_isOrder_s2_r0 [.b r__, .i h0_0, .f h0_1, .f h0_2]) K)
    | _ => none)
theorem E_i_isOrder_s2_ok {α : Type} (N : Nat) : EnvOk Try.prog (E_i_isOrder_s2 α N) := (E_i_isOrder_l0_s2_ok N).addFun prog_mixed prog_names (d := 1) fun l K r h => by
  split at h
  · exact (i_isOrder_s2_run N _ _ _ _ K).trans h
  · cases h

/-- impl.isOrder, loop -/
def i_isOrder_l0_s3_p : SPat := ⟨[.undef, .int .i64, .undef, .undef, .undef, .int .i64, .undef, .undef, .slice ⟨0, 2, 0, 8⟩ 8 8 1 true, .intC .i64 8, .int .i64] ++ List.replicate 30 .undef, [[.vals [.int .i64], .ints .u8 8, .ints .u8 8]]⟩
def i_isOrder_l0_s3_o0 : SPat := ⟨[.undef, .undef, .undef, .undef, .boolC false] ++ List.replicate 36 .undef, [[.vals [.int .i64], .ints .u8 8, .ints .u8 8]]⟩
def i_isOrder_l0_s3_o1 : SPat := ⟨[.undef, .int .i64, .undef, .undef, .undef, .int .i64] ++ List.replicate 35 .undef, [[.vals [.int .i64], .ints .u8 8, .ints .u8 8]]⟩
theorem i_isOrder_l0_s3_round {α : Type} (N : Nat) (n : Int) (seen : Int) (t10 : Int) (h0_0 : Int) (h0_1 : Nat → Int) (h0_2 : Nat → Int) (kn : St → Option α) (K : AExit → St → Option α) :
    roundK Try.prog (E_i_isOrder_s2 α N) 1 1 126 Try.f126 3 1 (buildS i_isOrder_l0_s3_p [.i n, .i seen, .i t10, .i h0_0, .f h0_1, .f h0_2]) kn K = i_isOrder_l0_s3_s none n h0_0 h0_1 h0_2 seen t10 (fun seen t10 => kn (buildS i_isOrder_l0_s3_p [.i n, .i seen, .i t10, .i h0_0, .f h0_1, .f h0_2])) (K .ret (buildS i_isOrder_l0_s3_o0 [.i h0_0, .f h0_1, .f h0_2])) (fun seen_ => K (.exit 0) (buildS i_isOrder_l0_s3_o1 [.i n, .i seen_, .i h0_0, .f h0_1, .f h0_2])) := by kernel_rfl
theorem i_isOrder_l0_s3_loop {α : Type} (N : Nat) (n : Int) (h0_0 : Int) (h0_1 : Nat → Int) (h0_2 : Nat → Int) (K : AExit → St → Option α) : ∀ (m : Nat) (seen : Int) (t10 : Int),
    loopN (trimSt ((E_i_isOrder_s2 α N).ann 126 3).head ((E_i_isOrder_s2 α N).ann 126 3).grow 1) (bodyK Try.prog (E_i_isOrder_s2 α N) 1 1 126 Try.f126 3) m (buildS i_isOrder_l0_s3_p [.i n, .i seen, .i t10, .i h0_0, .f h0_1, .f h0_2]) (leaveLoop ((E_i_isOrder_s2 α N).ann 126 3) 1 K) = i_isOrder_l0_s3 none n h0_0 h0_1 h0_2 m seen t10 (K .ret (buildS i_isOrder_l0_s3_o0 [.i h0_0, .f h0_1, .f h0_2])) (fun seen_ => K (.exit 0) (buildS i_isOrder_l0_s3_o1 [.i n, .i seen_, .i h0_0, .f h0_1, .f h0_2])) := by
  intro m
  induction m with
  | zero => intros; rfl
  | succ m ih =>
    intro seen t10
    rw [loopN_round]
    refine (i_isOrder_l0_s3_round N n seen t10 h0_0 h0_1 h0_2 _ K).trans ?_
    simp only [ih]
    rfl
def E_i_isOrder_l0_s3 (α : Type) (N : Nat) : Env α := (E_i_isOrder_s2 α N).addLoop2 126 3 (loopSum2 ((E_i_isOrder_s2 α N).ann 126 3) 1 i_isOrder_l0_s3_p (fun l K => match l with
    | [.i n, .i seen, .i t10, .i h0_0, .f h0_1, .f h0_2] => i_isOrder_l0_s3 none n h0_0 h0_1 h0_2 N seen t10 (K .ret (buildS i_isOrder_l0_s3_o0 [.i h0_0, .f h0_1, .f h0_2])) (fun seen_ => K (.exit 0) (buildS i_isOrder_l0_s3_o1 [.i n, .i seen_, .i h0_0, .f h0_1, .f h0_2]))
    | _ => none) ((E_i_isOrder_s2 α N).ls 126 3))
theorem E_i_isOrder_l0_s3_ok {α : Type} (N : Nat) : EnvOk Try.prog (E_i_isOrder_l0_s3 α N) := (E_i_isOrder_s2_ok N).addLoop2 Try.func126 (by kernel_rfl) (loopSum_ok prog_mixed prog_names (E_i_isOrder_s2_ok N) Try.func126 (by kernel_rfl) (d := 1) (ro := 1) fun l K r h => by
  split at h
  · exact (i_isOrder_l0_s3_loop N _ _ _ _ K N _ _).trans h
  · cases h)

/-- impl.isOrder -/
def i_isOrder_s3_a : SPat := ⟨[.slice ⟨0, 2, 0, 8⟩ 8 8 1 true, .int .i64], [[.vals [.int .i64], .ints .u8 8, .ints .u8 8]]⟩
def i_isOrder_s3_r0 : SPat := ⟨[.bool], [[.vals [.int .i64], .ints .u8 8, .ints .u8 8]]⟩
theorem i_isOrder_s3_run {α : Type} (N : Nat) (n : Int) (h0_0 : Int) (h0_1 : Nat → Int) (h0_2 : Nat → Int) (K : AV → Heap → Option α) :
    callK Try.prog (E_i_isOrder_l0_s3 α N) 1 126 1 (buildS i_isOrder_s3_a [.i n, .i h0_0, .f h0_1, .f h0_2]).t (buildS i_isOrder_s3_a [.i n, .i h0_0, .f h0_1, .f h0_2]).h K = i_isOrder_s3 none N n h0_0 h0_1 h0_2 (fun r__ => retK (buildS i_isOrder_s3_r0 [.b r__, .i h0_0, .f h0_1, .f h0_2]) K) := by kernel_rfl
def E_i_isOrder_s3 (α : Type) (N : Nat) : Env α := (E_i_isOrder_l0_s3 α N).addFun 126 true 1 i_isOrder_s3_a (fun l K => match l with
    | [.i n, .i h0_0, .f h0_1, .f h0_2] => i_isOrder_s3 none N n h0_0 h0_1 h0_2 (fun r__ => retK (buildS i_isOrder_s3_r0 [.b r__, .i h0_0, .f h0_1, .f h0_2]) K)
    | _ => none)
theorem E_i_isOrder_s3_ok {α : Type} (N : Nat) : EnvOk Try.prog (E_i_isOrder_s3 α N) := (E_i_isOrder_l0_s3_ok N).addFun prog_mixed prog_names (d := 1) fun l K r h => by
  split at h
  · exact (i_isOrder_s3_run N _ _ _ _ K).trans h
  · cases h

def A_i_IsGrid_l0 (α : Type) (N : Nat) : Env α := (E_i_isOrder_s3 α N).addAnn 74 4 { head := [1, 25, 26], grow := [], out := [], ret := [2] }
theorem A_i_IsGrid_l0_ok {α : Type} (N : Nat) : EnvOk Try.prog (A_i_IsGrid_l0 α N) := (E_i_isOrder_s3_ok N).addAnn

/-- impl.IsGrid, loop -/
def i_IsGrid_l0_p : SPat := ⟨[.undef, .ptr ⟨0, 0, 0, 1⟩, .undef, .undef, .undef, .undef, .undef, .undef, .undef, .undef, .undef, .undef, .undef, .undef, .undef, .undef, .undef, .undef, .undef, .undef, .undef, .undef, .undef, .undef, .undef, .int .i64, .int .i64] ++ List.replicate 12 .undef, [[.vals [.int .i64], .ints .u8 8, .ints .u8 8]]⟩
def i_IsGrid_l0_o0 : SPat := ⟨[.undef, .undef, .boolC false] ++ List.replicate 36 .undef, [[.vals [.int .i64], .ints .u8 8, .ints .u8 8]]⟩
def i_IsGrid_l0_o1 : SPat := ⟨[] ++ List.replicate 39 .undef, [[.vals [.int .i64], .ints .u8 8, .ints .u8 8]]⟩
theorem i_IsGrid_l0_round {α : Type} (N : Nat) (t25 : Int) (t26 : Int) (h0_0 : Int) (h0_1 : Nat → Int) (h0_2 : Nat → Int) (kn : St → Option α) (K : AExit → St → Option α) :
    roundK Try.prog (A_i_IsGrid_l0 α N) 1 0 74 Try.f74 4 1 (buildS i_IsGrid_l0_p [.i t25, .i t26, .i h0_0, .f h0_1, .f h0_2]) kn K = i_IsGrid_l0_s none t25 h0_0 h0_1 h0_2 t26 (fun t26 => kn (buildS i_IsGrid_l0_p [.i t25, .i t26, .i h0_0, .f h0_1, .f h0_2])) (K .ret (buildS i_IsGrid_l0_o0 [.i h0_0, .f h0_1, .f h0_2])) (K (.exit 0) (buildS i_IsGrid_l0_o1 [.i h0_0, .f h0_1, .f h0_2])) := by kernel_rfl
theorem i_IsGrid_l0_loop {α : Type} (N : Nat) (t25 : Int) (h0_0 : Int) (h0_1 : Nat → Int) (h0_2 : Nat → Int) (K : AExit → St → Option α) : ∀ (m : Nat) (t26 : Int),
    loopN (trimSt ((A_i_IsGrid_l0 α N).ann 74 4).head ((A_i_IsGrid_l0 α N).ann 74 4).grow 1) (bodyK Try.prog (A_i_IsGrid_l0 α N) 1 0 74 Try.f74 4) m (buildS i_IsGrid_l0_p [.i t25, .i t26, .i h0_0, .f h0_1, .f h0_2]) (leaveLoop ((A_i_IsGrid_l0 α N).ann 74 4) 1 K) = i_IsGrid_l0 none t25 h0_0 h0_1 h0_2 m t26 (K .ret (buildS i_IsGrid_l0_o0 [.i h0_0, .f h0_1, .f h0_2])) (K (.exit 0) (buildS i_IsGrid_l0_o1 [.i h0_0, .f h0_1, .f h0_2])) := by
  intro m
  induction m with
  | zero => intros; rfl
  | succ m ih =>
    intro t26
    rw [loopN_round]
    refine (i_IsGrid_l0_round N t25 t26 h0_0 h0_1 h0_2 _ K).trans ?_
    simp only [ih]
    rfl
def E_i_IsGrid_l0 (α : Type) (N : Nat) : Env α := (A_i_IsGrid_l0 α N).addLoop2 74 4 (loopSum2 ((A_i_IsGrid_l0 α N).ann 74 4) 0 i_IsGrid_l0_p (fun l K => match l with
    | [.i t25, .i t26, .i h0_0, .f h0_1, .f h0_2] => i_IsGrid_l0 none t25 h0_0 h0_1 h0_2 N t26 (K .ret (buildS i_IsGrid_l0_o0 [.i h0_0, .f h0_1, .f h0_2])) (K (.exit 0) (buildS i_IsGrid_l0_o1 [.i h0_0, .f h0_1, .f h0_2]))
    | _ => none) ((A_i_IsGrid_l0 α N).ls 74 4))
theorem E_i_IsGrid_l0_ok {α : Type} (N : Nat) : EnvOk Try.prog (E_i_IsGrid_l0 α N) := (A_i_IsGrid_l0_ok N).addLoop2 Try.func74 (by kernel_rfl) (loopSum_ok prog_mixed prog_names (A_i_IsGrid_l0_ok N) Try.func74 (by kernel_rfl) (d := 1) (ro := 0) fun l K r h => by
  split at h
  · exact (i_IsGrid_l0_loop N _ _ _ _ K N _).trans h
  · cases h)

/-- impl.IsGrid -/
def i_IsGrid_a : SPat := ⟨[.agg [.vals [.int .i64], .ints .u8 8, .ints .u8 8]], []⟩
def i_IsGrid_r0 : SPat := ⟨[.bool], []⟩
theorem i_IsGrid_run {α : Type} (N : Nat) (g_0 : Int) (g_1 : Nat → Int) (g_2 : Nat → Int) (K : AV → Heap → Option α) :
    callK Try.prog (E_i_IsGrid_l0 α N) 1 74 0 (buildS i_IsGrid_a [.i g_0, .f g_1, .f g_2]).t (buildS i_IsGrid_a [.i g_0, .f g_1, .f g_2]).h K = i_IsGrid none N g_0 g_1 g_2 (fun r__ => retK (buildS i_IsGrid_r0 [.b r__]) K) := by kernel_rfl
def E_i_IsGrid (α : Type) (N : Nat) : Env α := (E_i_IsGrid_l0 α N).addFun 74 true 0 i_IsGrid_a (fun l K => match l with
    | [.i g_0, .f g_1, .f g_2] => i_IsGrid none N g_0 g_1 g_2 (fun r__ => retK (buildS i_IsGrid_r0 [.b r__]) K)
    | _ => none)
theorem E_i_IsGrid_ok {α : Type} (N : Nat) : EnvOk Try.prog (E_i_IsGrid α N) := (E_i_IsGrid_l0_ok N).addFun prog_mixed prog_names (d := 1) fun l K r h => by
  split at h
  · exact (i_IsGrid_run N _ _ _ K).trans h
  · cases h

def A_s_l02Place_l0 (α : Type) (N : Nat) : Env α := (E_i_IsGrid α N).addAnn 100 4 { head := [1, 2, 5], grow := [], out := [], ret := [4] }
theorem A_s_l02Place_l0_ok {α : Type} (N : Nat) : EnvOk Try.prog (A_s_l02Place_l0 α N) := (E_i_IsGrid_ok N).addAnn

/-- spec.l02Place, loop -/
def s_l02Place_l0_p : SPat := ⟨[.undef, .slice ⟨0, 0, 0, 1⟩ 1 1 1 true, .ptr ⟨1, 0, 0, 1⟩, .undef, .undef, .int .i64] ++ List.replicate 18 .undef, [[.vec .i64], [.vals [.int .i64], .ints .u8 8, .ints .u8 8]]⟩
def s_l02Place_l0_o0 : SPat := ⟨[.undef, .undef, .undef, .undef, .intC .i64 2] ++ List.replicate 19 .undef, [[.vec .i64], [.vals [.int .i64], .ints .u8 8, .ints .u8 8]]⟩
def s_l02Place_l0_o1 : SPat := ⟨[] ++ List.replicate 24 .undef, [[.vec .i64], [.vals [.int .i64], .ints .u8 8, .ints .u8 8]]⟩
theorem s_l02Place_l0_round {α : Type} (N : Nat) (i : Int) (h0 : List Int) (h1_0 : Int) (h1_1 : Nat → Int) (h1_2 : Nat → Int) (kn : St → Option α) (K : AExit → St → Option α) :
    roundK Try.prog (A_s_l02Place_l0 α N) 1 1 100 Try.f100 4 2 (buildS s_l02Place_l0_p [.i i, .l h0, .i h1_0, .f h1_1, .f h1_2]) kn K = s_l02Place_l0_s none N h0 h1_0 h1_1 h1_2 i (fun i => kn (buildS s_l02Place_l0_p [.i i, .l h0, .i h1_0, .f h1_1, .f h1_2])) (K .ret (buildS s_l02Place_l0_o0 [.l h0, .i h1_0, .f h1_1, .f h1_2])) (K (.exit 0) (buildS s_l02Place_l0_o1 [.l h0, .i h1_0, .f h1_1, .f h1_2])) := by kernel_rfl
theorem s_l02Place_l0_loop {α : Type} (N : Nat) (h0 : List Int) (h1_0 : Int) (h1_1 : Nat → Int) (h1_2 : Nat → Int) (K : AExit → St → Option α) : ∀ (m : Nat) (i : Int),
    loopN (trimSt ((A_s_l02Place_l0 α N).ann 100 4).head ((A_s_l02Place_l0 α N).ann 100 4).grow 2) (bodyK Try.prog (A_s_l02Place_l0 α N) 1 1 100 Try.f100 4) m (buildS s_l02Place_l0_p [.i i, .l h0, .i h1_0, .f h1_1, .f h1_2]) (leaveLoop ((A_s_l02Place_l0 α N).ann 100 4) 2 K) = s_l02Place_l0 none N h0 h1_0 h1_1 h1_2 m i (K .ret (buildS s_l02Place_l0_o0 [.l h0, .i h1_0, .f h1_1, .f h1_2])) (K (.exit 0) (buildS s_l02Place_l0_o1 [.l h0, .i h1_0, .f h1_1, .f h1_2])) := by
  intro m
  induction m with
  | zero => intros; rfl
  | succ m ih =>
    intro i
    rw [loopN_round]
    refine (s_l02Place_l0_round N i h0 h1_0 h1_1 h1_2 _ K).trans ?_
    simp only [ih]
    rfl
def E_s_l02Place_l0 (α : Type) (N : Nat) : Env α := (A_s_l02Place_l0 α N).addLoop2 100 4 (loopSum2 ((A_s_l02Place_l0 α N).ann 100 4) 1 s_l02Place_l0_p (fun l K => match l with
    | [.i i, .l h0, .i h1_0, .f h1_1, .f h1_2] => s_l02Place_l0 none N h0 h1_0 h1_1 h1_2 N i (K .ret (buildS s_l02Place_l0_o0 [.l h0, .i h1_0, .f h1_1, .f h1_2])) (K (.exit 0) (buildS s_l02Place_l0_o1 [.l h0, .i h1_0, .f h1_1, .f h1_2]))
    | _ => none) ((A_s_l02Place_l0 α N).ls 100 4))
theorem E_s_l02Place_l0_ok {α : Type} (N : Nat) : EnvOk Try.prog (E_s_l02Place_l0 α N) := (A_s_l02Place_l0_ok N).addLoop2 Try.func100 (by kernel_rfl) (loopSum_ok prog_mixed prog_names (A_s_l02Place_l0_ok N) Try.func100 (by kernel_rfl) (d := 1) (ro := 1) fun l K r h => by
  split at h
  · exact (s_l02Place_l0_loop N _ _ _ _ K N _).trans h
  · cases h)

/-- spec.l02Place -/
def s_l02Place_a : SPat := ⟨[.agg [.vals [.int .i64], .ints .u8 8, .ints .u8 8], .slice ⟨0, 0, 0, 1⟩ 1 1 1 true], [[.vec .i64]]⟩
def s_l02Place_r0 : SPat := ⟨[.int .i64], [[.vec .i64]]⟩
theorem s_l02Place_run {α : Type} (N : Nat) (g_0 : Int) (g_1 : Nat → Int) (g_2 : Nat → Int) (h0 : List Int) (K : AV → Heap → Option α) :
    callK Try.prog (E_s_l02Place_l0 α N) 1 100 1 (buildS s_l02Place_a [.i g_0, .f g_1, .f g_2, .l h0]).t (buildS s_l02Place_a [.i g_0, .f g_1, .f g_2, .l h0]).h K = s_l02Place none N g_0 g_1 g_2 h0 (fun r__ => retK (buildS s_l02Place_r0 [.i r__, .l h0]) K) := by kernel_rfl
def E_s_l02Place (α : Type) (N : Nat) : Env α := (E_s_l02Place_l0 α N).addFun 100 true 1 s_l02Place_a (fun l K => match l with
    | [.i g_0, .f g_1, .f g_2, .l h0] => s_l02Place none N g_0 g_1 g_2 h0 (fun r__ => retK (buildS s_l02Place_r0 [.i r__, .l h0]) K)
    | _ => none)
theorem E_s_l02Place_ok {α : Type} (N : Nat) : EnvOk Try.prog (E_s_l02Place α N) := (E_s_l02Place_l0_ok N).addFun prog_mixed prog_names (d := 1) fun l K r h => by
  split at h
  · exact (s_l02Place_run N _ _ _ _ K).trans h
  · cases h

def A_s_l01Row_l0 (α : Type) (N : Nat) : Env α := (E_s_l02Place α N).addAnn 139 2 { head := [1, 2, 3, 7], grow := [], out := [], ret := [6] }
theorem A_s_l01Row_l0_ok {α : Type} (N : Nat) : EnvOk Try.prog (A_s_l01Row_l0 α N) := (E_s_l02Place_ok N).addAnn

/-- spec.l01Row, loop -/
def s_l01Row_l0_p : SPat := ⟨[.undef, .int .i64, .int .i64, .ptr ⟨0, 0, 0, 8⟩, .undef, .undef, .undef, .int .i64] ++ List.replicate 12 .undef, [[.ints .u8 8]]⟩
def s_l01Row_l0_o0 : SPat := ⟨[.undef, .undef, .undef, .undef, .undef, .undef, .int .i64] ++ List.replicate 13 .undef, [[.ints .u8 8]]⟩
def s_l01Row_l0_o1 : SPat := ⟨[] ++ List.replicate 20 .undef, [[.ints .u8 8]]⟩
theorem s_l01Row_l0_round {α : Type} (N : Nat) (n : Int) (r_ : Int) (i : Int) (h0 : Nat → Int) (kn : St → Option α) (K : AExit → St → Option α) :
    roundK Try.prog (A_s_l01Row_l0 α N) 1 0 139 Try.f139 2 1 (buildS s_l01Row_l0_p [.i n, .i r_, .i i, .f h0]) kn K = s_l01Row_l0_s none n r_ h0 i (fun i => kn (buildS s_l01Row_l0_p [.i n, .i r_, .i i, .f h0])) (fun t6_ => K .ret (buildS s_l01Row_l0_o0 [.i t6_, .f h0])) (K (.exit 0) (buildS s_l01Row_l0_o1 [.f h0])) := by kernel_rfl
theorem s_l01Row_l0_loop {α : Type} (N : Nat) (n : Int) (r_ : Int) (h0 : Nat → Int) (K : AExit → St → Option α) : ∀ (m : Nat) (i : Int),
    loopN (trimSt ((A_s_l01Row_l0 α N).ann 139 2).head ((A_s_l01Row_l0 α N).ann 139 2).grow 1) (bodyK Try.prog (A_s_l01Row_l0 α N) 1 0 139 Try.f139 2) m (buildS s_l01Row_l0_p [.i n, .i r_, .i i, .f h0]) (leaveLoop ((A_s_l01Row_l0 α N).ann 139 2) 1 K) = s_l01Row_l0 none n r_ h0 m i (fun t6_ => K .ret (buildS s_l01Row_l0_o0 [.i t6_, .f h0])) (K (.exit 0) (buildS s_l01Row_l0_o1 [.f h0])) := by
  intro m
  induction m with
  | zero => intros; rfl
  | succ m ih =>
    intro i
    rw [loopN_round]
    refine (s_l01Row_l0_round N n r_ i h0 _ K).trans ?_
    simp only [ih]
    rfl
def E_s_l01Row_l0 (α : Type) (N : Nat) : Env α := (A_s_l01Row_l0 α N).addLoop2 139 2 (loopSum2 ((A_s_l01Row_l0 α N).ann 139 2) 0 s_l01Row_l0_p (fun l K => match l with
    | [.i n, .i r_, .i i, .f h0] => s_l01Row_l0 none n r_ h0 N i (fun t6_ => K .ret (buildS s_l01Row_l0_o0 [.i t6_, .f h0])) (K (.exit 0) (buildS s_l01Row_l0_o1 [.f h0]))
    | _ => none) ((A_s_l01Row_l0 α N).ls 139 2))
theorem E_s_l01Row_l0_ok {α : Type} (N : Nat) : EnvOk Try.prog (E_s_l01Row_l0 α N) := (A_s_l01Row_l0_ok N).addLoop2 Try.func139 (by kernel_rfl) (loopSum_ok prog_mixed prog_names (A_s_l01Row_l0_ok N) Try.func139 (by kernel_rfl) (d := 1) (ro := 0) fun l K r h => by
  split at h
  · exact (s_l01Row_l0_loop N _ _ _ K N _).trans h
  · cases h)

/-- spec.l01Row -/
def s_l01Row_a : SPat := ⟨[.agg [.ints .u8 8], .int .i64, .int .i64], []⟩
def s_l01Row_r0 : SPat := ⟨[.int .i64], []⟩
theorem s_l01Row_run {α : Type} (N : Nat) (list : Nat → Int) (n : Int) (r_ : Int) (K : AV → Heap → Option α) :
    callK Try.prog (E_s_l01Row_l0 α N) 1 139 0 (buildS s_l01Row_a [.f list, .i n, .i r_]).t (buildS s_l01Row_a [.f list, .i n, .i r_]).h K = s_l01Row none N list n r_ (fun r__ => retK (buildS s_l01Row_r0 [.i r__]) K) := by kernel_rfl
def E_s_l01Row (α : Type) (N : Nat) : Env α := (E_s_l01Row_l0 α N).addFun 139 true 0 s_l01Row_a (fun l K => match l with
    | [.f list, .i n, .i r_] => s_l01Row none N list n r_ (fun r__ => retK (buildS s_l01Row_r0 [.i r__]) K)
    | _ => none)
theorem E_s_l01Row_ok {α : Type} (N : Nat) : EnvOk Try.prog (E_s_l01Row α N) := (E_s_l01Row_l0_ok N).addFun prog_mixed prog_names (d := 1) fun l K r h => by
  split at h
  · exact (s_l01Row_run N _ _ _ K).trans h
  · cases h

/-- spec.l02Free -/
def s_l02Free_a : SPat := ⟨[.int .i64, .int .i64, .int .i64, .int .i64], []⟩
def s_l02Free_r0 : SPat := ⟨[.bool], []⟩
theorem s_l02Free_run {α : Type} (N : Nat) (a : Int) (a1 : Int) (a2 : Int) (a3 : Int) (K : AV → Heap → Option α) :
    callK Try.prog (E_s_l01Row α N) 1 138 0 (buildS s_l02Free_a [.i a, .i a1, .i a2, .i a3]).t (buildS s_l02Free_a [.i a, .i a1, .i a2, .i a3]).h K = s_l02Free none N a a1 a2 a3 (fun r__ => retK (buildS s_l02Free_r0 [.b r__]) K) := by kernel_rfl
def E_s_l02Free (α : Type) (N : Nat) : Env α := (E_s_l01Row α N).addFun 138 true 0 s_l02Free_a (fun l K => match l with
    | [.i a, .i a1, .i a2, .i a3] => s_l02Free none N a a1 a2 a3 (fun r__ => retK (buildS s_l02Free_r0 [.b r__]) K)
    | _ => none)
theorem E_s_l02Free_ok {α : Type} (N : Nat) : EnvOk Try.prog (E_s_l02Free α N) := (E_s_l01Row_ok N).addFun prog_mixed prog_names (d := 1) fun l K r h => by
  split at h
  · exact (s_l02Free_run N _ _ _ _ K).trans h
  · cases h

/-- spec.l02Rows -/
def s_l02Rows_a : SPat := ⟨[.agg [.vals [.int .i64], .ints .u8 8, .ints .u8 8], .int .i64], []⟩
def s_l02Rows_r0 : SPat := ⟨[.bool], []⟩
theorem s_l02Rows_run {α : Type} (N : Nat) (g_0 : Int) (g_1 : Nat → Int) (g_2 : Nat → Int) (r_ : Int) (K : AV → Heap → Option α) :
    callK Try.prog (E_s_l02Free α N) 1 101 0 (buildS s_l02Rows_a [.i g_0, .f g_1, .f g_2, .i r_]).t (buildS s_l02Rows_a [.i g_0, .f g_1, .f g_2, .i r_]).h K = s_l02Rows none N g_0 g_1 g_2 r_ (fun r__ => retK (buildS s_l02Rows_r0 [.b r__]) K) := by kernel_rfl
def E_s_l02Rows (α : Type) (N : Nat) : Env α := (E_s_l02Free α N).addFun 101 true 0 s_l02Rows_a (fun l K => match l with
    | [.i g_0, .f g_1, .f g_2, .i r_] => s_l02Rows none N g_0 g_1 g_2 r_ (fun r__ => retK (buildS s_l02Rows_r0 [.b r__]) K)
    | _ => none)
theorem E_s_l02Rows_ok {α : Type} (N : Nat) : EnvOk Try.prog (E_s_l02Rows α N) := (E_s_l02Free_ok N).addFun prog_mixed prog_names (d := 1) fun l K r h => by
  split at h
  · exact (s_l02Rows_run N _ _ _ _ K).trans h
  · cases h

def A_s_l02SwapRows_l0 (α : Type) (N : Nat) : Env α := (E_s_l02Rows α N).addAnn 102 3 { head := [2, 4, 5, 6, 7], grow := [], out := [2, 4], ret := [4] }
theorem A_s_l02SwapRows_l0_ok {α : Type} (N : Nat) : EnvOk Try.prog (A_s_l02SwapRows_l0 α N) := (E_s_l02Rows_ok N).addAnn

/-- spec.l02SwapRows, loop -/
def s_l02SwapRows_l0_p : SPat := ⟨[.undef, .undef, .ptr ⟨0, 0, 0, 1⟩, .undef, .ptr ⟨1, 0, 0, 1⟩, .int .u8, .int .u8, .int .i64] ++ List.replicate 48 .undef, [[.vals [.int .i64], .ints .u8 8, .ints .u8 8], [.vals [.int .i64], .ints .u8 8, .ints .u8 8]]⟩
def s_l02SwapRows_l0_o0 : SPat := ⟨[.undef, .undef, .ptr ⟨0, 0, 0, 1⟩, .undef, .ptr ⟨1, 0, 0, 1⟩] ++ List.replicate 51 .undef, [[.vals [.int .i64], .ints .u8 8, .ints .u8 8], [.vals [.int .i64], .ints .u8 8, .ints .u8 8]]⟩
theorem s_l02SwapRows_l0_round {α : Type} (N : Nat) (a : Int) (b : Int) (i : Int) (h0_0 : Int) (h0_1 : Nat → Int) (h0_2 : Nat → Int) (h1_0 : Int) (h1_1 : Nat → Int) (h1_2 : Nat → Int) (kn : St → Option α) (K : AExit → St → Option α) :
    roundK Try.prog (A_s_l02SwapRows_l0 α N) 1 0 102 Try.f102 3 2 (buildS s_l02SwapRows_l0_p [.i a, .i b, .i i, .i h0_0, .f h0_1, .f h0_2, .i h1_0, .f h1_1, .f h1_2]) kn K = s_l02SwapRows_l0_s none a b h0_0 h1_0 h1_1 h1_2 i h0_1 h0_2 (fun i h0_1 h0_2 => kn (buildS s_l02SwapRows_l0_p [.i a, .i b, .i i, .i h0_0, .f h0_1, .f h0_2, .i h1_0, .f h1_1, .f h1_2])) (fun h0_1_ h0_2_ => K (.exit 0) (buildS s_l02SwapRows_l0_o0 [.i h0_0, .f h0_1_, .f h0_2_, .i h1_0, .f h1_1, .f h1_2])) := by kernel_rfl
theorem s_l02SwapRows_l0_loop {α : Type} (N : Nat) (a : Int) (b : Int) (h0_0 : Int) (h1_0 : Int) (h1_1 : Nat → Int) (h1_2 : Nat → Int) (K : AExit → St → Option α) : ∀ (m : Nat) (i : Int) (h0_1 : Nat → Int) (h0_2 : Nat → Int),
    loopN (trimSt ((A_s_l02SwapRows_l0 α N).ann 102 3).head ((A_s_l02SwapRows_l0 α N).ann 102 3).grow 2) (bodyK Try.prog (A_s_l02SwapRows_l0 α N) 1 0 102 Try.f102 3) m (buildS s_l02SwapRows_l0_p [.i a, .i b, .i i, .i h0_0, .f h0_1, .f h0_2, .i h1_0, .f h1_1, .f h1_2]) (leaveLoop ((A_s_l02SwapRows_l0 α N).ann 102 3) 2 K) = s_l02SwapRows_l0 none a b h0_0 h1_0 h1_1 h1_2 m i h0_1 h0_2 (fun h0_1_ h0_2_ => K (.exit 0) (buildS s_l02SwapRows_l0_o0 [.i h0_0, .f h0_1_, .f h0_2_, .i h1_0, .f h1_1, .f h1_2])) := by
  intro m
  induction m with
  | zero => intros; rfl
  | succ m ih =>
    intro i h0_1 h0_2
    rw [loopN_round]
    refine (s_l02SwapRows_l0_round N a b i h0_0 h0_1 h0_2 h1_0 h1_1 h1_2 _ K).trans ?_
    simp only [ih]
    rfl
def E_s_l02SwapRows_l0 (α : Type) (N : Nat) : Env α := (A_s_l02SwapRows_l0 α N).addLoop2 102 3 (loopSum2 ((A_s_l02SwapRows_l0 α N).ann 102 3) 0 s_l02SwapRows_l0_p (fun l K => match l with
    | [.i a, .i b, .i i, .i h0_0, .f h0_1, .f h0_2, .i h1_0, .f h1_1, .f h1_2] => s_l02SwapRows_l0 none a b h0_0 h1_0 h1_1 h1_2 N i h0_1 h0_2 (fun h0_1_ h0_2_ => K (.exit 0) (buildS s_l02SwapRows_l0_o0 [.i h0_0, .f h0_1_, .f h0_2_, .i h1_0, .f h1_1, .f h1_2]))
    | _ => none) ((A_s_l02SwapRows_l0 α N).ls 102 3))
theorem E_s_l02SwapRows_l0_ok {α : Type} (N : Nat) : EnvOk Try.prog (E_s_l02SwapRows_l0 α N) := (A_s_l02SwapRows_l0_ok N).addLoop2 Try.func102 (by kernel_rfl) (loopSum_ok prog_mixed prog_names (A_s_l02SwapRows_l0_ok N) Try.func102 (by kernel_rfl) (d := 1) (ro := 0) fun l K r h => by
  split at h
  · exact (s_l02SwapRows_l0_loop N _ _ _ _ _ _ K N _ _ _).trans h
  · cases h)

/-- spec.l02SwapRows -/
def s_l02SwapRows_a : SPat := ⟨[.agg [.vals [.int .i64], .ints .u8 8, .ints .u8 8], .int .i64], []⟩
def s_l02SwapRows_r0 : SPat := ⟨[.agg [.vals [.int .i64], .ints .u8 8, .ints .u8 8]], []⟩
theorem s_l02SwapRows_run {α : Type} (N : Nat) (g_0 : Int) (g_1 : Nat → Int) (g_2 : Nat → Int) (r_ : Int) (K : AV → Heap → Option α) :
    callK Try.prog (E_s_l02SwapRows_l0 α N) 1 102 0 (buildS s_l02SwapRows_a [.i g_0, .f g_1, .f g_2, .i r_]).t (buildS s_l02SwapRows_a [.i g_0, .f g_1, .f g_2, .i r_]).h K = s_l02SwapRows none N g_0 g_1 g_2 r_ (fun r_1_ r_2_ => retK (buildS s_l02SwapRows_r0 [.i g_0, .f r_1_, .f r_2_]) K) := by kernel_rfl
def E_s_l02SwapRows (α : Type) (N : Nat) : Env α := (E_s_l02SwapRows_l0 α N).addFun 102 true 0 s_l02SwapRows_a (fun l K => match l with
    | [.i g_0, .f g_1, .f g_2, .i r_] => s_l02SwapRows none N g_0 g_1 g_2 r_ (fun r_1_ r_2_ => retK (buildS s_l02SwapRows_r0 [.i g_0, .f r_1_, .f r_2_]) K)
    | _ => none)
theorem E_s_l02SwapRows_ok {α : Type} (N : Nat) : EnvOk Try.prog (E_s_l02SwapRows α N) := (E_s_l02SwapRows_l0_ok N).addFun prog_mixed prog_names (d := 1) fun l K r h => by
  split at h
  · exact (s_l02SwapRows_run N _ _ _ _ K).trans h
  · cases h

/-- spec.ExchangeRows -/
def s_ExchangeRows_a : SPat := ⟨[.agg [.vals [.int .i64], .ints .u8 8, .ints .u8 8], .int .i64], []⟩
def s_ExchangeRows_r0 : SPat := ⟨[.tuple [.agg [.vals [.int .i64], .ints .u8 8, .ints .u8 8], .int .i64]], []⟩
theorem s_ExchangeRows_run {α : Type} (N : Nat) (g_0 : Int) (g_1 : Nat → Int) (g_2 : Nat → Int) (r_ : Int) (K : AV → Heap → Option α) :
    callK Try.prog (E_s_l02SwapRows α N) 1 43 0 (buildS s_ExchangeRows_a [.i g_0, .f g_1, .f g_2, .i r_]).t (buildS s_ExchangeRows_a [.i g_0, .f g_1, .f g_2, .i r_]).h K = s_ExchangeRows none N g_0 g_1 g_2 r_ (fun r_0_0_ r_0_1_ r_0_2_ r_1_ => retK (buildS s_ExchangeRows_r0 [.i r_0_0_, .f r_0_1_, .f r_0_2_, .i r_1_]) K) := by kernel_rfl
def E_s_ExchangeRows (α : Type) (N : Nat) : Env α := (E_s_l02SwapRows α N).addFun 43 true 0 s_ExchangeRows_a (fun l K => match l with
    | [.i g_0, .f g_1, .f g_2, .i r_] => s_ExchangeRows none N g_0 g_1 g_2 r_ (fun r_0_0_ r_0_1_ r_0_2_ r_1_ => retK (buildS s_ExchangeRows_r0 [.i r_0_0_, .f r_0_1_, .f r_0_2_, .i r_1_]) K)
    | _ => none)
theorem E_s_ExchangeRows_ok {α : Type} (N : Nat) : EnvOk Try.prog (E_s_ExchangeRows α N) := (E_s_l02SwapRows_ok N).addFun prog_mixed prog_names (d := 1) fun l K r h => by
  split at h
  · exact (s_ExchangeRows_run N _ _ _ _ K).trans h
  · cases h

def A_i_isPair_l0 (α : Type) (N : Nat) : Env α := (E_s_ExchangeRows α N).addAnn 140 4 { head := [2, 10, 11, 12], grow := [], out := [], ret := [4] }
theorem A_i_isPair_l0_ok {α : Type} (N : Nat) : EnvOk Try.prog (A_i_isPair_l0 α N) := (E_s_ExchangeRows_ok N).addAnn

/-- impl.isPair, loop -/
def i_isPair_l0_p : SPat := ⟨[.undef, .undef, .ptr ⟨1, 0, 0, 1⟩, .undef, .undef, .undef, .undef, .undef, .undef, .undef, .slice ⟨0, 0, 0, 1⟩ 1 1 1 true, .intC .i64 1, .int .i64] ++ List.replicate 10 .undef, [[.vec .i64], [.vals [.int .i64], .ints .u8 8, .ints .u8 8]]⟩
def i_isPair_l0_o0 : SPat := ⟨[.undef, .undef, .undef, .undef, .intC .i64 2] ++ List.replicate 18 .undef, [[.vec .i64], [.vals [.int .i64], .ints .u8 8, .ints .u8 8]]⟩
def i_isPair_l0_o1 : SPat := ⟨[] ++ List.replicate 23 .undef, [[.vec .i64], [.vals [.int .i64], .ints .u8 8, .ints .u8 8]]⟩
theorem i_isPair_l0_round {α : Type} (N : Nat) (t12 : Int) (h0 : List Int) (h1_0 : Int) (h1_1 : Nat → Int) (h1_2 : Nat → Int) (kn : St → Option α) (K : AExit → St → Option α) :
    roundK Try.prog (A_i_isPair_l0 α N) 1 1 140 Try.f140 4 2 (buildS i_isPair_l0_p [.i t12, .l h0, .i h1_0, .f h1_1, .f h1_2]) kn K = i_isPair_l0_s none N h0 h1_0 h1_1 h1_2 t12 (fun t12 => kn (buildS i_isPair_l0_p [.i t12, .l h0, .i h1_0, .f h1_1, .f h1_2])) (K .ret (buildS i_isPair_l0_o0 [.l h0, .i h1_0, .f h1_1, .f h1_2])) (K (.exit 0) (buildS i_isPair_l0_o1 [.l h0, .i h1_0, .f h1_1, .f h1_2])) := by kernel_rfl
theorem i_isPair_l0_loop {α : Type} (N : Nat) (h0 : List Int) (h1_0 : Int) (h1_1 : Nat → Int) (h1_2 : Nat → Int) (K : AExit → St → Option α) : ∀ (m : Nat) (t12 : Int),
    loopN (trimSt ((A_i_isPair_l0 α N).ann 140 4).head ((A_i_isPair_l0 α N).ann 140 4).grow 2) (bodyK Try.prog (A_i_isPair_l0 α N) 1 1 140 Try.f140 4) m (buildS i_isPair_l0_p [.i t12, .l h0, .i h1_0, .f h1_1, .f h1_2]) (leaveLoop ((A_i_isPair_l0 α N).ann 140 4) 2 K) = i_isPair_l0 none N h0 h1_0 h1_1 h1_2 m t12 (K .ret (buildS i_isPair_l0_o0 [.l h0, .i h1_0, .f h1_1, .f h1_2])) (K (.exit 0) (buildS i_isPair_l0_o1 [.l h0, .i h1_0, .f h1_1, .f h1_2])) := by
  intro m
  induction m with
  | zero => intros; rfl
  | succ m ih =>
    intro t12
    rw [loopN_round]
    refine (i_isPair_l0_round N t12 h0 h1_0 h1_1 h1_2 _ K).trans ?_
    simp only [ih]
    rfl
def E_i_isPair_l0 (α : Type) (N : Nat) : Env α := (A_i_isPair_l0 α N).addLoop2 140 4 (loopSum2 ((A_i_isPair_l0 α N).ann 140 4) 1 i_isPair_l0_p (fun l K => match l with
    | [.i t12, .l h0, .i h1_0, .f h1_1, .f h1_2] => i_isPair_l0 none N h0 h1_0 h1_1 h1_2 N t12 (K .ret (buildS i_isPair_l0_o0 [.l h0, .i h1_0, .f h1_1, .f h1_2])) (K (.exit 0) (buildS i_isPair_l0_o1 [.l h0, .i h1_0, .f h1_1, .f h1_2]))
    | _ => none) ((A_i_isPair_l0 α N).ls 140 4))
theorem E_i_isPair_l0_ok {α : Type} (N : Nat) : EnvOk Try.prog (E_i_isPair_l0 α N) := (A_i_isPair_l0_ok N).addLoop2 Try.func140 (by kernel_rfl) (loopSum_ok prog_mixed prog_names (A_i_isPair_l0_ok N) Try.func140 (by kernel_rfl) (d := 1) (ro := 1) fun l K r h => by
  split at h
  · exact (i_isPair_l0_loop N _ _ _ _ K N _).trans h
  · cases h)

/-- impl.isPair -/
def i_isPair_a : SPat := ⟨[.agg [.vals [.int .i64], .ints .u8 8, .ints .u8 8], .slice ⟨0, 0, 0, 1⟩ 1 1 1 true], [[.vec .i64]]⟩
def i_isPair_r0 : SPat := ⟨[.int .i64], [[.vec .i64]]⟩
theorem i_isPair_run {α : Type} (N : Nat) (g_0 : Int) (g_1 : Nat → Int) (g_2 : Nat → Int) (h0 : List Int) (K : AV → Heap → Option α) :
    callK Try.prog (E_i_isPair_l0 α N) 1 140 1 (buildS i_isPair_a [.i g_0, .f g_1, .f g_2, .l h0]).t (buildS i_isPair_a [.i g_0, .f g_1, .f g_2, .l h0]).h K = i_isPair none N g_0 g_1 g_2 h0 (fun r__ => retK (buildS i_isPair_r0 [.i r__, .l h0]) K) := by kernel_rfl
def E_i_isPair (α : Type) (N : Nat) : Env α := (E_i_isPair_l0 α N).addFun 140 true 1 i_isPair_a (fun l K => match l with
    | [.i g_0, .f g_1, .f g_2, .l h0] => i_isPair none N g_0 g_1 g_2 h0 (fun r__ => retK (buildS i_isPair_r0 [.i r__, .l h0]) K)
    | _ => none)
theorem E_i_isPair_ok {α : Type} (N : Nat) : EnvOk Try.prog (E_i_isPair α N) := (E_i_isPair_l0_ok N).addFun prog_mixed prog_names (d := 1) fun l K r h => by
  split at h
  · exact (i_isPair_run N _ _ _ _ K).trans h
  · cases h

def A_i_Grid_places_l0 (α : Type) (N : Nat) : Env α := (E_i_isPair α N).addAnn 132 3 { head := [3, 4, 5, 9, 10], grow := [], out := [4, 5], ret := [4] }
theorem A_i_Grid_places_l0_ok {α : Type} (N : Nat) : EnvOk Try.prog (A_i_Grid_places_l0 α N) := (E_i_isPair_ok N).addAnn

/-- (impl.Grid).places, loop -/
def i_Grid_places_l0_p : SPat := ⟨[.undef, .undef, .undef, .ptr ⟨1, 0, 0, 8⟩, .ptr ⟨2, 0, 0, 8⟩, .ptr ⟨3, 0, 0, 8⟩, .undef, .undef, .undef, .int .i64, .int .i64] ++ List.replicate 9 .undef, [[.vals [.int .i64], .ints .u8 8, .ints .u8 8], [.ints .u8 8], [.ints .i64 8], [.ints .i64 8]]⟩
def i_Grid_places_l0_o0 : SPat := ⟨[.undef, .undef, .undef, .undef, .ptr ⟨2, 0, 0, 8⟩, .ptr ⟨3, 0, 0, 8⟩] ++ List.replicate 14 .undef, [[.vals [.int .i64], .ints .u8 8, .ints .u8 8], [.ints .u8 8], [.ints .i64 8], [.ints .i64 8]]⟩
theorem i_Grid_places_l0_round {α : Type} (N : Nat) (t9 : Int) (t10 : Int) (h0_0 : Int) (h0_1 : Nat → Int) (h0_2 : Nat → Int) (h1 : Nat → Int) (h2 : Nat → Int) (h3 : Nat → Int) (kn : St → Option α) (K : AExit → St → Option α) :
    roundK Try.prog (A_i_Grid_places_l0 α N) 1 0 132 Try.f132 3 4 (buildS i_Grid_places_l0_p [.i t9, .i t10, .i h0_0, .f h0_1, .f h0_2, .f h1, .f h2, .f h3]) kn K = i_Grid_places_l0_s none t9 h0_0 h0_1 h0_2 h1 h2 t10 h3 (fun t10 h3 => kn (buildS i_Grid_places_l0_p [.i t9, .i t10, .i h0_0, .f h0_1, .f h0_2, .f h1, .f h2, .f h3])) (fun h3_ => K (.exit 0) (buildS i_Grid_places_l0_o0 [.i h0_0, .f h0_1, .f h0_2, .f h1, .f h2, .f h3_])) := by kernel_rfl
theorem i_Grid_places_l0_loop {α : Type} (N : Nat) (t9 : Int) (h0_0 : Int) (h0_1 : Nat → Int) (h0_2 : Nat → Int) (h1 : Nat → Int) (h2 : Nat → Int) (K : AExit → St → Option α) : ∀ (m : Nat) (t10 : Int) (h3 : Nat → Int),
    loopN (trimSt ((A_i_Grid_places_l0 α N).ann 132 3).head ((A_i_Grid_places_l0 α N).ann 132 3).grow 4) (bodyK Try.prog (A_i_Grid_places_l0 α N) 1 0 132 Try.f132 3) m (buildS i_Grid_places_l0_p [.i t9, .i t10, .i h0_0, .f h0_1, .f h0_2, .f h1, .f h2, .f h3]) (leaveLoop ((A_i_Grid_places_l0 α N).ann 132 3) 4 K) = i_Grid_places_l0 none t9 h0_0 h0_1 h0_2 h1 h2 m t10 h3 (fun h3_ => K (.exit 0) (buildS i_Grid_places_l0_o0 [.i h0_0, .f h0_1, .f h0_2, .f h1, .f h2, .f h3_])) := by
  intro m
  induction m with
  | zero => intros; rfl
  | succ m ih =>
    intro t10 h3
    rw [loopN_round]
    refine (i_Grid_places_l0_round N t9 t10 h0_0 h0_1 h0_2 h1 h2 h3 _ K).trans ?_
    simp only [ih]
    rfl
def E_i_Grid_places_l0 (α : Type) (N : Nat) : Env α := (A_i_Grid_places_l0 α N).addLoop2 132 3 (loopSum2 ((A_i_Grid_places_l0 α N).ann 132 3) 0 i_Grid_places_l0_p (fun l K => match l with
    | [.i t9, .i t10, .i h0_0, .f h0_1, .f h0_2, .f h1, .f h2, .f h3] => i_Grid_places_l0 none t9 h0_0 h0_1 h0_2 h1 h2 N t10 h3 (fun h3_ => K (.exit 0) (buildS i_Grid_places_l0_o0 [.i h0_0, .f h0_1, .f h0_2, .f h1, .f h2, .f h3_]))
    | _ => none) ((A_i_Grid_places_l0 α N).ls 132 3))
theorem E_i_Grid_places_l0_ok {α : Type} (N : Nat) : EnvOk Try.prog (E_i_Grid_places_l0 α N) := (A_i_Grid_places_l0_ok N).addLoop2 Try.func132 (by kernel_rfl) (loopSum_ok prog_mixed prog_names (A_i_Grid_places_l0_ok N) Try.func132 (by kernel_rfl) (d := 1) (ro := 0) fun l K r h => by
  split at h
  · exact (i_Grid_places_l0_loop N _ _ _ _ _ _ K N _ _).trans h
  · cases h)

/-- (impl.Grid).places -/
def i_Grid_places_a : SPat := ⟨[.agg [.vals [.int .i64], .ints .u8 8, .ints .u8 8], .agg [.ints .u8 8]], []⟩
def i_Grid_places_r0 : SPat := ⟨[.agg [.ints .i64 8]], []⟩
theorem i_Grid_places_run {α : Type} (N : Nat) (g_0 : Int) (g_1 : Nat → Int) (g_2 : Nat → Int) (rows : Nat → Int) (K : AV → Heap → Option α) :
    callK Try.prog (E_i_Grid_places_l0 α N) 1 132 0 (buildS i_Grid_places_a [.i g_0, .f g_1, .f g_2, .f rows]).t (buildS i_Grid_places_a [.i g_0, .f g_1, .f g_2, .f rows]).h K = i_Grid_places none N g_0 g_1 g_2 rows (fun r__ => retK (buildS i_Grid_places_r0 [.f r__]) K) := by kernel_rfl
def E_i_Grid_places (α : Type) (N : Nat) : Env α := (E_i_Grid_places_l0 α N).addFun 132 true 0 i_Grid_places_a (fun l K => match l with
    | [.i g_0, .f g_1, .f g_2, .f rows] => i_Grid_places none N g_0 g_1 g_2 rows (fun r__ => retK (buildS i_Grid_places_r0 [.f r__]) K)
    | _ => none)
theorem E_i_Grid_places_ok {α : Type} (N : Nat) : EnvOk Try.prog (E_i_Grid_places α N) := (E_i_Grid_places_l0_ok N).addFun prog_mixed prog_names (d := 1) fun l K r h => by
  split at h
  · exact (i_Grid_places_run N _ _ _ _ K).trans h
  · cases h

/-- impl.areApart -/
def i_areApart_a : SPat := ⟨[.int .i64, .int .i64, .int .i64, .int .i64], []⟩
def i_areApart_r0 : SPat := ⟨[.bool], []⟩
theorem i_areApart_run {α : Type} (N : Nat) (a : Int) (b : Int) (c : Int) (d : Int) (K : AV → Heap → Option α) :
    callK Try.prog (E_i_Grid_places α N) 1 155 0 (buildS i_areApart_a [.i a, .i b, .i c, .i d]).t (buildS i_areApart_a [.i a, .i b, .i c, .i d]).h K = i_areApart none N a b c d (fun r__ => retK (buildS i_areApart_r0 [.b r__]) K) := by kernel_rfl
def E_i_areApart (α : Type) (N : Nat) : Env α := (E_i_Grid_places α N).addFun 155 true 0 i_areApart_a (fun l K => match l with
    | [.i a, .i b, .i c, .i d] => i_areApart none N a b c d (fun r__ => retK (buildS i_areApart_r0 [.b r__]) K)
    | _ => none)
theorem E_i_areApart_ok {α : Type} (N : Nat) : EnvOk Try.prog (E_i_areApart α N) := (E_i_Grid_places_ok N).addFun prog_mixed prog_names (d := 1) fun l K r h => by
  split at h
  · exact (i_areApart_run N _ _ _ _ K).trans h
  · cases h

/-- (impl.Grid).canRows -/
def i_Grid_canRows_a : SPat := ⟨[.agg [.vals [.int .i64], .ints .u8 8, .ints .u8 8], .int .i64], []⟩
def i_Grid_canRows_r0 : SPat := ⟨[.bool], []⟩
theorem i_Grid_canRows_run {α : Type} (N : Nat) (g_0 : Int) (g_1 : Nat → Int) (g_2 : Nat → Int) (r_ : Int) (K : AV → Heap → Option α) :
    callK Try.prog (E_i_areApart α N) 1 141 0 (buildS i_Grid_canRows_a [.i g_0, .f g_1, .f g_2, .i r_]).t (buildS i_Grid_canRows_a [.i g_0, .f g_1, .f g_2, .i r_]).h K = i_Grid_canRows none N g_0 g_1 g_2 r_ (fun r__ => retK (buildS i_Grid_canRows_r0 [.b r__]) K) := by kernel_rfl
def E_i_Grid_canRows (α : Type) (N : Nat) : Env α := (E_i_areApart α N).addFun 141 true 0 i_Grid_canRows_a (fun l K => match l with
    | [.i g_0, .f g_1, .f g_2, .i r_] => i_Grid_canRows none N g_0 g_1 g_2 r_ (fun r__ => retK (buildS i_Grid_canRows_r0 [.b r__]) K)
    | _ => none)
theorem E_i_Grid_canRows_ok {α : Type} (N : Nat) : EnvOk Try.prog (E_i_Grid_canRows α N) := (E_i_areApart_ok N).addFun prog_mixed prog_names (d := 1) fun l K r h => by
  split at h
  · exact (i_Grid_canRows_run N _ _ _ _ K).trans h
  · cases h

/-- impl.CanExchangeRows -/
def i_CanExchangeRows_a : SPat := ⟨[.agg [.vals [.int .i64], .ints .u8 8, .ints .u8 8], .int .i64], []⟩
def i_CanExchangeRows_r0 : SPat := ⟨[.tuple [.bool, .int .i64]], []⟩
theorem i_CanExchangeRows_run {α : Type} (N : Nat) (g_0 : Int) (g_1 : Nat → Int) (g_2 : Nat → Int) (r_ : Int) (K : AV → Heap → Option α) :
    callK Try.prog (E_i_Grid_canRows α N) 1 103 0 (buildS i_CanExchangeRows_a [.i g_0, .f g_1, .f g_2, .i r_]).t (buildS i_CanExchangeRows_a [.i g_0, .f g_1, .f g_2, .i r_]).h K = i_CanExchangeRows none N g_0 g_1 g_2 r_ (fun r_0_ r_1_ => retK (buildS i_CanExchangeRows_r0 [.b r_0_, .i r_1_]) K) := by kernel_rfl
def E_i_CanExchangeRows (α : Type) (N : Nat) : Env α := (E_i_Grid_canRows α N).addFun 103 true 0 i_CanExchangeRows_a (fun l K => match l with
    | [.i g_0, .f g_1, .f g_2, .i r_] => i_CanExchangeRows none N g_0 g_1 g_2 r_ (fun r_0_ r_1_ => retK (buildS i_CanExchangeRows_r0 [.b r_0_, .i r_1_]) K)
    | _ => none)
theorem E_i_CanExchangeRows_ok {α : Type} (N : Nat) : EnvOk Try.prog (E_i_CanExchangeRows α N) := (E_i_Grid_canRows_ok N).addFun prog_mixed prog_names (d := 1) fun l K r h => by
  split at h
  · exact (i_CanExchangeRows_run N _ _ _ _ K).trans h
  · cases h

def A_i_Grid_led_l0 (α : Type) (N : Nat) : Env α := (E_i_CanExchangeRows α N).addAnn 142 6 { head := [1, 3, 6, 7, 8, 9, 22, 23], grow := [], out := [6, 7], ret := [6] }
theorem A_i_Grid_led_l0_ok {α : Type} (N : Nat) : EnvOk Try.prog (A_i_Grid_led_l0 α N) := (E_i_CanExchangeRows_ok N).addAnn

/-- (impl.Grid).swapRows$1 -/
def i_Grid_swapRows_1_a : SPat := ⟨[.int .i64, .int .i64, .ptr ⟨0, 0, 0, 1⟩], [[.vals [.int .i64]]]⟩
def i_Grid_swapRows_1_r0 : SPat := ⟨[.tuple [.int .i64, .int .i64]], [[.vals [.int .i64]]]⟩
theorem i_Grid_swapRows_1_run {α : Type} (N : Nat) (i : Int) (row : Int) (h0 : Int) (K : AV → Heap → Option α) :
    callK Try.prog (A_i_Grid_led_l0 α N) 1 143 1 (buildS i_Grid_swapRows_1_a [.i i, .i row, .i h0]).t (buildS i_Grid_swapRows_1_a [.i i, .i row, .i h0]).h K = i_Grid_swapRows_1 none N i row h0 (fun r_1_ => retK (buildS i_Grid_swapRows_1_r0 [.i i, .i r_1_, .i h0]) K) := by kernel_rfl
def E_i_Grid_swapRows_1 (α : Type) (N : Nat) : Env α := (A_i_Grid_led_l0 α N).addFun 143 true 1 i_Grid_swapRows_1_a (fun l K => match l with
    | [.i i, .i row, .i h0] => i_Grid_swapRows_1 none N i row h0 (fun r_1_ => retK (buildS i_Grid_swapRows_1_r0 [.i i, .i r_1_, .i h0]) K)
    | _ => none)
theorem E_i_Grid_swapRows_1_ok {α : Type} (N : Nat) : EnvOk Try.prog (E_i_Grid_swapRows_1 α N) := (A_i_Grid_led_l0_ok N).addFun prog_mixed prog_names (d := 1) fun l K r h => by
  split at h
  · exact (i_Grid_swapRows_1_run N _ _ _ K).trans h
  · cases h

/-- (impl.Grid).led, loop -/
def i_Grid_led_l0_s5_p : SPat := ⟨[.undef, .func 143 [.ptr ⟨0, 0, 0, 1⟩], .undef, .ptr ⟨1, 0, 0, 1⟩, .undef, .undef, .ptr ⟨2, 0, 0, 1⟩, .ptr ⟨3, 0, 0, 1⟩, .ptr ⟨3, 2, 0, 8⟩, .ptr ⟨3, 1, 0, 8⟩, .undef, .undef, .undef, .undef, .undef, .undef, .undef, .undef, .undef, .undef, .undef, .undef, .int .i64, .int .i64] ++ List.replicate 38 .undef, [[.vals [.int .i64]], [.vals [.int .i64], .ints .u8 8, .ints .u8 8], [.vals [.int .i64], .ints .u8 8, .ints .u8 8], [.vals [.int .i64], .ints .u8 8, .ints .u8 8]]⟩
def i_Grid_led_l0_s5_o0 : SPat := ⟨[.undef, .undef, .undef, .undef, .undef, .undef, .ptr ⟨2, 0, 0, 1⟩, .ptr ⟨3, 0, 0, 1⟩] ++ List.replicate 54 .undef, [[.vals [.int .i64]], [.vals [.int .i64], .ints .u8 8, .ints .u8 8], [.vals [.int .i64], .ints .u8 8, .ints .u8 8], [.vals [.int .i64], .ints .u8 8, .ints .u8 8]]⟩
theorem i_Grid_led_l0_s5_round {α : Type} (N : Nat) (t22 : Int) (t23 : Int) (h0 : Int) (h1_0 : Int) (h1_1 : Nat → Int) (h1_2 : Nat → Int) (h2_0 : Int) (h2_1 : Nat → Int) (h2_2 : Nat → Int) (h3_0 : Int) (h3_1 : Nat → Int) (h3_2 : Nat → Int) (kn : St → Option α) (K : AExit → St → Option α) :
    roundK Try.prog (E_i_Grid_swapRows_1 α N) 1 1 142 Try.f142 6 4 (buildS i_Grid_led_l0_s5_p [.i t22, .i t23, .i h0, .i h1_0, .f h1_1, .f h1_2, .i h2_0, .f h2_1, .f h2_2, .i h3_0, .f h3_1, .f h3_2]) kn K = i_Grid_led_l0_s5_s none N t22 h0 h1_0 h1_1 h1_2 h2_0 h2_1 h2_2 h3_0 t23 h3_1 h3_2 (fun t23 h3_1 h3_2 => kn (buildS i_Grid_led_l0_s5_p [.i t22, .i t23, .i h0, .i h1_0, .f h1_1, .f h1_2, .i h2_0, .f h2_1, .f h2_2, .i h3_0, .f h3_1, .f h3_2])) (fun h3_1_ h3_2_ => K (.exit 0) (buildS i_Grid_led_l0_s5_o0 [.i h0, .i h1_0, .f h1_1, .f h1_2, .i h2_0, .f h2_1, .f h2_2, .i h3_0, .f h3_1_, .f h3_2_])) := by kernel_rfl
theorem i_Grid_led_l0_s5_loop {α : Type} (N : Nat) (t22 : Int) (h0 : Int) (h1_0 : Int) (h1_1 : Nat → Int) (h1_2 : Nat → Int) (h2_0 : Int) (h2_1 : Nat → Int) (h2_2 : Nat → Int) (h3_0 : Int) (K : AExit → St → Option α) : ∀ (m : Nat) (t23 : Int) (h3_1 : Nat → Int) (h3_2 : Nat → Int),
    loopN (trimSt ((E_i_Grid_swapRows_1 α N).ann 142 6).head ((E_i_Grid_swapRows_1 α N).ann 142 6).grow 4) (bodyK Try.prog (E_i_Grid_swapRows_1 α N) 1 1 142 Try.f142 6) m (buildS i_Grid_led_l0_s5_p [.i t22, .i t23, .i h0, .i h1_0, .f h1_1, .f h1_2, .i h2_0, .f h2_1, .f h2_2, .i h3_0, .f h3_1, .f h3_2]) (leaveLoop ((E_i_Grid_swapRows_1 α N).ann 142 6) 4 K) = i_Grid_led_l0_s5 none N t22 h0 h1_0 h1_1 h1_2 h2_0 h2_1 h2_2 h3_0 m t23 h3_1 h3_2 (fun h3_1_ h3_2_ => K (.exit 0) (buildS i_Grid_led_l0_s5_o0 [.i h0, .i h1_0, .f h1_1, .f h1_2, .i h2_0, .f h2_1, .f h2_2, .i h3_0, .f h3_1_, .f h3_2_])) := by
  intro m
  induction m with
  | zero => intros; rfl
  | succ m ih =>
    intro t23 h3_1 h3_2
    rw [loopN_round]
    refine (i_Grid_led_l0_s5_round N t22 t23 h0 h1_0 h1_1 h1_2 h2_0 h2_1 h2_2 h3_0 h3_1 h3_2 _ K).trans ?_
    simp only [ih]
    rfl
def E_i_Grid_led_l0_s5 (α : Type) (N : Nat) : Env α := (E_i_Grid_swapRows_1 α N).addLoop2 142 6 (loopSum2 ((E_i_Grid_swapRows_1 α N).ann 142 6) 1 i_Grid_led_l0_s5_p (fun l K => match l with
    | [.i t22, .i t23, .i h0, .i h1_0, .f h1_1, .f h1_2, .i h2_0, .f h2_1, .f h2_2, .i h3_0, .f h3_1, .f h3_2] => i_Grid_led_l0_s5 none N t22 h0 h1_0 h1_1 h1_2 h2_0 h2_1 h2_2 h3_0 N t23 h3_1 h3_2 (fun h3_1_ h3_2_ => K (.exit 0) (buildS i_Grid_led_l0_s5_o0 [.i h0, .i h1_0, .f h1_1, .f h1_2, .i h2_0, .f h2_1, .f h2_2, .i h3_0, .f h3_1_, .f h3_2_]))
    | _ => none) ((E_i_Grid_swapRows_1 α N).ls 142 6))
theorem E_i_Grid_led_l0_s5_ok {α : Type} (N : Nat) : EnvOk Try.prog (E_i_Grid_led_l0_s5 α N) := (E_i_Grid_swapRows_1_ok N).addLoop2 Try.func142 (by kernel_rfl) (loopSum_ok prog_mixed prog_names (E_i_Grid_swapRows_1_ok N) Try.func142 (by kernel_rfl) (d := 1) (ro := 1) fun l K r h => by
  split at h
  · exact (i_Grid_led_l0_s5_loop N _ _ _ _ _ _ _ _ _ K N _ _ _).trans h
  · cases h)

/-- (impl.Grid).led, loop -/
def i_Grid_led_l0_s6_p : SPat := ⟨[.undef, .func 143 [.ptr ⟨0, 0, 0, 1⟩], .undef, .ptr ⟨1, 0, 0, 1⟩, .undef, .undef, .ptr ⟨2, 0, 0, 1⟩, .ptr ⟨3, 0, 0, 1⟩, .ptr ⟨3, 1, 0, 8⟩, .ptr ⟨3, 2, 0, 8⟩, .undef, .undef, .undef, .undef, .undef, .undef, .undef, .undef, .undef, .undef, .undef, .undef, .int .i64, .int .i64] ++ List.replicate 38 .undef, [[.vals [.int .i64]], [.vals [.int .i64], .ints .u8 8, .ints .u8 8], [.vals [.int .i64], .ints .u8 8, .ints .u8 8], [.vals [.int .i64], .ints .u8 8, .ints .u8 8]]⟩
def i_Grid_led_l0_s6_o0 : SPat := ⟨[.undef, .undef, .undef, .undef, .undef, .undef, .ptr ⟨2, 0, 0, 1⟩, .ptr ⟨3, 0, 0, 1⟩] ++ List.replicate 54 .undef, [[.vals [.int .i64]], [.vals [.int .i64], .ints .u8 8, .ints .u8 8], [.vals [.int .i64], .ints .u8 8, .ints .u8 8], [.vals [.int .i64], .ints .u8 8, .ints .u8 8]]⟩
theorem i_Grid_led_l0_s6_round {α : Type} (N : Nat) (t22 : Int) (t23 : Int) (h0 : Int) (h1_0 : Int) (h1_1 : Nat → Int) (h1_2 : Nat → Int) (h2_0 : Int) (h2_1 : Nat → Int) (h2_2 : Nat → Int) (h3_0 : Int) (h3_1 : Nat → Int) (h3_2 : Nat → Int) (kn : St → Option α) (K : AExit → St → Option α) :
    roundK Try.prog (E_i_Grid_led_l0_s5 α N) 1 1 142 Try.f142 6 4 (buildS i_Grid_led_l0_s6_p [.i t22, .i t23, .i h0, .i h1_0, .f h1_1, .f h1_2, .i h2_0, .f h2_1, .f h2_2, .i h3_0, .f h3_1, .f h3_2]) kn K = i_Grid_led_l0_s6_s none N t22 h0 h1_0 h1_1 h1_2 h2_0 h2_1 h2_2 h3_0 t23 h3_1 h3_2 (fun t23 h3_1 h3_2 => kn (buildS i_Grid_led_l0_s6_p [.i t22, .i t23, .i h0, .i h1_0, .f h1_1, .f h1_2, .i h2_0, .f h2_1, .f h2_2, .i h3_0, .f h3_1, .f h3_2])) (fun h3_1_ h3_2_ => K (.exit 0) (buildS i_Grid_led_l0_s6_o0 [.i h0, .i h1_0, .f h1_1, .f h1_2, .i h2_0, .f h2_1, .f h2_2, .i h3_0, .f h3_1_, .f h3_2_])) := by kernel_rfl
theorem i_Grid_led_l0_s6_loop {α : Type} (N : Nat) (t22 : Int) (h0 : Int) (h1_0 : Int) (h1_1 : Nat → Int) (h1_2 : Nat → Int) (h2_0 : Int) (h2_1 : Nat → Int) (h2_2 : Nat → Int) (h3_0 : Int) (K : AExit → St → Option α) : ∀ (m : Nat) (t23 : Int) (h3_1 : Nat → Int) (h3_2 : Nat → Int),
    loopN (trimSt ((E_i_Grid_led_l0_s5 α N).ann 142 6).head ((E_i_Grid_led_l0_s5 α N).ann 142 6).grow 4) (bodyK Try.prog (E_i_Grid_led_l0_s5 α N) 1 1 142 Try.f142 6) m (buildS i_Grid_led_l0_s6_p [.i t22, .i t23, .i h0, .i h1_0, .f h1_1, .f h1_2, .i h2_0, .f h2_1, .f h2_2, .i h3_0, .f h3_1, .f h3_2]) (leaveLoop ((E_i_Grid_led_l0_s5 α N).ann 142 6) 4 K) = i_Grid_led_l0_s6 none N t22 h0 h1_0 h1_1 h1_2 h2_0 h2_1 h2_2 h3_0 m t23 h3_1 h3_2 (fun h3_1_ h3_2_ => K (.exit 0) (buildS i_Grid_led_l0_s6_o0 [.i h0, .i h1_0, .f h1_1, .f h1_2, .i h2_0, .f h2_1, .f h2_2, .i h3_0, .f h3_1_, .f h3_2_])) := by
  intro m
  induction m with
  | zero => intros; rfl
  | succ m ih =>
    intro t23 h3_1 h3_2
    rw [loopN_round]
    refine (i_Grid_led_l0_s6_round N t22 t23 h0 h1_0 h1_1 h1_2 h2_0 h2_1 h2_2 h3_0 h3_1 h3_2 _ K).trans ?_
    simp only [ih]
    rfl
def E_i_Grid_led_l0_s6 (α : Type) (N : Nat) : Env α := (E_i_Grid_led_l0_s5 α N).addLoop2 142 6 (loopSum2 ((E_i_Grid_led_l0_s5 α N).ann 142 6) 1 i_Grid_led_l0_s6_p (fun l K => match l with
    | [.i t22, .i t23, .i h0, .i h1_0, .f h1_1, .f h1_2, .i h2_0, .f h2_1, .f h2_2, .i h3_0, .f h3_1, .f h3_2] => i_Grid_led_l0_s6 none N t22 h0 h1_0 h1_1 h1_2 h2_0 h2_1 h2_2 h3_0 N t23 h3_1 h3_2 (fun h3_1_ h3_2_ => K (.exit 0) (buildS i_Grid_led_l0_s6_o0 [.i h0, .i h1_0, .f h1_1, .f h1_2, .i h2_0, .f h2_1, .f h2_2, .i h3_0, .f h3_1_, .f h3_2_]))
    | _ => none) ((E_i_Grid_led_l0_s5 α N).ls 142 6))
theorem E_i_Grid_led_l0_s6_ok {α : Type} (N : Nat) : EnvOk Try.prog (E_i_Grid_led_l0_s6 α N) := (E_i_Grid_led_l0_s5_ok N).addLoop2 Try.func142 (by kernel_rfl) (loopSum_ok prog_mixed prog_names (E_i_Grid_led_l0_s5_ok N) Try.func142 (by kernel_rfl) (d := 1) (ro := 1) fun l K r h => by
  split at h
  · exact (i_Grid_led_l0_s6_loop N _ _ _ _ _ _ _ _ _ K N _ _ _).trans h
  · cases h)

/-- (impl.Grid).led -/
def i_Grid_led_s3_a : SPat := ⟨[.agg [.vals [.int .i64], .ints .u8 8, .ints .u8 8], .func 143 [.ptr ⟨0, 0, 0, 1⟩], .bool], [[.vals [.int .i64]]]⟩
def i_Grid_led_s3_r0 : SPat := ⟨[.agg [.vals [.int .i64], .ints .u8 8, .ints .u8 8]], [[.vals [.int .i64]]]⟩
theorem i_Grid_led_s3_run {α : Type} (N : Nat) (g_0 : Int) (g_1 : Nat → Int) (g_2 : Nat → Int) (exchanged : Bool) (h0 : Int) (K : AV → Heap → Option α) :
    callK Try.prog (E_i_Grid_led_l0_s6 α N) 1 142 1 (buildS i_Grid_led_s3_a [.i g_0, .f g_1, .f g_2, .b exchanged, .i h0]).t (buildS i_Grid_led_s3_a [.i g_0, .f g_1, .f g_2, .b exchanged, .i h0]).h K = i_Grid_led_s3 none N g_0 g_1 g_2 exchanged h0 (fun r_1_ r_2_ => retK (buildS i_Grid_led_s3_r0 [.i g_0, .f r_1_, .f r_2_, .i h0]) K) := by kernel_rfl
def E_i_Grid_led_s3 (α : Type) (N : Nat) : Env α := (E_i_Grid_led_l0_s6 α N).addFun 142 true 1 i_Grid_led_s3_a (fun l K => match l with
    | [.i g_0, .f g_1, .f g_2, .b exchanged, .i h0] => i_Grid_led_s3 none N g_0 g_1 g_2 exchanged h0 (fun r_1_ r_2_ => retK (buildS i_Grid_led_s3_r0 [.i g_0, .f r_1_, .f r_2_, .i h0]) K)
    | _ => none)
theorem E_i_Grid_led_s3_ok {α : Type} (N : Nat) : EnvOk Try.prog (E_i_Grid_led_s3 α N) := (E_i_Grid_led_l0_s6_ok N).addFun prog_mixed prog_names (d := 1) fun l K r h => by
  split at h
  · exact (i_Grid_led_s3_run N _ _ _ _ _ K).trans h
  · cases h

/-- (impl.Grid).swapRows -/
def i_Grid_swapRows_a : SPat := ⟨[.agg [.vals [.int .i64], .ints .u8 8, .ints .u8 8], .int .i64], []⟩
def i_Grid_swapRows_r0 : SPat := ⟨[.agg [.vals [.int .i64], .ints .u8 8, .ints .u8 8]], []⟩
theorem i_Grid_swapRows_run {α : Type} (N : Nat) (g_0 : Int) (g_1 : Nat → Int) (g_2 : Nat → Int) (r_ : Int) (K : AV → Heap → Option α) :
    callK Try.prog (E_i_Grid_led_s3 α N) 1 104 0 (buildS i_Grid_swapRows_a [.i g_0, .f g_1, .f g_2, .i r_]).t (buildS i_Grid_swapRows_a [.i g_0, .f g_1, .f g_2, .i r_]).h K = i_Grid_swapRows none N g_0 g_1 g_2 r_ (fun r_1_ r_2_ => retK (buildS i_Grid_swapRows_r0 [.i g_0, .f r_1_, .f r_2_]) K) := by kernel_rfl
def E_i_Grid_swapRows (α : Type) (N : Nat) : Env α := (E_i_Grid_led_s3 α N).addFun 104 true 0 i_Grid_swapRows_a (fun l K => match l with
    | [.i g_0, .f g_1, .f g_2, .i r_] => i_Grid_swapRows none N g_0 g_1 g_2 r_ (fun r_1_ r_2_ => retK (buildS i_Grid_swapRows_r0 [.i g_0, .f r_1_, .f r_2_]) K)
    | _ => none)
theorem E_i_Grid_swapRows_ok {α : Type} (N : Nat) : EnvOk Try.prog (E_i_Grid_swapRows α N) := (E_i_Grid_led_s3_ok N).addFun prog_mixed prog_names (d := 1) fun l K r h => by
  split at h
  · exact (i_Grid_swapRows_run N _ _ _ _ K).trans h
  · cases h

/-- impl.ExchangeRows -/
def i_ExchangeRows_a : SPat := ⟨[.agg [.vals [.int .i64], .ints .u8 8, .ints .u8 8], .int .i64], []⟩
def i_ExchangeRows_r0 : SPat := ⟨[.tuple [.agg [.vals [.int .i64], .ints .u8 8, .ints .u8 8], .int .i64]], []⟩
theorem i_ExchangeRows_run {α : Type} (N : Nat) (g_0 : Int) (g_1 : Nat → Int) (g_2 : Nat → Int) (r_ : Int) (K : AV → Heap → Option α) :
    callK Try.prog (E_i_Grid_swapRows α N) 1 44 0 (buildS i_ExchangeRows_a [.i g_0, .f g_1, .f g_2, .i r_]).t (buildS i_ExchangeRows_a [.i g_0, .f g_1, .f g_2, .i r_]).h K = i_ExchangeRows none N g_0 g_1 g_2 r_ (fun r_0_0_ r_0_1_ r_0_2_ r_1_ => retK (buildS i_ExchangeRows_r0 [.i r_0_0_, .f r_0_1_, .f r_0_2_, .i r_1_]) K) := by kernel_rfl
def E_i_ExchangeRows (α : Type) (N : Nat) : Env α := (E_i_Grid_swapRows α N).addFun 44 true 0 i_ExchangeRows_a (fun l K => match l with
    | [.i g_0, .f g_1, .f g_2, .i r_] => i_ExchangeRows none N g_0 g_1 g_2 r_ (fun r_0_0_ r_0_1_ r_0_2_ r_1_ => retK (buildS i_ExchangeRows_r0 [.i r_0_0_, .f r_0_1_, .f r_0_2_, .i r_1_]) K)
    | _ => none)
theorem E_i_ExchangeRows_ok {α : Type} (N : Nat) : EnvOk Try.prog (E_i_ExchangeRows α N) := (E_i_Grid_swapRows_ok N).addFun prog_mixed prog_names (d := 1) fun l K r h => by
  split at h
  · exact (i_ExchangeRows_run N _ _ _ _ K).trans h
  · cases h

def A_w_eqByteA8_l0 (α : Type) (N : Nat) : Env α := (E_i_ExchangeRows α N).addAnn 105 2 { head := [2, 3, 5], grow := [], out := [], ret := [4] }
theorem A_w_eqByteA8_l0_ok {α : Type} (N : Nat) : EnvOk Try.prog (A_w_eqByteA8_l0 α N) := (E_i_ExchangeRows_ok N).addAnn

/-- laws.eqByteA8, loop -/
def w_eqByteA8_l0_p : SPat := ⟨[.undef, .undef, .ptr ⟨0, 0, 0, 8⟩, .ptr ⟨1, 0, 0, 8⟩, .undef, .int .i64] ++ List.replicate 11 .undef, [[.ints .u8 8], [.ints .u8 8]]⟩
def w_eqByteA8_l0_o0 : SPat := ⟨[.undef, .undef, .undef, .undef, .boolC false] ++ List.replicate 12 .undef, [[.ints .u8 8], [.ints .u8 8]]⟩
def w_eqByteA8_l0_o1 : SPat := ⟨[] ++ List.replicate 17 .undef, [[.ints .u8 8], [.ints .u8 8]]⟩
theorem w_eqByteA8_l0_round {α : Type} (N : Nat) (i : Int) (h0 : Nat → Int) (h1 : Nat → Int) (kn : St → Option α) (K : AExit → St → Option α) :
    roundK Try.prog (A_w_eqByteA8_l0 α N) 1 0 105 Try.f105 2 2 (buildS w_eqByteA8_l0_p [.i i, .f h0, .f h1]) kn K = w_eqByteA8_l0_s none h0 h1 i (fun i => kn (buildS w_eqByteA8_l0_p [.i i, .f h0, .f h1])) (K .ret (buildS w_eqByteA8_l0_o0 [.f h0, .f h1])) (K (.exit 0) (buildS w_eqByteA8_l0_o1 [.f h0, .f h1])) := by kernel_rfl
theorem w_eqByteA8_l0_loop {α : Type} (N : Nat) (h0 : Nat → Int) (h1 : Nat → Int) (K : AExit → St → Option α) : ∀ (m : Nat) (i : Int),
    loopN (trimSt ((A_w_eqByteA8_l0 α N).ann 105 2).head ((A_w_eqByteA8_l0 α N).ann 105 2).grow 2) (bodyK Try.prog (A_w_eqByteA8_l0 α N) 1 0 105 Try.f105 2) m (buildS w_eqByteA8_l0_p [.i i, .f h0, .f h1]) (leaveLoop ((A_w_eqByteA8_l0 α N).ann 105 2) 2 K) = w_eqByteA8_l0 none h0 h1 m i (K .ret (buildS w_eqByteA8_l0_o0 [.f h0, .f h1])) (K (.exit 0) (buildS w_eqByteA8_l0_o1 [.f h0, .f h1])) := by
  intro m
  induction m with
  | zero => intros; rfl
  | succ m ih =>
    intro i
    rw [loopN_round]
    refine (w_eqByteA8_l0_round N i h0 h1 _ K).trans ?_
    simp only [ih]
    rfl
def E_w_eqByteA8_l0 (α : Type) (N : Nat) : Env α := (A_w_eqByteA8_l0 α N).addLoop2 105 2 (loopSum2 ((A_w_eqByteA8_l0 α N).ann 105 2) 0 w_eqByteA8_l0_p (fun l K => match l with
    | [.i i, .f h0, .f h1] => w_eqByteA8_l0 none h0 h1 N i (K .ret (buildS w_eqByteA8_l0_o0 [.f h0, .f h1])) (K (.exit 0) (buildS w_eqByteA8_l0_o1 [.f h0, .f h1]))
    | _ => none) ((A_w_eqByteA8_l0 α N).ls 105 2))
theorem E_w_eqByteA8_l0_ok {α : Type} (N : Nat) : EnvOk Try.prog (E_w_eqByteA8_l0 α N) := (A_w_eqByteA8_l0_ok N).addLoop2 Try.func105 (by kernel_rfl) (loopSum_ok prog_mixed prog_names (A_w_eqByteA8_l0_ok N) Try.func105 (by kernel_rfl) (d := 1) (ro := 0) fun l K r h => by
  split at h
  · exact (w_eqByteA8_l0_loop N _ _ K N _).trans h
  · cases h)

/-- laws.eqByteA8 -/
def w_eqByteA8_a : SPat := ⟨[.agg [.ints .u8 8], .agg [.ints .u8 8]], []⟩
def w_eqByteA8_r0 : SPat := ⟨[.bool], []⟩
theorem w_eqByteA8_run {α : Type} (N : Nat) (a : Nat → Int) (b : Nat → Int) (K : AV → Heap → Option α) :
    callK Try.prog (E_w_eqByteA8_l0 α N) 1 105 0 (buildS w_eqByteA8_a [.f a, .f b]).t (buildS w_eqByteA8_a [.f a, .f b]).h K = w_eqByteA8 none N a b (fun r__ => retK (buildS w_eqByteA8_r0 [.b r__]) K) := by kernel_rfl
def E_w_eqByteA8 (α : Type) (N : Nat) : Env α := (E_w_eqByteA8_l0 α N).addFun 105 true 0 w_eqByteA8_a (fun l K => match l with
    | [.f a, .f b] => w_eqByteA8 none N a b (fun r__ => retK (buildS w_eqByteA8_r0 [.b r__]) K)
    | _ => none)
theorem E_w_eqByteA8_ok {α : Type} (N : Nat) : EnvOk Try.prog (E_w_eqByteA8 α N) := (E_w_eqByteA8_l0_ok N).addFun prog_mixed prog_names (d := 1) fun l K r h => by
  split at h
  · exact (w_eqByteA8_run N _ _ K).trans h
  · cases h

/-- laws.eqGrid -/
def w_eqGrid_a : SPat := ⟨[.agg [.vals [.int .i64], .ints .u8 8, .ints .u8 8], .agg [.vals [.int .i64], .ints .u8 8, .ints .u8 8]], []⟩
def w_eqGrid_r0 : SPat := ⟨[.bool], []⟩
theorem w_eqGrid_run {α : Type} (N : Nat) (a_0 : Int) (a_1 : Nat → Int) (a_2 : Nat → Int) (b_0 : Int) (b_1 : Nat → Int) (b_2 : Nat → Int) (K : AV → Heap → Option α) :
    callK Try.prog (E_w_eqByteA8 α N) 1 45 0 (buildS w_eqGrid_a [.i a_0, .f a_1, .f a_2, .i b_0, .f b_1, .f b_2]).t (buildS w_eqGrid_a [.i a_0, .f a_1, .f a_2, .i b_0, .f b_1, .f b_2]).h K = w_eqGrid none N a_0 a_1 a_2 b_0 b_1 b_2 (fun r__ => retK (buildS w_eqGrid_r0 [.b r__]) K) := by kernel_rfl
def E_w_eqGrid (α : Type) (N : Nat) : Env α := (E_w_eqByteA8 α N).addFun 45 true 0 w_eqGrid_a (fun l K => match l with
    | [.i a_0, .f a_1, .f a_2, .i b_0, .f b_1, .f b_2] => w_eqGrid none N a_0 a_1 a_2 b_0 b_1 b_2 (fun r__ => retK (buildS w_eqGrid_r0 [.b r__]) K)
    | _ => none)
theorem E_w_eqGrid_ok {α : Type} (N : Nat) : EnvOk Try.prog (E_w_eqGrid α N) := (E_w_eqByteA8_ok N).addFun prog_mixed prog_names (d := 1) fun l K r h => by
  split at h
  · exact (w_eqGrid_run N _ _ _ _ _ _ K).trans h
  · cases h

/-- laws.FnExactExchangeRows -/
def w_FnExactExchangeRows_a : SPat := ⟨[.agg [.vals [.int .i64], .ints .u8 8, .ints .u8 8], .int .i64], []⟩
def w_FnExactExchangeRows_r0 : SPat := ⟨[.bool], []⟩
theorem w_FnExactExchangeRows_run {α : Type} (N : Nat) (aG_0 : Int) (aG_1 : Nat → Int) (aG_2 : Nat → Int) (aR : Int) (K : AV → Heap → Option α) :
    callK Try.prog (E_w_eqGrid α N) 1 10 0 (buildS w_FnExactExchangeRows_a [.i aG_0, .f aG_1, .f aG_2, .i aR]).t (buildS w_FnExactExchangeRows_a [.i aG_0, .f aG_1, .f aG_2, .i aR]).h K = w_FnExactExchangeRows none N aG_0 aG_1 aG_2 aR (fun r__ => retK (buildS w_FnExactExchangeRows_r0 [.b r__]) K) := by kernel_rfl
def E_w_FnExactExchangeRows (α : Type) (N : Nat) : Env α := (E_w_eqGrid α N).addFun 10 true 0 w_FnExactExchangeRows_a (fun l K => match l with
    | [.i aG_0, .f aG_1, .f aG_2, .i aR] => w_FnExactExchangeRows none N aG_0 aG_1 aG_2 aR (fun r__ => retK (buildS w_FnExactExchangeRows_r0 [.b r__]) K)
    | _ => none)
theorem E_w_FnExactExchangeRows_ok {α : Type} (N : Nat) : EnvOk Try.prog (E_w_FnExactExchangeRows α N) := (E_w_eqGrid_ok N).addFun prog_mixed prog_names (d := 1) fun l K r h => by
  split at h
  · exact (w_FnExactExchangeRows_run N _ _ _ _ K).trans h
  · cases h
end Go.AM
