/- A part of a proof about the given program: an abstract machine, what the given functions come to, and plain laws. -/
import Derived.Test.YtlpfpjbmikpheaaAMEnv2
import Derived.Test.YtlpfpjbmikpheaaDIsMosaic
import Derived.Test.YtlpfpjbmikpheaaDLowerState
import Derived.Test.YtlpfpjbmikpheaaDTransposeOf
import Derived.Test.YtlpfpjbmikpheaaProg
set_option maxRecDepth 100000
namespace Go.AM
open Go.Proofs

def E0 (α : Type) (N : Nat) : Env α := Env.base (fun _ _ => {}) N
theorem E0_ok {α : Type} (N : Nat) : EnvOk Try.prog (E0 α N) := .base
theorem prog_mixed : Try.prog.follows .mixedOrders = true := by kernel_rfl
theorem prog_names : NamesOk Try.prog := .of_all (by kernel_rfl)
/-- spec.l01In -/
def s_l01In_a : SPat := ⟨[.int .i64, .int .i64, .int .i64], []⟩
def s_l01In_r0 : SPat := ⟨[.bool], []⟩
theorem s_l01In_run {α : Type} (N : Nat) (n : Int) (low : Int) (high : Int) (K : AV → Heap → Option α) :
    callK Try.prog (E0 α N) 1 63 0 (buildS s_l01In_a [.i n, .i low, .i high]).t (buildS s_l01In_a [.i n, .i low, .i high]).h K = s_l01In none N n low high (fun r__ => retK (buildS s_l01In_r0 [.b r__]) K) := by kernel_rfl
def E_s_l01In (α : Type) (N : Nat) : Env α := (E0 α N).addFun 63 true 0 s_l01In_a (fun l K => match l with
    | [.i n, .i low, .i high] => s_l01In none N n low high (fun r__ => retK (buildS s_l01In_r0 [.b r__]) K)
    | _ => none)
theorem E_s_l01In_ok {α : Type} (N : Nat) : EnvOk Try.prog (E_s_l01In α N) := (E0_ok N).addFun prog_mixed prog_names (d := 1) fun l K r h => by
  split at h
  · exact (s_l01In_run N _ _ _ K).trans h
  · cases h

/-- impl.within -/
def i_within_a : SPat := ⟨[.int .i64, .int .i64, .int .i64], []⟩
def i_within_r0 : SPat := ⟨[.bool], []⟩
theorem i_within_run {α : Type} (N : Nat) (x : Int) (low : Int) (high : Int) (K : AV → Heap → Option α) :
    callK Try.prog (E_s_l01In α N) 1 47 0 (buildS i_within_a [.i x, .i low, .i high]).t (buildS i_within_a [.i x, .i low, .i high]).h K = i_within none N x low high (fun r__ => retK (buildS i_within_r0 [.b r__]) K) := by kernel_rfl
def E_i_within (α : Type) (N : Nat) : Env α := (E_s_l01In α N).addFun 47 true 0 i_within_a (fun l K => match l with
    | [.i x, .i low, .i high] => i_within none N x low high (fun r__ => retK (buildS i_within_r0 [.b r__]) K)
    | _ => none)
theorem E_i_within_ok {α : Type} (N : Nat) : EnvOk Try.prog (E_i_within α N) := (E_s_l01In_ok N).addFun prog_mixed prog_names (d := 1) fun l K r h => by
  split at h
  · exact (i_within_run N _ _ _ K).trans h
  · cases h

def A_i_isOrder_l0 (α : Type) (N : Nat) : Env α := (E_i_within α N).addAnn 49 3 { head := [1, 5, 8, 9, 10], grow := [], out := [1, 5], ret := [4] }
theorem A_i_isOrder_l0_ok {α : Type} (N : Nat) : EnvOk Try.prog (A_i_isOrder_l0 α N) := (E_i_within_ok N).addAnn

def A_w_toByteA8_l0 (α : Type) (N : Nat) : Env α := (A_i_isOrder_l0 α N).addAnn 51 3 { head := [1, 2, 3, 4], grow := [], out := [2, 3], ret := [2] }
theorem A_w_toByteA8_l0_ok {α : Type} (N : Nat) : EnvOk Try.prog (A_w_toByteA8_l0 α N) := (A_i_isOrder_l0_ok N).addAnn

/-- laws.toByteA8, loop -/
def w_toByteA8_l0_p : SPat := ⟨[.undef, .ptr ⟨0, 0, 0, 8⟩, .ptr ⟨1, 0, 0, 8⟩, .ptr ⟨2, 0, 0, 8⟩, .int .i64] ++ List.replicate 10 .undef, [[.ints .u8 8], [.ints .u8 8], [.ints .u8 8]]⟩
def w_toByteA8_l0_o0 : SPat := ⟨[.undef, .undef, .ptr ⟨1, 0, 0, 8⟩, .ptr ⟨2, 0, 0, 8⟩] ++ List.replicate 11 .undef, [[.ints .u8 8], [.ints .u8 8], [.ints .u8 8]]⟩
theorem w_toByteA8_l0_round {α : Type} (N : Nat) (i : Int) (h0 : Nat → Int) (h1 : Nat → Int) (h2 : Nat → Int) (kn : St → Option α) (K : AExit → St → Option α) :
    roundK Try.prog (A_w_toByteA8_l0 α N) 1 0 51 Try.f51 3 3 (buildS w_toByteA8_l0_p [.i i, .f h0, .f h1, .f h2]) kn K = w_toByteA8_l0_s none h0 h1 i h2 (fun i h2 => kn (buildS w_toByteA8_l0_p [.i i, .f h0, .f h1, .f h2])) (fun h2_ => K (.exit 0) (buildS w_toByteA8_l0_o0 [.f h0, .f h1, .f h2_])) := by kernel_rfl
theorem w_toByteA8_l0_loop {α : Type} (N : Nat) (h0 : Nat → Int) (h1 : Nat → Int) (K : AExit → St → Option α) : ∀ (m : Nat) (i : Int) (h2 : Nat → Int),
    loopN (trimSt ((A_w_toByteA8_l0 α N).ann 51 3).head ((A_w_toByteA8_l0 α N).ann 51 3).grow 3) (bodyK Try.prog (A_w_toByteA8_l0 α N) 1 0 51 Try.f51 3) m (buildS w_toByteA8_l0_p [.i i, .f h0, .f h1, .f h2]) (leaveLoop ((A_w_toByteA8_l0 α N).ann 51 3) 3 K) = w_toByteA8_l0 none h0 h1 m i h2 (fun h2_ => K (.exit 0) (buildS w_toByteA8_l0_o0 [.f h0, .f h1, .f h2_])) := by
  intro m
  induction m with
  | zero => intros; rfl
  | succ m ih =>
    intro i h2
    rw [loopN_round]
    refine (w_toByteA8_l0_round N i h0 h1 h2 _ K).trans ?_
    simp only [ih]
    rfl
def E_w_toByteA8_l0 (α : Type) (N : Nat) : Env α := (A_w_toByteA8_l0 α N).addLoop2 51 3 (loopSum2 ((A_w_toByteA8_l0 α N).ann 51 3) 0 w_toByteA8_l0_p (fun l K => match l with
    | [.i i, .f h0, .f h1, .f h2] => w_toByteA8_l0 none h0 h1 N i h2 (fun h2_ => K (.exit 0) (buildS w_toByteA8_l0_o0 [.f h0, .f h1, .f h2_]))
    | _ => none) ((A_w_toByteA8_l0 α N).ls 51 3))
theorem E_w_toByteA8_l0_ok {α : Type} (N : Nat) : EnvOk Try.prog (E_w_toByteA8_l0 α N) := (A_w_toByteA8_l0_ok N).addLoop2 Try.func51 (by kernel_rfl) (loopSum_ok prog_mixed prog_names (A_w_toByteA8_l0_ok N) Try.func51 (by kernel_rfl) (d := 1) (ro := 0) fun l K r h => by
  split at h
  · exact (w_toByteA8_l0_loop N _ _ K N _ _).trans h
  · cases h)

/-- laws.toByteA8 -/
def w_toByteA8_a : SPat := ⟨[.agg [.ints .u8 8]], []⟩
def w_toByteA8_r0 : SPat := ⟨[.agg [.ints .u8 8]], []⟩
theorem w_toByteA8_run {α : Type} (N : Nat) (a : Nat → Int) (K : AV → Heap → Option α) :
    callK Try.prog (E_w_toByteA8_l0 α N) 1 51 0 (buildS w_toByteA8_a [.f a]).t (buildS w_toByteA8_a [.f a]).h K = w_toByteA8 none N a (fun r__ => retK (buildS w_toByteA8_r0 [.f r__]) K) := by kernel_rfl
def E_w_toByteA8 (α : Type) (N : Nat) : Env α := (E_w_toByteA8_l0 α N).addFun 51 true 0 w_toByteA8_a (fun l K => match l with
    | [.f a] => w_toByteA8 none N a (fun r__ => retK (buildS w_toByteA8_r0 [.f r__]) K)
    | _ => none)
theorem E_w_toByteA8_ok {α : Type} (N : Nat) : EnvOk Try.prog (E_w_toByteA8 α N) := (E_w_toByteA8_l0_ok N).addFun prog_mixed prog_names (d := 1) fun l K r h => by
  split at h
  · exact (w_toByteA8_run N _ K).trans h
  · cases h

/-- laws.toGrid -/
def w_toGrid_a : SPat := ⟨[.agg [.vals [.int .i64], .ints .u8 8, .ints .u8 8]], []⟩
def w_toGrid_r0 : SPat := ⟨[.agg [.vals [.int .i64], .ints .u8 8, .ints .u8 8]], []⟩
theorem w_toGrid_run {α : Type} (N : Nat) (a_0 : Int) (a_1 : Nat → Int) (a_2 : Nat → Int) (K : AV → Heap → Option α) :
    callK Try.prog (E_w_toByteA8 α N) 1 25 0 (buildS w_toGrid_a [.i a_0, .f a_1, .f a_2]).t (buildS w_toGrid_a [.i a_0, .f a_1, .f a_2]).h K = w_toGrid none N a_0 a_1 a_2 (fun r_1_ r_2_ => retK (buildS w_toGrid_r0 [.i a_0, .f r_1_, .f r_2_]) K) := by kernel_rfl
def E_w_toGrid (α : Type) (N : Nat) : Env α := (E_w_toByteA8 α N).addFun 25 true 0 w_toGrid_a (fun l K => match l with
    | [.i a_0, .f a_1, .f a_2] => w_toGrid none N a_0 a_1 a_2 (fun r_1_ r_2_ => retK (buildS w_toGrid_r0 [.i a_0, .f r_1_, .f r_2_]) K)
    | _ => none)
theorem E_w_toGrid_ok {α : Type} (N : Nat) : EnvOk Try.prog (E_w_toGrid α N) := (E_w_toByteA8_ok N).addFun prog_mixed prog_names (d := 1) fun l K r h => by
  split at h
  · exact (w_toGrid_run N _ _ _ K).trans h
  · cases h

def A_s_l01Perm_l0 (α : Type) (N : Nat) : Env α := (E_w_toGrid α N).addAnn 77 3 { head := [1, 2, 5, 6], grow := [], out := [], ret := [4] }
theorem A_s_l01Perm_l0_ok {α : Type} (N : Nat) : EnvOk Try.prog (A_s_l01Perm_l0 α N) := (E_w_toGrid_ok N).addAnn

/-- spec.l01Perm, loop -/
def s_l01Perm_l0_p : SPat := ⟨[.undef, .int .i64, .ptr ⟨0, 0, 0, 8⟩, .undef, .undef, .ptr ⟨1, 0, 0, 8⟩, .int .i64] ++ List.replicate 29 .undef, [[.ints .u8 8], [.bools 8]]⟩
def s_l01Perm_l0_o0 : SPat := ⟨[.undef, .undef, .undef, .undef, .boolC false] ++ List.replicate 31 .undef, [[.ints .u8 8], [.bools 8]]⟩
def s_l01Perm_l0_o1 : SPat := ⟨[] ++ List.replicate 36 .undef, [[.ints .u8 8], [.bools 8]]⟩
theorem s_l01Perm_l0_round {α : Type} (N : Nat) (n : Int) (i : Int) (h0 : Nat → Int) (h1 : Nat → Bool) (kn : St → Option α) (K : AExit → St → Option α) :
    roundK Try.prog (A_s_l01Perm_l0 α N) 1 0 77 Try.f77 3 2 (buildS s_l01Perm_l0_p [.i n, .i i, .f h0, .g h1]) kn K = s_l01Perm_l0_s none n h0 i h1 (fun i h1 => kn (buildS s_l01Perm_l0_p [.i n, .i i, .f h0, .g h1])) (fun h1_ => K .ret (buildS s_l01Perm_l0_o0 [.f h0, .g h1_])) (fun h1_ => K (.exit 0) (buildS s_l01Perm_l0_o1 [.f h0, .g h1_])) := by kernel_rfl
theorem s_l01Perm_l0_loop {α : Type} (N : Nat) (n : Int) (h0 : Nat → Int) (K : AExit → St → Option α) : ∀ (m : Nat) (i : Int) (h1 : Nat → Bool),
    loopN (trimSt ((A_s_l01Perm_l0 α N).ann 77 3).head ((A_s_l01Perm_l0 α N).ann 77 3).grow 2) (bodyK Try.prog (A_s_l01Perm_l0 α N) 1 0 77 Try.f77 3) m (buildS s_l01Perm_l0_p [.i n, .i i, .f h0, .g h1]) (leaveLoop ((A_s_l01Perm_l0 α N).ann 77 3) 2 K) = s_l01Perm_l0 none n h0 m i h1 (fun h1_ => K .ret (buildS s_l01Perm_l0_o0 [.f h0, .g h1_])) (fun h1_ => K (.exit 0) (buildS s_l01Perm_l0_o1 [.f h0, .g h1_])) := by
  intro m
  induction m with
  | zero => intros; rfl
  | succ m ih =>
    intro i h1
    rw [loopN_round]
    refine (s_l01Perm_l0_round N n i h0 h1 _ K).trans ?_
    simp only [ih]
    rfl
def E_s_l01Perm_l0 (α : Type) (N : Nat) : Env α := (A_s_l01Perm_l0 α N).addLoop2 77 3 (loopSum2 ((A_s_l01Perm_l0 α N).ann 77 3) 0 s_l01Perm_l0_p (fun l K => match l with
    | [.i n, .i i, .f h0, .g h1] => s_l01Perm_l0 none n h0 N i h1 (fun h1_ => K .ret (buildS s_l01Perm_l0_o0 [.f h0, .g h1_])) (fun h1_ => K (.exit 0) (buildS s_l01Perm_l0_o1 [.f h0, .g h1_]))
    | _ => none) ((A_s_l01Perm_l0 α N).ls 77 3))
theorem E_s_l01Perm_l0_ok {α : Type} (N : Nat) : EnvOk Try.prog (E_s_l01Perm_l0 α N) := (A_s_l01Perm_l0_ok N).addLoop2 Try.func77 (by kernel_rfl) (loopSum_ok prog_mixed prog_names (A_s_l01Perm_l0_ok N) Try.func77 (by kernel_rfl) (d := 1) (ro := 0) fun l K r h => by
  split at h
  · exact (s_l01Perm_l0_loop N _ _ K N _ _).trans h
  · cases h)

/-- spec.l01Perm -/
def s_l01Perm_a : SPat := ⟨[.agg [.ints .u8 8], .int .i64], []⟩
def s_l01Perm_r0 : SPat := ⟨[.bool], []⟩
theorem s_l01Perm_run {α : Type} (N : Nat) (list : Nat → Int) (n : Int) (K : AV → Heap → Option α) :
    callK Try.prog (E_s_l01Perm_l0 α N) 1 77 0 (buildS s_l01Perm_a [.f list, .i n]).t (buildS s_l01Perm_a [.f list, .i n]).h K = s_l01Perm none N list n (fun r__ => retK (buildS s_l01Perm_r0 [.b r__]) K) := by kernel_rfl
def E_s_l01Perm (α : Type) (N : Nat) : Env α := (E_s_l01Perm_l0 α N).addFun 77 true 0 s_l01Perm_a (fun l K => match l with
    | [.f list, .i n] => s_l01Perm none N list n (fun r__ => retK (buildS s_l01Perm_r0 [.b r__]) K)
    | _ => none)
theorem E_s_l01Perm_ok {α : Type} (N : Nat) : EnvOk Try.prog (E_s_l01Perm α N) := (E_s_l01Perm_l0_ok N).addFun prog_mixed prog_names (d := 1) fun l K r h => by
  split at h
  · exact (s_l01Perm_run N _ _ K).trans h
  · cases h

def A_s_l01Is_l0 (α : Type) (N : Nat) : Env α := (E_s_l01Perm α N).addAnn 50 4 { head := [1, 3], grow := [], out := [], ret := [2] }
theorem A_s_l01Is_l0_ok {α : Type} (N : Nat) : EnvOk Try.prog (A_s_l01Is_l0 α N) := (E_s_l01Perm_ok N).addAnn

/-- spec.l01Is, loop -/
def s_l01Is_l0_p : SPat := ⟨[.undef, .ptr ⟨0, 0, 0, 1⟩, .undef, .int .i64] ++ List.replicate 35 .undef, [[.vals [.int .i64], .ints .u8 8, .ints .u8 8]]⟩
def s_l01Is_l0_o0 : SPat := ⟨[.undef, .undef, .boolC false] ++ List.replicate 36 .undef, [[.vals [.int .i64], .ints .u8 8, .ints .u8 8]]⟩
def s_l01Is_l0_o1 : SPat := ⟨[] ++ List.replicate 39 .undef, [[.vals [.int .i64], .ints .u8 8, .ints .u8 8]]⟩
theorem s_l01Is_l0_round {α : Type} (N : Nat) (i : Int) (h0_0 : Int) (h0_1 : Nat → Int) (h0_2 : Nat → Int) (kn : St → Option α) (K : AExit → St → Option α) :
    roundK Try.prog (A_s_l01Is_l0 α N) 1 0 50 Try.f50 4 1 (buildS s_l01Is_l0_p [.i i, .i h0_0, .f h0_1, .f h0_2]) kn K = s_l01Is_l0_s none h0_0 h0_1 h0_2 i (fun i => kn (buildS s_l01Is_l0_p [.i i, .i h0_0, .f h0_1, .f h0_2])) (K .ret (buildS s_l01Is_l0_o0 [.i h0_0, .f h0_1, .f h0_2])) (K (.exit 0) (buildS s_l01Is_l0_o1 [.i h0_0, .f h0_1, .f h0_2])) := by kernel_rfl
theorem s_l01Is_l0_loop {α : Type} (N : Nat) (h0_0 : Int) (h0_1 : Nat → Int) (h0_2 : Nat → Int) (K : AExit → St → Option α) : ∀ (m : Nat) (i : Int),
    loopN (trimSt ((A_s_l01Is_l0 α N).ann 50 4).head ((A_s_l01Is_l0 α N).ann 50 4).grow 1) (bodyK Try.prog (A_s_l01Is_l0 α N) 1 0 50 Try.f50 4) m (buildS s_l01Is_l0_p [.i i, .i h0_0, .f h0_1, .f h0_2]) (leaveLoop ((A_s_l01Is_l0 α N).ann 50 4) 1 K) = s_l01Is_l0 none h0_0 h0_1 h0_2 m i (K .ret (buildS s_l01Is_l0_o0 [.i h0_0, .f h0_1, .f h0_2])) (K (.exit 0) (buildS s_l01Is_l0_o1 [.i h0_0, .f h0_1, .f h0_2])) := by
  intro m
  induction m with
  | zero => intros; rfl
  | succ m ih =>
    intro i
    rw [loopN_round]
    refine (s_l01Is_l0_round N i h0_0 h0_1 h0_2 _ K).trans ?_
    simp only [ih]
    rfl
def E_s_l01Is_l0 (α : Type) (N : Nat) : Env α := (A_s_l01Is_l0 α N).addLoop2 50 4 (loopSum2 ((A_s_l01Is_l0 α N).ann 50 4) 0 s_l01Is_l0_p (fun l K => match l with
    | [.i i, .i h0_0, .f h0_1, .f h0_2] => s_l01Is_l0 none h0_0 h0_1 h0_2 N i (K .ret (buildS s_l01Is_l0_o0 [.i h0_0, .f h0_1, .f h0_2])) (K (.exit 0) (buildS s_l01Is_l0_o1 [.i h0_0, .f h0_1, .f h0_2]))
    | _ => none) ((A_s_l01Is_l0 α N).ls 50 4))
theorem E_s_l01Is_l0_ok {α : Type} (N : Nat) : EnvOk Try.prog (E_s_l01Is_l0 α N) := (A_s_l01Is_l0_ok N).addLoop2 Try.func50 (by kernel_rfl) (loopSum_ok prog_mixed prog_names (A_s_l01Is_l0_ok N) Try.func50 (by kernel_rfl) (d := 1) (ro := 0) fun l K r h => by
  split at h
  · exact (s_l01Is_l0_loop N _ _ _ K N _).trans h
  · cases h)

/-- spec.l01Is -/
def s_l01Is_a : SPat := ⟨[.agg [.vals [.int .i64], .ints .u8 8, .ints .u8 8]], []⟩
def s_l01Is_r0 : SPat := ⟨[.bool], []⟩
theorem s_l01Is_run {α : Type} (N : Nat) (g_0 : Int) (g_1 : Nat → Int) (g_2 : Nat → Int) (K : AV → Heap → Option α) :
    callK Try.prog (E_s_l01Is_l0 α N) 1 50 0 (buildS s_l01Is_a [.i g_0, .f g_1, .f g_2]).t (buildS s_l01Is_a [.i g_0, .f g_1, .f g_2]).h K = s_l01Is none N g_0 g_1 g_2 (fun r__ => retK (buildS s_l01Is_r0 [.b r__]) K) := by kernel_rfl
def E_s_l01Is (α : Type) (N : Nat) : Env α := (E_s_l01Is_l0 α N).addFun 50 true 0 s_l01Is_a (fun l K => match l with
    | [.i g_0, .f g_1, .f g_2] => s_l01Is none N g_0 g_1 g_2 (fun r__ => retK (buildS s_l01Is_r0 [.b r__]) K)
    | _ => none)
theorem E_s_l01Is_ok {α : Type} (N : Nat) : EnvOk Try.prog (E_s_l01Is α N) := (E_s_l01Is_l0_ok N).addFun prog_mixed prog_names (d := 1) fun l K r h => by
  split at h
  · exact (s_l01Is_run N _ _ _ K).trans h
  · cases h

/-- (impl.Grid).n -/
def i_Grid_n_a : SPat := ⟨[.agg [.vals [.int .i64], .ints .u8 8, .ints .u8 8]], []⟩
def i_Grid_n_r0 : SPat := ⟨[.int .i64], []⟩
theorem i_Grid_n_run {α : Type} (N : Nat) (g_0 : Int) (g_1 : Nat → Int) (g_2 : Nat → Int) (K : AV → Heap → Option α) :
    callK Try.prog (E_s_l01Is α N) 1 56 0 (buildS i_Grid_n_a [.i g_0, .f g_1, .f g_2]).t (buildS i_Grid_n_a [.i g_0, .f g_1, .f g_2]).h K = i_Grid_n none N g_0 g_1 g_2 (retK (buildS i_Grid_n_r0 [.i g_0]) K) := by kernel_rfl
def E_i_Grid_n (α : Type) (N : Nat) : Env α := (E_s_l01Is α N).addFun 56 true 0 i_Grid_n_a (fun l K => match l with
    | [.i g_0, .f g_1, .f g_2] => i_Grid_n none N g_0 g_1 g_2 (retK (buildS i_Grid_n_r0 [.i g_0]) K)
    | _ => none)
theorem E_i_Grid_n_ok {α : Type} (N : Nat) : EnvOk Try.prog (E_i_Grid_n α N) := (E_s_l01Is_ok N).addFun prog_mixed prog_names (d := 1) fun l K r h => by
  split at h
  · exact (i_Grid_n_run N _ _ _ K).trans h
  · cases h

/-- impl.isOrder, loop -/
def i_isOrder_l0_s2_p : SPat := ⟨[.undef, .int .i64, .undef, .undef, .undef, .int .i64, .undef, .undef, .slice ⟨0, 1, 0, 8⟩ 8 8 1 true, .intC .i64 8, .int .i64] ++ List.replicate 30 .undef, [[.vals [.int .i64], .ints .u8 8, .ints .u8 8]]⟩
def i_isOrder_l0_s2_o0 : SPat := ⟨[.undef, .undef, .undef, .undef, .boolC false] ++ List.replicate 36 .undef, [[.vals [.int .i64], .ints .u8 8, .ints .u8 8]]⟩
def i_isOrder_l0_s2_o1 : SPat := ⟨[.undef, .int .i64, .undef, .undef, .undef, .int .i64] ++ List.replicate 35 .undef, [[.vals [.int .i64], .ints .u8 8, .ints .u8 8]]⟩
theorem i_isOrder_l0_s2_round {α : Type} (N : Nat) (n : Int) (seen : Int) (t10 : Int) (h0_0 : Int) (h0_1 : Nat → Int) (h0_2 : Nat → Int) (kn : St → Option α) (K : AExit → St → Option α) :
    roundK Try.prog (E_i_Grid_n α N) 1 1 49 Try.f49 3 1 (buildS i_isOrder_l0_s2_p [.i n, .i seen, .i t10, .i h0_0, .f h0_1, .f h0_2]) kn K = i_isOrder_l0_s2_s none n h0_0 h0_1 h0_2 seen t10 (fun seen t10 => kn (buildS i_isOrder_l0_s2_p [.i n, .i seen, .i t10, .i h0_0, .f h0_1, .f h0_2])) (K .ret (buildS i_isOrder_l0_s2_o0 [.i h0_0, .f h0_1, .f h0_2])) (fun seen_ => K (.exit 0) (buildS i_isOrder_l0_s2_o1 [.i n, .i seen_, .i h0_0, .f h0_1, .f h0_2])) := by kernel_rfl
theorem i_isOrder_l0_s2_loop {α : Type} (N : Nat) (n : Int) (h0_0 : Int) (h0_1 : Nat → Int) (h0_2 : Nat → Int) (K : AExit → St → Option α) : ∀ (m : Nat) (seen : Int) (t10 : Int),
    loopN (trimSt ((E_i_Grid_n α N).ann 49 3).head ((E_i_Grid_n α N).ann 49 3).grow 1) (bodyK Try.prog (E_i_Grid_n α N) 1 1 49 Try.f49 3) m (buildS i_isOrder_l0_s2_p [.i n, .i seen, .i t10, .i h0_0, .f h0_1, .f h0_2]) (leaveLoop ((E_i_Grid_n α N).ann 49 3) 1 K) = i_isOrder_l0_s2 none n h0_0 h0_1 h0_2 m seen t10 (K .ret (buildS i_isOrder_l0_s2_o0 [.i h0_0, .f h0_1, .f h0_2])) (fun seen_ => K (.exit 0) (buildS i_isOrder_l0_s2_o1 [.i n, .i seen_, .i h0_0, .f h0_1, .f h0_2])) := by
  intro m
  induction m with
  | zero => intros; rfl
  | succ m ih =>
    intro seen t10
    rw [loopN_round]
    refine (i_isOrder_l0_s2_round N n seen t10 h0_0 h0_1 h0_2 _ K).trans ?_
    simp only [ih]
    rfl
def E_i_isOrder_l0_s2 (α : Type) (N : Nat) : Env α := (E_i_Grid_n α N).addLoop2 49 3 (loopSum2 ((E_i_Grid_n α N).ann 49 3) 1 i_isOrder_l0_s2_p (fun l K => match l with
    | [.i n, .i seen, .i t10, .i h0_0, .f h0_1, .f h0_2] => i_isOrder_l0_s2 none n h0_0 h0_1 h0_2 N seen t10 (K .ret (buildS i_isOrder_l0_s2_o0 [.i h0_0, .f h0_1, .f h0_2])) (fun seen_ => K (.exit 0) (buildS i_isOrder_l0_s2_o1 [.i n, .i seen_, .i h0_0, .f h0_1, .f h0_2]))
    | _ => none) ((E_i_Grid_n α N).ls 49 3))
theorem E_i_isOrder_l0_s2_ok {α : Type} (N : Nat) : EnvOk Try.prog (E_i_isOrder_l0_s2 α N) := (E_i_Grid_n_ok N).addLoop2 Try.func49 (by kernel_rfl) (loopSum_ok prog_mixed prog_names (E_i_Grid_n_ok N) Try.func49 (by kernel_rfl) (d := 1) (ro := 1) fun l K r h => by
  split at h
  · exact (i_isOrder_l0_s2_loop N _ _ _ _ K N _ _).trans h
  · cases h)

/-- impl.isOrder -/
def i_isOrder_s2_a : SPat := ⟨[.slice ⟨0, 1, 0, 8⟩ 8 8 1 true, .int .i64], [[.vals [.int .i64], .ints .u8 8, .ints .u8 8]]⟩
def i_isOrder_s2_r0 : SPat := ⟨[.bool], [[.vals [.int .i64], .ints .u8 8, .ints .u8 8]]⟩
theorem i_isOrder_s2_run {α : Type} (N : Nat) (n : Int) (h0_0 : Int) (h0_1 : Nat → Int) (h0_2 : Nat → Int) (K : AV → Heap → Option α) :
    callK Try.prog (E_i_isOrder_l0_s2 α N) 1 49 1 (buildS i_isOrder_s2_a [.i n, .i h0_0, .f h0_1, .f h0_2]).t (buildS i_isOrder_s2_a [.i n, .i h0_0, .f h0_1, .f h0_2]).h K = i_isOrder_s2 none N n h0_0 h0_1 h0_2 (fun r__ => retK (buildS i_isOrder_s2_r0 [.b r__, .i h0_0, .f h0_1, .f h0_2]) K) := by kernel_rfl
def E_i_isOrder_s2 (α : Type) (N : Nat) : Env α := (E_i_isOrder_l0_s2 α N).addFun 49 true 1 i_isOrder_s2_a (fun l K => match l with
    | [.i n, .i h0_0, .f h0_1, .f h0_2] => i_isOrder_s2 none N n h0_0 h0_1 h0_2 (fun r__ => retK (buildS i_isOrder_s2_r0 [.b r__, .i h0_0, .f h0_1, .f h0_2]) K)
    | _ => none)
theorem E_i_isOrder_s2_ok {α : Type} (N : Nat) : EnvOk Try.prog (E_i_isOrder_s2 α N) := (E_i_isOrder_l0_s2_ok N).addFun prog_mixed prog_names (d := 1) fun l K r h => by
  split at h
  · exact (i_isOrder_s2_run N _ _ _ _ K).trans h
  · cases h

/-- impl.isOrder, loop -/
def i_isOrder_l0_s3_p : SPat := ⟨[.undef, .int .i64, .undef, .undef, .undef, .int .i64, .undef, .undef, .slice ⟨0, 2, 0, 8⟩ 8 8 1 true, .intC .i64 8, .int .i64] ++ List.replicate 30 .undef, [[.vals [.int .i64], .ints .u8 8, .ints .u8 8]]⟩
def i_isOrder_l0_s3_o0 : SPat := ⟨[.undef, .undef, .undef, .undef, .boolC false] ++ List.replicate 36 .undef, [[.vals [.int .i64], .ints .u8 8, .ints .u8 8]]⟩
def i_isOrder_l0_s3_o1 : SPat := ⟨[.undef, .int .i64, .undef, .undef, .undef, .int .i64] ++ List.replicate 35 .undef, [[.vals [.int .i64], .ints .u8 8, .ints .u8 8]]⟩
theorem i_isOrder_l0_s3_round {α : Type} (N : Nat) (n : Int) (seen : Int) (t10 : Int) (h0_0 : Int) (h0_1 : Nat → Int) (h0_2 : Nat → Int) (kn : St → Option α) (K : AExit → St → Option α) :
    roundK Try.prog (E_i_isOrder_s2 α N) 1 1 49 Try.f49 3 1 (buildS i_isOrder_l0_s3_p [.i n, .i seen, .i t10, .i h0_0, .f h0_1, .f h0_2]) kn K = i_isOrder_l0_s3_s none n h0_0 h0_1 h0_2 seen t10 (fun seen t10 => kn (buildS i_isOrder_l0_s3_p [.i n, .i seen, .i t10, .i h0_0, .f h0_1, .f h0_2])) (K .ret (buildS i_isOrder_l0_s3_o0 [.i h0_0, .f h0_1, .f h0_2])) (fun seen_ => K (.exit 0) (buildS i_isOrder_l0_s3_o1 [.i n, .i seen_, .i h0_0, .f h0_1, .f h0_2])) := by kernel_rfl
theorem i_isOrder_l0_s3_loop {α : Type} (N : Nat) (n : Int) (h0_0 : Int) (h0_1 : Nat → Int) (h0_2 : Nat → Int) (K : AExit → St → Option α) : ∀ (m : Nat) (seen : Int) (t10 : Int),
    loopN (trimSt ((E_i_isOrder_s2 α N).ann 49 3).head ((E_i_isOrder_s2 α N).ann 49 3).grow 1) (bodyK Try.prog (E_i_isOrder_s2 α N) 1 1 49 Try.f49 3) m (buildS i_isOrder_l0_s3_p [.i n, .i seen, .i t10, .i h0_0, .f h0_1, .f h0_2]) (leaveLoop ((E_i_isOrder_s2 α N).ann 49 3) 1 K) = i_isOrder_l0_s3 none n h0_0 h0_1 h0_2 m seen t10 (K .ret (buildS i_isOrder_l0_s3_o0 [.i h0_0, .f h0_1, .f h0_2])) (fun seen_ => K (.exit 0) (buildS i_isOrder_l0_s3_o1 [.i n, .i seen_, .i h0_0, .f h0_1, .f h0_2])) := by
  intro m
  induction m with
  | zero => intros; rfl
  | succ m ih =>
    intro seen t10
    rw [loopN_round]
    refine (i_isOrder_l0_s3_round N n seen t10 h0_0 h0_1 h0_2 _ K).trans ?_
    simp only [ih]
    rfl
def E_i_isOrder_l0_s3 (α : Type) (N : Nat) : Env α := (E_i_isOrder_s2 α N).addLoop2 49 3 (loopSum2 ((E_i_isOrder_s2 α N).ann 49 3) 1 i_isOrder_l0_s3_p (fun l K => match l with
    | [.i n, .i seen, .i t10, .i h0_0, .f h0_1, .f h0_2] => i_isOrder_l0_s3 none n h0_0 h0_1 h0_2 N seen t10 (K .ret (buildS i_isOrder_l0_s3_o0 [.i h0_0, .f h0_1, .f h0_2])) (fun seen_ => K (.exit 0) (buildS i_isOrder_l0_s3_o1 [.i n, .i seen_, .i h0_0, .f h0_1, .f h0_2]))
    | _ => none) ((E_i_isOrder_s2 α N).ls 49 3))
theorem E_i_isOrder_l0_s3_ok {α : Type} (N : Nat) : EnvOk Try.prog (E_i_isOrder_l0_s3 α N) := (E_i_isOrder_s2_ok N).addLoop2 Try.func49 (by kernel_rfl) (loopSum_ok prog_mixed prog_names (E_i_isOrder_s2_ok N) Try.func49 (by kernel_rfl) (d := 1) (ro := 1) fun l K r h => by
  split at h
  · exact (i_isOrder_l0_s3_loop N _ _ _ _ K N _ _).trans h
  · cases h)

/-- impl.isOrder -/
def i_isOrder_s3_a : SPat := ⟨[.slice ⟨0, 2, 0, 8⟩ 8 8 1 true, .int .i64], [[.vals [.int .i64], .ints .u8 8, .ints .u8 8]]⟩
def i_isOrder_s3_r0 : SPat := ⟨[.bool], [[.vals [.int .i64], .ints .u8 8, .ints .u8 8]]⟩
theorem i_isOrder_s3_run {α : Type} (N : Nat) (n : Int) (h0_0 : Int) (h0_1 : Nat → Int) (h0_2 : Nat → Int) (K : AV → Heap → Option α) :
    callK Try.prog (E_i_isOrder_l0_s3 α N) 1 49 1 (buildS i_isOrder_s3_a [.i n, .i h0_0, .f h0_1, .f h0_2]).t (buildS i_isOrder_s3_a [.i n, .i h0_0, .f h0_1, .f h0_2]).h K = i_isOrder_s3 none N n h0_0 h0_1 h0_2 (fun r__ => retK (buildS i_isOrder_s3_r0 [.b r__, .i h0_0, .f h0_1, .f h0_2]) K) := by kernel_rfl
def E_i_isOrder_s3 (α : Type) (N : Nat) : Env α := (E_i_isOrder_l0_s3 α N).addFun 49 true 1 i_isOrder_s3_a (fun l K => match l with
    | [.i n, .i h0_0, .f h0_1, .f h0_2] => i_isOrder_s3 none N n h0_0 h0_1 h0_2 (fun r__ => retK (buildS i_isOrder_s3_r0 [.b r__, .i h0_0, .f h0_1, .f h0_2]) K)
    | _ => none)
theorem E_i_isOrder_s3_ok {α : Type} (N : Nat) : EnvOk Try.prog (E_i_isOrder_s3 α N) := (E_i_isOrder_l0_s3_ok N).addFun prog_mixed prog_names (d := 1) fun l K r h => by
  split at h
  · exact (i_isOrder_s3_run N _ _ _ _ K).trans h
  · cases h

def A_i_IsGrid_l0 (α : Type) (N : Nat) : Env α := (E_i_isOrder_s3 α N).addAnn 65 4 { head := [1, 25, 26], grow := [], out := [], ret := [2] }
theorem A_i_IsGrid_l0_ok {α : Type} (N : Nat) : EnvOk Try.prog (A_i_IsGrid_l0 α N) := (E_i_isOrder_s3_ok N).addAnn

/-- impl.IsGrid, loop -/
def i_IsGrid_l0_p : SPat := ⟨[.undef, .ptr ⟨0, 0, 0, 1⟩, .undef, .undef, .undef, .undef, .undef, .undef, .undef, .undef, .undef, .undef, .undef, .undef, .undef, .undef, .undef, .undef, .undef, .undef, .undef, .undef, .undef, .undef, .undef, .int .i64, .int .i64] ++ List.replicate 12 .undef, [[.vals [.int .i64], .ints .u8 8, .ints .u8 8]]⟩
def i_IsGrid_l0_o0 : SPat := ⟨[.undef, .undef, .boolC false] ++ List.replicate 36 .undef, [[.vals [.int .i64], .ints .u8 8, .ints .u8 8]]⟩
def i_IsGrid_l0_o1 : SPat := ⟨[] ++ List.replicate 39 .undef, [[.vals [.int .i64], .ints .u8 8, .ints .u8 8]]⟩
theorem i_IsGrid_l0_round {α : Type} (N : Nat) (t25 : Int) (t26 : Int) (h0_0 : Int) (h0_1 : Nat → Int) (h0_2 : Nat → Int) (kn : St → Option α) (K : AExit → St → Option α) :
    roundK Try.prog (A_i_IsGrid_l0 α N) 1 0 65 Try.f65 4 1 (buildS i_IsGrid_l0_p [.i t25, .i t26, .i h0_0, .f h0_1, .f h0_2]) kn K = i_IsGrid_l0_s none t25 h0_0 h0_1 h0_2 t26 (fun t26 => kn (buildS i_IsGrid_l0_p [.i t25, .i t26, .i h0_0, .f h0_1, .f h0_2])) (K .ret (buildS i_IsGrid_l0_o0 [.i h0_0, .f h0_1, .f h0_2])) (K (.exit 0) (buildS i_IsGrid_l0_o1 [.i h0_0, .f h0_1, .f h0_2])) := by kernel_rfl
theorem i_IsGrid_l0_loop {α : Type} (N : Nat) (t25 : Int) (h0_0 : Int) (h0_1 : Nat → Int) (h0_2 : Nat → Int) (K : AExit → St → Option α) : ∀ (m : Nat) (t26 : Int),
    loopN (trimSt ((A_i_IsGrid_l0 α N).ann 65 4).head ((A_i_IsGrid_l0 α N).ann 65 4).grow 1) (bodyK Try.prog (A_i_IsGrid_l0 α N) 1 0 65 Try.f65 4) m (buildS i_IsGrid_l0_p [.i t25, .i t26, .i h0_0, .f h0_1, .f h0_2]) (leaveLoop ((A_i_IsGrid_l0 α N).ann 65 4) 1 K) = i_IsGrid_l0 none t25 h0_0 h0_1 h0_2 m t26 (K .ret (buildS i_IsGrid_l0_o0 [.i h0_0, .f h0_1, .f h0_2])) (K (.exit 0) (buildS i_IsGrid_l0_o1 [.i h0_0, .f h0_1, .f h0_2])) := by
  intro m
  induction m with
  | zero => intros; rfl
  | succ m ih =>
    intro t26
    rw [loopN_round]
    refine (i_IsGrid_l0_round N t25 t26 h0_0 h0_1 h0_2 _ K).trans ?_
    simp only [ih]
    rfl
def E_i_IsGrid_l0 (α : Type) (N : Nat) : Env α := (A_i_IsGrid_l0 α N).addLoop2 65 4 (loopSum2 ((A_i_IsGrid_l0 α N).ann 65 4) 0 i_IsGrid_l0_p (fun l K => match l with
    | [.i t25, .i t26, .i h0_0, .f h0_1, .f h0_2] => i_IsGrid_l0 none t25 h0_0 h0_1 h0_2 N t26 (K .ret (buildS i_IsGrid_l0_o0 [.i h0_0, .f h0_1, .f h0_2])) (K (.exit 0) (buildS i_IsGrid_l0_o1 [.i h0_0, .f h0_1, .f h0_2]))
    | _ => none) ((A_i_IsGrid_l0 α N).ls 65 4))
theorem E_i_IsGrid_l0_ok {α : Type} (N : Nat) : EnvOk Try.prog (E_i_IsGrid_l0 α N) := (A_i_IsGrid_l0_ok N).addLoop2 Try.func65 (by kernel_rfl) (loopSum_ok prog_mixed prog_names (A_i_IsGrid_l0_ok N) Try.func65 (by kernel_rfl) (d := 1) (ro := 0) fun l K r h => by
  split at h
  · exact (i_IsGrid_l0_loop N _ _ _ _ K N _).trans h
  · cases h)

/-- impl.IsGrid -/
def i_IsGrid_a : SPat := ⟨[.agg [.vals [.int .i64], .ints .u8 8, .ints .u8 8]], []⟩
def i_IsGrid_r0 : SPat := ⟨[.bool], []⟩
theorem i_IsGrid_run {α : Type} (N : Nat) (g_0 : Int) (g_1 : Nat → Int) (g_2 : Nat → Int) (K : AV → Heap → Option α) :
    callK Try.prog (E_i_IsGrid_l0 α N) 1 65 0 (buildS i_IsGrid_a [.i g_0, .f g_1, .f g_2]).t (buildS i_IsGrid_a [.i g_0, .f g_1, .f g_2]).h K = i_IsGrid none N g_0 g_1 g_2 (fun r__ => retK (buildS i_IsGrid_r0 [.b r__]) K) := by kernel_rfl
def E_i_IsGrid (α : Type) (N : Nat) : Env α := (E_i_IsGrid_l0 α N).addFun 65 true 0 i_IsGrid_a (fun l K => match l with
    | [.i g_0, .f g_1, .f g_2] => i_IsGrid none N g_0 g_1 g_2 (fun r__ => retK (buildS i_IsGrid_r0 [.b r__]) K)
    | _ => none)
theorem E_i_IsGrid_ok {α : Type} (N : Nat) : EnvOk Try.prog (E_i_IsGrid α N) := (E_i_IsGrid_l0_ok N).addFun prog_mixed prog_names (d := 1) fun l K r h => by
  split at h
  · exact (i_IsGrid_run N _ _ _ K).trans h
  · cases h

def A_s_TransposeOf_l0 (α : Type) (N : Nat) : Env α := (E_i_IsGrid α N).addAnn 30 5 { head := [1, 2, 4, 5], grow := [], out := [2, 4], ret := [2, 3] }
theorem A_s_TransposeOf_l0_ok {α : Type} (N : Nat) : EnvOk Try.prog (A_s_TransposeOf_l0 α N) := (E_i_IsGrid_ok N).addAnn

/-- spec.TransposeOf, loop -/
def s_TransposeOf_l0_p : SPat := ⟨[.undef, .ptr ⟨0, 0, 0, 1⟩, .ptr ⟨1, 0, 0, 1⟩, .undef, .ptr ⟨2, 0, 0, 1⟩, .int .i64] ++ List.replicate 30 .undef, [[.vals [.int .i64], .ints .u8 8, .ints .u8 8], [.vals [.int .i64], .ints .u8 8, .ints .u8 8], [.vals [.int .i64], .ints .u8 8, .ints .u8 8]]⟩
def s_TransposeOf_l0_o0 : SPat := ⟨[.undef, .undef, .ptr ⟨1, 0, 0, 1⟩, .undef, .ptr ⟨2, 0, 0, 1⟩] ++ List.replicate 31 .undef, [[.vals [.int .i64], .ints .u8 8, .ints .u8 8], [.vals [.int .i64], .ints .u8 8, .ints .u8 8], [.vals [.int .i64], .ints .u8 8, .ints .u8 8]]⟩
theorem s_TransposeOf_l0_round {α : Type} (N : Nat) (i : Int) (h0_0 : Int) (h0_1 : Nat → Int) (h0_2 : Nat → Int) (h1_0 : Int) (h1_1 : Nat → Int) (h1_2 : Nat → Int) (h2_0 : Int) (h2_1 : Nat → Int) (h2_2 : Nat → Int) (kn : St → Option α) (K : AExit → St → Option α) :
    roundK Try.prog (A_s_TransposeOf_l0 α N) 1 0 30 Try.f30 5 3 (buildS s_TransposeOf_l0_p [.i i, .i h0_0, .f h0_1, .f h0_2, .i h1_0, .f h1_1, .f h1_2, .i h2_0, .f h2_1, .f h2_2]) kn K = s_TransposeOf_l0_s none h0_0 h0_1 h0_2 h1_0 h1_1 h1_2 h2_0 i h2_1 h2_2 (fun i h2_1 h2_2 => kn (buildS s_TransposeOf_l0_p [.i i, .i h0_0, .f h0_1, .f h0_2, .i h1_0, .f h1_1, .f h1_2, .i h2_0, .f h2_1, .f h2_2])) (fun h2_1_ h2_2_ => K (.exit 0) (buildS s_TransposeOf_l0_o0 [.i h0_0, .f h0_1, .f h0_2, .i h1_0, .f h1_1, .f h1_2, .i h2_0, .f h2_1_, .f h2_2_])) := by kernel_rfl
theorem s_TransposeOf_l0_loop {α : Type} (N : Nat) (h0_0 : Int) (h0_1 : Nat → Int) (h0_2 : Nat → Int) (h1_0 : Int) (h1_1 : Nat → Int) (h1_2 : Nat → Int) (h2_0 : Int) (K : AExit → St → Option α) : ∀ (m : Nat) (i : Int) (h2_1 : Nat → Int) (h2_2 : Nat → Int),
    loopN (trimSt ((A_s_TransposeOf_l0 α N).ann 30 5).head ((A_s_TransposeOf_l0 α N).ann 30 5).grow 3) (bodyK Try.prog (A_s_TransposeOf_l0 α N) 1 0 30 Try.f30 5) m (buildS s_TransposeOf_l0_p [.i i, .i h0_0, .f h0_1, .f h0_2, .i h1_0, .f h1_1, .f h1_2, .i h2_0, .f h2_1, .f h2_2]) (leaveLoop ((A_s_TransposeOf_l0 α N).ann 30 5) 3 K) = s_TransposeOf_l0 none h0_0 h0_1 h0_2 h1_0 h1_1 h1_2 h2_0 m i h2_1 h2_2 (fun h2_1_ h2_2_ => K (.exit 0) (buildS s_TransposeOf_l0_o0 [.i h0_0, .f h0_1, .f h0_2, .i h1_0, .f h1_1, .f h1_2, .i h2_0, .f h2_1_, .f h2_2_])) := by
  intro m
  induction m with
  | zero => intros; rfl
  | succ m ih =>
    intro i h2_1 h2_2
    rw [loopN_round]
    refine (s_TransposeOf_l0_round N i h0_0 h0_1 h0_2 h1_0 h1_1 h1_2 h2_0 h2_1 h2_2 _ K).trans ?_
    simp only [ih]
    rfl
def E_s_TransposeOf_l0 (α : Type) (N : Nat) : Env α := (A_s_TransposeOf_l0 α N).addLoop2 30 5 (loopSum2 ((A_s_TransposeOf_l0 α N).ann 30 5) 0 s_TransposeOf_l0_p (fun l K => match l with
    | [.i i, .i h0_0, .f h0_1, .f h0_2, .i h1_0, .f h1_1, .f h1_2, .i h2_0, .f h2_1, .f h2_2] => s_TransposeOf_l0 none h0_0 h0_1 h0_2 h1_0 h1_1 h1_2 h2_0 N i h2_1 h2_2 (fun h2_1_ h2_2_ => K (.exit 0) (buildS s_TransposeOf_l0_o0 [.i h0_0, .f h0_1, .f h0_2, .i h1_0, .f h1_1, .f h1_2, .i h2_0, .f h2_1_, .f h2_2_]))
    | _ => none) ((A_s_TransposeOf_l0 α N).ls 30 5))
theorem E_s_TransposeOf_l0_ok {α : Type} (N : Nat) : EnvOk Try.prog (E_s_TransposeOf_l0 α N) := (A_s_TransposeOf_l0_ok N).addLoop2 Try.func30 (by kernel_rfl) (loopSum_ok prog_mixed prog_names (A_s_TransposeOf_l0_ok N) Try.func30 (by kernel_rfl) (d := 1) (ro := 0) fun l K r h => by
  split at h
  · exact (s_TransposeOf_l0_loop N _ _ _ _ _ _ _ K N _ _ _).trans h
  · cases h)

/-- spec.TransposeOf -/
def s_TransposeOf_a : SPat := ⟨[.agg [.vals [.int .i64], .ints .u8 8, .ints .u8 8]], []⟩
def s_TransposeOf_r0 : SPat := ⟨[.tuple [.agg [.vals [.int .i64], .ints .u8 8, .ints .u8 8], .int .i64]], []⟩
theorem s_TransposeOf_run {α : Type} (N : Nat) (g_0 : Int) (g_1 : Nat → Int) (g_2 : Nat → Int) (K : AV → Heap → Option α) :
    callK Try.prog (E_s_TransposeOf_l0 α N) 1 30 0 (buildS s_TransposeOf_a [.i g_0, .f g_1, .f g_2]).t (buildS s_TransposeOf_a [.i g_0, .f g_1, .f g_2]).h K = s_TransposeOf none N g_0 g_1 g_2 (fun r_0_0_ r_0_1_ r_0_2_ r_1_ => retK (buildS s_TransposeOf_r0 [.i r_0_0_, .f r_0_1_, .f r_0_2_, .i r_1_]) K) := by kernel_rfl
def E_s_TransposeOf (α : Type) (N : Nat) : Env α := (E_s_TransposeOf_l0 α N).addFun 30 true 0 s_TransposeOf_a (fun l K => match l with
    | [.i g_0, .f g_1, .f g_2] => s_TransposeOf none N g_0 g_1 g_2 (fun r_0_0_ r_0_1_ r_0_2_ r_1_ => retK (buildS s_TransposeOf_r0 [.i r_0_0_, .f r_0_1_, .f r_0_2_, .i r_1_]) K)
    | _ => none)
theorem E_s_TransposeOf_ok {α : Type} (N : Nat) : EnvOk Try.prog (E_s_TransposeOf α N) := (E_s_TransposeOf_l0_ok N).addFun prog_mixed prog_names (d := 1) fun l K r h => by
  split at h
  · exact (s_TransposeOf_run N _ _ _ K).trans h
  · cases h

def A_i_Grid_led_l0 (α : Type) (N : Nat) : Env α := (E_s_TransposeOf α N).addAnn 78 6 { head := [1, 3, 6, 7, 8, 9, 22, 23], grow := [], out := [6, 7], ret := [6] }
theorem A_i_Grid_led_l0_ok {α : Type} (N : Nat) : EnvOk Try.prog (A_i_Grid_led_l0 α N) := (E_s_TransposeOf_ok N).addAnn

/-- (impl.Grid).transpose$1 -/
def i_Grid_transpose_1_a : SPat := ⟨[.int .i64, .int .i64], []⟩
def i_Grid_transpose_1_r0 : SPat := ⟨[.tuple [.int .i64, .int .i64]], []⟩
theorem i_Grid_transpose_1_run {α : Type} (N : Nat) (i : Int) (r_ : Int) (K : AV → Heap → Option α) :
    callK Try.prog (A_i_Grid_led_l0 α N) 1 79 0 (buildS i_Grid_transpose_1_a [.i i, .i r_]).t (buildS i_Grid_transpose_1_a [.i i, .i r_]).h K = i_Grid_transpose_1 none N i r_ (retK (buildS i_Grid_transpose_1_r0 [.i r_, .i i]) K) := by kernel_rfl
def E_i_Grid_transpose_1 (α : Type) (N : Nat) : Env α := (A_i_Grid_led_l0 α N).addFun 79 true 0 i_Grid_transpose_1_a (fun l K => match l with
    | [.i i, .i r_] => i_Grid_transpose_1 none N i r_ (retK (buildS i_Grid_transpose_1_r0 [.i r_, .i i]) K)
    | _ => none)
theorem E_i_Grid_transpose_1_ok {α : Type} (N : Nat) : EnvOk Try.prog (E_i_Grid_transpose_1 α N) := (A_i_Grid_led_l0_ok N).addFun prog_mixed prog_names (d := 1) fun l K r h => by
  split at h
  · exact (i_Grid_transpose_1_run N _ _ K).trans h
  · cases h

/-- (impl.Grid).led, loop -/
def i_Grid_led_l0_p : SPat := ⟨[.undef, .func 79 [], .undef, .ptr ⟨0, 0, 0, 1⟩, .undef, .undef, .ptr ⟨1, 0, 0, 1⟩, .ptr ⟨2, 0, 0, 1⟩, .ptr ⟨2, 2, 0, 8⟩, .ptr ⟨2, 1, 0, 8⟩, .undef, .undef, .undef, .undef, .undef, .undef, .undef, .undef, .undef, .undef, .undef, .undef, .int .i64, .int .i64] ++ List.replicate 38 .undef, [[.vals [.int .i64], .ints .u8 8, .ints .u8 8], [.vals [.int .i64], .ints .u8 8, .ints .u8 8], [.vals [.int .i64], .ints .u8 8, .ints .u8 8]]⟩
def i_Grid_led_l0_o0 : SPat := ⟨[.undef, .undef, .undef, .undef, .undef, .undef, .ptr ⟨1, 0, 0, 1⟩, .ptr ⟨2, 0, 0, 1⟩] ++ List.replicate 54 .undef, [[.vals [.int .i64], .ints .u8 8, .ints .u8 8], [.vals [.int .i64], .ints .u8 8, .ints .u8 8], [.vals [.int .i64], .ints .u8 8, .ints .u8 8]]⟩
theorem i_Grid_led_l0_round {α : Type} (N : Nat) (t22 : Int) (t23 : Int) (h0_0 : Int) (h0_1 : Nat → Int) (h0_2 : Nat → Int) (h1_0 : Int) (h1_1 : Nat → Int) (h1_2 : Nat → Int) (h2_0 : Int) (h2_1 : Nat → Int) (h2_2 : Nat → Int) (kn : St → Option α) (K : AExit → St → Option α) :
    roundK Try.prog (E_i_Grid_transpose_1 α N) 1 0 78 Try.f78 6 3 (buildS i_Grid_led_l0_p [.i t22, .i t23, .i h0_0, .f h0_1, .f h0_2, .i h1_0, .f h1_1, .f h1_2, .i h2_0, .f h2_1, .f h2_2]) kn K = i_Grid_led_l0_s none N t22 h0_0 h0_1 h0_2 h1_0 h1_1 h1_2 h2_0 t23 h2_1 h2_2 (fun t23 h2_1 h2_2 => kn (buildS i_Grid_led_l0_p [.i t22, .i t23, .i h0_0, .f h0_1, .f h0_2, .i h1_0, .f h1_1, .f h1_2, .i h2_0, .f h2_1, .f h2_2])) (fun h2_1_ h2_2_ => K (.exit 0) (buildS i_Grid_led_l0_o0 [.i h0_0, .f h0_1, .f h0_2, .i h1_0, .f h1_1, .f h1_2, .i h2_0, .f h2_1_, .f h2_2_])) := by kernel_rfl
theorem i_Grid_led_l0_loop {α : Type} (N : Nat) (t22 : Int) (h0_0 : Int) (h0_1 : Nat → Int) (h0_2 : Nat → Int) (h1_0 : Int) (h1_1 : Nat → Int) (h1_2 : Nat → Int) (h2_0 : Int) (K : AExit → St → Option α) : ∀ (m : Nat) (t23 : Int) (h2_1 : Nat → Int) (h2_2 : Nat → Int),
    loopN (trimSt ((E_i_Grid_transpose_1 α N).ann 78 6).head ((E_i_Grid_transpose_1 α N).ann 78 6).grow 3) (bodyK Try.prog (E_i_Grid_transpose_1 α N) 1 0 78 Try.f78 6) m (buildS i_Grid_led_l0_p [.i t22, .i t23, .i h0_0, .f h0_1, .f h0_2, .i h1_0, .f h1_1, .f h1_2, .i h2_0, .f h2_1, .f h2_2]) (leaveLoop ((E_i_Grid_transpose_1 α N).ann 78 6) 3 K) = i_Grid_led_l0 none N t22 h0_0 h0_1 h0_2 h1_0 h1_1 h1_2 h2_0 m t23 h2_1 h2_2 (fun h2_1_ h2_2_ => K (.exit 0) (buildS i_Grid_led_l0_o0 [.i h0_0, .f h0_1, .f h0_2, .i h1_0, .f h1_1, .f h1_2, .i h2_0, .f h2_1_, .f h2_2_])) := by
  intro m
  induction m with
  | zero => intros; rfl
  | succ m ih =>
    intro t23 h2_1 h2_2
    rw [loopN_round]
    refine (i_Grid_led_l0_round N t22 t23 h0_0 h0_1 h0_2 h1_0 h1_1 h1_2 h2_0 h2_1 h2_2 _ K).trans ?_
    simp only [ih]
    rfl
def E_i_Grid_led_l0 (α : Type) (N : Nat) : Env α := (E_i_Grid_transpose_1 α N).addLoop2 78 6 (loopSum2 ((E_i_Grid_transpose_1 α N).ann 78 6) 0 i_Grid_led_l0_p (fun l K => match l with
    | [.i t22, .i t23, .i h0_0, .f h0_1, .f h0_2, .i h1_0, .f h1_1, .f h1_2, .i h2_0, .f h2_1, .f h2_2] => i_Grid_led_l0 none N t22 h0_0 h0_1 h0_2 h1_0 h1_1 h1_2 h2_0 N t23 h2_1 h2_2 (fun h2_1_ h2_2_ => K (.exit 0) (buildS i_Grid_led_l0_o0 [.i h0_0, .f h0_1, .f h0_2, .i h1_0, .f h1_1, .f h1_2, .i h2_0, .f h2_1_, .f h2_2_]))
    | _ => none) ((E_i_Grid_transpose_1 α N).ls 78 6))
theorem E_i_Grid_led_l0_ok {α : Type} (N : Nat) : EnvOk Try.prog (E_i_Grid_led_l0 α N) := (E_i_Grid_transpose_1_ok N).addLoop2 Try.func78 (by kernel_rfl) (loopSum_ok prog_mixed prog_names (E_i_Grid_transpose_1_ok N) Try.func78 (by kernel_rfl) (d := 1) (ro := 0) fun l K r h => by
  split at h
  · exact (i_Grid_led_l0_loop N _ _ _ _ _ _ _ _ K N _ _ _).trans h
  · cases h)

/-- (impl.Grid).led, loop -/
def i_Grid_led_l0_s2_p : SPat := ⟨[.undef, .func 79 [], .undef, .ptr ⟨0, 0, 0, 1⟩, .undef, .undef, .ptr ⟨1, 0, 0, 1⟩, .ptr ⟨2, 0, 0, 1⟩, .ptr ⟨2, 1, 0, 8⟩, .ptr ⟨2, 2, 0, 8⟩, .undef, .undef, .undef, .undef, .undef, .undef, .undef, .undef, .undef, .undef, .undef, .undef, .int .i64, .int .i64] ++ List.replicate 38 .undef, [[.vals [.int .i64], .ints .u8 8, .ints .u8 8], [.vals [.int .i64], .ints .u8 8, .ints .u8 8], [.vals [.int .i64], .ints .u8 8, .ints .u8 8]]⟩
def i_Grid_led_l0_s2_o0 : SPat := ⟨[.undef, .undef, .undef, .undef, .undef, .undef, .ptr ⟨1, 0, 0, 1⟩, .ptr ⟨2, 0, 0, 1⟩] ++ List.replicate 54 .undef, [[.vals [.int .i64], .ints .u8 8, .ints .u8 8], [.vals [.int .i64], .ints .u8 8, .ints .u8 8], [.vals [.int .i64], .ints .u8 8, .ints .u8 8]]⟩
theorem i_Grid_led_l0_s2_round {α : Type} (N : Nat) (t22 : Int) (t23 : Int) (h0_0 : Int) (h0_1 : Nat → Int) (h0_2 : Nat → Int) (h1_0 : Int) (h1_1 : Nat → Int) (h1_2 : Nat → Int) (h2_0 : Int) (h2_1 : Nat → Int) (h2_2 : Nat → Int) (kn : St → Option α) (K : AExit → St → Option α) :
    roundK Try.prog (E_i_Grid_led_l0 α N) 1 0 78 Try.f78 6 3 (buildS i_Grid_led_l0_s2_p [.i t22, .i t23, .i h0_0, .f h0_1, .f h0_2, .i h1_0, .f h1_1, .f h1_2, .i h2_0, .f h2_1, .f h2_2]) kn K = i_Grid_led_l0_s2_s none N t22 h0_0 h0_1 h0_2 h1_0 h1_1 h1_2 h2_0 t23 h2_1 h2_2 (fun t23 h2_1 h2_2 => kn (buildS i_Grid_led_l0_s2_p [.i t22, .i t23, .i h0_0, .f h0_1, .f h0_2, .i h1_0, .f h1_1, .f h1_2, .i h2_0, .f h2_1, .f h2_2])) (fun h2_1_ h2_2_ => K (.exit 0) (buildS i_Grid_led_l0_s2_o0 [.i h0_0, .f h0_1, .f h0_2, .i h1_0, .f h1_1, .f h1_2, .i h2_0, .f h2_1_, .f h2_2_])) := by kernel_rfl
theorem i_Grid_led_l0_s2_loop {α : Type} (N : Nat) (t22 : Int) (h0_0 : Int) (h0_1 : Nat → Int) (h0_2 : Nat → Int) (h1_0 : Int) (h1_1 : Nat → Int) (h1_2 : Nat → Int) (h2_0 : Int) (K : AExit → St → Option α) : ∀ (m : Nat) (t23 : Int) (h2_1 : Nat → Int) (h2_2 : Nat → Int),
    loopN (trimSt ((E_i_Grid_led_l0 α N).ann 78 6).head ((E_i_Grid_led_l0 α N).ann 78 6).grow 3) (bodyK Try.prog (E_i_Grid_led_l0 α N) 1 0 78 Try.f78 6) m (buildS i_Grid_led_l0_s2_p [.i t22, .i t23, .i h0_0, .f h0_1, .f h0_2, .i h1_0, .f h1_1, .f h1_2, .i h2_0, .f h2_1, .f h2_2]) (leaveLoop ((E_i_Grid_led_l0 α N).ann 78 6) 3 K) = i_Grid_led_l0_s2 none N t22 h0_0 h0_1 h0_2 h1_0 h1_1 h1_2 h2_0 m t23 h2_1 h2_2 (fun h2_1_ h2_2_ => K (.exit 0) (buildS i_Grid_led_l0_s2_o0 [.i h0_0, .f h0_1, .f h0_2, .i h1_0, .f h1_1, .f h1_2, .i h2_0, .f h2_1_, .f h2_2_])) := by
  intro m
  induction m with
  | zero => intros; rfl
  | succ m ih =>
    intro t23 h2_1 h2_2
    rw [loopN_round]
    refine (i_Grid_led_l0_s2_round N t22 t23 h0_0 h0_1 h0_2 h1_0 h1_1 h1_2 h2_0 h2_1 h2_2 _ K).trans ?_
    simp only [ih]
    rfl
def E_i_Grid_led_l0_s2 (α : Type) (N : Nat) : Env α := (E_i_Grid_led_l0 α N).addLoop2 78 6 (loopSum2 ((E_i_Grid_led_l0 α N).ann 78 6) 0 i_Grid_led_l0_s2_p (fun l K => match l with
    | [.i t22, .i t23, .i h0_0, .f h0_1, .f h0_2, .i h1_0, .f h1_1, .f h1_2, .i h2_0, .f h2_1, .f h2_2] => i_Grid_led_l0_s2 none N t22 h0_0 h0_1 h0_2 h1_0 h1_1 h1_2 h2_0 N t23 h2_1 h2_2 (fun h2_1_ h2_2_ => K (.exit 0) (buildS i_Grid_led_l0_s2_o0 [.i h0_0, .f h0_1, .f h0_2, .i h1_0, .f h1_1, .f h1_2, .i h2_0, .f h2_1_, .f h2_2_]))
    | _ => none) ((E_i_Grid_led_l0 α N).ls 78 6))
theorem E_i_Grid_led_l0_s2_ok {α : Type} (N : Nat) : EnvOk Try.prog (E_i_Grid_led_l0_s2 α N) := (E_i_Grid_led_l0_ok N).addLoop2 Try.func78 (by kernel_rfl) (loopSum_ok prog_mixed prog_names (E_i_Grid_led_l0_ok N) Try.func78 (by kernel_rfl) (d := 1) (ro := 0) fun l K r h => by
  split at h
  · exact (i_Grid_led_l0_s2_loop N _ _ _ _ _ _ _ _ K N _ _ _).trans h
  · cases h)

/-- (impl.Grid).led -/
def i_Grid_led_a : SPat := ⟨[.agg [.vals [.int .i64], .ints .u8 8, .ints .u8 8], .func 79 [], .bool], []⟩
def i_Grid_led_r0 : SPat := ⟨[.agg [.vals [.int .i64], .ints .u8 8, .ints .u8 8]], []⟩
theorem i_Grid_led_run {α : Type} (N : Nat) (g_0 : Int) (g_1 : Nat → Int) (g_2 : Nat → Int) (exchanged : Bool) (K : AV → Heap → Option α) :
    callK Try.prog (E_i_Grid_led_l0_s2 α N) 1 78 0 (buildS i_Grid_led_a [.i g_0, .f g_1, .f g_2, .b exchanged]).t (buildS i_Grid_led_a [.i g_0, .f g_1, .f g_2, .b exchanged]).h K = i_Grid_led none N g_0 g_1 g_2 exchanged (fun r_1_ r_2_ => retK (buildS i_Grid_led_r0 [.i g_0, .f r_1_, .f r_2_]) K) := by kernel_rfl
def E_i_Grid_led (α : Type) (N : Nat) : Env α := (E_i_Grid_led_l0_s2 α N).addFun 78 true 0 i_Grid_led_a (fun l K => match l with
    | [.i g_0, .f g_1, .f g_2, .b exchanged] => i_Grid_led none N g_0 g_1 g_2 exchanged (fun r_1_ r_2_ => retK (buildS i_Grid_led_r0 [.i g_0, .f r_1_, .f r_2_]) K)
    | _ => none)
theorem E_i_Grid_led_ok {α : Type} (N : Nat) : EnvOk Try.prog (E_i_Grid_led α N) := (E_i_Grid_led_l0_s2_ok N).addFun prog_mixed prog_names (d := 1) fun l K r h => by
  split at h
  · exact (i_Grid_led_run N _ _ _ _ K).trans h
  · cases h

/-- (impl.Grid).transpose -/
def i_Grid_transpose_a : SPat := ⟨[.agg [.vals [.int .i64], .ints .u8 8, .ints .u8 8]], []⟩
def i_Grid_transpose_r0 : SPat := ⟨[.agg [.vals [.int .i64], .ints .u8 8, .ints .u8 8]], []⟩
theorem i_Grid_transpose_run {α : Type} (N : Nat) (g_0 : Int) (g_1 : Nat → Int) (g_2 : Nat → Int) (K : AV → Heap → Option α) :
    callK Try.prog (E_i_Grid_led α N) 1 58 0 (buildS i_Grid_transpose_a [.i g_0, .f g_1, .f g_2]).t (buildS i_Grid_transpose_a [.i g_0, .f g_1, .f g_2]).h K = i_Grid_transpose none N g_0 g_1 g_2 (fun r_1_ r_2_ => retK (buildS i_Grid_transpose_r0 [.i g_0, .f r_1_, .f r_2_]) K) := by kernel_rfl
def E_i_Grid_transpose (α : Type) (N : Nat) : Env α := (E_i_Grid_led α N).addFun 58 true 0 i_Grid_transpose_a (fun l K => match l with
    | [.i g_0, .f g_1, .f g_2] => i_Grid_transpose none N g_0 g_1 g_2 (fun r_1_ r_2_ => retK (buildS i_Grid_transpose_r0 [.i g_0, .f r_1_, .f r_2_]) K)
    | _ => none)
theorem E_i_Grid_transpose_ok {α : Type} (N : Nat) : EnvOk Try.prog (E_i_Grid_transpose α N) := (E_i_Grid_led_ok N).addFun prog_mixed prog_names (d := 1) fun l K r h => by
  split at h
  · exact (i_Grid_transpose_run N _ _ _ K).trans h
  · cases h

/-- impl.whole[impl.Grid] -/
def i_whole_i_Grid_a : SPat := ⟨[.agg [.vals [.int .i64], .ints .u8 8, .ints .u8 8], .func 58 []], []⟩
def i_whole_i_Grid_r0 : SPat := ⟨[.tuple [.agg [.vals [.int .i64], .ints .u8 8, .ints .u8 8], .int .i64]], []⟩
theorem i_whole_i_Grid_run {α : Type} (N : Nat) (g_0 : Int) (g_1 : Nat → Int) (g_2 : Nat → Int) (K : AV → Heap → Option α) :
    callK Try.prog (E_i_Grid_transpose α N) 1 57 0 (buildS i_whole_i_Grid_a [.i g_0, .f g_1, .f g_2]).t (buildS i_whole_i_Grid_a [.i g_0, .f g_1, .f g_2]).h K = i_whole_i_Grid none N g_0 g_1 g_2 (fun r_0_0_ r_0_1_ r_0_2_ r_1_ => retK (buildS i_whole_i_Grid_r0 [.i r_0_0_, .f r_0_1_, .f r_0_2_, .i r_1_]) K) := by kernel_rfl
def E_i_whole_i_Grid (α : Type) (N : Nat) : Env α := (E_i_Grid_transpose α N).addFun 57 true 0 i_whole_i_Grid_a (fun l K => match l with
    | [.i g_0, .f g_1, .f g_2] => i_whole_i_Grid none N g_0 g_1 g_2 (fun r_0_0_ r_0_1_ r_0_2_ r_1_ => retK (buildS i_whole_i_Grid_r0 [.i r_0_0_, .f r_0_1_, .f r_0_2_, .i r_1_]) K)
    | _ => none)
theorem E_i_whole_i_Grid_ok {α : Type} (N : Nat) : EnvOk Try.prog (E_i_whole_i_Grid α N) := (E_i_Grid_transpose_ok N).addFun prog_mixed prog_names (d := 1) fun l K r h => by
  split at h
  · exact (i_whole_i_Grid_run N _ _ _ K).trans h
  · cases h

/-- impl.TransposeOf -/
def i_TransposeOf_a : SPat := ⟨[.agg [.vals [.int .i64], .ints .u8 8, .ints .u8 8]], []⟩
def i_TransposeOf_r0 : SPat := ⟨[.tuple [.agg [.vals [.int .i64], .ints .u8 8, .ints .u8 8], .int .i64]], []⟩
theorem i_TransposeOf_run {α : Type} (N : Nat) (g_0 : Int) (g_1 : Nat → Int) (g_2 : Nat → Int) (K : AV → Heap → Option α) :
    callK Try.prog (E_i_whole_i_Grid α N) 1 31 0 (buildS i_TransposeOf_a [.i g_0, .f g_1, .f g_2]).t (buildS i_TransposeOf_a [.i g_0, .f g_1, .f g_2]).h K = i_TransposeOf none N g_0 g_1 g_2 (fun r_0_0_ r_0_1_ r_0_2_ r_1_ => retK (buildS i_TransposeOf_r0 [.i r_0_0_, .f r_0_1_, .f r_0_2_, .i r_1_]) K) := by kernel_rfl
def E_i_TransposeOf (α : Type) (N : Nat) : Env α := (E_i_whole_i_Grid α N).addFun 31 true 0 i_TransposeOf_a (fun l K => match l with
    | [.i g_0, .f g_1, .f g_2] => i_TransposeOf none N g_0 g_1 g_2 (fun r_0_0_ r_0_1_ r_0_2_ r_1_ => retK (buildS i_TransposeOf_r0 [.i r_0_0_, .f r_0_1_, .f r_0_2_, .i r_1_]) K)
    | _ => none)
theorem E_i_TransposeOf_ok {α : Type} (N : Nat) : EnvOk Try.prog (E_i_TransposeOf α N) := (E_i_whole_i_Grid_ok N).addFun prog_mixed prog_names (d := 1) fun l K r h => by
  split at h
  · exact (i_TransposeOf_run N _ _ _ K).trans h
  · cases h

def A_w_eqByteA8_l0 (α : Type) (N : Nat) : Env α := (E_i_TransposeOf α N).addAnn 59 2 { head := [2, 3, 5], grow := [], out := [], ret := [4] }
theorem A_w_eqByteA8_l0_ok {α : Type} (N : Nat) : EnvOk Try.prog (A_w_eqByteA8_l0 α N) := (E_i_TransposeOf_ok N).addAnn

/-- laws.eqByteA8, loop -/
def w_eqByteA8_l0_p : SPat := ⟨[.undef, .undef, .ptr ⟨0, 0, 0, 8⟩, .ptr ⟨1, 0, 0, 8⟩, .undef, .int .i64] ++ List.replicate 11 .undef, [[.ints .u8 8], [.ints .u8 8]]⟩
def w_eqByteA8_l0_o0 : SPat := ⟨[.undef, .undef, .undef, .undef, .boolC false] ++ List.replicate 12 .undef, [[.ints .u8 8], [.ints .u8 8]]⟩
def w_eqByteA8_l0_o1 : SPat := ⟨[] ++ List.replicate 17 .undef, [[.ints .u8 8], [.ints .u8 8]]⟩
theorem w_eqByteA8_l0_round {α : Type} (N : Nat) (i : Int) (h0 : Nat → Int) (h1 : Nat → Int) (kn : St → Option α) (K : AExit → St → Option α) :
    roundK Try.prog (A_w_eqByteA8_l0 α N) 1 0 59 Try.f59 2 2 (buildS w_eqByteA8_l0_p [.i i, .f h0, .f h1]) kn K = w_eqByteA8_l0_s none h0 h1 i (fun i => kn (buildS w_eqByteA8_l0_p [.i i, .f h0, .f h1])) (K .ret (buildS w_eqByteA8_l0_o0 [.f h0, .f h1])) (K (.exit 0) (buildS w_eqByteA8_l0_o1 [.f h0, .f h1])) := by kernel_rfl
theorem w_eqByteA8_l0_loop {α : Type} (N : Nat) (h0 : Nat → Int) (h1 : Nat → Int) (K : AExit → St → Option α) : ∀ (m : Nat) (i : Int),
    loopN (trimSt ((A_w_eqByteA8_l0 α N).ann 59 2).head ((A_w_eqByteA8_l0 α N).ann 59 2).grow 2) (bodyK Try.prog (A_w_eqByteA8_l0 α N) 1 0 59 Try.f59 2) m (buildS w_eqByteA8_l0_p [.i i, .f h0, .f h1]) (leaveLoop ((A_w_eqByteA8_l0 α N).ann 59 2) 2 K) = w_eqByteA8_l0 none h0 h1 m i (K .ret (buildS w_eqByteA8_l0_o0 [.f h0, .f h1])) (K (.exit 0) (buildS w_eqByteA8_l0_o1 [.f h0, .f h1])) := by
  intro m
  induction m with
  | zero => intros; rfl
  | succ m ih =>
    intro i
    rw [loopN_round]
    refine (w_eqByteA8_l0_round N i h0 h1 _ K).trans ?_
    simp only [ih]
    rfl
def E_w_eqByteA8_l0 (α : Type) (N : Nat) : Env α := (A_w_eqByteA8_l0 α N).addLoop2 59 2 (loopSum2 ((A_w_eqByteA8_l0 α N).ann 59 2) 0 w_eqByteA8_l0_p (fun l K => match l with
    | [.i i, .f h0, .f h1] => w_eqByteA8_l0 none h0 h1 N i (K .ret (buildS w_eqByteA8_l0_o0 [.f h0, .f h1])) (K (.exit 0) (buildS w_eqByteA8_l0_o1 [.f h0, .f h1]))
    | _ => none) ((A_w_eqByteA8_l0 α N).ls 59 2))
theorem E_w_eqByteA8_l0_ok {α : Type} (N : Nat) : EnvOk Try.prog (E_w_eqByteA8_l0 α N) := (A_w_eqByteA8_l0_ok N).addLoop2 Try.func59 (by kernel_rfl) (loopSum_ok prog_mixed prog_names (A_w_eqByteA8_l0_ok N) Try.func59 (by kernel_rfl) (d := 1) (ro := 0) fun l K r h => by
  split at h
  · exact (w_eqByteA8_l0_loop N _ _ K N _).trans h
  · cases h)

/-- laws.eqByteA8 -/
def w_eqByteA8_a : SPat := ⟨[.agg [.ints .u8 8], .agg [.ints .u8 8]], []⟩
def w_eqByteA8_r0 : SPat := ⟨[.bool], []⟩
theorem w_eqByteA8_run {α : Type} (N : Nat) (a : Nat → Int) (b : Nat → Int) (K : AV → Heap → Option α) :
    callK Try.prog (E_w_eqByteA8_l0 α N) 1 59 0 (buildS w_eqByteA8_a [.f a, .f b]).t (buildS w_eqByteA8_a [.f a, .f b]).h K = w_eqByteA8 none N a b (fun r__ => retK (buildS w_eqByteA8_r0 [.b r__]) K) := by kernel_rfl
def E_w_eqByteA8 (α : Type) (N : Nat) : Env α := (E_w_eqByteA8_l0 α N).addFun 59 true 0 w_eqByteA8_a (fun l K => match l with
    | [.f a, .f b] => w_eqByteA8 none N a b (fun r__ => retK (buildS w_eqByteA8_r0 [.b r__]) K)
    | _ => none)
theorem E_w_eqByteA8_ok {α : Type} (N : Nat) : EnvOk Try.prog (E_w_eqByteA8 α N) := (E_w_eqByteA8_l0_ok N).addFun prog_mixed prog_names (d := 1) fun l K r h => by
  split at h
  · exact (w_eqByteA8_run N _ _ K).trans h
  · cases h

/-- laws.eqGrid -/
def w_eqGrid_a : SPat := ⟨[.agg [.vals [.int .i64], .ints .u8 8, .ints .u8 8], .agg [.vals [.int .i64], .ints .u8 8, .ints .u8 8]], []⟩
def w_eqGrid_r0 : SPat := ⟨[.bool], []⟩
theorem w_eqGrid_run {α : Type} (N : Nat) (a_0 : Int) (a_1 : Nat → Int) (a_2 : Nat → Int) (b_0 : Int) (b_1 : Nat → Int) (b_2 : Nat → Int) (K : AV → Heap → Option α) :
    callK Try.prog (E_w_eqByteA8 α N) 1 32 0 (buildS w_eqGrid_a [.i a_0, .f a_1, .f a_2, .i b_0, .f b_1, .f b_2]).t (buildS w_eqGrid_a [.i a_0, .f a_1, .f a_2, .i b_0, .f b_1, .f b_2]).h K = w_eqGrid none N a_0 a_1 a_2 b_0 b_1 b_2 (fun r__ => retK (buildS w_eqGrid_r0 [.b r__]) K) := by kernel_rfl
def E_w_eqGrid (α : Type) (N : Nat) : Env α := (E_w_eqByteA8 α N).addFun 32 true 0 w_eqGrid_a (fun l K => match l with
    | [.i a_0, .f a_1, .f a_2, .i b_0, .f b_1, .f b_2] => w_eqGrid none N a_0 a_1 a_2 b_0 b_1 b_2 (fun r__ => retK (buildS w_eqGrid_r0 [.b r__]) K)
    | _ => none)
theorem E_w_eqGrid_ok {α : Type} (N : Nat) : EnvOk Try.prog (E_w_eqGrid α N) := (E_w_eqByteA8_ok N).addFun prog_mixed prog_names (d := 1) fun l K r h => by
  split at h
  · exact (w_eqGrid_run N _ _ _ _ _ _ K).trans h
  · cases h

/-- laws.FnExactTransposeOf -/
def w_FnExactTransposeOf_a : SPat := ⟨[.agg [.vals [.int .i64], .ints .u8 8, .ints .u8 8]], []⟩
def w_FnExactTransposeOf_r0 : SPat := ⟨[.bool], []⟩
theorem w_FnExactTransposeOf_run {α : Type} (N : Nat) (aG_0 : Int) (aG_1 : Nat → Int) (aG_2 : Nat → Int) (K : AV → Heap → Option α) :
    callK Try.prog (E_w_eqGrid α N) 1 8 0 (buildS w_FnExactTransposeOf_a [.i aG_0, .f aG_1, .f aG_2]).t (buildS w_FnExactTransposeOf_a [.i aG_0, .f aG_1, .f aG_2]).h K = w_FnExactTransposeOf none N aG_0 aG_1 aG_2 (fun r__ => retK (buildS w_FnExactTransposeOf_r0 [.b r__]) K) := by kernel_rfl
def E_w_FnExactTransposeOf (α : Type) (N : Nat) : Env α := (E_w_eqGrid α N).addFun 8 true 0 w_FnExactTransposeOf_a (fun l K => match l with
    | [.i aG_0, .f aG_1, .f aG_2] => w_FnExactTransposeOf none N aG_0 aG_1 aG_2 (fun r__ => retK (buildS w_FnExactTransposeOf_r0 [.b r__]) K)
    | _ => none)
theorem E_w_FnExactTransposeOf_ok {α : Type} (N : Nat) : EnvOk Try.prog (E_w_FnExactTransposeOf α N) := (E_w_eqGrid_ok N).addFun prog_mixed prog_names (d := 1) fun l K r h => by
  split at h
  · exact (w_FnExactTransposeOf_run N _ _ _ K).trans h
  · cases h
end Go.AM
