/- A part of a proof about the given program: an abstract machine, what the given functions come to, and plain laws. -/
import Derived.Test.YtijijnfmcmeioaaAMEnv2
import Derived.Test.YtijijnfmcmeioaaDIsSum
import Derived.Test.YtijijnfmcmeioaaDLowerState
import Derived.Test.YtijijnfmcmeioaaDAlexanderNumber
import Derived.Test.YtijijnfmcmeioaaDIsMosaic
import Derived.Test.YtijijnfmcmeioaaProg
set_option maxRecDepth 100000
namespace Go.AM
open Go.Proofs

def E0 (α : Type) (N : Nat) : Env α := Env.base (fun _ _ => {}) N
theorem E0_ok {α : Type} (N : Nat) : EnvOk Try.prog (E0 α N) := .base
theorem prog_mixed : Try.prog.follows .mixedOrders = true := by kernel_rfl
theorem prog_names : NamesOk Try.prog := .of_all (by kernel_rfl)
/-- laws.szStateS -/
def w_szStateS_a : SPat := ⟨[.sliceV 0 0 0 8 false, .int .i64], [[.intsV .u8]]⟩
def w_szStateS_r0 : SPat := ⟨[.int .i64], [[.intsV .u8]]⟩
theorem w_szStateS_run {α : Type} (N : Nat) (a_n : Nat) (a_l : Nat) (a_c : Nat) (left : Int) (h0_n : Nat) (h0 : Nat → Int) (K : AV → Heap → Option α) :
    callK Try.prog (E0 α N) 1 23 1 (buildS w_szStateS_a [.n a_n, .n a_l, .n a_c, .i left, .n h0_n, .f h0]).t (buildS w_szStateS_a [.n a_n, .n a_l, .n a_c, .i left, .n h0_n, .f h0]).h K = w_szStateS none N a_n a_l a_c left h0_n h0 (fun r__ => retK (buildS w_szStateS_r0 [.i r__, .n h0_n, .f h0]) K) := by kernel_rfl
def E_w_szStateS (α : Type) (N : Nat) : Env α := (E0 α N).addFun 23 true 1 w_szStateS_a (fun l K => match l with
    | [.n a_n, .n a_l, .n a_c, .i left, .n h0_n, .f h0] => w_szStateS none N a_n a_l a_c left h0_n h0 (fun r__ => retK (buildS w_szStateS_r0 [.i r__, .n h0_n, .f h0]) K)
    | _ => none)
theorem E_w_szStateS_ok {α : Type} (N : Nat) : EnvOk Try.prog (E_w_szStateS α N) := (E0_ok N).addFun prog_mixed prog_names (d := 1) fun l K r h => by
  split at h
  · exact (w_szStateS_run N _ _ _ _ _ _ K).trans h
  · cases h

def A_w_toByteA8_l0 (α : Type) (N : Nat) : Env α := (E_w_szStateS α N).addAnn 62 3 { head := [1, 2, 3, 4], grow := [], out := [2, 3], ret := [2] }
theorem A_w_toByteA8_l0_ok {α : Type} (N : Nat) : EnvOk Try.prog (A_w_toByteA8_l0 α N) := (E_w_szStateS_ok N).addAnn

/-- laws.toByteA8, loop -/
def w_toByteA8_l0_p : SPat := ⟨[.undef, .ptr ⟨0, 0, 0, 8⟩, .ptr ⟨1, 0, 0, 8⟩, .ptr ⟨2, 0, 0, 8⟩, .int .i64] ++ List.replicate 10 .undef, [[.ints .u8 8], [.ints .u8 8], [.ints .u8 8]]⟩
def w_toByteA8_l0_o0 : SPat := ⟨[.undef, .undef, .ptr ⟨1, 0, 0, 8⟩, .ptr ⟨2, 0, 0, 8⟩] ++ List.replicate 11 .undef, [[.ints .u8 8], [.ints .u8 8], [.ints .u8 8]]⟩
theorem w_toByteA8_l0_round {α : Type} (N : Nat) (i : Int) (h0 : Nat → Int) (h1 : Nat → Int) (h2 : Nat → Int) (kn : St → Option α) (K : AExit → St → Option α) :
    roundK Try.prog (A_w_toByteA8_l0 α N) 1 0 62 Try.f62 3 3 (buildS w_toByteA8_l0_p [.i i, .f h0, .f h1, .f h2]) kn K = w_toByteA8_l0_s none h0 h1 i h2 (fun i h2 => kn (buildS w_toByteA8_l0_p [.i i, .f h0, .f h1, .f h2])) (fun h2_ => K (.exit 0) (buildS w_toByteA8_l0_o0 [.f h0, .f h1, .f h2_])) := by kernel_rfl
theorem w_toByteA8_l0_loop {α : Type} (N : Nat) (h0 : Nat → Int) (h1 : Nat → Int) (K : AExit → St → Option α) : ∀ (m : Nat) (i : Int) (h2 : Nat → Int),
    loopN (trimSt ((A_w_toByteA8_l0 α N).ann 62 3).head ((A_w_toByteA8_l0 α N).ann 62 3).grow 3) (bodyK Try.prog (A_w_toByteA8_l0 α N) 1 0 62 Try.f62 3) m (buildS w_toByteA8_l0_p [.i i, .f h0, .f h1, .f h2]) (leaveLoop ((A_w_toByteA8_l0 α N).ann 62 3) 3 K) = w_toByteA8_l0 none h0 h1 m i h2 (fun h2_ => K (.exit 0) (buildS w_toByteA8_l0_o0 [.f h0, .f h1, .f h2_])) := by
  intro m
  induction m with
  | zero => intros; rfl
  | succ m ih =>
    intro i h2
    rw [loopN_round]
    refine (w_toByteA8_l0_round N i h0 h1 h2 _ K).trans ?_
    simp only [ih]
    rfl
def E_w_toByteA8_l0 (α : Type) (N : Nat) : Env α := (A_w_toByteA8_l0 α N).addLoop2 62 3 (loopSum2 ((A_w_toByteA8_l0 α N).ann 62 3) 0 w_toByteA8_l0_p (fun l K => match l with
    | [.i i, .f h0, .f h1, .f h2] => w_toByteA8_l0 none h0 h1 N i h2 (fun h2_ => K (.exit 0) (buildS w_toByteA8_l0_o0 [.f h0, .f h1, .f h2_]))
    | _ => none) ((A_w_toByteA8_l0 α N).ls 62 3))
theorem E_w_toByteA8_l0_ok {α : Type} (N : Nat) : EnvOk Try.prog (E_w_toByteA8_l0 α N) := (A_w_toByteA8_l0_ok N).addLoop2 Try.func62 (by kernel_rfl) (loopSum_ok prog_mixed prog_names (A_w_toByteA8_l0_ok N) Try.func62 (by kernel_rfl) (d := 1) (ro := 0) fun l K r h => by
  split at h
  · exact (w_toByteA8_l0_loop N _ _ K N _ _).trans h
  · cases h)

/-- laws.toByteA8 -/
def w_toByteA8_a : SPat := ⟨[.agg [.ints .u8 8]], []⟩
def w_toByteA8_r0 : SPat := ⟨[.agg [.ints .u8 8]], []⟩
theorem w_toByteA8_run {α : Type} (N : Nat) (a : Nat → Int) (K : AV → Heap → Option α) :
    callK Try.prog (E_w_toByteA8_l0 α N) 1 62 0 (buildS w_toByteA8_a [.f a]).t (buildS w_toByteA8_a [.f a]).h K = w_toByteA8 none N a (fun r__ => retK (buildS w_toByteA8_r0 [.f r__]) K) := by kernel_rfl
def E_w_toByteA8 (α : Type) (N : Nat) : Env α := (E_w_toByteA8_l0 α N).addFun 62 true 0 w_toByteA8_a (fun l K => match l with
    | [.f a] => w_toByteA8 none N a (fun r__ => retK (buildS w_toByteA8_r0 [.f r__]) K)
    | _ => none)
theorem E_w_toByteA8_ok {α : Type} (N : Nat) : EnvOk Try.prog (E_w_toByteA8 α N) := (E_w_toByteA8_l0_ok N).addFun prog_mixed prog_names (d := 1) fun l K r h => by
  split at h
  · exact (w_toByteA8_run N _ K).trans h
  · cases h

/-- laws.toGrid -/
def w_toGrid_a : SPat := ⟨[.agg [.vals [.int .i64], .ints .u8 8, .ints .u8 8]], []⟩
def w_toGrid_r0 : SPat := ⟨[.agg [.vals [.int .i64], .ints .u8 8, .ints .u8 8]], []⟩
theorem w_toGrid_run {α : Type} (N : Nat) (a_0 : Int) (a_1 : Nat → Int) (a_2 : Nat → Int) (K : AV → Heap → Option α) :
    callK Try.prog (E_w_toByteA8 α N) 1 15 0 (buildS w_toGrid_a [.i a_0, .f a_1, .f a_2]).t (buildS w_toGrid_a [.i a_0, .f a_1, .f a_2]).h K = w_toGrid none N a_0 a_1 a_2 (fun r_1_ r_2_ => retK (buildS w_toGrid_r0 [.i a_0, .f r_1_, .f r_2_]) K) := by kernel_rfl
def E_w_toGrid (α : Type) (N : Nat) : Env α := (E_w_toByteA8 α N).addFun 15 true 0 w_toGrid_a (fun l K => match l with
    | [.i a_0, .f a_1, .f a_2] => w_toGrid none N a_0 a_1 a_2 (fun r_1_ r_2_ => retK (buildS w_toGrid_r0 [.i a_0, .f r_1_, .f r_2_]) K)
    | _ => none)
theorem E_w_toGrid_ok {α : Type} (N : Nat) : EnvOk Try.prog (E_w_toGrid α N) := (E_w_toByteA8_ok N).addFun prog_mixed prog_names (d := 1) fun l K r h => by
  split at h
  · exact (w_toGrid_run N _ _ _ K).trans h
  · cases h

def A_w_toStateS_l0 (α : Type) (N : Nat) : Env α := (E_w_toGrid α N).addAnn 25 3 { head := [0, 3, 4], grow := [], out := [3], ret := [2] }
theorem A_w_toStateS_l0_ok {α : Type} (N : Nat) : EnvOk Try.prog (A_w_toStateS_l0 α N) := (E_w_toGrid_ok N).addAnn

def A_w_toState_l0 (α : Type) (N : Nat) : Env α := (A_w_toStateS_l0 α N).addAnn 16 3 { head := [1, 2, 3, 4], grow := [], out := [2, 3], ret := [2] }
theorem A_w_toState_l0_ok {α : Type} (N : Nat) : EnvOk Try.prog (A_w_toState_l0 α N) := (A_w_toStateS_l0_ok N).addAnn

/-- laws.toState, loop -/
def w_toState_l0_p : SPat := ⟨[.undef, .ptr ⟨0, 0, 0, 8⟩, .ptr ⟨1, 0, 0, 8⟩, .ptr ⟨2, 0, 0, 8⟩, .int .i64] ++ List.replicate 10 .undef, [[.ints .u8 8], [.ints .u8 8], [.ints .u8 8]]⟩
def w_toState_l0_o0 : SPat := ⟨[.undef, .undef, .ptr ⟨1, 0, 0, 8⟩, .ptr ⟨2, 0, 0, 8⟩] ++ List.replicate 11 .undef, [[.ints .u8 8], [.ints .u8 8], [.ints .u8 8]]⟩
theorem w_toState_l0_round {α : Type} (N : Nat) (i : Int) (h0 : Nat → Int) (h1 : Nat → Int) (h2 : Nat → Int) (kn : St → Option α) (K : AExit → St → Option α) :
    roundK Try.prog (A_w_toState_l0 α N) 1 0 16 Try.f16 3 3 (buildS w_toState_l0_p [.i i, .f h0, .f h1, .f h2]) kn K = w_toState_l0_s none h0 h1 i h2 (fun i h2 => kn (buildS w_toState_l0_p [.i i, .f h0, .f h1, .f h2])) (fun h2_ => K (.exit 0) (buildS w_toState_l0_o0 [.f h0, .f h1, .f h2_])) := by kernel_rfl
theorem w_toState_l0_loop {α : Type} (N : Nat) (h0 : Nat → Int) (h1 : Nat → Int) (K : AExit → St → Option α) : ∀ (m : Nat) (i : Int) (h2 : Nat → Int),
    loopN (trimSt ((A_w_toState_l0 α N).ann 16 3).head ((A_w_toState_l0 α N).ann 16 3).grow 3) (bodyK Try.prog (A_w_toState_l0 α N) 1 0 16 Try.f16 3) m (buildS w_toState_l0_p [.i i, .f h0, .f h1, .f h2]) (leaveLoop ((A_w_toState_l0 α N).ann 16 3) 3 K) = w_toState_l0 none h0 h1 m i h2 (fun h2_ => K (.exit 0) (buildS w_toState_l0_o0 [.f h0, .f h1, .f h2_])) := by
  intro m
  induction m with
  | zero => intros; rfl
  | succ m ih =>
    intro i h2
    rw [loopN_round]
    refine (w_toState_l0_round N i h0 h1 h2 _ K).trans ?_
    simp only [ih]
    rfl
def E_w_toState_l0 (α : Type) (N : Nat) : Env α := (A_w_toState_l0 α N).addLoop2 16 3 (loopSum2 ((A_w_toState_l0 α N).ann 16 3) 0 w_toState_l0_p (fun l K => match l with
    | [.i i, .f h0, .f h1, .f h2] => w_toState_l0 none h0 h1 N i h2 (fun h2_ => K (.exit 0) (buildS w_toState_l0_o0 [.f h0, .f h1, .f h2_]))
    | _ => none) ((A_w_toState_l0 α N).ls 16 3))
theorem E_w_toState_l0_ok {α : Type} (N : Nat) : EnvOk Try.prog (E_w_toState_l0 α N) := (A_w_toState_l0_ok N).addLoop2 Try.func16 (by kernel_rfl) (loopSum_ok prog_mixed prog_names (A_w_toState_l0_ok N) Try.func16 (by kernel_rfl) (d := 1) (ro := 0) fun l K r h => by
  split at h
  · exact (w_toState_l0_loop N _ _ K N _ _).trans h
  · cases h)

/-- laws.toState -/
def w_toState_a : SPat := ⟨[.agg [.ints .u8 8]], []⟩
def w_toState_r0 : SPat := ⟨[.agg [.ints .u8 8]], []⟩
theorem w_toState_run {α : Type} (N : Nat) (a : Nat → Int) (K : AV → Heap → Option α) :
    callK Try.prog (E_w_toState_l0 α N) 1 16 0 (buildS w_toState_a [.f a]).t (buildS w_toState_a [.f a]).h K = w_toState none N a (fun r__ => retK (buildS w_toState_r0 [.f r__]) K) := by kernel_rfl
def E_w_toState (α : Type) (N : Nat) : Env α := (E_w_toState_l0 α N).addFun 16 true 0 w_toState_a (fun l K => match l with
    | [.f a] => w_toState none N a (fun r__ => retK (buildS w_toState_r0 [.f r__]) K)
    | _ => none)
theorem E_w_toState_ok {α : Type} (N : Nat) : EnvOk Try.prog (E_w_toState α N) := (E_w_toState_l0_ok N).addFun prog_mixed prog_names (d := 1) fun l K r h => by
  split at h
  · exact (w_toState_run N _ K).trans h
  · cases h

/-- laws.toStateS, loop -/
def w_toStateS_l0_p : SPat := ⟨[.sliceV 0 0 0 8 false, .undef, .undef, .sliceV 1 0 0 8 true, .int .i64] ++ List.replicate 18 .undef, [[.intsV .u8], [.intsV .u8]]⟩
def w_toStateS_l0_o0 : SPat := ⟨[.undef, .undef, .undef, .sliceV 1 0 0 8 true] ++ List.replicate 19 .undef, [[.intsV .u8], [.intsV .u8]]⟩
theorem w_toStateS_l0_round {α : Type} (N : Nat) (a_n : Nat) (a_l : Nat) (a_c : Nat) (out_n : Nat) (out_l : Nat) (out_c : Nat) (i : Int) (h0_n : Nat) (h0 : Nat → Int) (h1_n : Nat) (h1 : Nat → Int) (kn : St → Option α) (K : AExit → St → Option α) :
    roundK Try.prog (E_w_toState α N) 1 1 25 Try.f25 3 2 (buildS w_toStateS_l0_p [.n a_n, .n a_l, .n a_c, .n out_n, .n out_l, .n out_c, .i i, .n h0_n, .f h0, .n h1_n, .f h1]) kn K = w_toStateS_l0_s none N a_n a_l a_c out_n out_l out_c h0_n h0 h1_n i h1 (fun i h1 => kn (buildS w_toStateS_l0_p [.n a_n, .n a_l, .n a_c, .n out_n, .n out_l, .n out_c, .i i, .n h0_n, .f h0, .n h1_n, .f h1])) (fun h1_ => K (.exit 0) (buildS w_toStateS_l0_o0 [.n out_n, .n out_l, .n out_c, .n h0_n, .f h0, .n h1_n, .f h1_])) := by kernel_rfl
theorem w_toStateS_l0_loop {α : Type} (N : Nat) (a_n : Nat) (a_l : Nat) (a_c : Nat) (out_n : Nat) (out_l : Nat) (out_c : Nat) (h0_n : Nat) (h0 : Nat → Int) (h1_n : Nat) (K : AExit → St → Option α) : ∀ (m : Nat) (i : Int) (h1 : Nat → Int),
    loopN (trimSt ((E_w_toState α N).ann 25 3).head ((E_w_toState α N).ann 25 3).grow 2) (bodyK Try.prog (E_w_toState α N) 1 1 25 Try.f25 3) m (buildS w_toStateS_l0_p [.n a_n, .n a_l, .n a_c, .n out_n, .n out_l, .n out_c, .i i, .n h0_n, .f h0, .n h1_n, .f h1]) (leaveLoop ((E_w_toState α N).ann 25 3) 2 K) = w_toStateS_l0 none N a_n a_l a_c out_n out_l out_c h0_n h0 h1_n m i h1 (fun h1_ => K (.exit 0) (buildS w_toStateS_l0_o0 [.n out_n, .n out_l, .n out_c, .n h0_n, .f h0, .n h1_n, .f h1_])) := by
  intro m
  induction m with
  | zero => intros; rfl
  | succ m ih =>
    intro i h1
    rw [loopN_round]
    refine (w_toStateS_l0_round N a_n a_l a_c out_n out_l out_c i h0_n h0 h1_n h1 _ K).trans ?_
    simp only [ih]
    rfl
def E_w_toStateS_l0 (α : Type) (N : Nat) : Env α := (E_w_toState α N).addLoop2 25 3 (loopSum2 ((E_w_toState α N).ann 25 3) 1 w_toStateS_l0_p (fun l K => match l with
    | [.n a_n, .n a_l, .n a_c, .n out_n, .n out_l, .n out_c, .i i, .n h0_n, .f h0, .n h1_n, .f h1] => w_toStateS_l0 none N a_n a_l a_c out_n out_l out_c h0_n h0 h1_n N i h1 (fun h1_ => K (.exit 0) (buildS w_toStateS_l0_o0 [.n out_n, .n out_l, .n out_c, .n h0_n, .f h0, .n h1_n, .f h1_]))
    | _ => none) ((E_w_toState α N).ls 25 3))
theorem E_w_toStateS_l0_ok {α : Type} (N : Nat) : EnvOk Try.prog (E_w_toStateS_l0 α N) := (E_w_toState_ok N).addLoop2 Try.func25 (by kernel_rfl) (loopSum_ok prog_mixed prog_names (E_w_toState_ok N) Try.func25 (by kernel_rfl) (d := 1) (ro := 1) fun l K r h => by
  split at h
  · exact (w_toStateS_l0_loop N _ _ _ _ _ _ _ _ _ K N _ _).trans h
  · cases h)

/-- laws.toStateS -/
def w_toStateS_a : SPat := ⟨[.sliceV 0 0 0 8 false], [[.intsV .u8]]⟩
def w_toStateS_r0 : SPat := ⟨[.sliceV 1 0 0 8 true], [[.intsV .u8], [.intsV .u8]]⟩
theorem w_toStateS_run {α : Type} (N : Nat) (a_n : Nat) (a_l : Nat) (a_c : Nat) (h0_n : Nat) (h0 : Nat → Int) (K : AV → Heap → Option α) :
    callK Try.prog (E_w_toStateS_l0 α N) 1 25 1 (buildS w_toStateS_a [.n a_n, .n a_l, .n a_c, .n h0_n, .f h0]).t (buildS w_toStateS_a [.n a_n, .n a_l, .n a_c, .n h0_n, .f h0]).h K = w_toStateS none N a_n a_l a_c h0_n h0 (fun r_n_ r_l_ r_c_ h1_n_ h1_ => retK (buildS w_toStateS_r0 [.n r_n_, .n r_l_, .n r_c_, .n h0_n, .f h0, .n h1_n_, .f h1_]) K) := by kernel_rfl
def E_w_toStateS (α : Type) (N : Nat) : Env α := (E_w_toStateS_l0 α N).addFun 25 true 1 w_toStateS_a (fun l K => match l with
    | [.n a_n, .n a_l, .n a_c, .n h0_n, .f h0] => w_toStateS none N a_n a_l a_c h0_n h0 (fun r_n_ r_l_ r_c_ h1_n_ h1_ => retK (buildS w_toStateS_r0 [.n r_n_, .n r_l_, .n r_c_, .n h0_n, .f h0, .n h1_n_, .f h1_]) K)
    | _ => none)
theorem E_w_toStateS_ok {α : Type} (N : Nat) : EnvOk Try.prog (E_w_toStateS α N) := (E_w_toStateS_l0_ok N).addFun prog_mixed prog_names (d := 1) fun l K r h => by
  split at h
  · exact (w_toStateS_run N _ _ _ _ _ K).trans h
  · cases h

/-- spec.l01In -/
def s_l01In_a : SPat := ⟨[.int .i64, .int .i64, .int .i64], []⟩
def s_l01In_r0 : SPat := ⟨[.bool], []⟩
theorem s_l01In_run {α : Type} (N : Nat) (n : Int) (low : Int) (high : Int) (K : AV → Heap → Option α) :
    callK Try.prog (E_w_toStateS α N) 1 92 0 (buildS s_l01In_a [.i n, .i low, .i high]).t (buildS s_l01In_a [.i n, .i low, .i high]).h K = s_l01In none N n low high (fun r__ => retK (buildS s_l01In_r0 [.b r__]) K) := by kernel_rfl
def E_s_l01In (α : Type) (N : Nat) : Env α := (E_w_toStateS α N).addFun 92 true 0 s_l01In_a (fun l K => match l with
    | [.i n, .i low, .i high] => s_l01In none N n low high (fun r__ => retK (buildS s_l01In_r0 [.b r__]) K)
    | _ => none)
theorem E_s_l01In_ok {α : Type} (N : Nat) : EnvOk Try.prog (E_s_l01In α N) := (E_w_toStateS_ok N).addFun prog_mixed prog_names (d := 1) fun l K r h => by
  split at h
  · exact (s_l01In_run N _ _ _ K).trans h
  · cases h

def A_s_l01Perm_l0 (α : Type) (N : Nat) : Env α := (E_s_l01In α N).addAnn 122 3 { head := [1, 2, 5, 6], grow := [], out := [], ret := [4] }
theorem A_s_l01Perm_l0_ok {α : Type} (N : Nat) : EnvOk Try.prog (A_s_l01Perm_l0 α N) := (E_s_l01In_ok N).addAnn

/-- spec.l01Perm, loop -/
def s_l01Perm_l0_p : SPat := ⟨[.undef, .int .i64, .ptr ⟨0, 0, 0, 8⟩, .undef, .undef, .ptr ⟨1, 0, 0, 8⟩, .int .i64] ++ List.replicate 29 .undef, [[.ints .u8 8], [.bools 8]]⟩
def s_l01Perm_l0_o0 : SPat := ⟨[.undef, .undef, .undef, .undef, .boolC false] ++ List.replicate 31 .undef, [[.ints .u8 8], [.bools 8]]⟩
def s_l01Perm_l0_o1 : SPat := ⟨[] ++ List.replicate 36 .undef, [[.ints .u8 8], [.bools 8]]⟩
theorem s_l01Perm_l0_round {α : Type} (N : Nat) (n : Int) (i : Int) (h0 : Nat → Int) (h1 : Nat → Bool) (kn : St → Option α) (K : AExit → St → Option α) :
    roundK Try.prog (A_s_l01Perm_l0 α N) 1 0 122 Try.f122 3 2 (buildS s_l01Perm_l0_p [.i n, .i i, .f h0, .g h1]) kn K = s_l01Perm_l0_s none n h0 i h1 (fun i h1 => kn (buildS s_l01Perm_l0_p [.i n, .i i, .f h0, .g h1])) (fun h1_ => K .ret (buildS s_l01Perm_l0_o0 [.f h0, .g h1_])) (fun h1_ => K (.exit 0) (buildS s_l01Perm_l0_o1 [.f h0, .g h1_])) := by kernel_rfl
theorem s_l01Perm_l0_loop {α : Type} (N : Nat) (n : Int) (h0 : Nat → Int) (K : AExit → St → Option α) : ∀ (m : Nat) (i : Int) (h1 : Nat → Bool),
    loopN (trimSt ((A_s_l01Perm_l0 α N).ann 122 3).head ((A_s_l01Perm_l0 α N).ann 122 3).grow 2) (bodyK Try.prog (A_s_l01Perm_l0 α N) 1 0 122 Try.f122 3) m (buildS s_l01Perm_l0_p [.i n, .i i, .f h0, .g h1]) (leaveLoop ((A_s_l01Perm_l0 α N).ann 122 3) 2 K) = s_l01Perm_l0 none n h0 m i h1 (fun h1_ => K .ret (buildS s_l01Perm_l0_o0 [.f h0, .g h1_])) (fun h1_ => K (.exit 0) (buildS s_l01Perm_l0_o1 [.f h0, .g h1_])) := by
  intro m
  induction m with
  | zero => intros; rfl
  | succ m ih =>
    intro i h1
    rw [loopN_round]
    refine (s_l01Perm_l0_round N n i h0 h1 _ K).trans ?_
    simp only [ih]
    rfl
def E_s_l01Perm_l0 (α : Type) (N : Nat) : Env α := (A_s_l01Perm_l0 α N).addLoop2 122 3 (loopSum2 ((A_s_l01Perm_l0 α N).ann 122 3) 0 s_l01Perm_l0_p (fun l K => match l with
    | [.i n, .i i, .f h0, .g h1] => s_l01Perm_l0 none n h0 N i h1 (fun h1_ => K .ret (buildS s_l01Perm_l0_o0 [.f h0, .g h1_])) (fun h1_ => K (.exit 0) (buildS s_l01Perm_l0_o1 [.f h0, .g h1_]))
    | _ => none) ((A_s_l01Perm_l0 α N).ls 122 3))
theorem E_s_l01Perm_l0_ok {α : Type} (N : Nat) : EnvOk Try.prog (E_s_l01Perm_l0 α N) := (A_s_l01Perm_l0_ok N).addLoop2 Try.func122 (by kernel_rfl) (loopSum_ok prog_mixed prog_names (A_s_l01Perm_l0_ok N) Try.func122 (by kernel_rfl) (d := 1) (ro := 0) fun l K r h => by
  split at h
  · exact (s_l01Perm_l0_loop N _ _ K N _ _).trans h
  · cases h)

/-- spec.l01Perm -/
def s_l01Perm_a : SPat := ⟨[.agg [.ints .u8 8], .int .i64], []⟩
def s_l01Perm_r0 : SPat := ⟨[.bool], []⟩
theorem s_l01Perm_run {α : Type} (N : Nat) (list : Nat → Int) (n : Int) (K : AV → Heap → Option α) :
    callK Try.prog (E_s_l01Perm_l0 α N) 1 122 0 (buildS s_l01Perm_a [.f list, .i n]).t (buildS s_l01Perm_a [.f list, .i n]).h K = s_l01Perm none N list n (fun r__ => retK (buildS s_l01Perm_r0 [.b r__]) K) := by kernel_rfl
def E_s_l01Perm (α : Type) (N : Nat) : Env α := (E_s_l01Perm_l0 α N).addFun 122 true 0 s_l01Perm_a (fun l K => match l with
    | [.f list, .i n] => s_l01Perm none N list n (fun r__ => retK (buildS s_l01Perm_r0 [.b r__]) K)
    | _ => none)
theorem E_s_l01Perm_ok {α : Type} (N : Nat) : EnvOk Try.prog (E_s_l01Perm α N) := (E_s_l01Perm_l0_ok N).addFun prog_mixed prog_names (d := 1) fun l K r h => by
  split at h
  · exact (s_l01Perm_run N _ _ K).trans h
  · cases h

def A_s_l01Is_l0 (α : Type) (N : Nat) : Env α := (E_s_l01Perm α N).addAnn 66 4 { head := [1, 3], grow := [], out := [], ret := [2] }
theorem A_s_l01Is_l0_ok {α : Type} (N : Nat) : EnvOk Try.prog (A_s_l01Is_l0 α N) := (E_s_l01Perm_ok N).addAnn

/-- spec.l01Is, loop -/
def s_l01Is_l0_p : SPat := ⟨[.undef, .ptr ⟨0, 0, 0, 1⟩, .undef, .int .i64] ++ List.replicate 35 .undef, [[.vals [.int .i64], .ints .u8 8, .ints .u8 8]]⟩
def s_l01Is_l0_o0 : SPat := ⟨[.undef, .undef, .boolC false] ++ List.replicate 36 .undef, [[.vals [.int .i64], .ints .u8 8, .ints .u8 8]]⟩
def s_l01Is_l0_o1 : SPat := ⟨[] ++ List.replicate 39 .undef, [[.vals [.int .i64], .ints .u8 8, .ints .u8 8]]⟩
theorem s_l01Is_l0_round {α : Type} (N : Nat) (i : Int) (h0_0 : Int) (h0_1 : Nat → Int) (h0_2 : Nat → Int) (kn : St → Option α) (K : AExit → St → Option α) :
    roundK Try.prog (A_s_l01Is_l0 α N) 1 0 66 Try.f66 4 1 (buildS s_l01Is_l0_p [.i i, .i h0_0, .f h0_1, .f h0_2]) kn K = s_l01Is_l0_s none h0_0 h0_1 h0_2 i (fun i => kn (buildS s_l01Is_l0_p [.i i, .i h0_0, .f h0_1, .f h0_2])) (K .ret (buildS s_l01Is_l0_o0 [.i h0_0, .f h0_1, .f h0_2])) (K (.exit 0) (buildS s_l01Is_l0_o1 [.i h0_0, .f h0_1, .f h0_2])) := by kernel_rfl
theorem s_l01Is_l0_loop {α : Type} (N : Nat) (h0_0 : Int) (h0_1 : Nat → Int) (h0_2 : Nat → Int) (K : AExit → St → Option α) : ∀ (m : Nat) (i : Int),
    loopN (trimSt ((A_s_l01Is_l0 α N).ann 66 4).head ((A_s_l01Is_l0 α N).ann 66 4).grow 1) (bodyK Try.prog (A_s_l01Is_l0 α N) 1 0 66 Try.f66 4) m (buildS s_l01Is_l0_p [.i i, .i h0_0, .f h0_1, .f h0_2]) (leaveLoop ((A_s_l01Is_l0 α N).ann 66 4) 1 K) = s_l01Is_l0 none h0_0 h0_1 h0_2 m i (K .ret (buildS s_l01Is_l0_o0 [.i h0_0, .f h0_1, .f h0_2])) (K (.exit 0) (buildS s_l01Is_l0_o1 [.i h0_0, .f h0_1, .f h0_2])) := by
  intro m
  induction m with
  | zero => intros; rfl
  | succ m ih =>
    intro i
    rw [loopN_round]
    refine (s_l01Is_l0_round N i h0_0 h0_1 h0_2 _ K).trans ?_
    simp only [ih]
    rfl
def E_s_l01Is_l0 (α : Type) (N : Nat) : Env α := (A_s_l01Is_l0 α N).addLoop2 66 4 (loopSum2 ((A_s_l01Is_l0 α N).ann 66 4) 0 s_l01Is_l0_p (fun l K => match l with
    | [.i i, .i h0_0, .f h0_1, .f h0_2] => s_l01Is_l0 none h0_0 h0_1 h0_2 N i (K .ret (buildS s_l01Is_l0_o0 [.i h0_0, .f h0_1, .f h0_2])) (K (.exit 0) (buildS s_l01Is_l0_o1 [.i h0_0, .f h0_1, .f h0_2]))
    | _ => none) ((A_s_l01Is_l0 α N).ls 66 4))
theorem E_s_l01Is_l0_ok {α : Type} (N : Nat) : EnvOk Try.prog (E_s_l01Is_l0 α N) := (A_s_l01Is_l0_ok N).addLoop2 Try.func66 (by kernel_rfl) (loopSum_ok prog_mixed prog_names (A_s_l01Is_l0_ok N) Try.func66 (by kernel_rfl) (d := 1) (ro := 0) fun l K r h => by
  split at h
  · exact (s_l01Is_l0_loop N _ _ _ K N _).trans h
  · cases h)

/-- spec.l01Is -/
def s_l01Is_a : SPat := ⟨[.agg [.vals [.int .i64], .ints .u8 8, .ints .u8 8]], []⟩
def s_l01Is_r0 : SPat := ⟨[.bool], []⟩
theorem s_l01Is_run {α : Type} (N : Nat) (g_0 : Int) (g_1 : Nat → Int) (g_2 : Nat → Int) (K : AV → Heap → Option α) :
    callK Try.prog (E_s_l01Is_l0 α N) 1 66 0 (buildS s_l01Is_a [.i g_0, .f g_1, .f g_2]).t (buildS s_l01Is_a [.i g_0, .f g_1, .f g_2]).h K = s_l01Is none N g_0 g_1 g_2 (fun r__ => retK (buildS s_l01Is_r0 [.b r__]) K) := by kernel_rfl
def E_s_l01Is (α : Type) (N : Nat) : Env α := (E_s_l01Is_l0 α N).addFun 66 true 0 s_l01Is_a (fun l K => match l with
    | [.i g_0, .f g_1, .f g_2] => s_l01Is none N g_0 g_1 g_2 (fun r__ => retK (buildS s_l01Is_r0 [.b r__]) K)
    | _ => none)
theorem E_s_l01Is_ok {α : Type} (N : Nat) : EnvOk Try.prog (E_s_l01Is α N) := (E_s_l01Is_l0_ok N).addFun prog_mixed prog_names (d := 1) fun l K r h => by
  split at h
  · exact (s_l01Is_run N _ _ _ K).trans h
  · cases h

def A_s_l06Sum_l0 (α : Type) (N : Nat) : Env α := (E_s_l01Is α N).addAnn 73 4 { head := [1, 2, 5], grow := [], out := [], ret := [4] }
theorem A_s_l06Sum_l0_ok {α : Type} (N : Nat) : EnvOk Try.prog (A_s_l06Sum_l0 α N) := (E_s_l01Is_ok N).addAnn

/-- spec.l05Is -/
def s_l05Is_a : SPat := ⟨[.agg [.vals [.int .i64], .ints .u8 8, .ints .u8 8], .agg [.ints .u8 8]], []⟩
def s_l05Is_r0 : SPat := ⟨[.bool], []⟩
theorem s_l05Is_run {α : Type} (N : Nat) (g_0 : Int) (g_1 : Nat → Int) (g_2 : Nat → Int) (x : Nat → Int) (K : AV → Heap → Option α) :
    callK Try.prog (A_s_l06Sum_l0 α N) 1 60 0 (buildS s_l05Is_a [.i g_0, .f g_1, .f g_2, .f x]).t (buildS s_l05Is_a [.i g_0, .f g_1, .f g_2, .f x]).h K = s_l05Is none N g_0 g_1 g_2 x (fun r__ => retK (buildS s_l05Is_r0 [.b r__]) K) := by kernel_rfl
def E_s_l05Is (α : Type) (N : Nat) : Env α := (A_s_l06Sum_l0 α N).addFun 60 true 0 s_l05Is_a (fun l K => match l with
    | [.i g_0, .f g_1, .f g_2, .f x] => s_l05Is none N g_0 g_1 g_2 x (fun r__ => retK (buildS s_l05Is_r0 [.b r__]) K)
    | _ => none)
theorem E_s_l05Is_ok {α : Type} (N : Nat) : EnvOk Try.prog (E_s_l05Is α N) := (A_s_l06Sum_l0_ok N).addFun prog_mixed prog_names (d := 1) fun l K r h => by
  split at h
  · exact (s_l05Is_run N _ _ _ _ K).trans h
  · cases h

def A_s_l05Before_l0 (α : Type) (N : Nat) : Env α := (E_s_l05Is α N).addAnn 125 2 { head := [2, 3, 5], grow := [], out := [], ret := [4] }
theorem A_s_l05Before_l0_ok {α : Type} (N : Nat) : EnvOk Try.prog (A_s_l05Before_l0 α N) := (E_s_l05Is_ok N).addAnn

/-- spec.l05Before, loop -/
def s_l05Before_l0_p : SPat := ⟨[.undef, .undef, .ptr ⟨0, 0, 0, 8⟩, .ptr ⟨1, 0, 0, 8⟩, .undef, .int .i64] ++ List.replicate 18 .undef, [[.ints .u8 8], [.ints .u8 8]]⟩
def s_l05Before_l0_o0 : SPat := ⟨[.undef, .undef, .undef, .undef, .bool] ++ List.replicate 19 .undef, [[.ints .u8 8], [.ints .u8 8]]⟩
def s_l05Before_l0_o1 : SPat := ⟨[] ++ List.replicate 24 .undef, [[.ints .u8 8], [.ints .u8 8]]⟩
theorem s_l05Before_l0_round {α : Type} (N : Nat) (i : Int) (h0 : Nat → Int) (h1 : Nat → Int) (kn : St → Option α) (K : AExit → St → Option α) :
    roundK Try.prog (A_s_l05Before_l0 α N) 1 0 125 Try.f125 2 2 (buildS s_l05Before_l0_p [.i i, .f h0, .f h1]) kn K = s_l05Before_l0_s none h0 h1 i (fun i => kn (buildS s_l05Before_l0_p [.i i, .f h0, .f h1])) (fun t4_ => K .ret (buildS s_l05Before_l0_o0 [.b t4_, .f h0, .f h1])) (K (.exit 0) (buildS s_l05Before_l0_o1 [.f h0, .f h1])) := by kernel_rfl
theorem s_l05Before_l0_loop {α : Type} (N : Nat) (h0 : Nat → Int) (h1 : Nat → Int) (K : AExit → St → Option α) : ∀ (m : Nat) (i : Int),
    loopN (trimSt ((A_s_l05Before_l0 α N).ann 125 2).head ((A_s_l05Before_l0 α N).ann 125 2).grow 2) (bodyK Try.prog (A_s_l05Before_l0 α N) 1 0 125 Try.f125 2) m (buildS s_l05Before_l0_p [.i i, .f h0, .f h1]) (leaveLoop ((A_s_l05Before_l0 α N).ann 125 2) 2 K) = s_l05Before_l0 none h0 h1 m i (fun t4_ => K .ret (buildS s_l05Before_l0_o0 [.b t4_, .f h0, .f h1])) (K (.exit 0) (buildS s_l05Before_l0_o1 [.f h0, .f h1])) := by
  intro m
  induction m with
  | zero => intros; rfl
  | succ m ih =>
    intro i
    rw [loopN_round]
    refine (s_l05Before_l0_round N i h0 h1 _ K).trans ?_
    simp only [ih]
    rfl
def E_s_l05Before_l0 (α : Type) (N : Nat) : Env α := (A_s_l05Before_l0 α N).addLoop2 125 2 (loopSum2 ((A_s_l05Before_l0 α N).ann 125 2) 0 s_l05Before_l0_p (fun l K => match l with
    | [.i i, .f h0, .f h1] => s_l05Before_l0 none h0 h1 N i (fun t4_ => K .ret (buildS s_l05Before_l0_o0 [.b t4_, .f h0, .f h1])) (K (.exit 0) (buildS s_l05Before_l0_o1 [.f h0, .f h1]))
    | _ => none) ((A_s_l05Before_l0 α N).ls 125 2))
theorem E_s_l05Before_l0_ok {α : Type} (N : Nat) : EnvOk Try.prog (E_s_l05Before_l0 α N) := (A_s_l05Before_l0_ok N).addLoop2 Try.func125 (by kernel_rfl) (loopSum_ok prog_mixed prog_names (A_s_l05Before_l0_ok N) Try.func125 (by kernel_rfl) (d := 1) (ro := 0) fun l K r h => by
  split at h
  · exact (s_l05Before_l0_loop N _ _ K N _).trans h
  · cases h)

/-- spec.l05Before -/
def s_l05Before_a : SPat := ⟨[.agg [.ints .u8 8], .agg [.ints .u8 8]], []⟩
def s_l05Before_r0 : SPat := ⟨[.bool], []⟩
theorem s_l05Before_run {α : Type} (N : Nat) (x : Nat → Int) (y : Nat → Int) (K : AV → Heap → Option α) :
    callK Try.prog (E_s_l05Before_l0 α N) 1 125 0 (buildS s_l05Before_a [.f x, .f y]).t (buildS s_l05Before_a [.f x, .f y]).h K = s_l05Before none N x y (fun r__ => retK (buildS s_l05Before_r0 [.b r__]) K) := by kernel_rfl
def E_s_l05Before (α : Type) (N : Nat) : Env α := (E_s_l05Before_l0 α N).addFun 125 true 0 s_l05Before_a (fun l K => match l with
    | [.f x, .f y] => s_l05Before none N x y (fun r__ => retK (buildS s_l05Before_r0 [.b r__]) K)
    | _ => none)
theorem E_s_l05Before_ok {α : Type} (N : Nat) : EnvOk Try.prog (E_s_l05Before α N) := (E_s_l05Before_l0_ok N).addFun prog_mixed prog_names (d := 1) fun l K r h => by
  split at h
  · exact (s_l05Before_run N _ _ K).trans h
  · cases h

/-- spec.l06Sum, loop -/
def s_l06Sum_l0_p : SPat := ⟨[.undef, .sliceV 0 0 0 8 true, .ptr ⟨1, 0, 0, 1⟩, .undef, .undef, .int .i64] ++ List.replicate 33 .undef, [[.intsV .u8], [.vals [.int .i64], .ints .u8 8, .ints .u8 8]]⟩
def s_l06Sum_l0_o0 : SPat := ⟨[.undef, .undef, .undef, .undef, .boolC false] ++ List.replicate 34 .undef, [[.intsV .u8], [.vals [.int .i64], .ints .u8 8, .ints .u8 8]]⟩
def s_l06Sum_l0_o1 : SPat := ⟨[] ++ List.replicate 39 .undef, [[.intsV .u8], [.vals [.int .i64], .ints .u8 8, .ints .u8 8]]⟩
theorem s_l06Sum_l0_round {α : Type} (N : Nat) (list_n : Nat) (list_l : Nat) (list_c : Nat) (i : Int) (h0_n : Nat) (h0 : Nat → Int) (h1_0 : Int) (h1_1 : Nat → Int) (h1_2 : Nat → Int) (kn : St → Option α) (K : AExit → St → Option α) :
    roundK Try.prog (E_s_l05Before α N) 1 1 73 Try.f73 4 2 (buildS s_l06Sum_l0_p [.n list_n, .n list_l, .n list_c, .i i, .n h0_n, .f h0, .i h1_0, .f h1_1, .f h1_2]) kn K = s_l06Sum_l0_s none N list_n list_l list_c h0_n h0 h1_0 h1_1 h1_2 i (fun i => kn (buildS s_l06Sum_l0_p [.n list_n, .n list_l, .n list_c, .i i, .n h0_n, .f h0, .i h1_0, .f h1_1, .f h1_2])) (K .ret (buildS s_l06Sum_l0_o0 [.n h0_n, .f h0, .i h1_0, .f h1_1, .f h1_2])) (K (.exit 0) (buildS s_l06Sum_l0_o1 [.n h0_n, .f h0, .i h1_0, .f h1_1, .f h1_2])) := by kernel_rfl
theorem s_l06Sum_l0_loop {α : Type} (N : Nat) (list_n : Nat) (list_l : Nat) (list_c : Nat) (h0_n : Nat) (h0 : Nat → Int) (h1_0 : Int) (h1_1 : Nat → Int) (h1_2 : Nat → Int) (K : AExit → St → Option α) : ∀ (m : Nat) (i : Int),
    loopN (trimSt ((E_s_l05Before α N).ann 73 4).head ((E_s_l05Before α N).ann 73 4).grow 2) (bodyK Try.prog (E_s_l05Before α N) 1 1 73 Try.f73 4) m (buildS s_l06Sum_l0_p [.n list_n, .n list_l, .n list_c, .i i, .n h0_n, .f h0, .i h1_0, .f h1_1, .f h1_2]) (leaveLoop ((E_s_l05Before α N).ann 73 4) 2 K) = s_l06Sum_l0 none N list_n list_l list_c h0_n h0 h1_0 h1_1 h1_2 m i (K .ret (buildS s_l06Sum_l0_o0 [.n h0_n, .f h0, .i h1_0, .f h1_1, .f h1_2])) (K (.exit 0) (buildS s_l06Sum_l0_o1 [.n h0_n, .f h0, .i h1_0, .f h1_1, .f h1_2])) := by
  intro m
  induction m with
  | zero => intros; rfl
  | succ m ih =>
    intro i
    rw [loopN_round]
    refine (s_l06Sum_l0_round N list_n list_l list_c i h0_n h0 h1_0 h1_1 h1_2 _ K).trans ?_
    simp only [ih]
    rfl
def E_s_l06Sum_l0 (α : Type) (N : Nat) : Env α := (E_s_l05Before α N).addLoop2 73 4 (loopSum2 ((E_s_l05Before α N).ann 73 4) 1 s_l06Sum_l0_p (fun l K => match l with
    | [.n list_n, .n list_l, .n list_c, .i i, .n h0_n, .f h0, .i h1_0, .f h1_1, .f h1_2] => s_l06Sum_l0 none N list_n list_l list_c h0_n h0 h1_0 h1_1 h1_2 N i (K .ret (buildS s_l06Sum_l0_o0 [.n h0_n, .f h0, .i h1_0, .f h1_1, .f h1_2])) (K (.exit 0) (buildS s_l06Sum_l0_o1 [.n h0_n, .f h0, .i h1_0, .f h1_1, .f h1_2]))
    | _ => none) ((E_s_l05Before α N).ls 73 4))
theorem E_s_l06Sum_l0_ok {α : Type} (N : Nat) : EnvOk Try.prog (E_s_l06Sum_l0 α N) := (E_s_l05Before_ok N).addLoop2 Try.func73 (by kernel_rfl) (loopSum_ok prog_mixed prog_names (E_s_l05Before_ok N) Try.func73 (by kernel_rfl) (d := 1) (ro := 1) fun l K r h => by
  split at h
  · exact (s_l06Sum_l0_loop N _ _ _ _ _ _ _ _ K N _).trans h
  · cases h)

/-- spec.l06Sum -/
def s_l06Sum_a : SPat := ⟨[.agg [.vals [.int .i64], .ints .u8 8, .ints .u8 8], .sliceV 0 0 0 8 true], [[.intsV .u8]]⟩
def s_l06Sum_r0 : SPat := ⟨[.bool], [[.intsV .u8]]⟩
theorem s_l06Sum_run {α : Type} (N : Nat) (g_0 : Int) (g_1 : Nat → Int) (g_2 : Nat → Int) (list_n : Nat) (list_l : Nat) (list_c : Nat) (h0_n : Nat) (h0 : Nat → Int) (K : AV → Heap → Option α) :
    callK Try.prog (E_s_l06Sum_l0 α N) 1 73 1 (buildS s_l06Sum_a [.i g_0, .f g_1, .f g_2, .n list_n, .n list_l, .n list_c, .n h0_n, .f h0]).t (buildS s_l06Sum_a [.i g_0, .f g_1, .f g_2, .n list_n, .n list_l, .n list_c, .n h0_n, .f h0]).h K = s_l06Sum none N g_0 g_1 g_2 list_n list_l list_c h0_n h0 (fun r__ => retK (buildS s_l06Sum_r0 [.b r__, .n h0_n, .f h0]) K) := by kernel_rfl
def E_s_l06Sum (α : Type) (N : Nat) : Env α := (E_s_l06Sum_l0 α N).addFun 73 true 1 s_l06Sum_a (fun l K => match l with
    | [.i g_0, .f g_1, .f g_2, .n list_n, .n list_l, .n list_c, .n h0_n, .f h0] => s_l06Sum none N g_0 g_1 g_2 list_n list_l list_c h0_n h0 (fun r__ => retK (buildS s_l06Sum_r0 [.b r__, .n h0_n, .f h0]) K)
    | _ => none)
theorem E_s_l06Sum_ok {α : Type} (N : Nat) : EnvOk Try.prog (E_s_l06Sum α N) := (E_s_l06Sum_l0_ok N).addFun prog_mixed prog_names (d := 1) fun l K r h => by
  split at h
  · exact (s_l06Sum_run N _ _ _ _ _ _ _ _ K).trans h
  · cases h

/-- spec.IsSum -/
def s_IsSum_a : SPat := ⟨[.agg [.vals [.int .i64], .ints .u8 8, .ints .u8 8], .sliceV 0 0 0 8 true], [[.intsV .u8]]⟩
def s_IsSum_r0 : SPat := ⟨[.bool], [[.intsV .u8]]⟩
theorem s_IsSum_run {α : Type} (N : Nat) (g_0 : Int) (g_1 : Nat → Int) (g_2 : Nat → Int) (list_n : Nat) (list_l : Nat) (list_c : Nat) (h0_n : Nat) (h0 : Nat → Int) (K : AV → Heap → Option α) :
    callK Try.prog (E_s_l06Sum α N) 1 24 1 (buildS s_IsSum_a [.i g_0, .f g_1, .f g_2, .n list_n, .n list_l, .n list_c, .n h0_n, .f h0]).t (buildS s_IsSum_a [.i g_0, .f g_1, .f g_2, .n list_n, .n list_l, .n list_c, .n h0_n, .f h0]).h K = s_IsSum none N g_0 g_1 g_2 list_n list_l list_c h0_n h0 (fun r__ => retK (buildS s_IsSum_r0 [.b r__, .n h0_n, .f h0]) K) := by kernel_rfl
def E_s_IsSum (α : Type) (N : Nat) : Env α := (E_s_l06Sum α N).addFun 24 true 1 s_IsSum_a (fun l K => match l with
    | [.i g_0, .f g_1, .f g_2, .n list_n, .n list_l, .n list_c, .n h0_n, .f h0] => s_IsSum none N g_0 g_1 g_2 list_n list_l list_c h0_n h0 (fun r__ => retK (buildS s_IsSum_r0 [.b r__, .n h0_n, .f h0]) K)
    | _ => none)
theorem E_s_IsSum_ok {α : Type} (N : Nat) : EnvOk Try.prog (E_s_IsSum α N) := (E_s_l06Sum_ok N).addFun prog_mixed prog_names (d := 1) fun l K r h => by
  split at h
  · exact (s_IsSum_run N _ _ _ _ _ _ _ _ K).trans h
  · cases h

/-- impl.within -/
def i_within_a : SPat := ⟨[.int .i64, .int .i64, .int .i64], []⟩
def i_within_r0 : SPat := ⟨[.bool], []⟩
theorem i_within_run {α : Type} (N : Nat) (x : Int) (low : Int) (high : Int) (K : AV → Heap → Option α) :
    callK Try.prog (E_s_IsSum α N) 1 98 0 (buildS i_within_a [.i x, .i low, .i high]).t (buildS i_within_a [.i x, .i low, .i high]).h K = i_within none N x low high (fun r__ => retK (buildS i_within_r0 [.b r__]) K) := by kernel_rfl
def E_i_within (α : Type) (N : Nat) : Env α := (E_s_IsSum α N).addFun 98 true 0 i_within_a (fun l K => match l with
    | [.i x, .i low, .i high] => i_within none N x low high (fun r__ => retK (buildS i_within_r0 [.b r__]) K)
    | _ => none)
theorem E_i_within_ok {α : Type} (N : Nat) : EnvOk Try.prog (E_i_within α N) := (E_s_IsSum_ok N).addFun prog_mixed prog_names (d := 1) fun l K r h => by
  split at h
  · exact (i_within_run N _ _ _ K).trans h
  · cases h

/-- (impl.Grid).n -/
def i_Grid_n_a : SPat := ⟨[.agg [.vals [.int .i64], .ints .u8 8, .ints .u8 8]], []⟩
def i_Grid_n_r0 : SPat := ⟨[.int .i64], []⟩
theorem i_Grid_n_run {α : Type} (N : Nat) (g_0 : Int) (g_1 : Nat → Int) (g_2 : Nat → Int) (K : AV → Heap → Option α) :
    callK Try.prog (E_i_within α N) 1 95 0 (buildS i_Grid_n_a [.i g_0, .f g_1, .f g_2]).t (buildS i_Grid_n_a [.i g_0, .f g_1, .f g_2]).h K = i_Grid_n none N g_0 g_1 g_2 (retK (buildS i_Grid_n_r0 [.i g_0]) K) := by kernel_rfl
def E_i_Grid_n (α : Type) (N : Nat) : Env α := (E_i_within α N).addFun 95 true 0 i_Grid_n_a (fun l K => match l with
    | [.i g_0, .f g_1, .f g_2] => i_Grid_n none N g_0 g_1 g_2 (retK (buildS i_Grid_n_r0 [.i g_0]) K)
    | _ => none)
theorem E_i_Grid_n_ok {α : Type} (N : Nat) : EnvOk Try.prog (E_i_Grid_n α N) := (E_i_within_ok N).addFun prog_mixed prog_names (d := 1) fun l K r h => by
  split at h
  · exact (i_Grid_n_run N _ _ _ K).trans h
  · cases h

def A_i_isOrder_l0 (α : Type) (N : Nat) : Env α := (E_i_Grid_n α N).addAnn 126 3 { head := [1, 5, 8, 9, 10], grow := [], out := [1, 5], ret := [4] }
theorem A_i_isOrder_l0_ok {α : Type} (N : Nat) : EnvOk Try.prog (A_i_isOrder_l0 α N) := (E_i_Grid_n_ok N).addAnn

/-- impl.isOrder, loop -/
def i_isOrder_l0_s2_p : SPat := ⟨[.undef, .int .i64, .undef, .undef, .undef, .int .i64, .undef, .undef, .slice ⟨0, 1, 0, 8⟩ 8 8 1 true, .intC .i64 8, .int .i64] ++ List.replicate 30 .undef, [[.vals [.int .i64], .ints .u8 8, .ints .u8 8]]⟩
def i_isOrder_l0_s2_o0 : SPat := ⟨[.undef, .undef, .undef, .undef, .boolC false] ++ List.replicate 36 .undef, [[.vals [.int .i64], .ints .u8 8, .ints .u8 8]]⟩
def i_isOrder_l0_s2_o1 : SPat := ⟨[.undef, .int .i64, .undef, .undef, .undef, .int .i64] ++ List.replicate 35 .undef, [[.vals [.int .i64], .ints .u8 8, .ints .u8 8]]⟩
theorem i_isOrder_l0_s2_round {α : Type} (N : Nat) (n : Int) (seen : Int) (t10 : Int) (h0_0 : Int) (h0_1 : Nat → Int) (h0_2 : Nat → Int) (kn : St → Option α) (K : AExit → St → Option α) :
    roundK Try.prog (A_i_isOrder_l0 α N) 1 1 126 Try.f126 3 1 (buildS i_isOrder_l0_s2_p [.i n, .i seen, .i t10, .i h0_0, .f h0_1, .f h0_2]) kn K = i_isOrder_l0_s2_s none n h0_0 h0_1 h0_2 seen t10 (fun seen t10 => kn (buildS i_isOrder_l0_s2_p [.i n, .i seen, .i t10, .i h0_0, .f h0_1, .f h0_2])) (K .ret (buildS i_isOrder_l0_s2_o0 [.i h0_0, .f h0_1, .f h0_2])) (fun seen_ => K (.exit 0) (buildS i_isOrder_l0_s2_o1 [.i n, .i seen_, .i h0_0, .f h0_1, .f h0_2])) := by kernel_rfl
theorem i_isOrder_l0_s2_loop {α : Type} (N : Nat) (n : Int) (h0_0 : Int) (h0_1 : Nat → Int) (h0_2 : Nat → Int) (K : AExit → St → Option α) : ∀ (m : Nat) (seen : Int) (t10 : Int),
    loopN (trimSt ((A_i_isOrder_l0 α N).ann 126 3).head ((A_i_isOrder_l0 α N).ann 126 3).grow 1) (bodyK Try.prog (A_i_isOrder_l0 α N) 1 1 126 Try.f126 3) m (buildS i_isOrder_l0_s2_p [.i n, .i seen, .i t10, .i h0_0, .f h0_1, .f h0_2]) (leaveLoop ((A_i_isOrder_l0 α N).ann 126 3) 1 K) = i_isOrder_l0_s2 none n h0_0 h0_1 h0_2 m seen t10 (K .ret (buildS i_isOrder_l0_s2_o0 [.i h0_0, .f h0_1, .f h0_2])) (fun seen_ => K (.exit 0) (buildS i_isOrder_l0_s2_o1 [.i n, .i seen_, .i h0_0, .f h0_1, .f h0_2])) := by
  intro m
  induction m with
  | zero => intros; rfl
  | succ m ih =>
    intro seen t10
    rw [loopN_round]
    refine (i_isOrder_l0_s2_round N n seen t10 h0_0 h0_1 h0_2 _ K).trans ?_
    simp only [ih]
    rfl
def E_i_isOrder_l0_s2 (α : Type) (N : Nat) : Env α := (A_i_isOrder_l0 α N).addLoop2 126 3 (loopSum2 ((A_i_isOrder_l0 α N).ann 126 3) 1 i_isOrder_l0_s2_p (fun l K => match l with
    | [.i n, .i seen, .i t10, .i h0_0, .f h0_1, .f h0_2] => i_isOrder_l0_s2 none n h0_0 h0_1 h0_2 N seen t10 (K .ret (buildS i_isOrder_l0_s2_o0 [.i h0_0, .f h0_1, .f h0_2])) (fun seen_ => K (.exit 0) (buildS i_isOrder_l0_s2_o1 [.i n, .i seen_, .i h0_0, .f h0_1, .f h0_2]))
    | _ => none) ((A_i_isOrder_l0 α N).ls 126 3))
theorem E_i_isOrder_l0_s2_ok {α : Type} (N : Nat) : EnvOk Try.prog (E_i_isOrder_l0_s2 α N) := (A_i_isOrder_l0_ok N).addLoop2 Try.func126 (by kernel_rfl) (loopSum_ok prog_mixed prog_names (A_i_isOrder_l0_ok N) Try.func126 (by kernel_rfl) (d := 1) (ro := 1) fun l K r h => by
  split at h
  · exact (i_isOrder_l0_s2_loop N _ _ _ _ K N _ _).trans h
  · cases h)

/-- impl.isOrder -/
def i_isOrder_s2_a : SPat := ⟨[.slice ⟨0, 1, 0, 8⟩ 8 8 1 true, .int .i64], [[.vals [.int .i64], .ints .u8 8, .ints .u8 8]]⟩
def i_isOrder_s2_r0 : SPat := ⟨[.bool], [[.vals [.int .i64], .ints .u8 8, .ints .u8 8]]⟩
theorem i_isOrder_s2_run {α : Type} (N : Nat) (n : Int) (h0_0 : Int) (h0_1 : Nat → Int) (h0_2 : Nat → Int) (K : AV → Heap → Option α) :
    callK Try.prog (E_i_isOrder_l0_s2 α N) 1 126 1 (buildS i_isOrder_s2_a [.i n, .i h0_0, .f h0_1, .f h0_2]).t (buildS i_isOrder_s2_a [.i n, .i h0_0, .f h0_1, .f h0_2]).h K = i_isOrder_s2 none N n h0_0 h0_1 h0_2 (fun r__ => retK (buildS i_isOrder_s2_r0 [.b r__, .i h0_0, .f h0_1, .f h0_2]) K) := by kernel_rfl
def E_i_isOrder_s2 (α : Type) (N : Nat) : Env α := (E_i_isOrder_l0_s2 α N).addFun 126 true 1 i_isOrder_s2_a (fun l K => match l with
    | [.i n, .i h0_0, .f h0_1, .f h0_2] => i_isOrder_s2 none N n h0_0 h0_1 h0_2 (fun r__ => retK (buildS i_isOrder_s2_r0 [.b r__, .i h0_0, .f h0_1, .f h0_2]) K)
    | _ => none)
theorem E_i_isOrder_s2_ok {α : Type} (N : Nat) : EnvOk Try.prog (E_i_isOrder_s2 α N) := (E_i_isOrder_l0_s2_ok N).addFun prog_mixed prog_names (d := 1) fun l K r h => by
  split at h
  · exact (i_isOrder_s2_run N _ _ _ _ K).trans h
  · cases h

/-- impl.isOrder, loop -/
def i_isOrder_l0_s3_p : SPat := ⟨[.undef, .int .i64, .undef, .undef, .undef, .int .i64, .undef, .undef, .slice ⟨0, 2, 0, 8⟩ 8 8 1 true, .intC .i64 8, .int .i64] ++ List.replicate 30 .undef, [[.vals [.int .i64], .ints .u8 8, .ints .u8 8]]⟩
def i_isOrder_l0_s3_o0 : SPat := ⟨[.undef, .undef, .undef, .undef, .boolC false] ++ List.replicate 36 .undef, [[.vals [.int .i64], .ints .u8 8, .ints .u8 8]]⟩
def i_isOrder_l0_s3_o1 : SPat := ⟨[.undef, .int .i64, .undef, .undef, .undef, .int .i64] ++ List.replicate 35 .undef, [[.vals [.int .i64], .ints .u8 8, .ints .u8 8]]⟩
theorem i_isOrder_l0_s3_round {α : Type} (N : Nat) (n : Int) (seen : Int) (t10 : Int) (h0_0 : Int) (h0_1 : Nat → Int) (h0_2 : Nat → Int) (kn : St → Option α) (K : AExit → St → Option α) :
    roundK Try.prog (E_i_isOrder_s2 α N) 1 1 126 Try.f126 3 1 (buildS i_isOrder_l0_s3_p [.i n, .i seen, .i t10, .i h0_0, .f h0_1, .f h0_2]) kn K = i_isOrder_l0_s3_s none n h0_0 h0_1 h0_2 seen t10 (fun seen t10 => kn (buildS i_isOrder_l0_s3_p [.i n, .i seen, .i t10, .i h0_0, .f h0_1, .f h0_2])) (K .ret (buildS i_isOrder_l0_s3_o0 [.i h0_0, .f h0_1, .f h0_2])) (fun seen_ => K (.exit 0) (buildS i_isOrder_l0_s3_o1 [.i n, .i seen_, .i h0_0, .f h0_1, .f h0_2])) := by kernel_rfl
theorem i_isOrder_l0_s3_loop {α : Type} (N : Nat) (n : Int) (h0_0 : Int) (h0_1 : Nat → Int) (h0_2 : Nat → Int) (K : AExit → St → Option α) : ∀ (m : Nat) (seen : Int) (t10 : Int),
    loopN (trimSt ((E_i_isOrder_s2 α N).ann 126 3).head ((E_i_isOrder_s2 α N).ann 126 3).grow 1) (bodyK Try.prog (E_i_isOrder_s2 α N) 1 1 126 Try.f126 3) m (buildS i_isOrder_l0_s3_p [.i n, .i seen, .i t10, .i h0_0, .f h0_1, .f h0_2]) (leaveLoop ((E_i_isOrder_s2 α N).ann 126 3) 1 K) = i_isOrder_l0_s3 none n h0_0 h0_1 h0_2 m seen t10 (K .ret (buildS i_isOrder_l0_s3_o0 [.i h0_0, .f h0_1, .f h0_2])) (fun seen_ => K (.exit 0) (buildS i_isOrder_l0_s3_o1 [.i n, .i seen_, .i h0_0, .f h0_1, .f h0_2])) := by
  intro m
  induction m with
  | zero => intros; rfl
  | succ m ih =>
    intro seen t10
    rw [loopN_round]
    refine (i_isOrder_l0_s3_round N n seen t10 h0_0 h0_1 h0_2 _ K).trans ?_
    simp only [ih]
    rfl
def E_i_isOrder_l0_s3 (α : Type) (N : Nat) : Env α := (E_i_isOrder_s2 α N).addLoop2 126 3 (loopSum2 ((E_i_isOrder_s2 α N).ann 126 3) 1 i_isOrder_l0_s3_p (fun l K => match l with
    | [.i n, .i seen, .i t10, .i h0_0, .f h0_1, .f h0_2] => i_isOrder_l0_s3 none n h0_0 h0_1 h0_2 N seen t10 (K .ret (buildS i_isOrder_l0_s3_o0 [.i h0_0, .f h0_1, .f h0_2])) (fun seen_ => K (.exit 0) (buildS i_isOrder_l0_s3_o1 [.i n, .i seen_, .i h0_0, .f h0_1, .f h0_2]))
    | _ => none) ((E_i_isOrder_s2 α N).ls 126 3))
theorem E_i_isOrder_l0_s3_ok {α : Type} (N : Nat) : EnvOk Try.prog (E_i_isOrder_l0_s3 α N) := (E_i_isOrder_s2_ok N).addLoop2 Try.func126 (by kernel_rfl) (loopSum_ok prog_mixed prog_names (E_i_isOrder_s2_ok N) Try.func126 (by kernel_rfl) (d := 1) (ro := 1) fun l K r h => by
  split at h
  · exact (i_isOrder_l0_s3_loop N _ _ _ _ K N _ _).trans h
  · cases h)

/-- impl.isOrder -/
def i_isOrder_s3_a : SPat := ⟨[.slice ⟨0, 2, 0, 8⟩ 8 8 1 true, .int .i64], [[.vals [.int .i64], .ints .u8 8, .ints .u8 8]]⟩
def i_isOrder_s3_r0 : SPat := ⟨[.bool], [[.vals [.int .i64], .ints .u8 8, .ints .u8 8]]⟩
theorem i_isOrder_s3_run {α : Type} (N : Nat) (n : Int) (h0_0 : Int) (h0_1 : Nat → Int) (h0_2 : Nat → Int) (K : AV → Heap → Option α) :
    callK Try.prog (E_i_isOrder_l0_s3 α N) 1 126 1 (buildS i_isOrder_s3_a [.i n, .i h0_0, .f h0_1, .f h0_2]).t (buildS i_isOrder_s3_a [.i n, .i h0_0, .f h0_1, .f h0_2]).h K = i_isOrder_s3 none N n h0_0 h0_1 h0_2 (fun r__ => retK (buildS i_isOrder_s3_r0 [.b r__, .i h0_0, .f h0_1, .f h0_2]) K) := by kernel_rfl
def E_i_isOrder_s3 (α : Type) (N : Nat) : Env α := (E_i_isOrder_l0_s3 α N).addFun 126 true 1 i_isOrder_s3_a (fun l K => match l with
    | [.i n, .i h0_0, .f h0_1, .f h0_2] => i_isOrder_s3 none N n h0_0 h0_1 h0_2 (fun r__ => retK (buildS i_isOrder_s3_r0 [.b r__, .i h0_0, .f h0_1, .f h0_2]) K)
    | _ => none)
theorem E_i_isOrder_s3_ok {α : Type} (N : Nat) : EnvOk Try.prog (E_i_isOrder_s3 α N) := (E_i_isOrder_l0_s3_ok N).addFun prog_mixed prog_names (d := 1) fun l K r h => by
  split at h
  · exact (i_isOrder_s3_run N _ _ _ _ K).trans h
  · cases h

def A_i_IsGrid_l0 (α : Type) (N : Nat) : Env α := (E_i_isOrder_s3 α N).addAnn 74 4 { head := [1, 25, 26], grow := [], out := [], ret := [2] }
theorem A_i_IsGrid_l0_ok {α : Type} (N : Nat) : EnvOk Try.prog (A_i_IsGrid_l0 α N) := (E_i_isOrder_s3_ok N).addAnn

/-- impl.IsGrid, loop -/
def i_IsGrid_l0_p : SPat := ⟨[.undef, .ptr ⟨0, 0, 0, 1⟩, .undef, .undef, .undef, .undef, .undef, .undef, .undef, .undef, .undef, .undef, .undef, .undef, .undef, .undef, .undef, .undef, .undef, .undef, .undef, .undef, .undef, .undef, .undef, .int .i64, .int .i64] ++ List.replicate 12 .undef, [[.vals [.int .i64], .ints .u8 8, .ints .u8 8]]⟩
def i_IsGrid_l0_o0 : SPat := ⟨[.undef, .undef, .boolC false] ++ List.replicate 36 .undef, [[.vals [.int .i64], .ints .u8 8, .ints .u8 8]]⟩
def i_IsGrid_l0_o1 : SPat := ⟨[] ++ List.replicate 39 .undef, [[.vals [.int .i64], .ints .u8 8, .ints .u8 8]]⟩
theorem i_IsGrid_l0_round {α : Type} (N : Nat) (t25 : Int) (t26 : Int) (h0_0 : Int) (h0_1 : Nat → Int) (h0_2 : Nat → Int) (kn : St → Option α) (K : AExit → St → Option α) :
    roundK Try.prog (A_i_IsGrid_l0 α N) 1 0 74 Try.f74 4 1 (buildS i_IsGrid_l0_p [.i t25, .i t26, .i h0_0, .f h0_1, .f h0_2]) kn K = i_IsGrid_l0_s none t25 h0_0 h0_1 h0_2 t26 (fun t26 => kn (buildS i_IsGrid_l0_p [.i t25, .i t26, .i h0_0, .f h0_1, .f h0_2])) (K .ret (buildS i_IsGrid_l0_o0 [.i h0_0, .f h0_1, .f h0_2])) (K (.exit 0) (buildS i_IsGrid_l0_o1 [.i h0_0, .f h0_1, .f h0_2])) := by kernel_rfl
theorem i_IsGrid_l0_loop {α : Type} (N : Nat) (t25 : Int) (h0_0 : Int) (h0_1 : Nat → Int) (h0_2 : Nat → Int) (K : AExit → St → Option α) : ∀ (m : Nat) (t26 : Int),
    loopN (trimSt ((A_i_IsGrid_l0 α N).ann 74 4).head ((A_i_IsGrid_l0 α N).ann 74 4).grow 1) (bodyK Try.prog (A_i_IsGrid_l0 α N) 1 0 74 Try.f74 4) m (buildS i_IsGrid_l0_p [.i t25, .i t26, .i h0_0, .f h0_1, .f h0_2]) (leaveLoop ((A_i_IsGrid_l0 α N).ann 74 4) 1 K) = i_IsGrid_l0 none t25 h0_0 h0_1 h0_2 m t26 (K .ret (buildS i_IsGrid_l0_o0 [.i h0_0, .f h0_1, .f h0_2])) (K (.exit 0) (buildS i_IsGrid_l0_o1 [.i h0_0, .f h0_1, .f h0_2])) := by
  intro m
  induction m with
  | zero => intros; rfl
  | succ m ih =>
    intro t26
    rw [loopN_round]
    refine (i_IsGrid_l0_round N t25 t26 h0_0 h0_1 h0_2 _ K).trans ?_
    simp only [ih]
    rfl
def E_i_IsGrid_l0 (α : Type) (N : Nat) : Env α := (A_i_IsGrid_l0 α N).addLoop2 74 4 (loopSum2 ((A_i_IsGrid_l0 α N).ann 74 4) 0 i_IsGrid_l0_p (fun l K => match l with
    | [.i t25, .i t26, .i h0_0, .f h0_1, .f h0_2] => i_IsGrid_l0 none t25 h0_0 h0_1 h0_2 N t26 (K .ret (buildS i_IsGrid_l0_o0 [.i h0_0, .f h0_1, .f h0_2])) (K (.exit 0) (buildS i_IsGrid_l0_o1 [.i h0_0, .f h0_1, .f h0_2]))
    | _ => none) ((A_i_IsGrid_l0 α N).ls 74 4))
theorem E_i_IsGrid_l0_ok {α : Type} (N : Nat) : EnvOk Try.prog (E_i_IsGrid_l0 α N) := (A_i_IsGrid_l0_ok N).addLoop2 Try.func74 (by kernel_rfl) (loopSum_ok prog_mixed prog_names (A_i_IsGrid_l0_ok N) Try.func74 (by kernel_rfl) (d := 1) (ro := 0) fun l K r h => by
  split at h
  · exact (i_IsGrid_l0_loop N _ _ _ _ K N _).trans h
  · cases h)

/-- impl.IsGrid -/
def i_IsGrid_a : SPat := ⟨[.agg [.vals [.int .i64], .ints .u8 8, .ints .u8 8]], []⟩
def i_IsGrid_r0 : SPat := ⟨[.bool], []⟩
theorem i_IsGrid_run {α : Type} (N : Nat) (g_0 : Int) (g_1 : Nat → Int) (g_2 : Nat → Int) (K : AV → Heap → Option α) :
    callK Try.prog (E_i_IsGrid_l0 α N) 1 74 0 (buildS i_IsGrid_a [.i g_0, .f g_1, .f g_2]).t (buildS i_IsGrid_a [.i g_0, .f g_1, .f g_2]).h K = i_IsGrid none N g_0 g_1 g_2 (fun r__ => retK (buildS i_IsGrid_r0 [.b r__]) K) := by kernel_rfl
def E_i_IsGrid (α : Type) (N : Nat) : Env α := (E_i_IsGrid_l0 α N).addFun 74 true 0 i_IsGrid_a (fun l K => match l with
    | [.i g_0, .f g_1, .f g_2] => i_IsGrid none N g_0 g_1 g_2 (fun r__ => retK (buildS i_IsGrid_r0 [.b r__]) K)
    | _ => none)
theorem E_i_IsGrid_ok {α : Type} (N : Nat) : EnvOk Try.prog (E_i_IsGrid α N) := (E_i_IsGrid_l0_ok N).addFun prog_mixed prog_names (d := 1) fun l K r h => by
  split at h
  · exact (i_IsGrid_run N _ _ _ K).trans h
  · cases h

def A_i_IsSum_l0 (α : Type) (N : Nat) : Env α := (E_i_IsGrid α N).addAnn 26 4 { head := [1, 2, 10, 11, 12], grow := [], out := [], ret := [4] }
theorem A_i_IsSum_l0_ok {α : Type} (N : Nat) : EnvOk Try.prog (A_i_IsSum_l0 α N) := (E_i_IsGrid_ok N).addAnn

/-- impl.isOrder, loop -/
def i_isOrder_l0_s4_p : SPat := ⟨[.undef, .int .i64, .undef, .undef, .undef, .int .i64, .undef, .undef, .slice ⟨0, 0, 0, 8⟩ 8 8 1 true, .intC .i64 8, .int .i64] ++ List.replicate 30 .undef, [[.ints .u8 8]]⟩
def i_isOrder_l0_s4_o0 : SPat := ⟨[.undef, .undef, .undef, .undef, .boolC false] ++ List.replicate 36 .undef, [[.ints .u8 8]]⟩
def i_isOrder_l0_s4_o1 : SPat := ⟨[.undef, .int .i64, .undef, .undef, .undef, .int .i64] ++ List.replicate 35 .undef, [[.ints .u8 8]]⟩
theorem i_isOrder_l0_s4_round {α : Type} (N : Nat) (n : Int) (seen : Int) (t10 : Int) (h0 : Nat → Int) (kn : St → Option α) (K : AExit → St → Option α) :
    roundK Try.prog (A_i_IsSum_l0 α N) 1 1 126 Try.f126 3 1 (buildS i_isOrder_l0_s4_p [.i n, .i seen, .i t10, .f h0]) kn K = i_isOrder_l0_s4_s none n h0 seen t10 (fun seen t10 => kn (buildS i_isOrder_l0_s4_p [.i n, .i seen, .i t10, .f h0])) (K .ret (buildS i_isOrder_l0_s4_o0 [.f h0])) (fun seen_ => K (.exit 0) (buildS i_isOrder_l0_s4_o1 [.i n, .i seen_, .f h0])) := by kernel_rfl
theorem i_isOrder_l0_s4_loop {α : Type} (N : Nat) (n : Int) (h0 : Nat → Int) (K : AExit → St → Option α) : ∀ (m : Nat) (seen : Int) (t10 : Int),
    loopN (trimSt ((A_i_IsSum_l0 α N).ann 126 3).head ((A_i_IsSum_l0 α N).ann 126 3).grow 1) (bodyK Try.prog (A_i_IsSum_l0 α N) 1 1 126 Try.f126 3) m (buildS i_isOrder_l0_s4_p [.i n, .i seen, .i t10, .f h0]) (leaveLoop ((A_i_IsSum_l0 α N).ann 126 3) 1 K) = i_isOrder_l0_s4 none n h0 m seen t10 (K .ret (buildS i_isOrder_l0_s4_o0 [.f h0])) (fun seen_ => K (.exit 0) (buildS i_isOrder_l0_s4_o1 [.i n, .i seen_, .f h0])) := by
  intro m
  induction m with
  | zero => intros; rfl
  | succ m ih =>
    intro seen t10
    rw [loopN_round]
    refine (i_isOrder_l0_s4_round N n seen t10 h0 _ K).trans ?_
    simp only [ih]
    rfl
def E_i_isOrder_l0_s4 (α : Type) (N : Nat) : Env α := (A_i_IsSum_l0 α N).addLoop2 126 3 (loopSum2 ((A_i_IsSum_l0 α N).ann 126 3) 1 i_isOrder_l0_s4_p (fun l K => match l with
    | [.i n, .i seen, .i t10, .f h0] => i_isOrder_l0_s4 none n h0 N seen t10 (K .ret (buildS i_isOrder_l0_s4_o0 [.f h0])) (fun seen_ => K (.exit 0) (buildS i_isOrder_l0_s4_o1 [.i n, .i seen_, .f h0]))
    | _ => none) ((A_i_IsSum_l0 α N).ls 126 3))
theorem E_i_isOrder_l0_s4_ok {α : Type} (N : Nat) : EnvOk Try.prog (E_i_isOrder_l0_s4 α N) := (A_i_IsSum_l0_ok N).addLoop2 Try.func126 (by kernel_rfl) (loopSum_ok prog_mixed prog_names (A_i_IsSum_l0_ok N) Try.func126 (by kernel_rfl) (d := 1) (ro := 1) fun l K r h => by
  split at h
  · exact (i_isOrder_l0_s4_loop N _ _ K N _ _).trans h
  · cases h)

/-- impl.isOrder -/
def i_isOrder_s4_a : SPat := ⟨[.slice ⟨0, 0, 0, 8⟩ 8 8 1 true, .int .i64], [[.ints .u8 8]]⟩
def i_isOrder_s4_r0 : SPat := ⟨[.bool], [[.ints .u8 8]]⟩
theorem i_isOrder_s4_run {α : Type} (N : Nat) (n : Int) (h0 : Nat → Int) (K : AV → Heap → Option α) :
    callK Try.prog (E_i_isOrder_l0_s4 α N) 1 126 1 (buildS i_isOrder_s4_a [.i n, .f h0]).t (buildS i_isOrder_s4_a [.i n, .f h0]).h K = i_isOrder_s4 none N n h0 (fun r__ => retK (buildS i_isOrder_s4_r0 [.b r__, .f h0]) K) := by kernel_rfl
def E_i_isOrder_s4 (α : Type) (N : Nat) : Env α := (E_i_isOrder_l0_s4 α N).addFun 126 true 1 i_isOrder_s4_a (fun l K => match l with
    | [.i n, .f h0] => i_isOrder_s4 none N n h0 (fun r__ => retK (buildS i_isOrder_s4_r0 [.b r__, .f h0]) K)
    | _ => none)
theorem E_i_isOrder_s4_ok {α : Type} (N : Nat) : EnvOk Try.prog (E_i_isOrder_s4 α N) := (E_i_isOrder_l0_s4_ok N).addFun prog_mixed prog_names (d := 1) fun l K r h => by
  split at h
  · exact (i_isOrder_s4_run N _ _ K).trans h
  · cases h

/-- (impl.Grid).isState -/
def i_Grid_isState_a : SPat := ⟨[.agg [.vals [.int .i64], .ints .u8 8, .ints .u8 8], .agg [.ints .u8 8]], []⟩
def i_Grid_isState_r0 : SPat := ⟨[.bool], []⟩
theorem i_Grid_isState_run {α : Type} (N : Nat) (g_0 : Int) (g_1 : Nat → Int) (g_2 : Nat → Int) (x : Nat → Int) (K : AV → Heap → Option α) :
    callK Try.prog (E_i_isOrder_s4 α N) 1 75 0 (buildS i_Grid_isState_a [.i g_0, .f g_1, .f g_2, .f x]).t (buildS i_Grid_isState_a [.i g_0, .f g_1, .f g_2, .f x]).h K = i_Grid_isState none N g_0 g_1 g_2 x (fun r__ => retK (buildS i_Grid_isState_r0 [.b r__]) K) := by kernel_rfl
def E_i_Grid_isState (α : Type) (N : Nat) : Env α := (E_i_isOrder_s4 α N).addFun 75 true 0 i_Grid_isState_a (fun l K => match l with
    | [.i g_0, .f g_1, .f g_2, .f x] => i_Grid_isState none N g_0 g_1 g_2 x (fun r__ => retK (buildS i_Grid_isState_r0 [.b r__]) K)
    | _ => none)
theorem E_i_Grid_isState_ok {α : Type} (N : Nat) : EnvOk Try.prog (E_i_Grid_isState α N) := (E_i_isOrder_s4_ok N).addFun prog_mixed prog_names (d := 1) fun l K r h => by
  split at h
  · exact (i_Grid_isState_run N _ _ _ _ K).trans h
  · cases h

def A_slices_Compare_byte_byte_l0 (α : Type) (N : Nat) : Env α := (E_i_Grid_isState α N).addAnn 127 2 { head := [0, 1, 9, 10, 11], grow := [], out := [0, 1], ret := [4] }
theorem A_slices_Compare_byte_byte_l0_ok {α : Type} (N : Nat) : EnvOk Try.prog (A_slices_Compare_byte_byte_l0 α N) := (E_i_Grid_isState_ok N).addAnn

/-- cmp.isNaN[byte] -/
def cmp_isNaN_byte_a : SPat := ⟨[.int .u8], []⟩
def cmp_isNaN_byte_r0 : SPat := ⟨[.bool], []⟩
theorem cmp_isNaN_byte_run {α : Type} (N : Nat) (x : Int) (K : AV → Heap → Option α) :
    callK Try.prog (A_slices_Compare_byte_byte_l0 α N) 1 157 0 (buildS cmp_isNaN_byte_a [.i x]).t (buildS cmp_isNaN_byte_a [.i x]).h K = cmp_isNaN_byte none N x (fun r__ => retK (buildS cmp_isNaN_byte_r0 [.b r__]) K) := by kernel_rfl
def E_cmp_isNaN_byte (α : Type) (N : Nat) : Env α := (A_slices_Compare_byte_byte_l0 α N).addFun 157 true 0 cmp_isNaN_byte_a (fun l K => match l with
    | [.i x] => cmp_isNaN_byte none N x (fun r__ => retK (buildS cmp_isNaN_byte_r0 [.b r__]) K)
    | _ => none)
theorem E_cmp_isNaN_byte_ok {α : Type} (N : Nat) : EnvOk Try.prog (E_cmp_isNaN_byte α N) := (A_slices_Compare_byte_byte_l0_ok N).addFun prog_mixed prog_names (d := 1) fun l K r h => by
  split at h
  · exact (cmp_isNaN_byte_run N _ K).trans h
  · cases h

/-- cmp.Compare[byte] -/
def cmp_Compare_byte_a : SPat := ⟨[.int .u8, .int .u8], []⟩
def cmp_Compare_byte_r0 : SPat := ⟨[.int .i64], []⟩
theorem cmp_Compare_byte_run {α : Type} (N : Nat) (x : Int) (y : Int) (K : AV → Heap → Option α) :
    callK Try.prog (E_cmp_isNaN_byte α N) 1 150 0 (buildS cmp_Compare_byte_a [.i x, .i y]).t (buildS cmp_Compare_byte_a [.i x, .i y]).h K = cmp_Compare_byte none N x y (fun r__ => retK (buildS cmp_Compare_byte_r0 [.i r__]) K) := by kernel_rfl
def E_cmp_Compare_byte (α : Type) (N : Nat) : Env α := (E_cmp_isNaN_byte α N).addFun 150 true 0 cmp_Compare_byte_a (fun l K => match l with
    | [.i x, .i y] => cmp_Compare_byte none N x y (fun r__ => retK (buildS cmp_Compare_byte_r0 [.i r__]) K)
    | _ => none)
theorem E_cmp_Compare_byte_ok {α : Type} (N : Nat) : EnvOk Try.prog (E_cmp_Compare_byte α N) := (E_cmp_isNaN_byte_ok N).addFun prog_mixed prog_names (d := 1) fun l K r h => by
  split at h
  · exact (cmp_Compare_byte_run N _ _ K).trans h
  · cases h

/-- slices.Compare[[]byte,byte], loop -/
def slices_Compare_byte_byte_l0_p : SPat := ⟨[.slice ⟨0, 0, 0, 8⟩ 8 8 1 true, .slice ⟨1, 0, 0, 8⟩ 8 8 1 true, .undef, .undef, .undef, .undef, .undef, .undef, .undef, .slice ⟨0, 0, 0, 8⟩ 8 8 1 true, .intC .i64 8, .int .i64] ++ List.replicate 24 .undef, [[.ints .u8 8], [.ints .u8 8]]⟩
def slices_Compare_byte_byte_l0_o0 : SPat := ⟨[.undef, .undef, .undef, .undef, .intC .i64 1] ++ List.replicate 31 .undef, [[.ints .u8 8], [.ints .u8 8]]⟩
def slices_Compare_byte_byte_l0_o1 : SPat := ⟨[.undef, .undef, .undef, .undef, .int .i64] ++ List.replicate 31 .undef, [[.ints .u8 8], [.ints .u8 8]]⟩
def slices_Compare_byte_byte_l0_o2 : SPat := ⟨[.slice ⟨0, 0, 0, 8⟩ 8 8 1 true, .slice ⟨1, 0, 0, 8⟩ 8 8 1 true] ++ List.replicate 34 .undef, [[.ints .u8 8], [.ints .u8 8]]⟩
theorem slices_Compare_byte_byte_l0_round {α : Type} (N : Nat) (t11 : Int) (h0 : Nat → Int) (h1 : Nat → Int) (kn : St → Option α) (K : AExit → St → Option α) :
    roundK Try.prog (E_cmp_Compare_byte α N) 1 2 127 Try.f127 2 2 (buildS slices_Compare_byte_byte_l0_p [.i t11, .f h0, .f h1]) kn K = slices_Compare_byte_byte_l0_s none N h0 h1 t11 (fun t11 => kn (buildS slices_Compare_byte_byte_l0_p [.i t11, .f h0, .f h1])) (K .ret (buildS slices_Compare_byte_byte_l0_o0 [.f h0, .f h1])) (fun t4_ => K .ret (buildS slices_Compare_byte_byte_l0_o1 [.i t4_, .f h0, .f h1])) (K (.exit 0) (buildS slices_Compare_byte_byte_l0_o2 [.f h0, .f h1])) := by kernel_rfl
theorem slices_Compare_byte_byte_l0_loop {α : Type} (N : Nat) (h0 : Nat → Int) (h1 : Nat → Int) (K : AExit → St → Option α) : ∀ (m : Nat) (t11 : Int),
    loopN (trimSt ((E_cmp_Compare_byte α N).ann 127 2).head ((E_cmp_Compare_byte α N).ann 127 2).grow 2) (bodyK Try.prog (E_cmp_Compare_byte α N) 1 2 127 Try.f127 2) m (buildS slices_Compare_byte_byte_l0_p [.i t11, .f h0, .f h1]) (leaveLoop ((E_cmp_Compare_byte α N).ann 127 2) 2 K) = slices_Compare_byte_byte_l0 none N h0 h1 m t11 (K .ret (buildS slices_Compare_byte_byte_l0_o0 [.f h0, .f h1])) (fun t4_ => K .ret (buildS slices_Compare_byte_byte_l0_o1 [.i t4_, .f h0, .f h1])) (K (.exit 0) (buildS slices_Compare_byte_byte_l0_o2 [.f h0, .f h1])) := by
  intro m
  induction m with
  | zero => intros; rfl
  | succ m ih =>
    intro t11
    rw [loopN_round]
    refine (slices_Compare_byte_byte_l0_round N t11 h0 h1 _ K).trans ?_
    simp only [ih]
    rfl
def E_slices_Compare_byte_byte_l0 (α : Type) (N : Nat) : Env α := (E_cmp_Compare_byte α N).addLoop2 127 2 (loopSum2 ((E_cmp_Compare_byte α N).ann 127 2) 2 slices_Compare_byte_byte_l0_p (fun l K => match l with
    | [.i t11, .f h0, .f h1] => slices_Compare_byte_byte_l0 none N h0 h1 N t11 (K .ret (buildS slices_Compare_byte_byte_l0_o0 [.f h0, .f h1])) (fun t4_ => K .ret (buildS slices_Compare_byte_byte_l0_o1 [.i t4_, .f h0, .f h1])) (K (.exit 0) (buildS slices_Compare_byte_byte_l0_o2 [.f h0, .f h1]))
    | _ => none) ((E_cmp_Compare_byte α N).ls 127 2))
theorem E_slices_Compare_byte_byte_l0_ok {α : Type} (N : Nat) : EnvOk Try.prog (E_slices_Compare_byte_byte_l0 α N) := (E_cmp_Compare_byte_ok N).addLoop2 Try.func127 (by kernel_rfl) (loopSum_ok prog_mixed prog_names (E_cmp_Compare_byte_ok N) Try.func127 (by kernel_rfl) (d := 1) (ro := 2) fun l K r h => by
  split at h
  · exact (slices_Compare_byte_byte_l0_loop N _ _ K N _).trans h
  · cases h)

/-- slices.Compare[[]byte,byte] -/
def slices_Compare_byte_byte_a : SPat := ⟨[.slice ⟨0, 0, 0, 8⟩ 8 8 1 true, .slice ⟨1, 0, 0, 8⟩ 8 8 1 true], [[.ints .u8 8], [.ints .u8 8]]⟩
def slices_Compare_byte_byte_r0 : SPat := ⟨[.int .i64], [[.ints .u8 8], [.ints .u8 8]]⟩
theorem slices_Compare_byte_byte_run {α : Type} (N : Nat) (h0 : Nat → Int) (h1 : Nat → Int) (K : AV → Heap → Option α) :
    callK Try.prog (E_slices_Compare_byte_byte_l0 α N) 1 127 2 (buildS slices_Compare_byte_byte_a [.f h0, .f h1]).t (buildS slices_Compare_byte_byte_a [.f h0, .f h1]).h K = slices_Compare_byte_byte none N h0 h1 (fun r__ => retK (buildS slices_Compare_byte_byte_r0 [.i r__, .f h0, .f h1]) K) := by kernel_rfl
def E_slices_Compare_byte_byte (α : Type) (N : Nat) : Env α := (E_slices_Compare_byte_byte_l0 α N).addFun 127 true 2 slices_Compare_byte_byte_a (fun l K => match l with
    | [.f h0, .f h1] => slices_Compare_byte_byte none N h0 h1 (fun r__ => retK (buildS slices_Compare_byte_byte_r0 [.i r__, .f h0, .f h1]) K)
    | _ => none)
theorem E_slices_Compare_byte_byte_ok {α : Type} (N : Nat) : EnvOk Try.prog (E_slices_Compare_byte_byte α N) := (E_slices_Compare_byte_byte_l0_ok N).addFun prog_mixed prog_names (d := 1) fun l K r h => by
  split at h
  · exact (slices_Compare_byte_byte_run N _ _ K).trans h
  · cases h

/-- impl.compareStates -/
def i_compareStates_a : SPat := ⟨[.agg [.ints .u8 8], .agg [.ints .u8 8]], []⟩
def i_compareStates_r0 : SPat := ⟨[.int .i64], []⟩
theorem i_compareStates_run {α : Type} (N : Nat) (x : Nat → Int) (y : Nat → Int) (K : AV → Heap → Option α) :
    callK Try.prog (E_slices_Compare_byte_byte α N) 1 76 0 (buildS i_compareStates_a [.f x, .f y]).t (buildS i_compareStates_a [.f x, .f y]).h K = i_compareStates none N x y (fun r__ => retK (buildS i_compareStates_r0 [.i r__]) K) := by kernel_rfl
def E_i_compareStates (α : Type) (N : Nat) : Env α := (E_slices_Compare_byte_byte α N).addFun 76 true 0 i_compareStates_a (fun l K => match l with
    | [.f x, .f y] => i_compareStates none N x y (fun r__ => retK (buildS i_compareStates_r0 [.i r__]) K)
    | _ => none)
theorem E_i_compareStates_ok {α : Type} (N : Nat) : EnvOk Try.prog (E_i_compareStates α N) := (E_slices_Compare_byte_byte_ok N).addFun prog_mixed prog_names (d := 1) fun l K r h => by
  split at h
  · exact (i_compareStates_run N _ _ K).trans h
  · cases h

/-- impl.IsSum, loop -/
def i_IsSum_l0_p : SPat := ⟨[.undef, .sliceV 0 0 0 8 true, .ptr ⟨1, 0, 0, 1⟩, .undef, .undef, .undef, .undef, .undef, .undef, .undef, .sliceV 0 0 0 8 true, .int .i64, .int .i64] ++ List.replicate 23 .undef, [[.intsV .u8], [.vals [.int .i64], .ints .u8 8, .ints .u8 8]]⟩
def i_IsSum_l0_o0 : SPat := ⟨[.undef, .undef, .undef, .undef, .boolC false] ++ List.replicate 31 .undef, [[.intsV .u8], [.vals [.int .i64], .ints .u8 8, .ints .u8 8]]⟩
def i_IsSum_l0_o1 : SPat := ⟨[] ++ List.replicate 36 .undef, [[.intsV .u8], [.vals [.int .i64], .ints .u8 8, .ints .u8 8]]⟩
theorem i_IsSum_l0_round {α : Type} (N : Nat) (list_n : Nat) (list_l : Nat) (list_c : Nat) (t10_n : Nat) (t10_l : Nat) (t10_c : Nat) (t11 : Int) (t12 : Int) (h0_n : Nat) (h0 : Nat → Int) (h1_0 : Int) (h1_1 : Nat → Int) (h1_2 : Nat → Int) (kn : St → Option α) (K : AExit → St → Option α) :
    roundK Try.prog (E_i_compareStates α N) 1 1 26 Try.f26 4 2 (buildS i_IsSum_l0_p [.n list_n, .n list_l, .n list_c, .n t10_n, .n t10_l, .n t10_c, .i t11, .i t12, .n h0_n, .f h0, .i h1_0, .f h1_1, .f h1_2]) kn K = i_IsSum_l0_s none N list_n list_l list_c t10_n t10_l t10_c t11 h0_n h0 h1_0 h1_1 h1_2 t12 (fun t12 => kn (buildS i_IsSum_l0_p [.n list_n, .n list_l, .n list_c, .n t10_n, .n t10_l, .n t10_c, .i t11, .i t12, .n h0_n, .f h0, .i h1_0, .f h1_1, .f h1_2])) (K .ret (buildS i_IsSum_l0_o0 [.n h0_n, .f h0, .i h1_0, .f h1_1, .f h1_2])) (K (.exit 0) (buildS i_IsSum_l0_o1 [.n h0_n, .f h0, .i h1_0, .f h1_1, .f h1_2])) := by kernel_rfl
theorem i_IsSum_l0_loop {α : Type} (N : Nat) (list_n : Nat) (list_l : Nat) (list_c : Nat) (t10_n : Nat) (t10_l : Nat) (t10_c : Nat) (t11 : Int) (h0_n : Nat) (h0 : Nat → Int) (h1_0 : Int) (h1_1 : Nat → Int) (h1_2 : Nat → Int) (K : AExit → St → Option α) : ∀ (m : Nat) (t12 : Int),
    loopN (trimSt ((E_i_compareStates α N).ann 26 4).head ((E_i_compareStates α N).ann 26 4).grow 2) (bodyK Try.prog (E_i_compareStates α N) 1 1 26 Try.f26 4) m (buildS i_IsSum_l0_p [.n list_n, .n list_l, .n list_c, .n t10_n, .n t10_l, .n t10_c, .i t11, .i t12, .n h0_n, .f h0, .i h1_0, .f h1_1, .f h1_2]) (leaveLoop ((E_i_compareStates α N).ann 26 4) 2 K) = i_IsSum_l0 none N list_n list_l list_c t10_n t10_l t10_c t11 h0_n h0 h1_0 h1_1 h1_2 m t12 (K .ret (buildS i_IsSum_l0_o0 [.n h0_n, .f h0, .i h1_0, .f h1_1, .f h1_2])) (K (.exit 0) (buildS i_IsSum_l0_o1 [.n h0_n, .f h0, .i h1_0, .f h1_1, .f h1_2])) := by
  intro m
  induction m with
  | zero => intros; rfl
  | succ m ih =>
    intro t12
    rw [loopN_round]
    refine (i_IsSum_l0_round N list_n list_l list_c t10_n t10_l t10_c t11 t12 h0_n h0 h1_0 h1_1 h1_2 _ K).trans ?_
    simp only [ih]
    rfl
def E_i_IsSum_l0 (α : Type) (N : Nat) : Env α := (E_i_compareStates α N).addLoop2 26 4 (loopSum2 ((E_i_compareStates α N).ann 26 4) 1 i_IsSum_l0_p (fun l K => match l with
    | [.n list_n, .n list_l, .n list_c, .n t10_n, .n t10_l, .n t10_c, .i t11, .i t12, .n h0_n, .f h0, .i h1_0, .f h1_1, .f h1_2] => i_IsSum_l0 none N list_n list_l list_c t10_n t10_l t10_c t11 h0_n h0 h1_0 h1_1 h1_2 N t12 (K .ret (buildS i_IsSum_l0_o0 [.n h0_n, .f h0, .i h1_0, .f h1_1, .f h1_2])) (K (.exit 0) (buildS i_IsSum_l0_o1 [.n h0_n, .f h0, .i h1_0, .f h1_1, .f h1_2]))
    | _ => none) ((E_i_compareStates α N).ls 26 4))
theorem E_i_IsSum_l0_ok {α : Type} (N : Nat) : EnvOk Try.prog (E_i_IsSum_l0 α N) := (E_i_compareStates_ok N).addLoop2 Try.func26 (by kernel_rfl) (loopSum_ok prog_mixed prog_names (E_i_compareStates_ok N) Try.func26 (by kernel_rfl) (d := 1) (ro := 1) fun l K r h => by
  split at h
  · exact (i_IsSum_l0_loop N _ _ _ _ _ _ _ _ _ _ _ _ K N _).trans h
  · cases h)

/-- impl.IsSum -/
def i_IsSum_a : SPat := ⟨[.agg [.vals [.int .i64], .ints .u8 8, .ints .u8 8], .sliceV 0 0 0 8 true], [[.intsV .u8]]⟩
def i_IsSum_r0 : SPat := ⟨[.bool], [[.intsV .u8]]⟩
theorem i_IsSum_run {α : Type} (N : Nat) (g_0 : Int) (g_1 : Nat → Int) (g_2 : Nat → Int) (list_n : Nat) (list_l : Nat) (list_c : Nat) (h0_n : Nat) (h0 : Nat → Int) (K : AV → Heap → Option α) :
    callK Try.prog (E_i_IsSum_l0 α N) 1 26 1 (buildS i_IsSum_a [.i g_0, .f g_1, .f g_2, .n list_n, .n list_l, .n list_c, .n h0_n, .f h0]).t (buildS i_IsSum_a [.i g_0, .f g_1, .f g_2, .n list_n, .n list_l, .n list_c, .n h0_n, .f h0]).h K = i_IsSum none N g_0 g_1 g_2 list_n list_l list_c h0_n h0 (fun r__ => retK (buildS i_IsSum_r0 [.b r__, .n h0_n, .f h0]) K) := by kernel_rfl
def E_i_IsSum (α : Type) (N : Nat) : Env α := (E_i_IsSum_l0 α N).addFun 26 true 1 i_IsSum_a (fun l K => match l with
    | [.i g_0, .f g_1, .f g_2, .n list_n, .n list_l, .n list_c, .n h0_n, .f h0] => i_IsSum none N g_0 g_1 g_2 list_n list_l list_c h0_n h0 (fun r__ => retK (buildS i_IsSum_r0 [.b r__, .n h0_n, .f h0]) K)
    | _ => none)
theorem E_i_IsSum_ok {α : Type} (N : Nat) : EnvOk Try.prog (E_i_IsSum α N) := (E_i_IsSum_l0_ok N).addFun prog_mixed prog_names (d := 1) fun l K r h => by
  split at h
  · exact (i_IsSum_run N _ _ _ _ _ _ _ _ K).trans h
  · cases h

def A_w_eqStateS_l0 (α : Type) (N : Nat) : Env α := (E_i_IsSum α N).addAnn 27 4 { head := [0, 1, 5], grow := [], out := [], ret := [4] }
theorem A_w_eqStateS_l0_ok {α : Type} (N : Nat) : EnvOk Try.prog (A_w_eqStateS_l0 α N) := (E_i_IsSum_ok N).addAnn

def A_w_eqState_l0 (α : Type) (N : Nat) : Env α := (A_w_eqStateS_l0 α N).addAnn 31 2 { head := [2, 3, 5], grow := [], out := [], ret := [4] }
theorem A_w_eqState_l0_ok {α : Type} (N : Nat) : EnvOk Try.prog (A_w_eqState_l0 α N) := (A_w_eqStateS_l0_ok N).addAnn

/-- laws.eqState, loop -/
def w_eqState_l0_p : SPat := ⟨[.undef, .undef, .ptr ⟨0, 0, 0, 8⟩, .ptr ⟨1, 0, 0, 8⟩, .undef, .int .i64] ++ List.replicate 11 .undef, [[.ints .u8 8], [.ints .u8 8]]⟩
def w_eqState_l0_o0 : SPat := ⟨[.undef, .undef, .undef, .undef, .boolC false] ++ List.replicate 12 .undef, [[.ints .u8 8], [.ints .u8 8]]⟩
def w_eqState_l0_o1 : SPat := ⟨[] ++ List.replicate 17 .undef, [[.ints .u8 8], [.ints .u8 8]]⟩
theorem w_eqState_l0_round {α : Type} (N : Nat) (i : Int) (h0 : Nat → Int) (h1 : Nat → Int) (kn : St → Option α) (K : AExit → St → Option α) :
    roundK Try.prog (A_w_eqState_l0 α N) 1 0 31 Try.f31 2 2 (buildS w_eqState_l0_p [.i i, .f h0, .f h1]) kn K = w_eqState_l0_s none h0 h1 i (fun i => kn (buildS w_eqState_l0_p [.i i, .f h0, .f h1])) (K .ret (buildS w_eqState_l0_o0 [.f h0, .f h1])) (K (.exit 0) (buildS w_eqState_l0_o1 [.f h0, .f h1])) := by kernel_rfl
theorem w_eqState_l0_loop {α : Type} (N : Nat) (h0 : Nat → Int) (h1 : Nat → Int) (K : AExit → St → Option α) : ∀ (m : Nat) (i : Int),
    loopN (trimSt ((A_w_eqState_l0 α N).ann 31 2).head ((A_w_eqState_l0 α N).ann 31 2).grow 2) (bodyK Try.prog (A_w_eqState_l0 α N) 1 0 31 Try.f31 2) m (buildS w_eqState_l0_p [.i i, .f h0, .f h1]) (leaveLoop ((A_w_eqState_l0 α N).ann 31 2) 2 K) = w_eqState_l0 none h0 h1 m i (K .ret (buildS w_eqState_l0_o0 [.f h0, .f h1])) (K (.exit 0) (buildS w_eqState_l0_o1 [.f h0, .f h1])) := by
  intro m
  induction m with
  | zero => intros; rfl
  | succ m ih =>
    intro i
    rw [loopN_round]
    refine (w_eqState_l0_round N i h0 h1 _ K).trans ?_
    simp only [ih]
    rfl
def E_w_eqState_l0 (α : Type) (N : Nat) : Env α := (A_w_eqState_l0 α N).addLoop2 31 2 (loopSum2 ((A_w_eqState_l0 α N).ann 31 2) 0 w_eqState_l0_p (fun l K => match l with
    | [.i i, .f h0, .f h1] => w_eqState_l0 none h0 h1 N i (K .ret (buildS w_eqState_l0_o0 [.f h0, .f h1])) (K (.exit 0) (buildS w_eqState_l0_o1 [.f h0, .f h1]))
    | _ => none) ((A_w_eqState_l0 α N).ls 31 2))
theorem E_w_eqState_l0_ok {α : Type} (N : Nat) : EnvOk Try.prog (E_w_eqState_l0 α N) := (A_w_eqState_l0_ok N).addLoop2 Try.func31 (by kernel_rfl) (loopSum_ok prog_mixed prog_names (A_w_eqState_l0_ok N) Try.func31 (by kernel_rfl) (d := 1) (ro := 0) fun l K r h => by
  split at h
  · exact (w_eqState_l0_loop N _ _ K N _).trans h
  · cases h)

/-- laws.eqState -/
def w_eqState_a : SPat := ⟨[.agg [.ints .u8 8], .agg [.ints .u8 8]], []⟩
def w_eqState_r0 : SPat := ⟨[.bool], []⟩
theorem w_eqState_run {α : Type} (N : Nat) (a : Nat → Int) (b : Nat → Int) (K : AV → Heap → Option α) :
    callK Try.prog (E_w_eqState_l0 α N) 1 31 0 (buildS w_eqState_a [.f a, .f b]).t (buildS w_eqState_a [.f a, .f b]).h K = w_eqState none N a b (fun r__ => retK (buildS w_eqState_r0 [.b r__]) K) := by kernel_rfl
def E_w_eqState (α : Type) (N : Nat) : Env α := (E_w_eqState_l0 α N).addFun 31 true 0 w_eqState_a (fun l K => match l with
    | [.f a, .f b] => w_eqState none N a b (fun r__ => retK (buildS w_eqState_r0 [.b r__]) K)
    | _ => none)
theorem E_w_eqState_ok {α : Type} (N : Nat) : EnvOk Try.prog (E_w_eqState α N) := (E_w_eqState_l0_ok N).addFun prog_mixed prog_names (d := 1) fun l K r h => by
  split at h
  · exact (w_eqState_run N _ _ K).trans h
  · cases h

/-- laws.eqStateS, loop -/
def w_eqStateS_l0_p : SPat := ⟨[.sliceV 0 0 0 8 true, .sliceV 1 0 0 8 true, .undef, .undef, .undef, .int .i64] ++ List.replicate 21 .undef, [[.intsV .u8], [.intsV .u8]]⟩
def w_eqStateS_l0_o0 : SPat := ⟨[.undef, .undef, .undef, .undef, .boolC false] ++ List.replicate 22 .undef, [[.intsV .u8], [.intsV .u8]]⟩
def w_eqStateS_l0_o1 : SPat := ⟨[] ++ List.replicate 27 .undef, [[.intsV .u8], [.intsV .u8]]⟩
theorem w_eqStateS_l0_round {α : Type} (N : Nat) (a_n : Nat) (a_l : Nat) (a_c : Nat) (b_n : Nat) (b_l : Nat) (b_c : Nat) (i : Int) (h0_n : Nat) (h0 : Nat → Int) (h1_n : Nat) (h1 : Nat → Int) (kn : St → Option α) (K : AExit → St → Option α) :
    roundK Try.prog (E_w_eqState α N) 1 2 27 Try.f27 4 2 (buildS w_eqStateS_l0_p [.n a_n, .n a_l, .n a_c, .n b_n, .n b_l, .n b_c, .i i, .n h0_n, .f h0, .n h1_n, .f h1]) kn K = w_eqStateS_l0_s none N a_n a_l a_c b_n b_l b_c h0_n h0 h1_n h1 i (fun i => kn (buildS w_eqStateS_l0_p [.n a_n, .n a_l, .n a_c, .n b_n, .n b_l, .n b_c, .i i, .n h0_n, .f h0, .n h1_n, .f h1])) (K .ret (buildS w_eqStateS_l0_o0 [.n h0_n, .f h0, .n h1_n, .f h1])) (K (.exit 0) (buildS w_eqStateS_l0_o1 [.n h0_n, .f h0, .n h1_n, .f h1])) := by kernel_rfl
theorem w_eqStateS_l0_loop {α : Type} (N : Nat) (a_n : Nat) (a_l : Nat) (a_c : Nat) (b_n : Nat) (b_l : Nat) (b_c : Nat) (h0_n : Nat) (h0 : Nat → Int) (h1_n : Nat) (h1 : Nat → Int) (K : AExit → St → Option α) : ∀ (m : Nat) (i : Int),
    loopN (trimSt ((E_w_eqState α N).ann 27 4).head ((E_w_eqState α N).ann 27 4).grow 2) (bodyK Try.prog (E_w_eqState α N) 1 2 27 Try.f27 4) m (buildS w_eqStateS_l0_p [.n a_n, .n a_l, .n a_c, .n b_n, .n b_l, .n b_c, .i i, .n h0_n, .f h0, .n h1_n, .f h1]) (leaveLoop ((E_w_eqState α N).ann 27 4) 2 K) = w_eqStateS_l0 none N a_n a_l a_c b_n b_l b_c h0_n h0 h1_n h1 m i (K .ret (buildS w_eqStateS_l0_o0 [.n h0_n, .f h0, .n h1_n, .f h1])) (K (.exit 0) (buildS w_eqStateS_l0_o1 [.n h0_n, .f h0, .n h1_n, .f h1])) := by
  intro m
  induction m with
  | zero => intros; rfl
  | succ m ih =>
    intro i
    rw [loopN_round]
    refine (w_eqStateS_l0_round N a_n a_l a_c b_n b_l b_c i h0_n h0 h1_n h1 _ K).trans ?_
    simp only [ih]
    rfl
def E_w_eqStateS_l0 (α : Type) (N : Nat) : Env α := (E_w_eqState α N).addLoop2 27 4 (loopSum2 ((E_w_eqState α N).ann 27 4) 2 w_eqStateS_l0_p (fun l K => match l with
    | [.n a_n, .n a_l, .n a_c, .n b_n, .n b_l, .n b_c, .i i, .n h0_n, .f h0, .n h1_n, .f h1] => w_eqStateS_l0 none N a_n a_l a_c b_n b_l b_c h0_n h0 h1_n h1 N i (K .ret (buildS w_eqStateS_l0_o0 [.n h0_n, .f h0, .n h1_n, .f h1])) (K (.exit 0) (buildS w_eqStateS_l0_o1 [.n h0_n, .f h0, .n h1_n, .f h1]))
    | _ => none) ((E_w_eqState α N).ls 27 4))
theorem E_w_eqStateS_l0_ok {α : Type} (N : Nat) : EnvOk Try.prog (E_w_eqStateS_l0 α N) := (E_w_eqState_ok N).addLoop2 Try.func27 (by kernel_rfl) (loopSum_ok prog_mixed prog_names (E_w_eqState_ok N) Try.func27 (by kernel_rfl) (d := 1) (ro := 2) fun l K r h => by
  split at h
  · exact (w_eqStateS_l0_loop N _ _ _ _ _ _ _ _ _ _ K N _).trans h
  · cases h)

/-- laws.eqStateS -/
def w_eqStateS_a : SPat := ⟨[.sliceV 0 0 0 8 true, .sliceV 1 0 0 8 true], [[.intsV .u8], [.intsV .u8]]⟩
def w_eqStateS_r0 : SPat := ⟨[.bool], [[.intsV .u8], [.intsV .u8]]⟩
theorem w_eqStateS_run {α : Type} (N : Nat) (a_n : Nat) (a_l : Nat) (a_c : Nat) (b_n : Nat) (b_l : Nat) (b_c : Nat) (h0_n : Nat) (h0 : Nat → Int) (h1_n : Nat) (h1 : Nat → Int) (K : AV → Heap → Option α) :
    callK Try.prog (E_w_eqStateS_l0 α N) 1 27 2 (buildS w_eqStateS_a [.n a_n, .n a_l, .n a_c, .n b_n, .n b_l, .n b_c, .n h0_n, .f h0, .n h1_n, .f h1]).t (buildS w_eqStateS_a [.n a_n, .n a_l, .n a_c, .n b_n, .n b_l, .n b_c, .n h0_n, .f h0, .n h1_n, .f h1]).h K = w_eqStateS none N a_n a_l a_c b_n b_l b_c h0_n h0 h1_n h1 (fun r__ => retK (buildS w_eqStateS_r0 [.b r__, .n h0_n, .f h0, .n h1_n, .f h1]) K) := by kernel_rfl
def E_w_eqStateS (α : Type) (N : Nat) : Env α := (E_w_eqStateS_l0 α N).addFun 27 true 2 w_eqStateS_a (fun l K => match l with
    | [.n a_n, .n a_l, .n a_c, .n b_n, .n b_l, .n b_c, .n h0_n, .f h0, .n h1_n, .f h1] => w_eqStateS none N a_n a_l a_c b_n b_l b_c h0_n h0 h1_n h1 (fun r__ => retK (buildS w_eqStateS_r0 [.b r__, .n h0_n, .f h0, .n h1_n, .f h1]) K)
    | _ => none)
theorem E_w_eqStateS_ok {α : Type} (N : Nat) : EnvOk Try.prog (E_w_eqStateS α N) := (E_w_eqStateS_l0_ok N).addFun prog_mixed prog_names (d := 1) fun l K r h => by
  split at h
  · exact (w_eqStateS_run N _ _ _ _ _ _ _ _ _ _ K).trans h
  · cases h

/-- laws.FnExactIsSum -/
def w_FnExactIsSum_a : SPat := ⟨[.agg [.vals [.int .i64], .ints .u8 8, .ints .u8 8], .sliceV 0 0 0 8 false], [[.intsV .u8]]⟩
def w_FnExactIsSum_r0 : SPat := ⟨[.bool], [[.intsV .u8]]⟩
theorem w_FnExactIsSum_run {α : Type} (N : Nat) (aG_0 : Int) (aG_1 : Nat → Int) (aG_2 : Nat → Int) (aList_n : Nat) (aList_l : Nat) (aList_c : Nat) (h0_n : Nat) (h0 : Nat → Int) (K : AV → Heap → Option α) :
    callK Try.prog (E_w_eqStateS α N) 1 5 1 (buildS w_FnExactIsSum_a [.i aG_0, .f aG_1, .f aG_2, .n aList_n, .n aList_l, .n aList_c, .n h0_n, .f h0]).t (buildS w_FnExactIsSum_a [.i aG_0, .f aG_1, .f aG_2, .n aList_n, .n aList_l, .n aList_c, .n h0_n, .f h0]).h K = w_FnExactIsSum none N aG_0 aG_1 aG_2 aList_n aList_l aList_c h0_n h0 (fun r__ => retK (buildS w_FnExactIsSum_r0 [.b r__, .n h0_n, .f h0]) K) := by kernel_rfl
def E_w_FnExactIsSum (α : Type) (N : Nat) : Env α := (E_w_eqStateS α N).addFun 5 true 1 w_FnExactIsSum_a (fun l K => match l with
    | [.i aG_0, .f aG_1, .f aG_2, .n aList_n, .n aList_l, .n aList_c, .n h0_n, .f h0] => w_FnExactIsSum none N aG_0 aG_1 aG_2 aList_n aList_l aList_c h0_n h0 (fun r__ => retK (buildS w_FnExactIsSum_r0 [.b r__, .n h0_n, .f h0]) K)
    | _ => none)
theorem E_w_FnExactIsSum_ok {α : Type} (N : Nat) : EnvOk Try.prog (E_w_FnExactIsSum α N) := (E_w_eqStateS_ok N).addFun prog_mixed prog_names (d := 1) fun l K r h => by
  split at h
  · exact (w_FnExactIsSum_run N _ _ _ _ _ _ _ _ K).trans h
  · cases h
end Go.AM
