/- A part of a proof about the given program: an abstract machine, what the given functions come to, and plain laws. -/
import Derived.Test.YtlpfpjbmikpheaaAMEnv2
import Derived.Test.YtlpfpjbmikpheaaDIsMosaic
import Derived.Test.YtlpfpjbmikpheaaDIsPlaces
import Derived.Test.YtlpfpjbmikpheaaProg
set_option maxRecDepth 100000
namespace Go.AM
open Go.Proofs

def E0 (α : Type) (N : Nat) : Env α := Env.base (fun _ _ => {}) N
theorem E0_ok {α : Type} (N : Nat) : EnvOk Try.prog (E0 α N) := .base
theorem prog_mixed : Try.prog.follows .mixedOrders = true := by kernel_rfl
theorem prog_names : NamesOk Try.prog := .of_all (by kernel_rfl)
/-- spec.l01In -/
def s_l01In_a : SPat := ⟨[.int .i64, .int .i64, .int .i64], []⟩
def s_l01In_r0 : SPat := ⟨[.bool], []⟩
theorem s_l01In_run {α : Type} (N : Nat) (n : Int) (low : Int) (high : Int) (K : AV → Heap → Option α) :
    callK Try.prog (E0 α N) 1 63 0 (buildS s_l01In_a [.i n, .i low, .i high]).t (buildS s_l01In_a [.i n, .i low, .i high]).h K = s_l01In none N n low high (fun r__ => retK (buildS s_l01In_r0 [.b r__]) K) := by kernel_rfl
def E_s_l01In (α : Type) (N : Nat) : Env α := (E0 α N).addFun 63 true 0 s_l01In_a (fun l K => match l with
    | [.i n, .i low, .i high] => s_l01In none N n low high (fun r__ => retK (buildS s_l01In_r0 [.b r__]) K)
    | _ => none)
theorem E_s_l01In_ok {α : Type} (N : Nat) : EnvOk Try.prog (E_s_l01In α N) := (E0_ok N).addFun prog_mixed prog_names (d := 1) fun l K r h => by
  split at h
  · exact (s_l01In_run N _ _ _ K).trans h
  · cases h

/-- impl.within -/
def i_within_a : SPat := ⟨[.int .i64, .int .i64, .int .i64], []⟩
def i_within_r0 : SPat := ⟨[.bool], []⟩
theorem i_within_run {α : Type} (N : Nat) (x : Int) (low : Int) (high : Int) (K : AV → Heap → Option α) :
    callK Try.prog (E_s_l01In α N) 1 47 0 (buildS i_within_a [.i x, .i low, .i high]).t (buildS i_within_a [.i x, .i low, .i high]).h K = i_within none N x low high (fun r__ => retK (buildS i_within_r0 [.b r__]) K) := by kernel_rfl
def E_i_within (α : Type) (N : Nat) : Env α := (E_s_l01In α N).addFun 47 true 0 i_within_a (fun l K => match l with
    | [.i x, .i low, .i high] => i_within none N x low high (fun r__ => retK (buildS i_within_r0 [.b r__]) K)
    | _ => none)
theorem E_i_within_ok {α : Type} (N : Nat) : EnvOk Try.prog (E_i_within α N) := (E_s_l01In_ok N).addFun prog_mixed prog_names (d := 1) fun l K r h => by
  split at h
  · exact (i_within_run N _ _ _ K).trans h
  · cases h

def A_w_toPlaces_l0 (α : Type) (N : Nat) : Env α := (E_i_within α N).addAnn 17 3 { head := [1, 2, 3, 4], grow := [], out := [2, 3], ret := [2] }
theorem A_w_toPlaces_l0_ok {α : Type} (N : Nat) : EnvOk Try.prog (A_w_toPlaces_l0 α N) := (E_i_within_ok N).addAnn

/-- laws.toPlaces, loop -/
def w_toPlaces_l0_p : SPat := ⟨[.undef, .ptr ⟨0, 0, 0, 4⟩, .ptr ⟨1, 0, 0, 4⟩, .ptr ⟨2, 0, 0, 4⟩, .int .i64] ++ List.replicate 10 .undef, [[.ints .u8 4], [.ints .u8 4], [.ints .u8 4]]⟩
def w_toPlaces_l0_o0 : SPat := ⟨[.undef, .undef, .ptr ⟨1, 0, 0, 4⟩, .ptr ⟨2, 0, 0, 4⟩] ++ List.replicate 11 .undef, [[.ints .u8 4], [.ints .u8 4], [.ints .u8 4]]⟩
theorem w_toPlaces_l0_round {α : Type} (N : Nat) (i : Int) (h0 : Nat → Int) (h1 : Nat → Int) (h2 : Nat → Int) (kn : St → Option α) (K : AExit → St → Option α) :
    roundK Try.prog (A_w_toPlaces_l0 α N) 1 0 17 Try.f17 3 3 (buildS w_toPlaces_l0_p [.i i, .f h0, .f h1, .f h2]) kn K = w_toPlaces_l0_s none h0 h1 i h2 (fun i h2 => kn (buildS w_toPlaces_l0_p [.i i, .f h0, .f h1, .f h2])) (fun h2_ => K (.exit 0) (buildS w_toPlaces_l0_o0 [.f h0, .f h1, .f h2_])) := by kernel_rfl
theorem w_toPlaces_l0_loop {α : Type} (N : Nat) (h0 : Nat → Int) (h1 : Nat → Int) (K : AExit → St → Option α) : ∀ (m : Nat) (i : Int) (h2 : Nat → Int),
    loopN (trimSt ((A_w_toPlaces_l0 α N).ann 17 3).head ((A_w_toPlaces_l0 α N).ann 17 3).grow 3) (bodyK Try.prog (A_w_toPlaces_l0 α N) 1 0 17 Try.f17 3) m (buildS w_toPlaces_l0_p [.i i, .f h0, .f h1, .f h2]) (leaveLoop ((A_w_toPlaces_l0 α N).ann 17 3) 3 K) = w_toPlaces_l0 none h0 h1 m i h2 (fun h2_ => K (.exit 0) (buildS w_toPlaces_l0_o0 [.f h0, .f h1, .f h2_])) := by
  intro m
  induction m with
  | zero => intros; rfl
  | succ m ih =>
    intro i h2
    rw [loopN_round]
    refine (w_toPlaces_l0_round N i h0 h1 h2 _ K).trans ?_
    simp only [ih]
    rfl
def E_w_toPlaces_l0 (α : Type) (N : Nat) : Env α := (A_w_toPlaces_l0 α N).addLoop2 17 3 (loopSum2 ((A_w_toPlaces_l0 α N).ann 17 3) 0 w_toPlaces_l0_p (fun l K => match l with
    | [.i i, .f h0, .f h1, .f h2] => w_toPlaces_l0 none h0 h1 N i h2 (fun h2_ => K (.exit 0) (buildS w_toPlaces_l0_o0 [.f h0, .f h1, .f h2_]))
    | _ => none) ((A_w_toPlaces_l0 α N).ls 17 3))
theorem E_w_toPlaces_l0_ok {α : Type} (N : Nat) : EnvOk Try.prog (E_w_toPlaces_l0 α N) := (A_w_toPlaces_l0_ok N).addLoop2 Try.func17 (by kernel_rfl) (loopSum_ok prog_mixed prog_names (A_w_toPlaces_l0_ok N) Try.func17 (by kernel_rfl) (d := 1) (ro := 0) fun l K r h => by
  split at h
  · exact (w_toPlaces_l0_loop N _ _ K N _ _).trans h
  · cases h)

/-- laws.toPlaces -/
def w_toPlaces_a : SPat := ⟨[.agg [.ints .u8 4]], []⟩
def w_toPlaces_r0 : SPat := ⟨[.agg [.ints .u8 4]], []⟩
theorem w_toPlaces_run {α : Type} (N : Nat) (a : Nat → Int) (K : AV → Heap → Option α) :
    callK Try.prog (E_w_toPlaces_l0 α N) 1 17 0 (buildS w_toPlaces_a [.f a]).t (buildS w_toPlaces_a [.f a]).h K = w_toPlaces none N a (fun r__ => retK (buildS w_toPlaces_r0 [.f r__]) K) := by kernel_rfl
def E_w_toPlaces (α : Type) (N : Nat) : Env α := (E_w_toPlaces_l0 α N).addFun 17 true 0 w_toPlaces_a (fun l K => match l with
    | [.f a] => w_toPlaces none N a (fun r__ => retK (buildS w_toPlaces_r0 [.f r__]) K)
    | _ => none)
theorem E_w_toPlaces_ok {α : Type} (N : Nat) : EnvOk Try.prog (E_w_toPlaces α N) := (E_w_toPlaces_l0_ok N).addFun prog_mixed prog_names (d := 1) fun l K r h => by
  split at h
  · exact (w_toPlaces_run N _ K).trans h
  · cases h

def A_s_l08Is_l0 (α : Type) (N : Nat) : Env α := (E_w_toPlaces α N).addAnn 48 5 { head := [1, 2, 5, 6], grow := [], out := [], ret := [4] }
theorem A_s_l08Is_l0_ok {α : Type} (N : Nat) : EnvOk Try.prog (A_s_l08Is_l0 α N) := (E_w_toPlaces_ok N).addAnn

/-- spec.l08Is, loop -/
def s_l08Is_l0_p : SPat := ⟨[.undef, .int .i64, .ptr ⟨0, 0, 0, 4⟩, .undef, .undef, .ptr ⟨1, 0, 0, 4⟩, .int .i64] ++ List.replicate 32 .undef, [[.ints .u8 4], [.bools 4]]⟩
def s_l08Is_l0_o0 : SPat := ⟨[.undef, .undef, .undef, .undef, .boolC false] ++ List.replicate 34 .undef, [[.ints .u8 4], [.bools 4]]⟩
def s_l08Is_l0_o1 : SPat := ⟨[] ++ List.replicate 39 .undef, [[.ints .u8 4], [.bools 4]]⟩
theorem s_l08Is_l0_round {α : Type} (N : Nat) (k : Int) (x : Int) (h0 : Nat → Int) (h1 : Nat → Bool) (kn : St → Option α) (K : AExit → St → Option α) :
    roundK Try.prog (A_s_l08Is_l0 α N) 1 0 48 Try.f48 5 2 (buildS s_l08Is_l0_p [.i k, .i x, .f h0, .g h1]) kn K = s_l08Is_l0_s none k h0 x h1 (fun x h1 => kn (buildS s_l08Is_l0_p [.i k, .i x, .f h0, .g h1])) (fun h1_ => K .ret (buildS s_l08Is_l0_o0 [.f h0, .g h1_])) (fun h1_ => K (.exit 0) (buildS s_l08Is_l0_o1 [.f h0, .g h1_])) := by kernel_rfl
theorem s_l08Is_l0_loop {α : Type} (N : Nat) (k : Int) (h0 : Nat → Int) (K : AExit → St → Option α) : ∀ (m : Nat) (x : Int) (h1 : Nat → Bool),
    loopN (trimSt ((A_s_l08Is_l0 α N).ann 48 5).head ((A_s_l08Is_l0 α N).ann 48 5).grow 2) (bodyK Try.prog (A_s_l08Is_l0 α N) 1 0 48 Try.f48 5) m (buildS s_l08Is_l0_p [.i k, .i x, .f h0, .g h1]) (leaveLoop ((A_s_l08Is_l0 α N).ann 48 5) 2 K) = s_l08Is_l0 none k h0 m x h1 (fun h1_ => K .ret (buildS s_l08Is_l0_o0 [.f h0, .g h1_])) (fun h1_ => K (.exit 0) (buildS s_l08Is_l0_o1 [.f h0, .g h1_])) := by
  intro m
  induction m with
  | zero => intros; rfl
  | succ m ih =>
    intro x h1
    rw [loopN_round]
    refine (s_l08Is_l0_round N k x h0 h1 _ K).trans ?_
    simp only [ih]
    rfl
def E_s_l08Is_l0 (α : Type) (N : Nat) : Env α := (A_s_l08Is_l0 α N).addLoop2 48 5 (loopSum2 ((A_s_l08Is_l0 α N).ann 48 5) 0 s_l08Is_l0_p (fun l K => match l with
    | [.i k, .i x, .f h0, .g h1] => s_l08Is_l0 none k h0 N x h1 (fun h1_ => K .ret (buildS s_l08Is_l0_o0 [.f h0, .g h1_])) (fun h1_ => K (.exit 0) (buildS s_l08Is_l0_o1 [.f h0, .g h1_]))
    | _ => none) ((A_s_l08Is_l0 α N).ls 48 5))
theorem E_s_l08Is_l0_ok {α : Type} (N : Nat) : EnvOk Try.prog (E_s_l08Is_l0 α N) := (A_s_l08Is_l0_ok N).addLoop2 Try.func48 (by kernel_rfl) (loopSum_ok prog_mixed prog_names (A_s_l08Is_l0_ok N) Try.func48 (by kernel_rfl) (d := 1) (ro := 0) fun l K r h => by
  split at h
  · exact (s_l08Is_l0_loop N _ _ K N _ _).trans h
  · cases h)

/-- spec.l08Is -/
def s_l08Is_a : SPat := ⟨[.agg [.ints .u8 4], .int .i64], []⟩
def s_l08Is_r0 : SPat := ⟨[.bool], []⟩
theorem s_l08Is_run {α : Type} (N : Nat) (q : Nat → Int) (k : Int) (K : AV → Heap → Option α) :
    callK Try.prog (E_s_l08Is_l0 α N) 1 48 0 (buildS s_l08Is_a [.f q, .i k]).t (buildS s_l08Is_a [.f q, .i k]).h K = s_l08Is none N q k (fun r__ => retK (buildS s_l08Is_r0 [.b r__]) K) := by kernel_rfl
def E_s_l08Is (α : Type) (N : Nat) : Env α := (E_s_l08Is_l0 α N).addFun 48 true 0 s_l08Is_a (fun l K => match l with
    | [.f q, .i k] => s_l08Is none N q k (fun r__ => retK (buildS s_l08Is_r0 [.b r__]) K)
    | _ => none)
theorem E_s_l08Is_ok {α : Type} (N : Nat) : EnvOk Try.prog (E_s_l08Is α N) := (E_s_l08Is_l0_ok N).addFun prog_mixed prog_names (d := 1) fun l K r h => by
  split at h
  · exact (s_l08Is_run N _ _ K).trans h
  · cases h

/-- spec.IsPlaces -/
def s_IsPlaces_a : SPat := ⟨[.agg [.ints .u8 4], .int .i64], []⟩
def s_IsPlaces_r0 : SPat := ⟨[.bool], []⟩
theorem s_IsPlaces_run {α : Type} (N : Nat) (q : Nat → Int) (k : Int) (K : AV → Heap → Option α) :
    callK Try.prog (E_s_l08Is α N) 1 16 0 (buildS s_IsPlaces_a [.f q, .i k]).t (buildS s_IsPlaces_a [.f q, .i k]).h K = s_IsPlaces none N q k (fun r__ => retK (buildS s_IsPlaces_r0 [.b r__]) K) := by kernel_rfl
def E_s_IsPlaces (α : Type) (N : Nat) : Env α := (E_s_l08Is α N).addFun 16 true 0 s_IsPlaces_a (fun l K => match l with
    | [.f q, .i k] => s_IsPlaces none N q k (fun r__ => retK (buildS s_IsPlaces_r0 [.b r__]) K)
    | _ => none)
theorem E_s_IsPlaces_ok {α : Type} (N : Nat) : EnvOk Try.prog (E_s_IsPlaces α N) := (E_s_l08Is_ok N).addFun prog_mixed prog_names (d := 1) fun l K r h => by
  split at h
  · exact (s_IsPlaces_run N _ _ K).trans h
  · cases h

def A_i_isOrder_l0 (α : Type) (N : Nat) : Env α := (E_s_IsPlaces α N).addAnn 49 3 { head := [1, 5, 8, 9, 10], grow := [], out := [1, 5], ret := [4] }
theorem A_i_isOrder_l0_ok {α : Type} (N : Nat) : EnvOk Try.prog (A_i_isOrder_l0 α N) := (E_s_IsPlaces_ok N).addAnn

/-- impl.isOrder, loop -/
def i_isOrder_l0_p : SPat := ⟨[.undef, .int .i64, .undef, .undef, .undef, .int .i64, .undef, .undef, .slice ⟨0, 0, 0, 4⟩ 4 4 1 true, .intC .i64 4, .int .i64] ++ List.replicate 30 .undef, [[.ints .u8 4]]⟩
def i_isOrder_l0_o0 : SPat := ⟨[.undef, .undef, .undef, .undef, .boolC false] ++ List.replicate 36 .undef, [[.ints .u8 4]]⟩
def i_isOrder_l0_o1 : SPat := ⟨[.undef, .int .i64, .undef, .undef, .undef, .int .i64] ++ List.replicate 35 .undef, [[.ints .u8 4]]⟩
theorem i_isOrder_l0_round {α : Type} (N : Nat) (n : Int) (seen : Int) (t10 : Int) (h0 : Nat → Int) (kn : St → Option α) (K : AExit → St → Option α) :
    roundK Try.prog (A_i_isOrder_l0 α N) 1 1 49 Try.f49 3 1 (buildS i_isOrder_l0_p [.i n, .i seen, .i t10, .f h0]) kn K = i_isOrder_l0_s none n h0 seen t10 (fun seen t10 => kn (buildS i_isOrder_l0_p [.i n, .i seen, .i t10, .f h0])) (K .ret (buildS i_isOrder_l0_o0 [.f h0])) (fun seen_ => K (.exit 0) (buildS i_isOrder_l0_o1 [.i n, .i seen_, .f h0])) := by kernel_rfl
theorem i_isOrder_l0_loop {α : Type} (N : Nat) (n : Int) (h0 : Nat → Int) (K : AExit → St → Option α) : ∀ (m : Nat) (seen : Int) (t10 : Int),
    loopN (trimSt ((A_i_isOrder_l0 α N).ann 49 3).head ((A_i_isOrder_l0 α N).ann 49 3).grow 1) (bodyK Try.prog (A_i_isOrder_l0 α N) 1 1 49 Try.f49 3) m (buildS i_isOrder_l0_p [.i n, .i seen, .i t10, .f h0]) (leaveLoop ((A_i_isOrder_l0 α N).ann 49 3) 1 K) = i_isOrder_l0 none n h0 m seen t10 (K .ret (buildS i_isOrder_l0_o0 [.f h0])) (fun seen_ => K (.exit 0) (buildS i_isOrder_l0_o1 [.i n, .i seen_, .f h0])) := by
  intro m
  induction m with
  | zero => intros; rfl
  | succ m ih =>
    intro seen t10
    rw [loopN_round]
    refine (i_isOrder_l0_round N n seen t10 h0 _ K).trans ?_
    simp only [ih]
    rfl
def E_i_isOrder_l0 (α : Type) (N : Nat) : Env α := (A_i_isOrder_l0 α N).addLoop2 49 3 (loopSum2 ((A_i_isOrder_l0 α N).ann 49 3) 1 i_isOrder_l0_p (fun l K => match l with
    | [.i n, .i seen, .i t10, .f h0] => i_isOrder_l0 none n h0 N seen t10 (K .ret (buildS i_isOrder_l0_o0 [.f h0])) (fun seen_ => K (.exit 0) (buildS i_isOrder_l0_o1 [.i n, .i seen_, .f h0]))
    | _ => none) ((A_i_isOrder_l0 α N).ls 49 3))
theorem E_i_isOrder_l0_ok {α : Type} (N : Nat) : EnvOk Try.prog (E_i_isOrder_l0 α N) := (A_i_isOrder_l0_ok N).addLoop2 Try.func49 (by kernel_rfl) (loopSum_ok prog_mixed prog_names (A_i_isOrder_l0_ok N) Try.func49 (by kernel_rfl) (d := 1) (ro := 1) fun l K r h => by
  split at h
  · exact (i_isOrder_l0_loop N _ _ K N _ _).trans h
  · cases h)

/-- impl.isOrder -/
def i_isOrder_a : SPat := ⟨[.slice ⟨0, 0, 0, 4⟩ 4 4 1 true, .int .i64], [[.ints .u8 4]]⟩
def i_isOrder_r0 : SPat := ⟨[.bool], [[.ints .u8 4]]⟩
theorem i_isOrder_run {α : Type} (N : Nat) (n : Int) (h0 : Nat → Int) (K : AV → Heap → Option α) :
    callK Try.prog (E_i_isOrder_l0 α N) 1 49 1 (buildS i_isOrder_a [.i n, .f h0]).t (buildS i_isOrder_a [.i n, .f h0]).h K = i_isOrder none N n h0 (fun r__ => retK (buildS i_isOrder_r0 [.b r__, .f h0]) K) := by kernel_rfl
def E_i_isOrder (α : Type) (N : Nat) : Env α := (E_i_isOrder_l0 α N).addFun 49 true 1 i_isOrder_a (fun l K => match l with
    | [.i n, .f h0] => i_isOrder none N n h0 (fun r__ => retK (buildS i_isOrder_r0 [.b r__, .f h0]) K)
    | _ => none)
theorem E_i_isOrder_ok {α : Type} (N : Nat) : EnvOk Try.prog (E_i_isOrder α N) := (E_i_isOrder_l0_ok N).addFun prog_mixed prog_names (d := 1) fun l K r h => by
  split at h
  · exact (i_isOrder_run N _ _ K).trans h
  · cases h

/-- impl.IsPlaces -/
def i_IsPlaces_a : SPat := ⟨[.agg [.ints .u8 4], .int .i64], []⟩
def i_IsPlaces_r0 : SPat := ⟨[.bool], []⟩
theorem i_IsPlaces_run {α : Type} (N : Nat) (q : Nat → Int) (k : Int) (K : AV → Heap → Option α) :
    callK Try.prog (E_i_isOrder α N) 1 18 0 (buildS i_IsPlaces_a [.f q, .i k]).t (buildS i_IsPlaces_a [.f q, .i k]).h K = i_IsPlaces none N q k (fun r__ => retK (buildS i_IsPlaces_r0 [.b r__]) K) := by kernel_rfl
def E_i_IsPlaces (α : Type) (N : Nat) : Env α := (E_i_isOrder α N).addFun 18 true 0 i_IsPlaces_a (fun l K => match l with
    | [.f q, .i k] => i_IsPlaces none N q k (fun r__ => retK (buildS i_IsPlaces_r0 [.b r__]) K)
    | _ => none)
theorem E_i_IsPlaces_ok {α : Type} (N : Nat) : EnvOk Try.prog (E_i_IsPlaces α N) := (E_i_isOrder_ok N).addFun prog_mixed prog_names (d := 1) fun l K r h => by
  split at h
  · exact (i_IsPlaces_run N _ _ K).trans h
  · cases h

/-- laws.FnExactIsPlaces -/
def w_FnExactIsPlaces_a : SPat := ⟨[.agg [.ints .u8 4], .int .i64], []⟩
def w_FnExactIsPlaces_r0 : SPat := ⟨[.bool], []⟩
theorem w_FnExactIsPlaces_run {α : Type} (N : Nat) (aQ : Nat → Int) (aK : Int) (K : AV → Heap → Option α) :
    callK Try.prog (E_i_IsPlaces α N) 1 4 0 (buildS w_FnExactIsPlaces_a [.f aQ, .i aK]).t (buildS w_FnExactIsPlaces_a [.f aQ, .i aK]).h K = w_FnExactIsPlaces none N aQ aK (fun r__ => retK (buildS w_FnExactIsPlaces_r0 [.b r__]) K) := by kernel_rfl
def E_w_FnExactIsPlaces (α : Type) (N : Nat) : Env α := (E_i_IsPlaces α N).addFun 4 true 0 w_FnExactIsPlaces_a (fun l K => match l with
    | [.f aQ, .i aK] => w_FnExactIsPlaces none N aQ aK (fun r__ => retK (buildS w_FnExactIsPlaces_r0 [.b r__]) K)
    | _ => none)
theorem E_w_FnExactIsPlaces_ok {α : Type} (N : Nat) : EnvOk Try.prog (E_w_FnExactIsPlaces α N) := (E_i_IsPlaces_ok N).addFun prog_mixed prog_names (d := 1) fun l K r h => by
  split at h
  · exact (w_FnExactIsPlaces_run N _ _ K).trans h
  · cases h
end Go.AM
