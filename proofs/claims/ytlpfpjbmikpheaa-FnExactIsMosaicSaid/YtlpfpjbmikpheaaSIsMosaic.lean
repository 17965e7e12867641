/- A part of a proof about the given program: an abstract machine, what the given functions come to, and plain laws. -/
import Derived.Test.YtlpfpjbmikpheaaAMEnv2
import Derived.Test.YtlpfpjbmikpheaaDIsMosaic
import Derived.Test.YtlpfpjbmikpheaaProg
set_option maxRecDepth 100000
namespace Go.AM
open Go.Proofs

def E0 (α : Type) (N : Nat) : Env α := Env.base (fun _ _ => {}) N
theorem E0_ok {α : Type} (N : Nat) : EnvOk Try.prog (E0 α N) := .base
theorem prog_mixed : Try.prog.follows .mixedOrders = true := by kernel_rfl
theorem prog_names : NamesOk Try.prog := .of_all (by kernel_rfl)
def A_w_toByteA64_l0 (α : Type) (N : Nat) : Env α := (E0 α N).addAnn 46 3 { head := [1, 2, 3, 4], grow := [], out := [2, 3], ret := [2] }
theorem A_w_toByteA64_l0_ok {α : Type} (N : Nat) : EnvOk Try.prog (A_w_toByteA64_l0 α N) := (E0_ok N).addAnn

/-- laws.toByteA64, loop -/
def w_toByteA64_l0_p : SPat := ⟨[.undef, .ptr ⟨0, 0, 0, 64⟩, .ptr ⟨1, 0, 0, 64⟩, .ptr ⟨2, 0, 0, 64⟩, .int .i64] ++ List.replicate 10 .undef, [[.ints .u8 64], [.ints .u8 64], [.ints .u8 64]]⟩
def w_toByteA64_l0_o0 : SPat := ⟨[.undef, .undef, .ptr ⟨1, 0, 0, 64⟩, .ptr ⟨2, 0, 0, 64⟩] ++ List.replicate 11 .undef, [[.ints .u8 64], [.ints .u8 64], [.ints .u8 64]]⟩
theorem w_toByteA64_l0_round {α : Type} (N : Nat) (i : Int) (h0 : Nat → Int) (h1 : Nat → Int) (h2 : Nat → Int) (kn : St → Option α) (K : AExit → St → Option α) :
    roundK Try.prog (A_w_toByteA64_l0 α N) 1 0 46 Try.f46 3 3 (buildS w_toByteA64_l0_p [.i i, .f h0, .f h1, .f h2]) kn K = w_toByteA64_l0_s none h0 h1 i h2 (fun i h2 => kn (buildS w_toByteA64_l0_p [.i i, .f h0, .f h1, .f h2])) (fun h2_ => K (.exit 0) (buildS w_toByteA64_l0_o0 [.f h0, .f h1, .f h2_])) := by kernel_rfl
theorem w_toByteA64_l0_loop {α : Type} (N : Nat) (h0 : Nat → Int) (h1 : Nat → Int) (K : AExit → St → Option α) : ∀ (m : Nat) (i : Int) (h2 : Nat → Int),
    loopN (trimSt ((A_w_toByteA64_l0 α N).ann 46 3).head ((A_w_toByteA64_l0 α N).ann 46 3).grow 3) (bodyK Try.prog (A_w_toByteA64_l0 α N) 1 0 46 Try.f46 3) m (buildS w_toByteA64_l0_p [.i i, .f h0, .f h1, .f h2]) (leaveLoop ((A_w_toByteA64_l0 α N).ann 46 3) 3 K) = w_toByteA64_l0 none h0 h1 m i h2 (fun h2_ => K (.exit 0) (buildS w_toByteA64_l0_o0 [.f h0, .f h1, .f h2_])) := by
  intro m
  induction m with
  | zero => intros; rfl
  | succ m ih =>
    intro i h2
    rw [loopN_round]
    refine (w_toByteA64_l0_round N i h0 h1 h2 _ K).trans ?_
    simp only [ih]
    rfl
def E_w_toByteA64_l0 (α : Type) (N : Nat) : Env α := (A_w_toByteA64_l0 α N).addLoop2 46 3 (loopSum2 ((A_w_toByteA64_l0 α N).ann 46 3) 0 w_toByteA64_l0_p (fun l K => match l with
    | [.i i, .f h0, .f h1, .f h2] => w_toByteA64_l0 none h0 h1 N i h2 (fun h2_ => K (.exit 0) (buildS w_toByteA64_l0_o0 [.f h0, .f h1, .f h2_]))
    | _ => none) ((A_w_toByteA64_l0 α N).ls 46 3))
theorem E_w_toByteA64_l0_ok {α : Type} (N : Nat) : EnvOk Try.prog (E_w_toByteA64_l0 α N) := (A_w_toByteA64_l0_ok N).addLoop2 Try.func46 (by kernel_rfl) (loopSum_ok prog_mixed prog_names (A_w_toByteA64_l0_ok N) Try.func46 (by kernel_rfl) (d := 1) (ro := 0) fun l K r h => by
  split at h
  · exact (w_toByteA64_l0_loop N _ _ K N _ _).trans h
  · cases h)

/-- laws.toByteA64 -/
def w_toByteA64_a : SPat := ⟨[.agg [.ints .u8 64]], []⟩
def w_toByteA64_r0 : SPat := ⟨[.agg [.ints .u8 64]], []⟩
theorem w_toByteA64_run {α : Type} (N : Nat) (a : Nat → Int) (K : AV → Heap → Option α) :
    callK Try.prog (E_w_toByteA64_l0 α N) 1 46 0 (buildS w_toByteA64_a [.f a]).t (buildS w_toByteA64_a [.f a]).h K = w_toByteA64 none N a (fun r__ => retK (buildS w_toByteA64_r0 [.f r__]) K) := by kernel_rfl
def E_w_toByteA64 (α : Type) (N : Nat) : Env α := (E_w_toByteA64_l0 α N).addFun 46 true 0 w_toByteA64_a (fun l K => match l with
    | [.f a] => w_toByteA64 none N a (fun r__ => retK (buildS w_toByteA64_r0 [.f r__]) K)
    | _ => none)
theorem E_w_toByteA64_ok {α : Type} (N : Nat) : EnvOk Try.prog (E_w_toByteA64 α N) := (E_w_toByteA64_l0_ok N).addFun prog_mixed prog_names (d := 1) fun l K r h => by
  split at h
  · exact (w_toByteA64_run N _ K).trans h
  · cases h

/-- laws.toMosaic -/
def w_toMosaic_a : SPat := ⟨[.agg [.vals [.int .i64], .ints .u8 64]], []⟩
def w_toMosaic_r0 : SPat := ⟨[.agg [.vals [.int .i64], .ints .u8 64]], []⟩
theorem w_toMosaic_run {α : Type} (N : Nat) (a_0 : Int) (a_1 : Nat → Int) (K : AV → Heap → Option α) :
    callK Try.prog (E_w_toByteA64 α N) 1 14 0 (buildS w_toMosaic_a [.i a_0, .f a_1]).t (buildS w_toMosaic_a [.i a_0, .f a_1]).h K = w_toMosaic none N a_0 a_1 (fun r_1_ => retK (buildS w_toMosaic_r0 [.i a_0, .f r_1_]) K) := by kernel_rfl
def E_w_toMosaic (α : Type) (N : Nat) : Env α := (E_w_toByteA64 α N).addFun 14 true 0 w_toMosaic_a (fun l K => match l with
    | [.i a_0, .f a_1] => w_toMosaic none N a_0 a_1 (fun r_1_ => retK (buildS w_toMosaic_r0 [.i a_0, .f r_1_]) K)
    | _ => none)
theorem E_w_toMosaic_ok {α : Type} (N : Nat) : EnvOk Try.prog (E_w_toMosaic α N) := (E_w_toByteA64_ok N).addFun prog_mixed prog_names (d := 1) fun l K r h => by
  split at h
  · exact (w_toMosaic_run N _ _ K).trans h
  · cases h

/-- spec.l01In -/
def s_l01In_a : SPat := ⟨[.int .i64, .int .i64, .int .i64], []⟩
def s_l01In_r0 : SPat := ⟨[.bool], []⟩
theorem s_l01In_run {α : Type} (N : Nat) (n : Int) (low : Int) (high : Int) (K : AV → Heap → Option α) :
    callK Try.prog (E_w_toMosaic α N) 1 63 0 (buildS s_l01In_a [.i n, .i low, .i high]).t (buildS s_l01In_a [.i n, .i low, .i high]).h K = s_l01In none N n low high (fun r__ => retK (buildS s_l01In_r0 [.b r__]) K) := by kernel_rfl
def E_s_l01In (α : Type) (N : Nat) : Env α := (E_w_toMosaic α N).addFun 63 true 0 s_l01In_a (fun l K => match l with
    | [.i n, .i low, .i high] => s_l01In none N n low high (fun r__ => retK (buildS s_l01In_r0 [.b r__]) K)
    | _ => none)
theorem E_s_l01In_ok {α : Type} (N : Nat) : EnvOk Try.prog (E_s_l01In α N) := (E_w_toMosaic_ok N).addFun prog_mixed prog_names (d := 1) fun l K r h => by
  split at h
  · exact (s_l01In_run N _ _ _ K).trans h
  · cases h

def A_s_l09Is_l0 (α : Type) (N : Nat) : Env α := (E_s_l01In α N).addAnn 45 4 { head := [1, 3], grow := [], out := [], ret := [2] }
theorem A_s_l09Is_l0_ok {α : Type} (N : Nat) : EnvOk Try.prog (A_s_l09Is_l0 α N) := (E_s_l01In_ok N).addAnn

/-- spec.l09Is, loop -/
def s_l09Is_l0_p : SPat := ⟨[.undef, .ptr ⟨0, 0, 0, 1⟩, .undef, .int .i64] ++ List.replicate 29 .undef, [[.vals [.int .i64], .ints .u8 64]]⟩
def s_l09Is_l0_o0 : SPat := ⟨[.undef, .undef, .boolC false] ++ List.replicate 30 .undef, [[.vals [.int .i64], .ints .u8 64]]⟩
def s_l09Is_l0_o1 : SPat := ⟨[] ++ List.replicate 33 .undef, [[.vals [.int .i64], .ints .u8 64]]⟩
theorem s_l09Is_l0_round {α : Type} (N : Nat) (k : Int) (h0_0 : Int) (h0_1 : Nat → Int) (kn : St → Option α) (K : AExit → St → Option α) :
    roundK Try.prog (A_s_l09Is_l0 α N) 1 0 45 Try.f45 4 1 (buildS s_l09Is_l0_p [.i k, .i h0_0, .f h0_1]) kn K = s_l09Is_l0_s none h0_0 h0_1 k (fun k => kn (buildS s_l09Is_l0_p [.i k, .i h0_0, .f h0_1])) (K .ret (buildS s_l09Is_l0_o0 [.i h0_0, .f h0_1])) (K (.exit 0) (buildS s_l09Is_l0_o1 [.i h0_0, .f h0_1])) := by kernel_rfl
theorem s_l09Is_l0_loop {α : Type} (N : Nat) (h0_0 : Int) (h0_1 : Nat → Int) (K : AExit → St → Option α) : ∀ (m : Nat) (k : Int),
    loopN (trimSt ((A_s_l09Is_l0 α N).ann 45 4).head ((A_s_l09Is_l0 α N).ann 45 4).grow 1) (bodyK Try.prog (A_s_l09Is_l0 α N) 1 0 45 Try.f45 4) m (buildS s_l09Is_l0_p [.i k, .i h0_0, .f h0_1]) (leaveLoop ((A_s_l09Is_l0 α N).ann 45 4) 1 K) = s_l09Is_l0 none h0_0 h0_1 m k (K .ret (buildS s_l09Is_l0_o0 [.i h0_0, .f h0_1])) (K (.exit 0) (buildS s_l09Is_l0_o1 [.i h0_0, .f h0_1])) := by
  intro m
  induction m with
  | zero => intros; rfl
  | succ m ih =>
    intro k
    rw [loopN_round]
    refine (s_l09Is_l0_round N k h0_0 h0_1 _ K).trans ?_
    simp only [ih]
    rfl
def E_s_l09Is_l0 (α : Type) (N : Nat) : Env α := (A_s_l09Is_l0 α N).addLoop2 45 4 (loopSum2 ((A_s_l09Is_l0 α N).ann 45 4) 0 s_l09Is_l0_p (fun l K => match l with
    | [.i k, .i h0_0, .f h0_1] => s_l09Is_l0 none h0_0 h0_1 N k (K .ret (buildS s_l09Is_l0_o0 [.i h0_0, .f h0_1])) (K (.exit 0) (buildS s_l09Is_l0_o1 [.i h0_0, .f h0_1]))
    | _ => none) ((A_s_l09Is_l0 α N).ls 45 4))
theorem E_s_l09Is_l0_ok {α : Type} (N : Nat) : EnvOk Try.prog (E_s_l09Is_l0 α N) := (A_s_l09Is_l0_ok N).addLoop2 Try.func45 (by kernel_rfl) (loopSum_ok prog_mixed prog_names (A_s_l09Is_l0_ok N) Try.func45 (by kernel_rfl) (d := 1) (ro := 0) fun l K r h => by
  split at h
  · exact (s_l09Is_l0_loop N _ _ K N _).trans h
  · cases h)

/-- spec.l09Is -/
def s_l09Is_a : SPat := ⟨[.agg [.vals [.int .i64], .ints .u8 64]], []⟩
def s_l09Is_r0 : SPat := ⟨[.bool], []⟩
theorem s_l09Is_run {α : Type} (N : Nat) (m_0 : Int) (m_1 : Nat → Int) (K : AV → Heap → Option α) :
    callK Try.prog (E_s_l09Is_l0 α N) 1 45 0 (buildS s_l09Is_a [.i m_0, .f m_1]).t (buildS s_l09Is_a [.i m_0, .f m_1]).h K = s_l09Is none N m_0 m_1 (fun r__ => retK (buildS s_l09Is_r0 [.b r__]) K) := by kernel_rfl
def E_s_l09Is (α : Type) (N : Nat) : Env α := (E_s_l09Is_l0 α N).addFun 45 true 0 s_l09Is_a (fun l K => match l with
    | [.i m_0, .f m_1] => s_l09Is none N m_0 m_1 (fun r__ => retK (buildS s_l09Is_r0 [.b r__]) K)
    | _ => none)
theorem E_s_l09Is_ok {α : Type} (N : Nat) : EnvOk Try.prog (E_s_l09Is α N) := (E_s_l09Is_l0_ok N).addFun prog_mixed prog_names (d := 1) fun l K r h => by
  split at h
  · exact (s_l09Is_run N _ _ K).trans h
  · cases h

/-- spec.IsMosaic -/
def s_IsMosaic_a : SPat := ⟨[.agg [.vals [.int .i64], .ints .u8 64]], []⟩
def s_IsMosaic_r0 : SPat := ⟨[.bool], []⟩
theorem s_IsMosaic_run {α : Type} (N : Nat) (m_0 : Int) (m_1 : Nat → Int) (K : AV → Heap → Option α) :
    callK Try.prog (E_s_l09Is α N) 1 13 0 (buildS s_IsMosaic_a [.i m_0, .f m_1]).t (buildS s_IsMosaic_a [.i m_0, .f m_1]).h K = s_IsMosaic none N m_0 m_1 (fun r__ => retK (buildS s_IsMosaic_r0 [.b r__]) K) := by kernel_rfl
def E_s_IsMosaic (α : Type) (N : Nat) : Env α := (E_s_l09Is α N).addFun 13 true 0 s_IsMosaic_a (fun l K => match l with
    | [.i m_0, .f m_1] => s_IsMosaic none N m_0 m_1 (fun r__ => retK (buildS s_IsMosaic_r0 [.b r__]) K)
    | _ => none)
theorem E_s_IsMosaic_ok {α : Type} (N : Nat) : EnvOk Try.prog (E_s_IsMosaic α N) := (E_s_l09Is_ok N).addFun prog_mixed prog_names (d := 1) fun l K r h => by
  split at h
  · exact (s_IsMosaic_run N _ _ K).trans h
  · cases h

/-- impl.within -/
def i_within_a : SPat := ⟨[.int .i64, .int .i64, .int .i64], []⟩
def i_within_r0 : SPat := ⟨[.bool], []⟩
theorem i_within_run {α : Type} (N : Nat) (x : Int) (low : Int) (high : Int) (K : AV → Heap → Option α) :
    callK Try.prog (E_s_IsMosaic α N) 1 47 0 (buildS i_within_a [.i x, .i low, .i high]).t (buildS i_within_a [.i x, .i low, .i high]).h K = i_within none N x low high (fun r__ => retK (buildS i_within_r0 [.b r__]) K) := by kernel_rfl
def E_i_within (α : Type) (N : Nat) : Env α := (E_s_IsMosaic α N).addFun 47 true 0 i_within_a (fun l K => match l with
    | [.i x, .i low, .i high] => i_within none N x low high (fun r__ => retK (buildS i_within_r0 [.b r__]) K)
    | _ => none)
theorem E_i_within_ok {α : Type} (N : Nat) : EnvOk Try.prog (E_i_within α N) := (E_s_IsMosaic_ok N).addFun prog_mixed prog_names (d := 1) fun l K r h => by
  split at h
  · exact (i_within_run N _ _ _ K).trans h
  · cases h

def A_i_IsMosaic_l0 (α : Type) (N : Nat) : Env α := (E_i_within α N).addAnn 15 4 { head := [1, 10, 11], grow := [], out := [], ret := [2] }
theorem A_i_IsMosaic_l0_ok {α : Type} (N : Nat) : EnvOk Try.prog (A_i_IsMosaic_l0 α N) := (E_i_within_ok N).addAnn

/-- impl.IsMosaic, loop -/
def i_IsMosaic_l0_p : SPat := ⟨[.undef, .ptr ⟨0, 0, 0, 1⟩, .undef, .undef, .undef, .undef, .undef, .undef, .undef, .undef, .agg [.ints .u8 64], .int .i64] ++ List.replicate 19 .undef, [[.vals [.int .i64], .ints .u8 64]]⟩
def i_IsMosaic_l0_o0 : SPat := ⟨[.undef, .undef, .boolC false] ++ List.replicate 28 .undef, [[.vals [.int .i64], .ints .u8 64]]⟩
def i_IsMosaic_l0_o1 : SPat := ⟨[] ++ List.replicate 31 .undef, [[.vals [.int .i64], .ints .u8 64]]⟩
theorem i_IsMosaic_l0_round {α : Type} (N : Nat) (t10 : Nat → Int) (t11 : Int) (h0_0 : Int) (h0_1 : Nat → Int) (kn : St → Option α) (K : AExit → St → Option α) :
    roundK Try.prog (A_i_IsMosaic_l0 α N) 1 0 15 Try.f15 4 1 (buildS i_IsMosaic_l0_p [.f t10, .i t11, .i h0_0, .f h0_1]) kn K = i_IsMosaic_l0_s none t10 h0_0 h0_1 t11 (fun t11 => kn (buildS i_IsMosaic_l0_p [.f t10, .i t11, .i h0_0, .f h0_1])) (K .ret (buildS i_IsMosaic_l0_o0 [.i h0_0, .f h0_1])) (K (.exit 0) (buildS i_IsMosaic_l0_o1 [.i h0_0, .f h0_1])) := by kernel_rfl
theorem i_IsMosaic_l0_loop {α : Type} (N : Nat) (t10 : Nat → Int) (h0_0 : Int) (h0_1 : Nat → Int) (K : AExit → St → Option α) : ∀ (m : Nat) (t11 : Int),
    loopN (trimSt ((A_i_IsMosaic_l0 α N).ann 15 4).head ((A_i_IsMosaic_l0 α N).ann 15 4).grow 1) (bodyK Try.prog (A_i_IsMosaic_l0 α N) 1 0 15 Try.f15 4) m (buildS i_IsMosaic_l0_p [.f t10, .i t11, .i h0_0, .f h0_1]) (leaveLoop ((A_i_IsMosaic_l0 α N).ann 15 4) 1 K) = i_IsMosaic_l0 none t10 h0_0 h0_1 m t11 (K .ret (buildS i_IsMosaic_l0_o0 [.i h0_0, .f h0_1])) (K (.exit 0) (buildS i_IsMosaic_l0_o1 [.i h0_0, .f h0_1])) := by
  intro m
  induction m with
  | zero => intros; rfl
  | succ m ih =>
    intro t11
    rw [loopN_round]
    refine (i_IsMosaic_l0_round N t10 t11 h0_0 h0_1 _ K).trans ?_
    simp only [ih]
    rfl
def E_i_IsMosaic_l0 (α : Type) (N : Nat) : Env α := (A_i_IsMosaic_l0 α N).addLoop2 15 4 (loopSum2 ((A_i_IsMosaic_l0 α N).ann 15 4) 0 i_IsMosaic_l0_p (fun l K => match l with
    | [.f t10, .i t11, .i h0_0, .f h0_1] => i_IsMosaic_l0 none t10 h0_0 h0_1 N t11 (K .ret (buildS i_IsMosaic_l0_o0 [.i h0_0, .f h0_1])) (K (.exit 0) (buildS i_IsMosaic_l0_o1 [.i h0_0, .f h0_1]))
    | _ => none) ((A_i_IsMosaic_l0 α N).ls 15 4))
theorem E_i_IsMosaic_l0_ok {α : Type} (N : Nat) : EnvOk Try.prog (E_i_IsMosaic_l0 α N) := (A_i_IsMosaic_l0_ok N).addLoop2 Try.func15 (by kernel_rfl) (loopSum_ok prog_mixed prog_names (A_i_IsMosaic_l0_ok N) Try.func15 (by kernel_rfl) (d := 1) (ro := 0) fun l K r h => by
  split at h
  · exact (i_IsMosaic_l0_loop N _ _ _ K N _).trans h
  · cases h)

/-- impl.IsMosaic -/
def i_IsMosaic_a : SPat := ⟨[.agg [.vals [.int .i64], .ints .u8 64]], []⟩
def i_IsMosaic_r0 : SPat := ⟨[.bool], []⟩
theorem i_IsMosaic_run {α : Type} (N : Nat) (m_0 : Int) (m_1 : Nat → Int) (K : AV → Heap → Option α) :
    callK Try.prog (E_i_IsMosaic_l0 α N) 1 15 0 (buildS i_IsMosaic_a [.i m_0, .f m_1]).t (buildS i_IsMosaic_a [.i m_0, .f m_1]).h K = i_IsMosaic none N m_0 m_1 (fun r__ => retK (buildS i_IsMosaic_r0 [.b r__]) K) := by kernel_rfl
def E_i_IsMosaic (α : Type) (N : Nat) : Env α := (E_i_IsMosaic_l0 α N).addFun 15 true 0 i_IsMosaic_a (fun l K => match l with
    | [.i m_0, .f m_1] => i_IsMosaic none N m_0 m_1 (fun r__ => retK (buildS i_IsMosaic_r0 [.b r__]) K)
    | _ => none)
theorem E_i_IsMosaic_ok {α : Type} (N : Nat) : EnvOk Try.prog (E_i_IsMosaic α N) := (E_i_IsMosaic_l0_ok N).addFun prog_mixed prog_names (d := 1) fun l K r h => by
  split at h
  · exact (i_IsMosaic_run N _ _ K).trans h
  · cases h

/-- laws.FnExactIsMosaic -/
def w_FnExactIsMosaic_a : SPat := ⟨[.agg [.vals [.int .i64], .ints .u8 64]], []⟩
def w_FnExactIsMosaic_r0 : SPat := ⟨[.bool], []⟩
theorem w_FnExactIsMosaic_run {α : Type} (N : Nat) (aM_0 : Int) (aM_1 : Nat → Int) (K : AV → Heap → Option α) :
    callK Try.prog (E_i_IsMosaic α N) 1 3 0 (buildS w_FnExactIsMosaic_a [.i aM_0, .f aM_1]).t (buildS w_FnExactIsMosaic_a [.i aM_0, .f aM_1]).h K = w_FnExactIsMosaic none N aM_0 aM_1 (fun r__ => retK (buildS w_FnExactIsMosaic_r0 [.b r__]) K) := by kernel_rfl
def E_w_FnExactIsMosaic (α : Type) (N : Nat) : Env α := (E_i_IsMosaic α N).addFun 3 true 0 w_FnExactIsMosaic_a (fun l K => match l with
    | [.i aM_0, .f aM_1] => w_FnExactIsMosaic none N aM_0 aM_1 (fun r__ => retK (buildS w_FnExactIsMosaic_r0 [.b r__]) K)
    | _ => none)
theorem E_w_FnExactIsMosaic_ok {α : Type} (N : Nat) : EnvOk Try.prog (E_w_FnExactIsMosaic α N) := (E_i_IsMosaic_ok N).addFun prog_mixed prog_names (d := 1) fun l K r h => by
  split at h
  · exact (w_FnExactIsMosaic_run N _ _ K).trans h
  · cases h
end Go.AM
