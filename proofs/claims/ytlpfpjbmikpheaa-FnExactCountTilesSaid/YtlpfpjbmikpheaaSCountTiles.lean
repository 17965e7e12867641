/- A part of a proof about the given program: an abstract machine, what the given functions come to, and plain laws. -/
import Derived.Test.YtlpfpjbmikpheaaAMEnv2
import Derived.Test.YtlpfpjbmikpheaaDIsMosaic
import Derived.Test.YtlpfpjbmikpheaaDCountTiles
import Derived.Test.YtlpfpjbmikpheaaProg
set_option maxRecDepth 100000
namespace Go.AM
open Go.Proofs

def E0 (α : Type) (N : Nat) : Env α := Env.base (fun _ _ => {}) N
theorem E0_ok {α : Type} (N : Nat) : EnvOk Try.prog (E0 α N) := .base
theorem prog_mixed : Try.prog.follows .mixedOrders = true := by kernel_rfl
theorem prog_names : NamesOk Try.prog := .of_all (by kernel_rfl)
def A_w_toByteA64_l0 (α : Type) (N : Nat) : Env α := (E0 α N).addAnn 46 3 { head := [1, 2, 3, 4], grow := [], out := [2, 3], ret := [2] }
theorem A_w_toByteA64_l0_ok {α : Type} (N : Nat) : EnvOk Try.prog (A_w_toByteA64_l0 α N) := (E0_ok N).addAnn

/-- laws.toByteA64, loop -/
def w_toByteA64_l0_p : SPat := ⟨[.undef, .ptr ⟨0, 0, 0, 64⟩, .ptr ⟨1, 0, 0, 64⟩, .ptr ⟨2, 0, 0, 64⟩, .int .i64] ++ List.replicate 10 .undef, [[.ints .u8 64], [.ints .u8 64], [.ints .u8 64]]⟩
def w_toByteA64_l0_o0 : SPat := ⟨[.undef, .undef, .ptr ⟨1, 0, 0, 64⟩, .ptr ⟨2, 0, 0, 64⟩] ++ List.replicate 11 .undef, [[.ints .u8 64], [.ints .u8 64], [.ints .u8 64]]⟩
theorem w_toByteA64_l0_round {α : Type} (N : Nat) (i : Int) (h0 : Nat → Int) (h1 : Nat → Int) (h2 : Nat → Int) (kn : St → Option α) (K : AExit → St → Option α) :
    roundK Try.prog (A_w_toByteA64_l0 α N) 1 0 46 Try.f46 3 3 (buildS w_toByteA64_l0_p [.i i, .f h0, .f h1, .f h2]) kn K = w_toByteA64_l0_s none h0 h1 i h2 (fun i h2 => kn (buildS w_toByteA64_l0_p [.i i, .f h0, .f h1, .f h2])) (fun h2_ => K (.exit 0) (buildS w_toByteA64_l0_o0 [.f h0, .f h1, .f h2_])) := by kernel_rfl
theorem w_toByteA64_l0_loop {α : Type} (N : Nat) (h0 : Nat → Int) (h1 : Nat → Int) (K : AExit → St → Option α) : ∀ (m : Nat) (i : Int) (h2 : Nat → Int),
    loopN (trimSt ((A_w_toByteA64_l0 α N).ann 46 3).head ((A_w_toByteA64_l0 α N).ann 46 3).grow 3) (bodyK Try.prog (A_w_toByteA64_l0 α N) 1 0 46 Try.f46 3) m (buildS w_toByteA64_l0_p [.i i, .f h0, .f h1, .f h2]) (leaveLoop ((A_w_toByteA64_l0 α N).ann 46 3) 3 K) = w_toByteA64_l0 none h0 h1 m i h2 (fun h2_ => K (.exit 0) (buildS w_toByteA64_l0_o0 [.f h0, .f h1, .f h2_])) := by
  intro m
  induction m with
  | zero => intros; rfl
  | succ m ih =>
    intro i h2
    rw [loopN_round]
    refine (w_toByteA64_l0_round N i h0 h1 h2 _ K).trans ?_
    simp only [ih]
    rfl
def E_w_toByteA64_l0 (α : Type) (N : Nat) : Env α := (A_w_toByteA64_l0 α N).addLoop2 46 3 (loopSum2 ((A_w_toByteA64_l0 α N).ann 46 3) 0 w_toByteA64_l0_p (fun l K => match l with
    | [.i i, .f h0, .f h1, .f h2] => w_toByteA64_l0 none h0 h1 N i h2 (fun h2_ => K (.exit 0) (buildS w_toByteA64_l0_o0 [.f h0, .f h1, .f h2_]))
    | _ => none) ((A_w_toByteA64_l0 α N).ls 46 3))
theorem E_w_toByteA64_l0_ok {α : Type} (N : Nat) : EnvOk Try.prog (E_w_toByteA64_l0 α N) := (A_w_toByteA64_l0_ok N).addLoop2 Try.func46 (by kernel_rfl) (loopSum_ok prog_mixed prog_names (A_w_toByteA64_l0_ok N) Try.func46 (by kernel_rfl) (d := 1) (ro := 0) fun l K r h => by
  split at h
  · exact (w_toByteA64_l0_loop N _ _ K N _ _).trans h
  · cases h)

/-- laws.toByteA64 -/
def w_toByteA64_a : SPat := ⟨[.agg [.ints .u8 64]], []⟩
def w_toByteA64_r0 : SPat := ⟨[.agg [.ints .u8 64]], []⟩
theorem w_toByteA64_run {α : Type} (N : Nat) (a : Nat → Int) (K : AV → Heap → Option α) :
    callK Try.prog (E_w_toByteA64_l0 α N) 1 46 0 (buildS w_toByteA64_a [.f a]).t (buildS w_toByteA64_a [.f a]).h K = w_toByteA64 none N a (fun r__ => retK (buildS w_toByteA64_r0 [.f r__]) K) := by kernel_rfl
def E_w_toByteA64 (α : Type) (N : Nat) : Env α := (E_w_toByteA64_l0 α N).addFun 46 true 0 w_toByteA64_a (fun l K => match l with
    | [.f a] => w_toByteA64 none N a (fun r__ => retK (buildS w_toByteA64_r0 [.f r__]) K)
    | _ => none)
theorem E_w_toByteA64_ok {α : Type} (N : Nat) : EnvOk Try.prog (E_w_toByteA64 α N) := (E_w_toByteA64_l0_ok N).addFun prog_mixed prog_names (d := 1) fun l K r h => by
  split at h
  · exact (w_toByteA64_run N _ K).trans h
  · cases h

/-- laws.toMosaic -/
def w_toMosaic_a : SPat := ⟨[.agg [.vals [.int .i64], .ints .u8 64]], []⟩
def w_toMosaic_r0 : SPat := ⟨[.agg [.vals [.int .i64], .ints .u8 64]], []⟩
theorem w_toMosaic_run {α : Type} (N : Nat) (a_0 : Int) (a_1 : Nat → Int) (K : AV → Heap → Option α) :
    callK Try.prog (E_w_toByteA64 α N) 1 14 0 (buildS w_toMosaic_a [.i a_0, .f a_1]).t (buildS w_toMosaic_a [.i a_0, .f a_1]).h K = w_toMosaic none N a_0 a_1 (fun r_1_ => retK (buildS w_toMosaic_r0 [.i a_0, .f r_1_]) K) := by kernel_rfl
def E_w_toMosaic (α : Type) (N : Nat) : Env α := (E_w_toByteA64 α N).addFun 14 true 0 w_toMosaic_a (fun l K => match l with
    | [.i a_0, .f a_1] => w_toMosaic none N a_0 a_1 (fun r_1_ => retK (buildS w_toMosaic_r0 [.i a_0, .f r_1_]) K)
    | _ => none)
theorem E_w_toMosaic_ok {α : Type} (N : Nat) : EnvOk Try.prog (E_w_toMosaic α N) := (E_w_toByteA64_ok N).addFun prog_mixed prog_names (d := 1) fun l K r h => by
  split at h
  · exact (w_toMosaic_run N _ _ K).trans h
  · cases h

/-- spec.l01In -/
def s_l01In_a : SPat := ⟨[.int .i64, .int .i64, .int .i64], []⟩
def s_l01In_r0 : SPat := ⟨[.bool], []⟩
theorem s_l01In_run {α : Type} (N : Nat) (n : Int) (low : Int) (high : Int) (K : AV → Heap → Option α) :
    callK Try.prog (E_w_toMosaic α N) 1 63 0 (buildS s_l01In_a [.i n, .i low, .i high]).t (buildS s_l01In_a [.i n, .i low, .i high]).h K = s_l01In none N n low high (fun r__ => retK (buildS s_l01In_r0 [.b r__]) K) := by kernel_rfl
def E_s_l01In (α : Type) (N : Nat) : Env α := (E_w_toMosaic α N).addFun 63 true 0 s_l01In_a (fun l K => match l with
    | [.i n, .i low, .i high] => s_l01In none N n low high (fun r__ => retK (buildS s_l01In_r0 [.b r__]) K)
    | _ => none)
theorem E_s_l01In_ok {α : Type} (N : Nat) : EnvOk Try.prog (E_s_l01In α N) := (E_w_toMosaic_ok N).addFun prog_mixed prog_names (d := 1) fun l K r h => by
  split at h
  · exact (s_l01In_run N _ _ _ K).trans h
  · cases h

def A_s_l09Is_l0 (α : Type) (N : Nat) : Env α := (E_s_l01In α N).addAnn 45 4 { head := [1, 3], grow := [], out := [], ret := [2] }
theorem A_s_l09Is_l0_ok {α : Type} (N : Nat) : EnvOk Try.prog (A_s_l09Is_l0 α N) := (E_s_l01In_ok N).addAnn

/-- spec.l09Is, loop -/
def s_l09Is_l0_p : SPat := ⟨[.undef, .ptr ⟨0, 0, 0, 1⟩, .undef, .int .i64] ++ List.replicate 29 .undef, [[.vals [.int .i64], .ints .u8 64]]⟩
def s_l09Is_l0_o0 : SPat := ⟨[.undef, .undef, .boolC false] ++ List.replicate 30 .undef, [[.vals [.int .i64], .ints .u8 64]]⟩
def s_l09Is_l0_o1 : SPat := ⟨[] ++ List.replicate 33 .undef, [[.vals [.int .i64], .ints .u8 64]]⟩
theorem s_l09Is_l0_round {α : Type} (N : Nat) (k : Int) (h0_0 : Int) (h0_1 : Nat → Int) (kn : St → Option α) (K : AExit → St → Option α) :
    roundK Try.prog (A_s_l09Is_l0 α N) 1 0 45 Try.f45 4 1 (buildS s_l09Is_l0_p [.i k, .i h0_0, .f h0_1]) kn K = s_l09Is_l0_s none h0_0 h0_1 k (fun k => kn (buildS s_l09Is_l0_p [.i k, .i h0_0, .f h0_1])) (K .ret (buildS s_l09Is_l0_o0 [.i h0_0, .f h0_1])) (K (.exit 0) (buildS s_l09Is_l0_o1 [.i h0_0, .f h0_1])) := by kernel_rfl
theorem s_l09Is_l0_loop {α : Type} (N : Nat) (h0_0 : Int) (h0_1 : Nat → Int) (K : AExit → St → Option α) : ∀ (m : Nat) (k : Int),
    loopN (trimSt ((A_s_l09Is_l0 α N).ann 45 4).head ((A_s_l09Is_l0 α N).ann 45 4).grow 1) (bodyK Try.prog (A_s_l09Is_l0 α N) 1 0 45 Try.f45 4) m (buildS s_l09Is_l0_p [.i k, .i h0_0, .f h0_1]) (leaveLoop ((A_s_l09Is_l0 α N).ann 45 4) 1 K) = s_l09Is_l0 none h0_0 h0_1 m k (K .ret (buildS s_l09Is_l0_o0 [.i h0_0, .f h0_1])) (K (.exit 0) (buildS s_l09Is_l0_o1 [.i h0_0, .f h0_1])) := by
  intro m
  induction m with
  | zero => intros; rfl
  | succ m ih =>
    intro k
    rw [loopN_round]
    refine (s_l09Is_l0_round N k h0_0 h0_1 _ K).trans ?_
    simp only [ih]
    rfl
def E_s_l09Is_l0 (α : Type) (N : Nat) : Env α := (A_s_l09Is_l0 α N).addLoop2 45 4 (loopSum2 ((A_s_l09Is_l0 α N).ann 45 4) 0 s_l09Is_l0_p (fun l K => match l with
    | [.i k, .i h0_0, .f h0_1] => s_l09Is_l0 none h0_0 h0_1 N k (K .ret (buildS s_l09Is_l0_o0 [.i h0_0, .f h0_1])) (K (.exit 0) (buildS s_l09Is_l0_o1 [.i h0_0, .f h0_1]))
    | _ => none) ((A_s_l09Is_l0 α N).ls 45 4))
theorem E_s_l09Is_l0_ok {α : Type} (N : Nat) : EnvOk Try.prog (E_s_l09Is_l0 α N) := (A_s_l09Is_l0_ok N).addLoop2 Try.func45 (by kernel_rfl) (loopSum_ok prog_mixed prog_names (A_s_l09Is_l0_ok N) Try.func45 (by kernel_rfl) (d := 1) (ro := 0) fun l K r h => by
  split at h
  · exact (s_l09Is_l0_loop N _ _ K N _).trans h
  · cases h)

/-- spec.l09Is -/
def s_l09Is_a : SPat := ⟨[.agg [.vals [.int .i64], .ints .u8 64]], []⟩
def s_l09Is_r0 : SPat := ⟨[.bool], []⟩
theorem s_l09Is_run {α : Type} (N : Nat) (m_0 : Int) (m_1 : Nat → Int) (K : AV → Heap → Option α) :
    callK Try.prog (E_s_l09Is_l0 α N) 1 45 0 (buildS s_l09Is_a [.i m_0, .f m_1]).t (buildS s_l09Is_a [.i m_0, .f m_1]).h K = s_l09Is none N m_0 m_1 (fun r__ => retK (buildS s_l09Is_r0 [.b r__]) K) := by kernel_rfl
def E_s_l09Is (α : Type) (N : Nat) : Env α := (E_s_l09Is_l0 α N).addFun 45 true 0 s_l09Is_a (fun l K => match l with
    | [.i m_0, .f m_1] => s_l09Is none N m_0 m_1 (fun r__ => retK (buildS s_l09Is_r0 [.b r__]) K)
    | _ => none)
theorem E_s_l09Is_ok {α : Type} (N : Nat) : EnvOk Try.prog (E_s_l09Is α N) := (E_s_l09Is_l0_ok N).addFun prog_mixed prog_names (d := 1) fun l K r h => by
  split at h
  · exact (s_l09Is_run N _ _ K).trans h
  · cases h

/-- impl.within -/
def i_within_a : SPat := ⟨[.int .i64, .int .i64, .int .i64], []⟩
def i_within_r0 : SPat := ⟨[.bool], []⟩
theorem i_within_run {α : Type} (N : Nat) (x : Int) (low : Int) (high : Int) (K : AV → Heap → Option α) :
    callK Try.prog (E_s_l09Is α N) 1 47 0 (buildS i_within_a [.i x, .i low, .i high]).t (buildS i_within_a [.i x, .i low, .i high]).h K = i_within none N x low high (fun r__ => retK (buildS i_within_r0 [.b r__]) K) := by kernel_rfl
def E_i_within (α : Type) (N : Nat) : Env α := (E_s_l09Is α N).addFun 47 true 0 i_within_a (fun l K => match l with
    | [.i x, .i low, .i high] => i_within none N x low high (fun r__ => retK (buildS i_within_r0 [.b r__]) K)
    | _ => none)
theorem E_i_within_ok {α : Type} (N : Nat) : EnvOk Try.prog (E_i_within α N) := (E_s_l09Is_ok N).addFun prog_mixed prog_names (d := 1) fun l K r h => by
  split at h
  · exact (i_within_run N _ _ _ K).trans h
  · cases h

def A_i_IsMosaic_l0 (α : Type) (N : Nat) : Env α := (E_i_within α N).addAnn 15 4 { head := [1, 10, 11], grow := [], out := [], ret := [2] }
theorem A_i_IsMosaic_l0_ok {α : Type} (N : Nat) : EnvOk Try.prog (A_i_IsMosaic_l0 α N) := (E_i_within_ok N).addAnn

/-- impl.IsMosaic, loop -/
def i_IsMosaic_l0_p : SPat := ⟨[.undef, .ptr ⟨0, 0, 0, 1⟩, .undef, .undef, .undef, .undef, .undef, .undef, .undef, .undef, .agg [.ints .u8 64], .int .i64] ++ List.replicate 19 .undef, [[.vals [.int .i64], .ints .u8 64]]⟩
def i_IsMosaic_l0_o0 : SPat := ⟨[.undef, .undef, .boolC false] ++ List.replicate 28 .undef, [[.vals [.int .i64], .ints .u8 64]]⟩
def i_IsMosaic_l0_o1 : SPat := ⟨[] ++ List.replicate 31 .undef, [[.vals [.int .i64], .ints .u8 64]]⟩
theorem i_IsMosaic_l0_round {α : Type} (N : Nat) (t10 : Nat → Int) (t11 : Int) (h0_0 : Int) (h0_1 : Nat → Int) (kn : St → Option α) (K : AExit → St → Option α) :
    roundK Try.prog (A_i_IsMosaic_l0 α N) 1 0 15 Try.f15 4 1 (buildS i_IsMosaic_l0_p [.f t10, .i t11, .i h0_0, .f h0_1]) kn K = i_IsMosaic_l0_s none t10 h0_0 h0_1 t11 (fun t11 => kn (buildS i_IsMosaic_l0_p [.f t10, .i t11, .i h0_0, .f h0_1])) (K .ret (buildS i_IsMosaic_l0_o0 [.i h0_0, .f h0_1])) (K (.exit 0) (buildS i_IsMosaic_l0_o1 [.i h0_0, .f h0_1])) := by kernel_rfl
theorem i_IsMosaic_l0_loop {α : Type} (N : Nat) (t10 : Nat → Int) (h0_0 : Int) (h0_1 : Nat → Int) (K : AExit → St → Option α) : ∀ (m : Nat) (t11 : Int),
    loopN (trimSt ((A_i_IsMosaic_l0 α N).ann 15 4).head ((A_i_IsMosaic_l0 α N).ann 15 4).grow 1) (bodyK Try.prog (A_i_IsMosaic_l0 α N) 1 0 15 Try.f15 4) m (buildS i_IsMosaic_l0_p [.f t10, .i t11, .i h0_0, .f h0_1]) (leaveLoop ((A_i_IsMosaic_l0 α N).ann 15 4) 1 K) = i_IsMosaic_l0 none t10 h0_0 h0_1 m t11 (K .ret (buildS i_IsMosaic_l0_o0 [.i h0_0, .f h0_1])) (K (.exit 0) (buildS i_IsMosaic_l0_o1 [.i h0_0, .f h0_1])) := by
  intro m
  induction m with
  | zero => intros; rfl
  | succ m ih =>
    intro t11
    rw [loopN_round]
    refine (i_IsMosaic_l0_round N t10 t11 h0_0 h0_1 _ K).trans ?_
    simp only [ih]
    rfl
def E_i_IsMosaic_l0 (α : Type) (N : Nat) : Env α := (A_i_IsMosaic_l0 α N).addLoop2 15 4 (loopSum2 ((A_i_IsMosaic_l0 α N).ann 15 4) 0 i_IsMosaic_l0_p (fun l K => match l with
    | [.f t10, .i t11, .i h0_0, .f h0_1] => i_IsMosaic_l0 none t10 h0_0 h0_1 N t11 (K .ret (buildS i_IsMosaic_l0_o0 [.i h0_0, .f h0_1])) (K (.exit 0) (buildS i_IsMosaic_l0_o1 [.i h0_0, .f h0_1]))
    | _ => none) ((A_i_IsMosaic_l0 α N).ls 15 4))
theorem E_i_IsMosaic_l0_ok {α : Type} (N : Nat) : EnvOk Try.prog (E_i_IsMosaic_l0 α N) := (A_i_IsMosaic_l0_ok N).addLoop2 Try.func15 (by kernel_rfl) (loopSum_ok prog_mixed prog_names (A_i_IsMosaic_l0_ok N) Try.func15 (by kernel_rfl) (d := 1) (ro := 0) fun l K r h => by
  split at h
  · exact (i_IsMosaic_l0_loop N _ _ _ K N _).trans h
  · cases h)

/-- impl.IsMosaic -/
def i_IsMosaic_a : SPat := ⟨[.agg [.vals [.int .i64], .ints .u8 64]], []⟩
def i_IsMosaic_r0 : SPat := ⟨[.bool], []⟩
theorem i_IsMosaic_run {α : Type} (N : Nat) (m_0 : Int) (m_1 : Nat → Int) (K : AV → Heap → Option α) :
    callK Try.prog (E_i_IsMosaic_l0 α N) 1 15 0 (buildS i_IsMosaic_a [.i m_0, .f m_1]).t (buildS i_IsMosaic_a [.i m_0, .f m_1]).h K = i_IsMosaic none N m_0 m_1 (fun r__ => retK (buildS i_IsMosaic_r0 [.b r__]) K) := by kernel_rfl
def E_i_IsMosaic (α : Type) (N : Nat) : Env α := (E_i_IsMosaic_l0 α N).addFun 15 true 0 i_IsMosaic_a (fun l K => match l with
    | [.i m_0, .f m_1] => i_IsMosaic none N m_0 m_1 (fun r__ => retK (buildS i_IsMosaic_r0 [.b r__]) K)
    | _ => none)
theorem E_i_IsMosaic_ok {α : Type} (N : Nat) : EnvOk Try.prog (E_i_IsMosaic α N) := (E_i_IsMosaic_l0_ok N).addFun prog_mixed prog_names (d := 1) fun l K r h => by
  split at h
  · exact (i_IsMosaic_run N _ _ K).trans h
  · cases h

def A_s_CountTiles_l0 (α : Type) (N : Nat) : Env α := (E_i_IsMosaic α N).addAnn 19 5 { head := [1, 4, 5], grow := [], out := [4], ret := [2, 3] }
theorem A_s_CountTiles_l0_ok {α : Type} (N : Nat) : EnvOk Try.prog (A_s_CountTiles_l0 α N) := (E_i_IsMosaic_ok N).addAnn

/-- spec.CountTiles, loop -/
def s_CountTiles_l0_p : SPat := ⟨[.undef, .ptr ⟨0, 0, 0, 1⟩, .undef, .undef, .slice ⟨1, 0, 0, 8⟩ 8 8 1 true, .int .i64] ++ List.replicate 23 .undef, [[.vals [.int .i64], .ints .u8 64], [.ints .i64 8]]⟩
def s_CountTiles_l0_o0 : SPat := ⟨[.undef, .undef, .undef, .undef, .slice ⟨1, 0, 0, 8⟩ 8 8 1 true] ++ List.replicate 24 .undef, [[.vals [.int .i64], .ints .u8 64], [.ints .i64 8]]⟩
theorem s_CountTiles_l0_round {α : Type} (N : Nat) (k : Int) (h0_0 : Int) (h0_1 : Nat → Int) (h1 : Nat → Int) (kn : St → Option α) (K : AExit → St → Option α) :
    roundK Try.prog (A_s_CountTiles_l0 α N) 1 0 19 Try.f19 5 2 (buildS s_CountTiles_l0_p [.i k, .i h0_0, .f h0_1, .f h1]) kn K = s_CountTiles_l0_s none h0_0 h0_1 k h1 (fun k h1 => kn (buildS s_CountTiles_l0_p [.i k, .i h0_0, .f h0_1, .f h1])) (fun h1_ => K (.exit 0) (buildS s_CountTiles_l0_o0 [.i h0_0, .f h0_1, .f h1_])) := by kernel_rfl
theorem s_CountTiles_l0_loop {α : Type} (N : Nat) (h0_0 : Int) (h0_1 : Nat → Int) (K : AExit → St → Option α) : ∀ (m : Nat) (k : Int) (h1 : Nat → Int),
    loopN (trimSt ((A_s_CountTiles_l0 α N).ann 19 5).head ((A_s_CountTiles_l0 α N).ann 19 5).grow 2) (bodyK Try.prog (A_s_CountTiles_l0 α N) 1 0 19 Try.f19 5) m (buildS s_CountTiles_l0_p [.i k, .i h0_0, .f h0_1, .f h1]) (leaveLoop ((A_s_CountTiles_l0 α N).ann 19 5) 2 K) = s_CountTiles_l0 none h0_0 h0_1 m k h1 (fun h1_ => K (.exit 0) (buildS s_CountTiles_l0_o0 [.i h0_0, .f h0_1, .f h1_])) := by
  intro m
  induction m with
  | zero => intros; rfl
  | succ m ih =>
    intro k h1
    rw [loopN_round]
    refine (s_CountTiles_l0_round N k h0_0 h0_1 h1 _ K).trans ?_
    simp only [ih]
    rfl
def E_s_CountTiles_l0 (α : Type) (N : Nat) : Env α := (A_s_CountTiles_l0 α N).addLoop2 19 5 (loopSum2 ((A_s_CountTiles_l0 α N).ann 19 5) 0 s_CountTiles_l0_p (fun l K => match l with
    | [.i k, .i h0_0, .f h0_1, .f h1] => s_CountTiles_l0 none h0_0 h0_1 N k h1 (fun h1_ => K (.exit 0) (buildS s_CountTiles_l0_o0 [.i h0_0, .f h0_1, .f h1_]))
    | _ => none) ((A_s_CountTiles_l0 α N).ls 19 5))
theorem E_s_CountTiles_l0_ok {α : Type} (N : Nat) : EnvOk Try.prog (E_s_CountTiles_l0 α N) := (A_s_CountTiles_l0_ok N).addLoop2 Try.func19 (by kernel_rfl) (loopSum_ok prog_mixed prog_names (A_s_CountTiles_l0_ok N) Try.func19 (by kernel_rfl) (d := 1) (ro := 0) fun l K r h => by
  split at h
  · exact (s_CountTiles_l0_loop N _ _ K N _ _).trans h
  · cases h)

/-- spec.CountTiles -/
def s_CountTiles_a : SPat := ⟨[.agg [.vals [.int .i64], .ints .u8 64]], []⟩
def s_CountTiles_r0 : SPat := ⟨[.tuple [.nils, .int .i64]], []⟩
def s_CountTiles_r1 : SPat := ⟨[.tuple [.slice ⟨0, 0, 0, 8⟩ 8 8 1 true, .int .i64]], [[.ints .i64 8]]⟩
theorem s_CountTiles_run {α : Type} (N : Nat) (m_0 : Int) (m_1 : Nat → Int) (K : AV → Heap → Option α) :
    callK Try.prog (E_s_CountTiles_l0 α N) 1 19 0 (buildS s_CountTiles_a [.i m_0, .f m_1]).t (buildS s_CountTiles_a [.i m_0, .f m_1]).h K = s_CountTiles none N m_0 m_1 (fun r_1_ => retK (buildS s_CountTiles_r0 [.i r_1_]) K) (fun r_1_ h0_ => retK (buildS s_CountTiles_r1 [.i r_1_, .f h0_]) K) := by kernel_rfl
def E_s_CountTiles (α : Type) (N : Nat) : Env α := (E_s_CountTiles_l0 α N).addFun 19 true 0 s_CountTiles_a (fun l K => match l with
    | [.i m_0, .f m_1] => s_CountTiles none N m_0 m_1 (fun r_1_ => retK (buildS s_CountTiles_r0 [.i r_1_]) K) (fun r_1_ h0_ => retK (buildS s_CountTiles_r1 [.i r_1_, .f h0_]) K)
    | _ => none)
theorem E_s_CountTiles_ok {α : Type} (N : Nat) : EnvOk Try.prog (E_s_CountTiles α N) := (E_s_CountTiles_l0_ok N).addFun prog_mixed prog_names (d := 1) fun l K r h => by
  split at h
  · exact (s_CountTiles_run N _ _ K).trans h
  · cases h

def A_i_CountTiles_l0 (α : Type) (N : Nat) : Env α := (E_s_CountTiles α N).addAnn 20 5 { head := [4, 17, 18, 19], grow := [], out := [4], ret := [2, 3] }
theorem A_i_CountTiles_l0_ok {α : Type} (N : Nat) : EnvOk Try.prog (A_i_CountTiles_l0 α N) := (E_s_CountTiles_ok N).addAnn

/-- impl.CountTiles, loop -/
def i_CountTiles_l0_p : SPat := ⟨[.undef, .undef, .undef, .undef, .slice ⟨1, 0, 0, 8⟩ 8 8 1 true, .undef, .undef, .undef, .undef, .undef, .undef, .undef, .undef, .undef, .undef, .undef, .undef, .sliceV 0 1 0 1 true, .int .i64, .int .i64] ++ List.replicate 11 .undef, [[.vals [.int .i64], .ints .u8 64], [.ints .i64 8]]⟩
def i_CountTiles_l0_o0 : SPat := ⟨[.undef, .undef, .undef, .undef, .slice ⟨1, 0, 0, 8⟩ 8 8 1 true] ++ List.replicate 26 .undef, [[.vals [.int .i64], .ints .u8 64], [.ints .i64 8]]⟩
theorem i_CountTiles_l0_round {α : Type} (N : Nat) (t17_n : Nat) (t17_l : Nat) (t17_c : Nat) (t18 : Int) (t19 : Int) (h0_0 : Int) (h0_1 : Nat → Int) (h1 : Nat → Int) (kn : St → Option α) (K : AExit → St → Option α) :
    roundK Try.prog (A_i_CountTiles_l0 α N) 1 0 20 Try.f20 5 2 (buildS i_CountTiles_l0_p [.n t17_n, .n t17_l, .n t17_c, .i t18, .i t19, .i h0_0, .f h0_1, .f h1]) kn K = i_CountTiles_l0_s none t17_n t17_l t17_c t18 h0_0 h0_1 t19 h1 (fun t19 h1 => kn (buildS i_CountTiles_l0_p [.n t17_n, .n t17_l, .n t17_c, .i t18, .i t19, .i h0_0, .f h0_1, .f h1])) (fun h1_ => K (.exit 0) (buildS i_CountTiles_l0_o0 [.i h0_0, .f h0_1, .f h1_])) := by kernel_rfl
theorem i_CountTiles_l0_loop {α : Type} (N : Nat) (t17_n : Nat) (t17_l : Nat) (t17_c : Nat) (t18 : Int) (h0_0 : Int) (h0_1 : Nat → Int) (K : AExit → St → Option α) : ∀ (m : Nat) (t19 : Int) (h1 : Nat → Int),
    loopN (trimSt ((A_i_CountTiles_l0 α N).ann 20 5).head ((A_i_CountTiles_l0 α N).ann 20 5).grow 2) (bodyK Try.prog (A_i_CountTiles_l0 α N) 1 0 20 Try.f20 5) m (buildS i_CountTiles_l0_p [.n t17_n, .n t17_l, .n t17_c, .i t18, .i t19, .i h0_0, .f h0_1, .f h1]) (leaveLoop ((A_i_CountTiles_l0 α N).ann 20 5) 2 K) = i_CountTiles_l0 none t17_n t17_l t17_c t18 h0_0 h0_1 m t19 h1 (fun h1_ => K (.exit 0) (buildS i_CountTiles_l0_o0 [.i h0_0, .f h0_1, .f h1_])) := by
  intro m
  induction m with
  | zero => intros; rfl
  | succ m ih =>
    intro t19 h1
    rw [loopN_round]
    refine (i_CountTiles_l0_round N t17_n t17_l t17_c t18 t19 h0_0 h0_1 h1 _ K).trans ?_
    simp only [ih]
    rfl
def E_i_CountTiles_l0 (α : Type) (N : Nat) : Env α := (A_i_CountTiles_l0 α N).addLoop2 20 5 (loopSum2 ((A_i_CountTiles_l0 α N).ann 20 5) 0 i_CountTiles_l0_p (fun l K => match l with
    | [.n t17_n, .n t17_l, .n t17_c, .i t18, .i t19, .i h0_0, .f h0_1, .f h1] => i_CountTiles_l0 none t17_n t17_l t17_c t18 h0_0 h0_1 N t19 h1 (fun h1_ => K (.exit 0) (buildS i_CountTiles_l0_o0 [.i h0_0, .f h0_1, .f h1_]))
    | _ => none) ((A_i_CountTiles_l0 α N).ls 20 5))
theorem E_i_CountTiles_l0_ok {α : Type} (N : Nat) : EnvOk Try.prog (E_i_CountTiles_l0 α N) := (A_i_CountTiles_l0_ok N).addLoop2 Try.func20 (by kernel_rfl) (loopSum_ok prog_mixed prog_names (A_i_CountTiles_l0_ok N) Try.func20 (by kernel_rfl) (d := 1) (ro := 0) fun l K r h => by
  split at h
  · exact (i_CountTiles_l0_loop N _ _ _ _ _ _ K N _ _).trans h
  · cases h)

/-- impl.CountTiles -/
def i_CountTiles_a : SPat := ⟨[.agg [.vals [.int .i64], .ints .u8 64]], []⟩
def i_CountTiles_r0 : SPat := ⟨[.tuple [.nils, .int .i64]], []⟩
def i_CountTiles_r1 : SPat := ⟨[.tuple [.slice ⟨0, 0, 0, 8⟩ 8 8 1 true, .int .i64]], [[.ints .i64 8]]⟩
theorem i_CountTiles_run {α : Type} (N : Nat) (m_0 : Int) (m_1 : Nat → Int) (K : AV → Heap → Option α) :
    callK Try.prog (E_i_CountTiles_l0 α N) 1 20 0 (buildS i_CountTiles_a [.i m_0, .f m_1]).t (buildS i_CountTiles_a [.i m_0, .f m_1]).h K = i_CountTiles none N m_0 m_1 (fun r_1_ => retK (buildS i_CountTiles_r0 [.i r_1_]) K) (fun r_1_ h0_ => retK (buildS i_CountTiles_r1 [.i r_1_, .f h0_]) K) := by kernel_rfl
def E_i_CountTiles (α : Type) (N : Nat) : Env α := (E_i_CountTiles_l0 α N).addFun 20 true 0 i_CountTiles_a (fun l K => match l with
    | [.i m_0, .f m_1] => i_CountTiles none N m_0 m_1 (fun r_1_ => retK (buildS i_CountTiles_r0 [.i r_1_]) K) (fun r_1_ h0_ => retK (buildS i_CountTiles_r1 [.i r_1_, .f h0_]) K)
    | _ => none)
theorem E_i_CountTiles_ok {α : Type} (N : Nat) : EnvOk Try.prog (E_i_CountTiles α N) := (E_i_CountTiles_l0_ok N).addFun prog_mixed prog_names (d := 1) fun l K r h => by
  split at h
  · exact (i_CountTiles_run N _ _ K).trans h
  · cases h

def A_w_eqInt64S_l0 (α : Type) (N : Nat) : Env α := (E_i_CountTiles α N).addAnn 21 4 { head := [0, 1, 5], grow := [], out := [], ret := [4] }
theorem A_w_eqInt64S_l0_ok {α : Type} (N : Nat) : EnvOk Try.prog (A_w_eqInt64S_l0 α N) := (E_i_CountTiles_ok N).addAnn

/-- laws.eqInt64S, loop -/
def w_eqInt64S_l0_p : SPat := ⟨[.nils, .nils, .undef, .undef, .undef, .int .i64] ++ List.replicate 20 .undef, []⟩
def w_eqInt64S_l0_o0 : SPat := ⟨[] ++ List.replicate 26 .undef, []⟩
theorem w_eqInt64S_l0_round {α : Type} (N : Nat) (i : Int) (kn : St → Option α) (K : AExit → St → Option α) :
    roundK Try.prog (A_w_eqInt64S_l0 α N) 1 0 21 Try.f21 4 0 (buildS w_eqInt64S_l0_p [.i i]) kn K = w_eqInt64S_l0_s none i  (kn (buildS w_eqInt64S_l0_p [.i i])) (K (.exit 0) (buildS w_eqInt64S_l0_o0 [])) := by kernel_rfl
theorem w_eqInt64S_l0_loop {α : Type} (N : Nat) (i : Int) (K : AExit → St → Option α) : ∀ (m : Nat),
    loopN (trimSt ((A_w_eqInt64S_l0 α N).ann 21 4).head ((A_w_eqInt64S_l0 α N).ann 21 4).grow 0) (bodyK Try.prog (A_w_eqInt64S_l0 α N) 1 0 21 Try.f21 4) m (buildS w_eqInt64S_l0_p [.i i]) (leaveLoop ((A_w_eqInt64S_l0 α N).ann 21 4) 0 K) = w_eqInt64S_l0 none i m  (K (.exit 0) (buildS w_eqInt64S_l0_o0 [])) := by
  intro m
  induction m with
  | zero => intros; rfl
  | succ m ih =>
    rw [loopN_round]
    refine (w_eqInt64S_l0_round N i _ K).trans ?_
    simp only [ih]
    rfl
def E_w_eqInt64S_l0 (α : Type) (N : Nat) : Env α := (A_w_eqInt64S_l0 α N).addLoop2 21 4 (loopSum2 ((A_w_eqInt64S_l0 α N).ann 21 4) 0 w_eqInt64S_l0_p (fun l K => match l with
    | [.i i] => w_eqInt64S_l0 none i N  (K (.exit 0) (buildS w_eqInt64S_l0_o0 []))
    | _ => none) ((A_w_eqInt64S_l0 α N).ls 21 4))
theorem E_w_eqInt64S_l0_ok {α : Type} (N : Nat) : EnvOk Try.prog (E_w_eqInt64S_l0 α N) := (A_w_eqInt64S_l0_ok N).addLoop2 Try.func21 (by kernel_rfl) (loopSum_ok prog_mixed prog_names (A_w_eqInt64S_l0_ok N) Try.func21 (by kernel_rfl) (d := 1) (ro := 0) fun l K r h => by
  split at h
  · exact (w_eqInt64S_l0_loop N _ K N ).trans h
  · cases h)

/-- laws.eqInt64S -/
def w_eqInt64S_a : SPat := ⟨[.nils, .nils], []⟩
def w_eqInt64S_r0 : SPat := ⟨[.bool], []⟩
theorem w_eqInt64S_run {α : Type} (N : Nat)  (K : AV → Heap → Option α) :
    callK Try.prog (E_w_eqInt64S_l0 α N) 1 21 0 (buildS w_eqInt64S_a []).t (buildS w_eqInt64S_a []).h K = w_eqInt64S none N  (fun r__ => retK (buildS w_eqInt64S_r0 [.b r__]) K) := by kernel_rfl
def E_w_eqInt64S (α : Type) (N : Nat) : Env α := (E_w_eqInt64S_l0 α N).addFun 21 true 0 w_eqInt64S_a (fun l K => match l with
    | [] => w_eqInt64S none N  (fun r__ => retK (buildS w_eqInt64S_r0 [.b r__]) K)
    | _ => none)
theorem E_w_eqInt64S_ok {α : Type} (N : Nat) : EnvOk Try.prog (E_w_eqInt64S α N) := (E_w_eqInt64S_l0_ok N).addFun prog_mixed prog_names (d := 1) fun l K r h => by
  split at h
  · exact (w_eqInt64S_run N  K).trans h
  · cases h

def A_w_markInt64S_l0 (α : Type) (N : Nat) : Env α := (E_w_eqInt64S α N).addAnn 22 2 { head := [0, 1, 5], grow := [], out := [1], ret := [4] }
theorem A_w_markInt64S_l0_ok {α : Type} (N : Nat) : EnvOk Try.prog (A_w_markInt64S_l0 α N) := (E_w_eqInt64S_ok N).addAnn

/-- laws.markInt64S, loop -/
def w_markInt64S_l0_p : SPat := ⟨[.nils, .int .i64, .undef, .undef, .undef, .int .i64] ++ List.replicate 13 .undef, []⟩
def w_markInt64S_l0_o0 : SPat := ⟨[.undef, .int .i64] ++ List.replicate 17 .undef, []⟩
theorem w_markInt64S_l0_round {α : Type} (N : Nat) (k : Int) (i : Int) (kn : St → Option α) (K : AExit → St → Option α) :
    roundK Try.prog (A_w_markInt64S_l0 α N) 1 0 22 Try.f22 2 0 (buildS w_markInt64S_l0_p [.i k, .i i]) kn K = w_markInt64S_l0_s none k i  (kn (buildS w_markInt64S_l0_p [.i k, .i i])) (K (.exit 0) (buildS w_markInt64S_l0_o0 [.i k])) := by kernel_rfl
theorem w_markInt64S_l0_loop {α : Type} (N : Nat) (k : Int) (i : Int) (K : AExit → St → Option α) : ∀ (m : Nat),
    loopN (trimSt ((A_w_markInt64S_l0 α N).ann 22 2).head ((A_w_markInt64S_l0 α N).ann 22 2).grow 0) (bodyK Try.prog (A_w_markInt64S_l0 α N) 1 0 22 Try.f22 2) m (buildS w_markInt64S_l0_p [.i k, .i i]) (leaveLoop ((A_w_markInt64S_l0 α N).ann 22 2) 0 K) = w_markInt64S_l0 none k i m  (K (.exit 0) (buildS w_markInt64S_l0_o0 [.i k])) := by
  intro m
  induction m with
  | zero => intros; rfl
  | succ m ih =>
    rw [loopN_round]
    refine (w_markInt64S_l0_round N k i _ K).trans ?_
    simp only [ih]
    rfl
def E_w_markInt64S_l0 (α : Type) (N : Nat) : Env α := (A_w_markInt64S_l0 α N).addLoop2 22 2 (loopSum2 ((A_w_markInt64S_l0 α N).ann 22 2) 0 w_markInt64S_l0_p (fun l K => match l with
    | [.i k, .i i] => w_markInt64S_l0 none k i N  (K (.exit 0) (buildS w_markInt64S_l0_o0 [.i k]))
    | _ => none) ((A_w_markInt64S_l0 α N).ls 22 2))
theorem E_w_markInt64S_l0_ok {α : Type} (N : Nat) : EnvOk Try.prog (E_w_markInt64S_l0 α N) := (A_w_markInt64S_l0_ok N).addLoop2 Try.func22 (by kernel_rfl) (loopSum_ok prog_mixed prog_names (A_w_markInt64S_l0_ok N) Try.func22 (by kernel_rfl) (d := 1) (ro := 0) fun l K r h => by
  split at h
  · exact (w_markInt64S_l0_loop N _ _ K N ).trans h
  · cases h)

/-- laws.markInt64S -/
def w_markInt64S_a : SPat := ⟨[.nils, .int .i64], []⟩
def w_markInt64S_r0 : SPat := ⟨[.int .i64], []⟩
theorem w_markInt64S_run {α : Type} (N : Nat) (k : Int) (K : AV → Heap → Option α) :
    callK Try.prog (E_w_markInt64S_l0 α N) 1 22 0 (buildS w_markInt64S_a [.i k]).t (buildS w_markInt64S_a [.i k]).h K = w_markInt64S none N k (retK (buildS w_markInt64S_r0 [.i k]) K) := by kernel_rfl
def E_w_markInt64S (α : Type) (N : Nat) : Env α := (E_w_markInt64S_l0 α N).addFun 22 false 0 w_markInt64S_a (fun l K => match l with
    | [.i k] => w_markInt64S none N k (retK (buildS w_markInt64S_r0 [.i k]) K)
    | _ => none)
theorem E_w_markInt64S_ok {α : Type} (N : Nat) : EnvOk Try.prog (E_w_markInt64S α N) := (E_w_markInt64S_l0_ok N).addFun prog_mixed prog_names (d := 1) fun l K r h => by
  split at h
  · exact (w_markInt64S_run N _ K).trans h
  · cases h

def A_w_heldInt64S_l0 (α : Type) (N : Nat) : Env α := (E_w_markInt64S α N).addAnn 23 2 { head := [0, 1, 5], grow := [], out := [1], ret := [4] }
theorem A_w_heldInt64S_l0_ok {α : Type} (N : Nat) : EnvOk Try.prog (A_w_heldInt64S_l0 α N) := (E_w_markInt64S_ok N).addAnn

/-- laws.heldInt64S, loop -/
def w_heldInt64S_l0_p : SPat := ⟨[.nils, .int .i64, .undef, .undef, .undef, .int .i64] ++ List.replicate 15 .undef, []⟩
def w_heldInt64S_l0_o0 : SPat := ⟨[.undef, .int .i64] ++ List.replicate 19 .undef, []⟩
theorem w_heldInt64S_l0_round {α : Type} (N : Nat) (k : Int) (i : Int) (kn : St → Option α) (K : AExit → St → Option α) :
    roundK Try.prog (A_w_heldInt64S_l0 α N) 1 0 23 Try.f23 2 0 (buildS w_heldInt64S_l0_p [.i k, .i i]) kn K = w_heldInt64S_l0_s none k i  (kn (buildS w_heldInt64S_l0_p [.i k, .i i])) (K (.exit 0) (buildS w_heldInt64S_l0_o0 [.i k])) := by kernel_rfl
theorem w_heldInt64S_l0_loop {α : Type} (N : Nat) (k : Int) (i : Int) (K : AExit → St → Option α) : ∀ (m : Nat),
    loopN (trimSt ((A_w_heldInt64S_l0 α N).ann 23 2).head ((A_w_heldInt64S_l0 α N).ann 23 2).grow 0) (bodyK Try.prog (A_w_heldInt64S_l0 α N) 1 0 23 Try.f23 2) m (buildS w_heldInt64S_l0_p [.i k, .i i]) (leaveLoop ((A_w_heldInt64S_l0 α N).ann 23 2) 0 K) = w_heldInt64S_l0 none k i m  (K (.exit 0) (buildS w_heldInt64S_l0_o0 [.i k])) := by
  intro m
  induction m with
  | zero => intros; rfl
  | succ m ih =>
    rw [loopN_round]
    refine (w_heldInt64S_l0_round N k i _ K).trans ?_
    simp only [ih]
    rfl
def E_w_heldInt64S_l0 (α : Type) (N : Nat) : Env α := (A_w_heldInt64S_l0 α N).addLoop2 23 2 (loopSum2 ((A_w_heldInt64S_l0 α N).ann 23 2) 0 w_heldInt64S_l0_p (fun l K => match l with
    | [.i k, .i i] => w_heldInt64S_l0 none k i N  (K (.exit 0) (buildS w_heldInt64S_l0_o0 [.i k]))
    | _ => none) ((A_w_heldInt64S_l0 α N).ls 23 2))
theorem E_w_heldInt64S_l0_ok {α : Type} (N : Nat) : EnvOk Try.prog (E_w_heldInt64S_l0 α N) := (A_w_heldInt64S_l0_ok N).addLoop2 Try.func23 (by kernel_rfl) (loopSum_ok prog_mixed prog_names (A_w_heldInt64S_l0_ok N) Try.func23 (by kernel_rfl) (d := 1) (ro := 0) fun l K r h => by
  split at h
  · exact (w_heldInt64S_l0_loop N _ _ K N ).trans h
  · cases h)

/-- laws.heldInt64S -/
def w_heldInt64S_a : SPat := ⟨[.nils, .int .i64], []⟩
def w_heldInt64S_r0 : SPat := ⟨[.int .i64], []⟩
theorem w_heldInt64S_run {α : Type} (N : Nat) (k : Int) (K : AV → Heap → Option α) :
    callK Try.prog (E_w_heldInt64S_l0 α N) 1 23 0 (buildS w_heldInt64S_a [.i k]).t (buildS w_heldInt64S_a [.i k]).h K = w_heldInt64S none N k (retK (buildS w_heldInt64S_r0 [.i k]) K) := by kernel_rfl
def E_w_heldInt64S (α : Type) (N : Nat) : Env α := (E_w_heldInt64S_l0 α N).addFun 23 true 0 w_heldInt64S_a (fun l K => match l with
    | [.i k] => w_heldInt64S none N k (retK (buildS w_heldInt64S_r0 [.i k]) K)
    | _ => none)
theorem E_w_heldInt64S_ok {α : Type} (N : Nat) : EnvOk Try.prog (E_w_heldInt64S α N) := (E_w_heldInt64S_l0_ok N).addFun prog_mixed prog_names (d := 1) fun l K r h => by
  split at h
  · exact (w_heldInt64S_run N _ K).trans h
  · cases h

/-- laws.eqInt64S -/
def w_eqInt64S_s2_a : SPat := ⟨[.slice ⟨0, 0, 0, 8⟩ 8 8 1 true, .nils], [[.ints .i64 8]]⟩
def w_eqInt64S_s2_r0 : SPat := ⟨[.bool], [[.ints .i64 8]]⟩
theorem w_eqInt64S_s2_run {α : Type} (N : Nat) (h0 : Nat → Int) (K : AV → Heap → Option α) :
    callK Try.prog (E_w_heldInt64S α N) 1 21 1 (buildS w_eqInt64S_s2_a [.f h0]).t (buildS w_eqInt64S_s2_a [.f h0]).h K = w_eqInt64S_s2 none N h0 (fun r__ => retK (buildS w_eqInt64S_s2_r0 [.b r__, .f h0]) K) := by kernel_rfl
def E_w_eqInt64S_s2 (α : Type) (N : Nat) : Env α := (E_w_heldInt64S α N).addFun 21 true 1 w_eqInt64S_s2_a (fun l K => match l with
    | [.f h0] => w_eqInt64S_s2 none N h0 (fun r__ => retK (buildS w_eqInt64S_s2_r0 [.b r__, .f h0]) K)
    | _ => none)
theorem E_w_eqInt64S_s2_ok {α : Type} (N : Nat) : EnvOk Try.prog (E_w_eqInt64S_s2 α N) := (E_w_heldInt64S_ok N).addFun prog_mixed prog_names (d := 1) fun l K r h => by
  split at h
  · exact (w_eqInt64S_s2_run N _ K).trans h
  · cases h

/-- laws.markInt64S, loop -/
def w_markInt64S_l0_s2_p : SPat := ⟨[.slice ⟨0, 0, 0, 8⟩ 8 8 1 true, .int .i64, .undef, .undef, .undef, .int .i64] ++ List.replicate 13 .undef, [[.ints .i64 8]]⟩
def w_markInt64S_l0_s2_o0 : SPat := ⟨[.undef, .int .i64] ++ List.replicate 17 .undef, [[.ints .i64 8]]⟩
theorem w_markInt64S_l0_s2_round {α : Type} (N : Nat) (k : Int) (i : Int) (h0 : Nat → Int) (kn : St → Option α) (K : AExit → St → Option α) :
    roundK Try.prog (E_w_eqInt64S_s2 α N) 1 0 22 Try.f22 2 1 (buildS w_markInt64S_l0_s2_p [.i k, .i i, .f h0]) kn K = w_markInt64S_l0_s2_s none  k i h0 (fun k i h0 => kn (buildS w_markInt64S_l0_s2_p [.i k, .i i, .f h0])) (fun k_ h0_ => K (.exit 0) (buildS w_markInt64S_l0_s2_o0 [.i k_, .f h0_])) := by kernel_rfl
theorem w_markInt64S_l0_s2_loop {α : Type} (N : Nat)  (K : AExit → St → Option α) : ∀ (m : Nat) (k : Int) (i : Int) (h0 : Nat → Int),
    loopN (trimSt ((E_w_eqInt64S_s2 α N).ann 22 2).head ((E_w_eqInt64S_s2 α N).ann 22 2).grow 1) (bodyK Try.prog (E_w_eqInt64S_s2 α N) 1 0 22 Try.f22 2) m (buildS w_markInt64S_l0_s2_p [.i k, .i i, .f h0]) (leaveLoop ((E_w_eqInt64S_s2 α N).ann 22 2) 1 K) = w_markInt64S_l0_s2 none  m k i h0 (fun k_ h0_ => K (.exit 0) (buildS w_markInt64S_l0_s2_o0 [.i k_, .f h0_])) := by
  intro m
  induction m with
  | zero => intros; rfl
  | succ m ih =>
    intro k i h0
    rw [loopN_round]
    refine (w_markInt64S_l0_s2_round N k i h0 _ K).trans ?_
    simp only [ih]
    rfl
def E_w_markInt64S_l0_s2 (α : Type) (N : Nat) : Env α := (E_w_eqInt64S_s2 α N).addLoop2 22 2 (loopSum2 ((E_w_eqInt64S_s2 α N).ann 22 2) 0 w_markInt64S_l0_s2_p (fun l K => match l with
    | [.i k, .i i, .f h0] => w_markInt64S_l0_s2 none  N k i h0 (fun k_ h0_ => K (.exit 0) (buildS w_markInt64S_l0_s2_o0 [.i k_, .f h0_]))
    | _ => none) ((E_w_eqInt64S_s2 α N).ls 22 2))
theorem E_w_markInt64S_l0_s2_ok {α : Type} (N : Nat) : EnvOk Try.prog (E_w_markInt64S_l0_s2 α N) := (E_w_eqInt64S_s2_ok N).addLoop2 Try.func22 (by kernel_rfl) (loopSum_ok prog_mixed prog_names (E_w_eqInt64S_s2_ok N) Try.func22 (by kernel_rfl) (d := 1) (ro := 0) fun l K r h => by
  split at h
  · exact (w_markInt64S_l0_s2_loop N  K N _ _ _).trans h
  · cases h)

/-- laws.markInt64S -/
def w_markInt64S_s2_a : SPat := ⟨[.slice ⟨0, 0, 0, 8⟩ 8 8 1 true, .int .i64], [[.ints .i64 8]]⟩
def w_markInt64S_s2_r0 : SPat := ⟨[.int .i64], [[.ints .i64 8]]⟩
theorem w_markInt64S_s2_run {α : Type} (N : Nat) (k : Int) (h0 : Nat → Int) (K : AV → Heap → Option α) :
    callK Try.prog (E_w_markInt64S_l0_s2 α N) 1 22 0 (buildS w_markInt64S_s2_a [.i k, .f h0]).t (buildS w_markInt64S_s2_a [.i k, .f h0]).h K = w_markInt64S_s2 none N k h0 (fun r__ h0_ => retK (buildS w_markInt64S_s2_r0 [.i r__, .f h0_]) K) := by kernel_rfl
def E_w_markInt64S_s2 (α : Type) (N : Nat) : Env α := (E_w_markInt64S_l0_s2 α N).addFun 22 false 0 w_markInt64S_s2_a (fun l K => match l with
    | [.i k, .f h0] => w_markInt64S_s2 none N k h0 (fun r__ h0_ => retK (buildS w_markInt64S_s2_r0 [.i r__, .f h0_]) K)
    | _ => none)
theorem E_w_markInt64S_s2_ok {α : Type} (N : Nat) : EnvOk Try.prog (E_w_markInt64S_s2 α N) := (E_w_markInt64S_l0_s2_ok N).addFun prog_mixed prog_names (d := 1) fun l K r h => by
  split at h
  · exact (w_markInt64S_s2_run N _ _ K).trans h
  · cases h

/-- laws.heldInt64S, loop -/
def w_heldInt64S_l0_s2_p : SPat := ⟨[.slice ⟨0, 0, 0, 8⟩ 8 8 1 true, .int .i64, .undef, .undef, .undef, .int .i64] ++ List.replicate 15 .undef, [[.ints .i64 8]]⟩
def w_heldInt64S_l0_s2_o0 : SPat := ⟨[.undef, .undef, .undef, .undef, .intC .i64 (-1)] ++ List.replicate 16 .undef, [[.ints .i64 8]]⟩
def w_heldInt64S_l0_s2_o1 : SPat := ⟨[.undef, .int .i64] ++ List.replicate 19 .undef, [[.ints .i64 8]]⟩
theorem w_heldInt64S_l0_s2_round {α : Type} (N : Nat) (k : Int) (i : Int) (h0 : Nat → Int) (kn : St → Option α) (K : AExit → St → Option α) :
    roundK Try.prog (E_w_markInt64S_s2 α N) 1 1 23 Try.f23 2 1 (buildS w_heldInt64S_l0_s2_p [.i k, .i i, .f h0]) kn K = w_heldInt64S_l0_s2_s none h0 k i (fun k i => kn (buildS w_heldInt64S_l0_s2_p [.i k, .i i, .f h0])) (K .ret (buildS w_heldInt64S_l0_s2_o0 [.f h0])) (fun k_ => K (.exit 0) (buildS w_heldInt64S_l0_s2_o1 [.i k_, .f h0])) := by kernel_rfl
theorem w_heldInt64S_l0_s2_loop {α : Type} (N : Nat) (h0 : Nat → Int) (K : AExit → St → Option α) : ∀ (m : Nat) (k : Int) (i : Int),
    loopN (trimSt ((E_w_markInt64S_s2 α N).ann 23 2).head ((E_w_markInt64S_s2 α N).ann 23 2).grow 1) (bodyK Try.prog (E_w_markInt64S_s2 α N) 1 1 23 Try.f23 2) m (buildS w_heldInt64S_l0_s2_p [.i k, .i i, .f h0]) (leaveLoop ((E_w_markInt64S_s2 α N).ann 23 2) 1 K) = w_heldInt64S_l0_s2 none h0 m k i (K .ret (buildS w_heldInt64S_l0_s2_o0 [.f h0])) (fun k_ => K (.exit 0) (buildS w_heldInt64S_l0_s2_o1 [.i k_, .f h0])) := by
  intro m
  induction m with
  | zero => intros; rfl
  | succ m ih =>
    intro k i
    rw [loopN_round]
    refine (w_heldInt64S_l0_s2_round N k i h0 _ K).trans ?_
    simp only [ih]
    rfl
def E_w_heldInt64S_l0_s2 (α : Type) (N : Nat) : Env α := (E_w_markInt64S_s2 α N).addLoop2 23 2 (loopSum2 ((E_w_markInt64S_s2 α N).ann 23 2) 1 w_heldInt64S_l0_s2_p (fun l K => match l with
    | [.i k, .i i, .f h0] => w_heldInt64S_l0_s2 none h0 N k i (K .ret (buildS w_heldInt64S_l0_s2_o0 [.f h0])) (fun k_ => K (.exit 0) (buildS w_heldInt64S_l0_s2_o1 [.i k_, .f h0]))
    | _ => none) ((E_w_markInt64S_s2 α N).ls 23 2))
theorem E_w_heldInt64S_l0_s2_ok {α : Type} (N : Nat) : EnvOk Try.prog (E_w_heldInt64S_l0_s2 α N) := (E_w_markInt64S_s2_ok N).addLoop2 Try.func23 (by kernel_rfl) (loopSum_ok prog_mixed prog_names (E_w_markInt64S_s2_ok N) Try.func23 (by kernel_rfl) (d := 1) (ro := 1) fun l K r h => by
  split at h
  · exact (w_heldInt64S_l0_s2_loop N _ K N _ _).trans h
  · cases h)

/-- laws.heldInt64S -/
def w_heldInt64S_s2_a : SPat := ⟨[.slice ⟨0, 0, 0, 8⟩ 8 8 1 true, .int .i64], [[.ints .i64 8]]⟩
def w_heldInt64S_s2_r0 : SPat := ⟨[.int .i64], [[.ints .i64 8]]⟩
theorem w_heldInt64S_s2_run {α : Type} (N : Nat) (k : Int) (h0 : Nat → Int) (K : AV → Heap → Option α) :
    callK Try.prog (E_w_heldInt64S_l0_s2 α N) 1 23 1 (buildS w_heldInt64S_s2_a [.i k, .f h0]).t (buildS w_heldInt64S_s2_a [.i k, .f h0]).h K = w_heldInt64S_s2 none N k h0 (fun r__ => retK (buildS w_heldInt64S_s2_r0 [.i r__, .f h0]) K) := by kernel_rfl
def E_w_heldInt64S_s2 (α : Type) (N : Nat) : Env α := (E_w_heldInt64S_l0_s2 α N).addFun 23 true 1 w_heldInt64S_s2_a (fun l K => match l with
    | [.i k, .f h0] => w_heldInt64S_s2 none N k h0 (fun r__ => retK (buildS w_heldInt64S_s2_r0 [.i r__, .f h0]) K)
    | _ => none)
theorem E_w_heldInt64S_s2_ok {α : Type} (N : Nat) : EnvOk Try.prog (E_w_heldInt64S_s2 α N) := (E_w_heldInt64S_l0_s2_ok N).addFun prog_mixed prog_names (d := 1) fun l K r h => by
  split at h
  · exact (w_heldInt64S_s2_run N _ _ K).trans h
  · cases h

/-- laws.eqInt64S -/
def w_eqInt64S_s3_a : SPat := ⟨[.nils, .slice ⟨0, 0, 0, 8⟩ 8 8 1 true], [[.ints .i64 8]]⟩
def w_eqInt64S_s3_r0 : SPat := ⟨[.bool], [[.ints .i64 8]]⟩
theorem w_eqInt64S_s3_run {α : Type} (N : Nat) (h0 : Nat → Int) (K : AV → Heap → Option α) :
    callK Try.prog (E_w_heldInt64S_s2 α N) 1 21 1 (buildS w_eqInt64S_s3_a [.f h0]).t (buildS w_eqInt64S_s3_a [.f h0]).h K = w_eqInt64S_s3 none N h0 (fun r__ => retK (buildS w_eqInt64S_s3_r0 [.b r__, .f h0]) K) := by kernel_rfl
def E_w_eqInt64S_s3 (α : Type) (N : Nat) : Env α := (E_w_heldInt64S_s2 α N).addFun 21 true 1 w_eqInt64S_s3_a (fun l K => match l with
    | [.f h0] => w_eqInt64S_s3 none N h0 (fun r__ => retK (buildS w_eqInt64S_s3_r0 [.b r__, .f h0]) K)
    | _ => none)
theorem E_w_eqInt64S_s3_ok {α : Type} (N : Nat) : EnvOk Try.prog (E_w_eqInt64S_s3 α N) := (E_w_heldInt64S_s2_ok N).addFun prog_mixed prog_names (d := 1) fun l K r h => by
  split at h
  · exact (w_eqInt64S_s3_run N _ K).trans h
  · cases h

/-- laws.eqInt64S, loop -/
def w_eqInt64S_l0_s2_p : SPat := ⟨[.slice ⟨0, 0, 0, 8⟩ 8 8 1 true, .slice ⟨1, 0, 0, 8⟩ 8 8 1 true, .undef, .undef, .undef, .int .i64] ++ List.replicate 20 .undef, [[.ints .i64 8], [.ints .i64 8]]⟩
def w_eqInt64S_l0_s2_o0 : SPat := ⟨[.undef, .undef, .undef, .undef, .boolC false] ++ List.replicate 21 .undef, [[.ints .i64 8], [.ints .i64 8]]⟩
def w_eqInt64S_l0_s2_o1 : SPat := ⟨[] ++ List.replicate 26 .undef, [[.ints .i64 8], [.ints .i64 8]]⟩
theorem w_eqInt64S_l0_s2_round {α : Type} (N : Nat) (i : Int) (h0 : Nat → Int) (h1 : Nat → Int) (kn : St → Option α) (K : AExit → St → Option α) :
    roundK Try.prog (E_w_eqInt64S_s3 α N) 1 2 21 Try.f21 4 2 (buildS w_eqInt64S_l0_s2_p [.i i, .f h0, .f h1]) kn K = w_eqInt64S_l0_s2_s none h0 h1 i (fun i => kn (buildS w_eqInt64S_l0_s2_p [.i i, .f h0, .f h1])) (K .ret (buildS w_eqInt64S_l0_s2_o0 [.f h0, .f h1])) (K (.exit 0) (buildS w_eqInt64S_l0_s2_o1 [.f h0, .f h1])) := by kernel_rfl
theorem w_eqInt64S_l0_s2_loop {α : Type} (N : Nat) (h0 : Nat → Int) (h1 : Nat → Int) (K : AExit → St → Option α) : ∀ (m : Nat) (i : Int),
    loopN (trimSt ((E_w_eqInt64S_s3 α N).ann 21 4).head ((E_w_eqInt64S_s3 α N).ann 21 4).grow 2) (bodyK Try.prog (E_w_eqInt64S_s3 α N) 1 2 21 Try.f21 4) m (buildS w_eqInt64S_l0_s2_p [.i i, .f h0, .f h1]) (leaveLoop ((E_w_eqInt64S_s3 α N).ann 21 4) 2 K) = w_eqInt64S_l0_s2 none h0 h1 m i (K .ret (buildS w_eqInt64S_l0_s2_o0 [.f h0, .f h1])) (K (.exit 0) (buildS w_eqInt64S_l0_s2_o1 [.f h0, .f h1])) := by
  intro m
  induction m with
  | zero => intros; rfl
  | succ m ih =>
    intro i
    rw [loopN_round]
    refine (w_eqInt64S_l0_s2_round N i h0 h1 _ K).trans ?_
    simp only [ih]
    rfl
def E_w_eqInt64S_l0_s2 (α : Type) (N : Nat) : Env α := (E_w_eqInt64S_s3 α N).addLoop2 21 4 (loopSum2 ((E_w_eqInt64S_s3 α N).ann 21 4) 2 w_eqInt64S_l0_s2_p (fun l K => match l with
    | [.i i, .f h0, .f h1] => w_eqInt64S_l0_s2 none h0 h1 N i (K .ret (buildS w_eqInt64S_l0_s2_o0 [.f h0, .f h1])) (K (.exit 0) (buildS w_eqInt64S_l0_s2_o1 [.f h0, .f h1]))
    | _ => none) ((E_w_eqInt64S_s3 α N).ls 21 4))
theorem E_w_eqInt64S_l0_s2_ok {α : Type} (N : Nat) : EnvOk Try.prog (E_w_eqInt64S_l0_s2 α N) := (E_w_eqInt64S_s3_ok N).addLoop2 Try.func21 (by kernel_rfl) (loopSum_ok prog_mixed prog_names (E_w_eqInt64S_s3_ok N) Try.func21 (by kernel_rfl) (d := 1) (ro := 2) fun l K r h => by
  split at h
  · exact (w_eqInt64S_l0_s2_loop N _ _ K N _).trans h
  · cases h)

/-- laws.eqInt64S -/
def w_eqInt64S_s4_a : SPat := ⟨[.slice ⟨0, 0, 0, 8⟩ 8 8 1 true, .slice ⟨1, 0, 0, 8⟩ 8 8 1 true], [[.ints .i64 8], [.ints .i64 8]]⟩
def w_eqInt64S_s4_r0 : SPat := ⟨[.bool], [[.ints .i64 8], [.ints .i64 8]]⟩
theorem w_eqInt64S_s4_run {α : Type} (N : Nat) (h0 : Nat → Int) (h1 : Nat → Int) (K : AV → Heap → Option α) :
    callK Try.prog (E_w_eqInt64S_l0_s2 α N) 1 21 2 (buildS w_eqInt64S_s4_a [.f h0, .f h1]).t (buildS w_eqInt64S_s4_a [.f h0, .f h1]).h K = w_eqInt64S_s4 none N h0 h1 (fun r__ => retK (buildS w_eqInt64S_s4_r0 [.b r__, .f h0, .f h1]) K) := by kernel_rfl
def E_w_eqInt64S_s4 (α : Type) (N : Nat) : Env α := (E_w_eqInt64S_l0_s2 α N).addFun 21 true 2 w_eqInt64S_s4_a (fun l K => match l with
    | [.f h0, .f h1] => w_eqInt64S_s4 none N h0 h1 (fun r__ => retK (buildS w_eqInt64S_s4_r0 [.b r__, .f h0, .f h1]) K)
    | _ => none)
theorem E_w_eqInt64S_s4_ok {α : Type} (N : Nat) : EnvOk Try.prog (E_w_eqInt64S_s4 α N) := (E_w_eqInt64S_l0_s2_ok N).addFun prog_mixed prog_names (d := 1) fun l K r h => by
  split at h
  · exact (w_eqInt64S_s4_run N _ _ K).trans h
  · cases h

/-- laws.FnExactCountTiles -/
def w_FnExactCountTiles_a : SPat := ⟨[.agg [.vals [.int .i64], .ints .u8 64]], []⟩
def w_FnExactCountTiles_r0 : SPat := ⟨[.bool], []⟩
theorem w_FnExactCountTiles_run {α : Type} (N : Nat) (aM_0 : Int) (aM_1 : Nat → Int) (K : AV → Heap → Option α) :
    callK Try.prog (E_w_eqInt64S_s4 α N) 1 5 0 (buildS w_FnExactCountTiles_a [.i aM_0, .f aM_1]).t (buildS w_FnExactCountTiles_a [.i aM_0, .f aM_1]).h K = w_FnExactCountTiles none N aM_0 aM_1 (fun r__ => retK (buildS w_FnExactCountTiles_r0 [.b r__]) K) := by kernel_rfl
def E_w_FnExactCountTiles (α : Type) (N : Nat) : Env α := (E_w_eqInt64S_s4 α N).addFun 5 true 0 w_FnExactCountTiles_a (fun l K => match l with
    | [.i aM_0, .f aM_1] => w_FnExactCountTiles none N aM_0 aM_1 (fun r__ => retK (buildS w_FnExactCountTiles_r0 [.b r__]) K)
    | _ => none)
theorem E_w_FnExactCountTiles_ok {α : Type} (N : Nat) : EnvOk Try.prog (E_w_FnExactCountTiles α N) := (E_w_eqInt64S_s4_ok N).addFun prog_mixed prog_names (d := 1) fun l K r h => by
  split at h
  · exact (w_FnExactCountTiles_run N _ _ K).trans h
  · cases h
end Go.AM
