/- A part of a proof about the given program: an abstract machine, what the given functions come to, and plain laws. -/
import Derived.Test.YtoginabccpjeoaaMachG
import Derived.Test.YtoginabccpjeoaaDallLawFronts1
import Derived.Test.YtoginabccpjeoaaProg
set_option linter.unusedVariables false
set_option linter.unusedSimpArgs false
set_option maxRecDepth 100000
namespace Go.AM
open Go.Proofs

def E0 (α : Type) (N : Nat) : Env α := Env.base (fun _ _ => {}) N
theorem E0_ok {α : Type} (N : Nat) : EnvOk Try.prog (E0 α N) := .base
theorem prog_mixed : Try.prog.follows .mixedOrders = true := by kernel_rfl
theorem prog_names : NamesOk Try.prog := .of_all (by kernel_rfl)
/-- spec.l01In -/
def s_l01In_a : SPat := ⟨[.int .i64, .int .i64, .int .i64], []⟩
def s_l01In_r0 : SPat := ⟨[.bool], []⟩
theorem s_l01In_run {α : Type} (N : Nat) (n : Int) (low : Int) (high : Int) (K : AV → Heap → Option α) :
    callK Try.prog (E0 α N) 1 119 0 (buildS s_l01In_a [.i n, .i low, .i high]).t (buildS s_l01In_a [.i n, .i low, .i high]).h K = s_l01In none N n low high (fun r__ => retK (buildS s_l01In_r0 [.b r__]) K) := by kernel_rfl
def E_s_l01In (α : Type) (N : Nat) : Env α := (E0 α N).addFun 119 true 0 s_l01In_a (fun l K => match l with
    | [.i n, .i low, .i high] => s_l01In none N n low high (fun r__ => retK (buildS s_l01In_r0 [.b r__]) K)
    | _ => none)
theorem E_s_l01In_ok {α : Type} (N : Nat) : EnvOk Try.prog (E_s_l01In α N) := (E0_ok N).addFun prog_mixed prog_names (d := 1) fun l K r h => by
  split at h
  · exact (s_l01In_run N _ _ _ K).trans h
  · cases h

def A_s_l01Perm_l0 (α : Type) (N : Nat) : Env α := (E_s_l01In α N).addAnn 193 3 { head := [1, 2, 5, 6], grow := [], out := [], ret := [4] }
theorem A_s_l01Perm_l0_ok {α : Type} (N : Nat) : EnvOk Try.prog (A_s_l01Perm_l0 α N) := (E_s_l01In_ok N).addAnn

/-- spec.l01Perm, loop -/
def s_l01Perm_l0_p : SPat := ⟨[.undef, .int .i64, .ptr ⟨⟨0, 0⟩, 0, 0, 8⟩, .undef, .undef, .ptr ⟨⟨1, 0⟩, 0, 0, 8⟩, .int .i64] ++ List.replicate 29 .undef, [[.ints .u8 8], [.bools 8]]⟩
def s_l01Perm_l0_o0 : SPat := ⟨[.undef, .undef, .undef, .undef, .boolC false] ++ List.replicate 31 .undef, [[.ints .u8 8], [.bools 8]]⟩
def s_l01Perm_l0_o1 : SPat := ⟨[] ++ List.replicate 36 .undef, [[.ints .u8 8], [.bools 8]]⟩
theorem s_l01Perm_l0_round {α : Type} (N : Nat) (n : Int) (i : Int) (h0 : Nat → Int) (h1 : Nat → Bool) (kn : St → Option α) (K : AExit → St → Option α) :
    roundK Try.prog (A_s_l01Perm_l0 α N) 1 0 193 Try.f193 3 2 (buildS s_l01Perm_l0_p [.i n, .i i, .f h0, .g h1]) kn K = s_l01Perm_l0_s none n h0 i h1 (fun i h1 => kn (buildS s_l01Perm_l0_p [.i n, .i i, .f h0, .g h1])) (fun h1_ => K .ret (buildS s_l01Perm_l0_o0 [.f h0, .g h1_])) (fun h1_ => K (.exit 0) (buildS s_l01Perm_l0_o1 [.f h0, .g h1_])) := by kernel_rfl
theorem s_l01Perm_l0_loop {α : Type} (N : Nat) (n : Int) (h0 : Nat → Int) (K : AExit → St → Option α) : ∀ (m : Nat) (i : Int) (h1 : Nat → Bool),
    loopN (trimSt ((A_s_l01Perm_l0 α N).ann 193 3).head ((A_s_l01Perm_l0 α N).ann 193 3).grow 2) (bodyK Try.prog (A_s_l01Perm_l0 α N) 1 0 193 Try.f193 3) m (buildS s_l01Perm_l0_p [.i n, .i i, .f h0, .g h1]) (leaveLoop ((A_s_l01Perm_l0 α N).ann 193 3) 2 K) = s_l01Perm_l0 none n h0 m i h1 (fun h1_ => K .ret (buildS s_l01Perm_l0_o0 [.f h0, .g h1_])) (fun h1_ => K (.exit 0) (buildS s_l01Perm_l0_o1 [.f h0, .g h1_])) := by
  intro m
  induction m with
  | zero => intros; rfl
  | succ m ih =>
    intro i h1
    rw [loopN_round]
    refine (s_l01Perm_l0_round N n i h0 h1 _ K).trans ?_
    simp only [ih]
    rfl
def E_s_l01Perm_l0 (α : Type) (N : Nat) : Env α := (A_s_l01Perm_l0 α N).addLoop2 193 3 (loopSum2 ((A_s_l01Perm_l0 α N).ann 193 3) 0 s_l01Perm_l0_p (fun l K => match l with
    | [.i n, .i i, .f h0, .g h1] => s_l01Perm_l0 none n h0 N i h1 (fun h1_ => K .ret (buildS s_l01Perm_l0_o0 [.f h0, .g h1_])) (fun h1_ => K (.exit 0) (buildS s_l01Perm_l0_o1 [.f h0, .g h1_]))
    | _ => none) ((A_s_l01Perm_l0 α N).ls 193 3))
theorem E_s_l01Perm_l0_ok {α : Type} (N : Nat) : EnvOk Try.prog (E_s_l01Perm_l0 α N) := (A_s_l01Perm_l0_ok N).addLoop2 Try.func193 (by kernel_rfl) (loopSum_ok prog_mixed prog_names (A_s_l01Perm_l0_ok N) Try.func193 (by kernel_rfl) (d := 1) (ro := 0) fun l K r h => by
  split at h
  · exact (s_l01Perm_l0_loop N _ _ K N _ _).trans h
  · cases h)

/-- spec.l01Perm -/
def s_l01Perm_a : SPat := ⟨[.agg [.ints .u8 8], .int .i64], []⟩
def s_l01Perm_r0 : SPat := ⟨[.bool], []⟩
theorem s_l01Perm_run {α : Type} (N : Nat) (list : Nat → Int) (n : Int) (K : AV → Heap → Option α) :
    callK Try.prog (E_s_l01Perm_l0 α N) 1 193 0 (buildS s_l01Perm_a [.f list, .i n]).t (buildS s_l01Perm_a [.f list, .i n]).h K = s_l01Perm none N list n (fun r__ => retK (buildS s_l01Perm_r0 [.b r__]) K) := by kernel_rfl
def E_s_l01Perm (α : Type) (N : Nat) : Env α := (E_s_l01Perm_l0 α N).addFun 193 true 0 s_l01Perm_a (fun l K => match l with
    | [.f list, .i n] => s_l01Perm none N list n (fun r__ => retK (buildS s_l01Perm_r0 [.b r__]) K)
    | _ => none)
theorem E_s_l01Perm_ok {α : Type} (N : Nat) : EnvOk Try.prog (E_s_l01Perm α N) := (E_s_l01Perm_l0_ok N).addFun prog_mixed prog_names (d := 1) fun l K r h => by
  split at h
  · exact (s_l01Perm_run N _ _ K).trans h
  · cases h

def A_s_l01Is_l0 (α : Type) (N : Nat) : Env α := (E_s_l01Perm α N).addAnn 107 4 { head := [1, 3], grow := [], out := [], ret := [2] }
theorem A_s_l01Is_l0_ok {α : Type} (N : Nat) : EnvOk Try.prog (A_s_l01Is_l0 α N) := (E_s_l01Perm_ok N).addAnn

/-- spec.l01Is, loop -/
def s_l01Is_l0_p : SPat := ⟨[.undef, .ptr ⟨⟨0, 0⟩, 0, 0, 1⟩, .undef, .int .i64] ++ List.replicate 35 .undef, [[.vals [.int .i64], .ints .u8 8, .ints .u8 8]]⟩
def s_l01Is_l0_o0 : SPat := ⟨[.undef, .undef, .boolC false] ++ List.replicate 36 .undef, [[.vals [.int .i64], .ints .u8 8, .ints .u8 8]]⟩
def s_l01Is_l0_o1 : SPat := ⟨[] ++ List.replicate 39 .undef, [[.vals [.int .i64], .ints .u8 8, .ints .u8 8]]⟩
theorem s_l01Is_l0_round {α : Type} (N : Nat) (i : Int) (h0_0 : Int) (h0_1 : Nat → Int) (h0_2 : Nat → Int) (kn : St → Option α) (K : AExit → St → Option α) :
    roundK Try.prog (A_s_l01Is_l0 α N) 1 0 107 Try.f107 4 1 (buildS s_l01Is_l0_p [.i i, .i h0_0, .f h0_1, .f h0_2]) kn K = s_l01Is_l0_s none h0_0 h0_1 h0_2 i (fun i => kn (buildS s_l01Is_l0_p [.i i, .i h0_0, .f h0_1, .f h0_2])) (K .ret (buildS s_l01Is_l0_o0 [.i h0_0, .f h0_1, .f h0_2])) (K (.exit 0) (buildS s_l01Is_l0_o1 [.i h0_0, .f h0_1, .f h0_2])) := by kernel_rfl
theorem s_l01Is_l0_loop {α : Type} (N : Nat) (h0_0 : Int) (h0_1 : Nat → Int) (h0_2 : Nat → Int) (K : AExit → St → Option α) : ∀ (m : Nat) (i : Int),
    loopN (trimSt ((A_s_l01Is_l0 α N).ann 107 4).head ((A_s_l01Is_l0 α N).ann 107 4).grow 1) (bodyK Try.prog (A_s_l01Is_l0 α N) 1 0 107 Try.f107 4) m (buildS s_l01Is_l0_p [.i i, .i h0_0, .f h0_1, .f h0_2]) (leaveLoop ((A_s_l01Is_l0 α N).ann 107 4) 1 K) = s_l01Is_l0 none h0_0 h0_1 h0_2 m i (K .ret (buildS s_l01Is_l0_o0 [.i h0_0, .f h0_1, .f h0_2])) (K (.exit 0) (buildS s_l01Is_l0_o1 [.i h0_0, .f h0_1, .f h0_2])) := by
  intro m
  induction m with
  | zero => intros; rfl
  | succ m ih =>
    intro i
    rw [loopN_round]
    refine (s_l01Is_l0_round N i h0_0 h0_1 h0_2 _ K).trans ?_
    simp only [ih]
    rfl
def E_s_l01Is_l0 (α : Type) (N : Nat) : Env α := (A_s_l01Is_l0 α N).addLoop2 107 4 (loopSum2 ((A_s_l01Is_l0 α N).ann 107 4) 0 s_l01Is_l0_p (fun l K => match l with
    | [.i i, .i h0_0, .f h0_1, .f h0_2] => s_l01Is_l0 none h0_0 h0_1 h0_2 N i (K .ret (buildS s_l01Is_l0_o0 [.i h0_0, .f h0_1, .f h0_2])) (K (.exit 0) (buildS s_l01Is_l0_o1 [.i h0_0, .f h0_1, .f h0_2]))
    | _ => none) ((A_s_l01Is_l0 α N).ls 107 4))
theorem E_s_l01Is_l0_ok {α : Type} (N : Nat) : EnvOk Try.prog (E_s_l01Is_l0 α N) := (A_s_l01Is_l0_ok N).addLoop2 Try.func107 (by kernel_rfl) (loopSum_ok prog_mixed prog_names (A_s_l01Is_l0_ok N) Try.func107 (by kernel_rfl) (d := 1) (ro := 0) fun l K r h => by
  split at h
  · exact (s_l01Is_l0_loop N _ _ _ K N _).trans h
  · cases h)

/-- spec.l01Is -/
def s_l01Is_a : SPat := ⟨[.agg [.vals [.int .i64], .ints .u8 8, .ints .u8 8]], []⟩
def s_l01Is_r0 : SPat := ⟨[.bool], []⟩
theorem s_l01Is_run {α : Type} (N : Nat) (g_0 : Int) (g_1 : Nat → Int) (g_2 : Nat → Int) (K : AV → Heap → Option α) :
    callK Try.prog (E_s_l01Is_l0 α N) 1 107 0 (buildS s_l01Is_a [.i g_0, .f g_1, .f g_2]).t (buildS s_l01Is_a [.i g_0, .f g_1, .f g_2]).h K = s_l01Is none N g_0 g_1 g_2 (fun r__ => retK (buildS s_l01Is_r0 [.b r__]) K) := by kernel_rfl
def E_s_l01Is (α : Type) (N : Nat) : Env α := (E_s_l01Is_l0 α N).addFun 107 true 0 s_l01Is_a (fun l K => match l with
    | [.i g_0, .f g_1, .f g_2] => s_l01Is none N g_0 g_1 g_2 (fun r__ => retK (buildS s_l01Is_r0 [.b r__]) K)
    | _ => none)
theorem E_s_l01Is_ok {α : Type} (N : Nat) : EnvOk Try.prog (E_s_l01Is α N) := (E_s_l01Is_l0_ok N).addFun prog_mixed prog_names (d := 1) fun l K r h => by
  split at h
  · exact (s_l01Is_run N _ _ _ K).trans h
  · cases h

def A_s_l01Components_l0 (α : Type) (N : Nat) : Env α := (E_s_l01Is α N).addAnn 108 3 { head := [1, 2, 4, 5, 6], grow := [], out := [1, 2, 4, 5], ret := [2, 3] }
theorem A_s_l01Components_l0_ok {α : Type} (N : Nat) : EnvOk Try.prog (A_s_l01Components_l0 α N) := (E_s_l01Is_ok N).addAnn

/-- spec.l01Components, loop -/
def s_l01Components_l0_p : SPat := ⟨[.undef, .ptr ⟨⟨0, 0⟩, 0, 0, 1⟩, .ptr ⟨⟨1, 0⟩, 0, 0, 8⟩, .undef, .ptr ⟨⟨2, 0⟩, 0, 0, 8⟩, .intC .i64 0, .int .i64] ++ List.replicate 34 .undef, [[.vals [.int .i64], .ints .u8 8, .ints .u8 8], [.ints .i64 8], [.ints .i64 8]]⟩
def s_l01Components_l0_o0 : SPat := ⟨[.undef, .ptr ⟨⟨0, 0⟩, 0, 0, 1⟩, .ptr ⟨⟨1, 0⟩, 0, 0, 8⟩, .undef, .ptr ⟨⟨2, 0⟩, 0, 0, 8⟩, .intC .i64 0] ++ List.replicate 35 .undef, [[.vals [.int .i64], .ints .u8 8, .ints .u8 8], [.ints .i64 8], [.ints .i64 8]]⟩
theorem s_l01Components_l0_round {α : Type} (N : Nat) (i : Int) (h0_0 : Int) (h0_1 : Nat → Int) (h0_2 : Nat → Int) (h1 : Nat → Int) (h2 : Nat → Int) (kn : St → Option α) (K : AExit → St → Option α) :
    roundK Try.prog (A_s_l01Components_l0 α N) 1 0 108 Try.f108 3 3 (buildS s_l01Components_l0_p [.i i, .i h0_0, .f h0_1, .f h0_2, .f h1, .f h2]) kn K = s_l01Components_l0_s none h0_0 h0_1 h0_2 h1 i h2 (fun i h2 => kn (buildS s_l01Components_l0_p [.i i, .i h0_0, .f h0_1, .f h0_2, .f h1, .f h2])) (fun h2_ => K (.exit 0) (buildS s_l01Components_l0_o0 [.i h0_0, .f h0_1, .f h0_2, .f h1, .f h2_])) := by kernel_rfl
theorem s_l01Components_l0_loop {α : Type} (N : Nat) (h0_0 : Int) (h0_1 : Nat → Int) (h0_2 : Nat → Int) (h1 : Nat → Int) (K : AExit → St → Option α) : ∀ (m : Nat) (i : Int) (h2 : Nat → Int),
    loopN (trimSt ((A_s_l01Components_l0 α N).ann 108 3).head ((A_s_l01Components_l0 α N).ann 108 3).grow 3) (bodyK Try.prog (A_s_l01Components_l0 α N) 1 0 108 Try.f108 3) m (buildS s_l01Components_l0_p [.i i, .i h0_0, .f h0_1, .f h0_2, .f h1, .f h2]) (leaveLoop ((A_s_l01Components_l0 α N).ann 108 3) 3 K) = s_l01Components_l0 none h0_0 h0_1 h0_2 h1 m i h2 (fun h2_ => K (.exit 0) (buildS s_l01Components_l0_o0 [.i h0_0, .f h0_1, .f h0_2, .f h1, .f h2_])) := by
  intro m
  induction m with
  | zero => intros; rfl
  | succ m ih =>
    intro i h2
    rw [loopN_round]
    refine (s_l01Components_l0_round N i h0_0 h0_1 h0_2 h1 h2 _ K).trans ?_
    simp only [ih]
    rfl
def E_s_l01Components_l0 (α : Type) (N : Nat) : Env α := (A_s_l01Components_l0 α N).addLoop2 108 3 (loopSum2 ((A_s_l01Components_l0 α N).ann 108 3) 0 s_l01Components_l0_p (fun l K => match l with
    | [.i i, .i h0_0, .f h0_1, .f h0_2, .f h1, .f h2] => s_l01Components_l0 none h0_0 h0_1 h0_2 h1 N i h2 (fun h2_ => K (.exit 0) (buildS s_l01Components_l0_o0 [.i h0_0, .f h0_1, .f h0_2, .f h1, .f h2_]))
    | _ => none) ((A_s_l01Components_l0 α N).ls 108 3))
theorem E_s_l01Components_l0_ok {α : Type} (N : Nat) : EnvOk Try.prog (E_s_l01Components_l0 α N) := (A_s_l01Components_l0_ok N).addLoop2 Try.func108 (by kernel_rfl) (loopSum_ok prog_mixed prog_names (A_s_l01Components_l0_ok N) Try.func108 (by kernel_rfl) (d := 1) (ro := 0) fun l K r h => by
  split at h
  · exact (s_l01Components_l0_loop N _ _ _ _ K N _ _).trans h
  · cases h)

def A_s_l01Components_l1 (α : Type) (N : Nat) : Env α := (E_s_l01Components_l0 α N).addAnn 108 7 { head := [1, 2, 4, 5, 7], grow := [], out := [2, 4, 5], ret := [2, 3] }
theorem A_s_l01Components_l1_ok {α : Type} (N : Nat) : EnvOk Try.prog (A_s_l01Components_l1 α N) := (E_s_l01Components_l0_ok N).addAnn

def A_s_l01Components_l2 (α : Type) (N : Nat) : Env α := (A_s_l01Components_l1 α N).addAnn 108 11 { head := [1, 2, 4, 5, 7, 8], grow := [], out := [1, 2, 4, 5, 7], ret := [2, 3] }
theorem A_s_l01Components_l2_ok {α : Type} (N : Nat) : EnvOk Try.prog (A_s_l01Components_l2 α N) := (A_s_l01Components_l1_ok N).addAnn

def A_s_l01Row_l0 (α : Type) (N : Nat) : Env α := (A_s_l01Components_l2 α N).addAnn 157 2 { head := [1, 2, 3, 7], grow := [], out := [], ret := [6] }
theorem A_s_l01Row_l0_ok {α : Type} (N : Nat) : EnvOk Try.prog (A_s_l01Row_l0 α N) := (A_s_l01Components_l2_ok N).addAnn

/-- spec.l01Row, loop -/
def s_l01Row_l0_p : SPat := ⟨[.undef, .int .i64, .int .i64, .ptr ⟨⟨0, 0⟩, 0, 0, 8⟩, .undef, .undef, .undef, .int .i64] ++ List.replicate 12 .undef, [[.ints .u8 8]]⟩
def s_l01Row_l0_o0 : SPat := ⟨[.undef, .undef, .undef, .undef, .undef, .undef, .int .i64] ++ List.replicate 13 .undef, [[.ints .u8 8]]⟩
def s_l01Row_l0_o1 : SPat := ⟨[] ++ List.replicate 20 .undef, [[.ints .u8 8]]⟩
theorem s_l01Row_l0_round {α : Type} (N : Nat) (n : Int) (r_ : Int) (i : Int) (h0 : Nat → Int) (kn : St → Option α) (K : AExit → St → Option α) :
    roundK Try.prog (A_s_l01Row_l0 α N) 1 0 157 Try.f157 2 1 (buildS s_l01Row_l0_p [.i n, .i r_, .i i, .f h0]) kn K = s_l01Row_l0_s none n r_ h0 i (fun i => kn (buildS s_l01Row_l0_p [.i n, .i r_, .i i, .f h0])) (fun t6_ => K .ret (buildS s_l01Row_l0_o0 [.i t6_, .f h0])) (K (.exit 0) (buildS s_l01Row_l0_o1 [.f h0])) := by kernel_rfl
theorem s_l01Row_l0_loop {α : Type} (N : Nat) (n : Int) (r_ : Int) (h0 : Nat → Int) (K : AExit → St → Option α) : ∀ (m : Nat) (i : Int),
    loopN (trimSt ((A_s_l01Row_l0 α N).ann 157 2).head ((A_s_l01Row_l0 α N).ann 157 2).grow 1) (bodyK Try.prog (A_s_l01Row_l0 α N) 1 0 157 Try.f157 2) m (buildS s_l01Row_l0_p [.i n, .i r_, .i i, .f h0]) (leaveLoop ((A_s_l01Row_l0 α N).ann 157 2) 1 K) = s_l01Row_l0 none n r_ h0 m i (fun t6_ => K .ret (buildS s_l01Row_l0_o0 [.i t6_, .f h0])) (K (.exit 0) (buildS s_l01Row_l0_o1 [.f h0])) := by
  intro m
  induction m with
  | zero => intros; rfl
  | succ m ih =>
    intro i
    rw [loopN_round]
    refine (s_l01Row_l0_round N n r_ i h0 _ K).trans ?_
    simp only [ih]
    rfl
def E_s_l01Row_l0 (α : Type) (N : Nat) : Env α := (A_s_l01Row_l0 α N).addLoop2 157 2 (loopSum2 ((A_s_l01Row_l0 α N).ann 157 2) 0 s_l01Row_l0_p (fun l K => match l with
    | [.i n, .i r_, .i i, .f h0] => s_l01Row_l0 none n r_ h0 N i (fun t6_ => K .ret (buildS s_l01Row_l0_o0 [.i t6_, .f h0])) (K (.exit 0) (buildS s_l01Row_l0_o1 [.f h0]))
    | _ => none) ((A_s_l01Row_l0 α N).ls 157 2))
theorem E_s_l01Row_l0_ok {α : Type} (N : Nat) : EnvOk Try.prog (E_s_l01Row_l0 α N) := (A_s_l01Row_l0_ok N).addLoop2 Try.func157 (by kernel_rfl) (loopSum_ok prog_mixed prog_names (A_s_l01Row_l0_ok N) Try.func157 (by kernel_rfl) (d := 1) (ro := 0) fun l K r h => by
  split at h
  · exact (s_l01Row_l0_loop N _ _ _ K N _).trans h
  · cases h)

/-- spec.l01Row -/
def s_l01Row_a : SPat := ⟨[.agg [.ints .u8 8], .int .i64, .int .i64], []⟩
def s_l01Row_r0 : SPat := ⟨[.int .i64], []⟩
theorem s_l01Row_run {α : Type} (N : Nat) (list : Nat → Int) (n : Int) (r_ : Int) (K : AV → Heap → Option α) :
    callK Try.prog (E_s_l01Row_l0 α N) 1 157 0 (buildS s_l01Row_a [.f list, .i n, .i r_]).t (buildS s_l01Row_a [.f list, .i n, .i r_]).h K = s_l01Row none N list n r_ (fun r__ => retK (buildS s_l01Row_r0 [.i r__]) K) := by kernel_rfl
def E_s_l01Row (α : Type) (N : Nat) : Env α := (E_s_l01Row_l0 α N).addFun 157 true 0 s_l01Row_a (fun l K => match l with
    | [.f list, .i n, .i r_] => s_l01Row none N list n r_ (fun r__ => retK (buildS s_l01Row_r0 [.i r__]) K)
    | _ => none)
theorem E_s_l01Row_ok {α : Type} (N : Nat) : EnvOk Try.prog (E_s_l01Row α N) := (E_s_l01Row_l0_ok N).addFun prog_mixed prog_names (d := 1) fun l K r h => by
  split at h
  · exact (s_l01Row_run N _ _ _ K).trans h
  · cases h

/-- spec.l01Follow -/
def s_l01Follow_a : SPat := ⟨[.agg [.vals [.int .i64], .ints .u8 8, .ints .u8 8], .int .i64], []⟩
def s_l01Follow_r0 : SPat := ⟨[.int .i64], []⟩
theorem s_l01Follow_run {α : Type} (N : Nat) (g_0 : Int) (g_1 : Nat → Int) (g_2 : Nat → Int) (i : Int) (K : AV → Heap → Option α) :
    callK Try.prog (E_s_l01Row α N) 1 159 0 (buildS s_l01Follow_a [.i g_0, .f g_1, .f g_2, .i i]).t (buildS s_l01Follow_a [.i g_0, .f g_1, .f g_2, .i i]).h K = s_l01Follow none N g_0 g_1 g_2 i (fun r__ => retK (buildS s_l01Follow_r0 [.i r__]) K) := by kernel_rfl
def E_s_l01Follow (α : Type) (N : Nat) : Env α := (E_s_l01Row α N).addFun 159 true 0 s_l01Follow_a (fun l K => match l with
    | [.i g_0, .f g_1, .f g_2, .i i] => s_l01Follow none N g_0 g_1 g_2 i (fun r__ => retK (buildS s_l01Follow_r0 [.i r__]) K)
    | _ => none)
theorem E_s_l01Follow_ok {α : Type} (N : Nat) : EnvOk Try.prog (E_s_l01Follow α N) := (E_s_l01Row_ok N).addFun prog_mixed prog_names (d := 1) fun l K r h => by
  split at h
  · exact (s_l01Follow_run N _ _ _ _ K).trans h
  · cases h

/-- spec.l01Components, loop -/
def s_l01Components_l2_p : SPat := ⟨[.undef, .ptr ⟨⟨0, 0⟩, 0, 0, 1⟩, .ptr ⟨⟨1, 0⟩, 0, 0, 8⟩, .undef, .ptr ⟨⟨2, 0⟩, 0, 0, 8⟩, .int .i64, .undef, .int .i64, .int .i64] ++ List.replicate 32 .undef, [[.vals [.int .i64], .ints .u8 8, .ints .u8 8], [.ints .i64 8], [.ints .i64 8]]⟩
def s_l01Components_l2_o0 : SPat := ⟨[.undef, .ptr ⟨⟨0, 0⟩, 0, 0, 1⟩, .ptr ⟨⟨1, 0⟩, 0, 0, 8⟩, .undef, .ptr ⟨⟨2, 0⟩, 0, 0, 8⟩, .int .i64, .undef, .int .i64] ++ List.replicate 33 .undef, [[.vals [.int .i64], .ints .u8 8, .ints .u8 8], [.ints .i64 8], [.ints .i64 8]]⟩
theorem s_l01Components_l2_round {α : Type} (N : Nat) (count : Int) (i : Int) (k : Int) (h0_0 : Int) (h0_1 : Nat → Int) (h0_2 : Nat → Int) (h1 : Nat → Int) (h2 : Nat → Int) (kn : St → Option α) (K : AExit → St → Option α) :
    roundK Try.prog (E_s_l01Follow α N) 1 0 108 Try.f108 11 3 (buildS s_l01Components_l2_p [.i count, .i i, .i k, .i h0_0, .f h0_1, .f h0_2, .f h1, .f h2]) kn K = s_l01Components_l2_s none N count i h0_0 h0_1 h0_2 h1 k h2 (fun k h2 => kn (buildS s_l01Components_l2_p [.i count, .i i, .i k, .i h0_0, .f h0_1, .f h0_2, .f h1, .f h2])) (fun h2_ => K (.exit 4) (buildS s_l01Components_l2_o0 [.i count, .i i, .i h0_0, .f h0_1, .f h0_2, .f h1, .f h2_])) := by kernel_rfl
theorem s_l01Components_l2_loop {α : Type} (N : Nat) (count : Int) (i : Int) (h0_0 : Int) (h0_1 : Nat → Int) (h0_2 : Nat → Int) (h1 : Nat → Int) (K : AExit → St → Option α) : ∀ (m : Nat) (k : Int) (h2 : Nat → Int),
    loopN (trimSt ((E_s_l01Follow α N).ann 108 11).head ((E_s_l01Follow α N).ann 108 11).grow 3) (bodyK Try.prog (E_s_l01Follow α N) 1 0 108 Try.f108 11) m (buildS s_l01Components_l2_p [.i count, .i i, .i k, .i h0_0, .f h0_1, .f h0_2, .f h1, .f h2]) (leaveLoop ((E_s_l01Follow α N).ann 108 11) 3 K) = s_l01Components_l2 none N count i h0_0 h0_1 h0_2 h1 m k h2 (fun h2_ => K (.exit 4) (buildS s_l01Components_l2_o0 [.i count, .i i, .i h0_0, .f h0_1, .f h0_2, .f h1, .f h2_])) := by
  intro m
  induction m with
  | zero => intros; rfl
  | succ m ih =>
    intro k h2
    rw [loopN_round]
    refine (s_l01Components_l2_round N count i k h0_0 h0_1 h0_2 h1 h2 _ K).trans ?_
    simp only [ih]
    rfl
def E_s_l01Components_l2 (α : Type) (N : Nat) : Env α := (E_s_l01Follow α N).addLoop2 108 11 (loopSum2 ((E_s_l01Follow α N).ann 108 11) 0 s_l01Components_l2_p (fun l K => match l with
    | [.i count, .i i, .i k, .i h0_0, .f h0_1, .f h0_2, .f h1, .f h2] => s_l01Components_l2 none N count i h0_0 h0_1 h0_2 h1 N k h2 (fun h2_ => K (.exit 4) (buildS s_l01Components_l2_o0 [.i count, .i i, .i h0_0, .f h0_1, .f h0_2, .f h1, .f h2_]))
    | _ => none) ((E_s_l01Follow α N).ls 108 11))
theorem E_s_l01Components_l2_ok {α : Type} (N : Nat) : EnvOk Try.prog (E_s_l01Components_l2 α N) := (E_s_l01Follow_ok N).addLoop2 Try.func108 (by kernel_rfl) (loopSum_ok prog_mixed prog_names (E_s_l01Follow_ok N) Try.func108 (by kernel_rfl) (d := 1) (ro := 0) fun l K r h => by
  split at h
  · exact (s_l01Components_l2_loop N _ _ _ _ _ _ K N _ _).trans h
  · cases h)

/-- spec.l01Components, loop -/
def s_l01Components_l1_p : SPat := ⟨[.undef, .ptr ⟨⟨0, 0⟩, 0, 0, 1⟩, .ptr ⟨⟨1, 0⟩, 0, 0, 8⟩, .undef, .ptr ⟨⟨2, 0⟩, 0, 0, 8⟩, .int .i64, .undef, .int .i64] ++ List.replicate 33 .undef, [[.vals [.int .i64], .ints .u8 8, .ints .u8 8], [.ints .i64 8], [.ints .i64 8]]⟩
def s_l01Components_l1_o0 : SPat := ⟨[.undef, .undef, .ptr ⟨⟨1, 0⟩, 0, 0, 8⟩, .undef, .ptr ⟨⟨2, 0⟩, 0, 0, 8⟩, .int .i64] ++ List.replicate 35 .undef, [[.vals [.int .i64], .ints .u8 8, .ints .u8 8], [.ints .i64 8], [.ints .i64 8]]⟩
theorem s_l01Components_l1_round {α : Type} (N : Nat) (count : Int) (i : Int) (h0_0 : Int) (h0_1 : Nat → Int) (h0_2 : Nat → Int) (h1 : Nat → Int) (h2 : Nat → Int) (kn : St → Option α) (K : AExit → St → Option α) :
    roundK Try.prog (E_s_l01Components_l2 α N) 1 0 108 Try.f108 7 3 (buildS s_l01Components_l1_p [.i count, .i i, .i h0_0, .f h0_1, .f h0_2, .f h1, .f h2]) kn K = s_l01Components_l1_s none N h0_0 h0_1 h0_2 h1 count i h2 (fun count i h2 => kn (buildS s_l01Components_l1_p [.i count, .i i, .i h0_0, .f h0_1, .f h0_2, .f h1, .f h2])) (fun count_ h2_ => K (.exit 2) (buildS s_l01Components_l1_o0 [.i count_, .i h0_0, .f h0_1, .f h0_2, .f h1, .f h2_])) := by kernel_rfl
theorem s_l01Components_l1_loop {α : Type} (N : Nat) (h0_0 : Int) (h0_1 : Nat → Int) (h0_2 : Nat → Int) (h1 : Nat → Int) (K : AExit → St → Option α) : ∀ (m : Nat) (count : Int) (i : Int) (h2 : Nat → Int),
    loopN (trimSt ((E_s_l01Components_l2 α N).ann 108 7).head ((E_s_l01Components_l2 α N).ann 108 7).grow 3) (bodyK Try.prog (E_s_l01Components_l2 α N) 1 0 108 Try.f108 7) m (buildS s_l01Components_l1_p [.i count, .i i, .i h0_0, .f h0_1, .f h0_2, .f h1, .f h2]) (leaveLoop ((E_s_l01Components_l2 α N).ann 108 7) 3 K) = s_l01Components_l1 none N h0_0 h0_1 h0_2 h1 m count i h2 (fun count_ h2_ => K (.exit 2) (buildS s_l01Components_l1_o0 [.i count_, .i h0_0, .f h0_1, .f h0_2, .f h1, .f h2_])) := by
  intro m
  induction m with
  | zero => intros; rfl
  | succ m ih =>
    intro count i h2
    rw [loopN_round]
    refine (s_l01Components_l1_round N count i h0_0 h0_1 h0_2 h1 h2 _ K).trans ?_
    simp only [ih]
    rfl
def E_s_l01Components_l1 (α : Type) (N : Nat) : Env α := (E_s_l01Components_l2 α N).addLoop2 108 7 (loopSum2 ((E_s_l01Components_l2 α N).ann 108 7) 0 s_l01Components_l1_p (fun l K => match l with
    | [.i count, .i i, .i h0_0, .f h0_1, .f h0_2, .f h1, .f h2] => s_l01Components_l1 none N h0_0 h0_1 h0_2 h1 N count i h2 (fun count_ h2_ => K (.exit 2) (buildS s_l01Components_l1_o0 [.i count_, .i h0_0, .f h0_1, .f h0_2, .f h1, .f h2_]))
    | _ => none) ((E_s_l01Components_l2 α N).ls 108 7))
theorem E_s_l01Components_l1_ok {α : Type} (N : Nat) : EnvOk Try.prog (E_s_l01Components_l1 α N) := (E_s_l01Components_l2_ok N).addLoop2 Try.func108 (by kernel_rfl) (loopSum_ok prog_mixed prog_names (E_s_l01Components_l2_ok N) Try.func108 (by kernel_rfl) (d := 1) (ro := 0) fun l K r h => by
  split at h
  · exact (s_l01Components_l1_loop N _ _ _ _ K N _ _ _).trans h
  · cases h)

/-- spec.l01Components -/
def s_l01Components_a : SPat := ⟨[.agg [.vals [.int .i64], .ints .u8 8, .ints .u8 8]], []⟩
def s_l01Components_r0 : SPat := ⟨[.tuple [.agg [.ints .i64 8], .int .i64]], []⟩
theorem s_l01Components_run {α : Type} (N : Nat) (g_0 : Int) (g_1 : Nat → Int) (g_2 : Nat → Int) (K : AV → Heap → Option α) :
    callK Try.prog (E_s_l01Components_l1 α N) 1 108 0 (buildS s_l01Components_a [.i g_0, .f g_1, .f g_2]).t (buildS s_l01Components_a [.i g_0, .f g_1, .f g_2]).h K = s_l01Components none N g_0 g_1 g_2 (fun r_0_ r_1_ => retK (buildS s_l01Components_r0 [.f r_0_, .i r_1_]) K) := by kernel_rfl
def E_s_l01Components (α : Type) (N : Nat) : Env α := (E_s_l01Components_l1 α N).addFun 108 true 0 s_l01Components_a (fun l K => match l with
    | [.i g_0, .f g_1, .f g_2] => s_l01Components none N g_0 g_1 g_2 (fun r_0_ r_1_ => retK (buildS s_l01Components_r0 [.f r_0_, .i r_1_]) K)
    | _ => none)
theorem E_s_l01Components_ok {α : Type} (N : Nat) : EnvOk Try.prog (E_s_l01Components α N) := (E_s_l01Components_l1_ok N).addFun prog_mixed prog_names (d := 1) fun l K r h => by
  split at h
  · exact (s_l01Components_run N _ _ _ K).trans h
  · cases h

def A_s_l03Crossings_l0 (α : Type) (N : Nat) : Env α := (E_s_l01Components α N).addAnn 155 3 { head := [1, 3, 4], grow := [3], out := [3], ret := [2] }
theorem A_s_l03Crossings_l0_ok {α : Type} (N : Nat) : EnvOk Try.prog (A_s_l03Crossings_l0 α N) := (E_s_l01Components_ok N).addAnn

def A_s_l03Crossings_l1 (α : Type) (N : Nat) : Env α := (A_s_l03Crossings_l0 α N).addAnn 155 6 { head := [1, 3, 4, 5], grow := [3], out := [1, 3, 4], ret := [2] }
theorem A_s_l03Crossings_l1_ok {α : Type} (N : Nat) : EnvOk Try.prog (A_s_l03Crossings_l1 α N) := (A_s_l03Crossings_l0_ok N).addAnn

/-- spec.l03Cross -/
def s_l03Cross_a : SPat := ⟨[.agg [.vals [.int .i64], .ints .u8 8, .ints .u8 8], .int .i64, .int .i64], []⟩
def s_l03Cross_r0 : SPat := ⟨[.int .i64], []⟩
theorem s_l03Cross_run {α : Type} (N : Nat) (g_0 : Int) (g_1 : Nat → Int) (g_2 : Nat → Int) (i : Int) (r_ : Int) (K : AV → Heap → Option α) :
    callK Try.prog (A_s_l03Crossings_l1 α N) 1 205 0 (buildS s_l03Cross_a [.i g_0, .f g_1, .f g_2, .i i, .i r_]).t (buildS s_l03Cross_a [.i g_0, .f g_1, .f g_2, .i i, .i r_]).h K = s_l03Cross none N g_0 g_1 g_2 i r_ (fun r__ => retK (buildS s_l03Cross_r0 [.i r__]) K) := by kernel_rfl
def E_s_l03Cross (α : Type) (N : Nat) : Env α := (A_s_l03Crossings_l1 α N).addFun 205 true 0 s_l03Cross_a (fun l K => match l with
    | [.i g_0, .f g_1, .f g_2, .i i, .i r_] => s_l03Cross none N g_0 g_1 g_2 i r_ (fun r__ => retK (buildS s_l03Cross_r0 [.i r__]) K)
    | _ => none)
theorem E_s_l03Cross_ok {α : Type} (N : Nat) : EnvOk Try.prog (E_s_l03Cross α N) := (A_s_l03Crossings_l1_ok N).addFun prog_mixed prog_names (d := 1) fun l K r h => by
  split at h
  · exact (s_l03Cross_run N _ _ _ _ _ K).trans h
  · cases h

/-- spec.l03Crossings, loop -/
def s_l03Crossings_l1_p : SPat := ⟨[.undef, .ptr ⟨⟨0, 0⟩, 0, 0, 1⟩, .undef, .sliceV 1 0 0 3 false, .int .i64, .int .i64] ++ List.replicate 28 .undef, [[.vals [.int .i64], .ints .u8 8, .ints .u8 8], [.vec .i64]]⟩
def s_l03Crossings_l1_o0 : SPat := ⟨[.undef, .ptr ⟨⟨0, 0⟩, 0, 0, 1⟩, .undef, .sliceV 1 0 0 3 false, .int .i64] ++ List.replicate 29 .undef, [[.vals [.int .i64], .ints .u8 8, .ints .u8 8], [.vec .i64]]⟩
theorem s_l03Crossings_l1_round {α : Type} (N : Nat) (out_n : Nat) (out_l : Nat) (out_c : Nat) (i : Int) (r_ : Int) (h0_0 : Int) (h0_1 : Nat → Int) (h0_2 : Nat → Int) (h1 : List Int) (kn : St → Option α) (K : AExit → St → Option α) :
    roundK Try.prog (E_s_l03Cross α N) 1 0 155 Try.f155 6 2 (buildS s_l03Crossings_l1_p [.n out_n, .n out_l, .n out_c, .i i, .i r_, .i h0_0, .f h0_1, .f h0_2, .l h1]) kn K = s_l03Crossings_l1_s none N i h0_0 h0_1 h0_2 out_n out_l out_c r_ h1 (fun out_n out_l out_c r_ h1 => kn (buildS s_l03Crossings_l1_p [.n out_n, .n out_l, .n out_c, .i i, .i r_, .i h0_0, .f h0_1, .f h0_2, .l h1])) (fun out_n_ out_l_ out_c_ h1_ => K (.exit 2) (buildS s_l03Crossings_l1_o0 [.n out_n_, .n out_l_, .n out_c_, .i i, .i h0_0, .f h0_1, .f h0_2, .l h1_])) := by kernel_rfl
theorem s_l03Crossings_l1_loop {α : Type} (N : Nat) (i : Int) (h0_0 : Int) (h0_1 : Nat → Int) (h0_2 : Nat → Int) (K : AExit → St → Option α) : ∀ (m : Nat) (out_n : Nat) (out_l : Nat) (out_c : Nat) (r_ : Int) (h1 : List Int),
    loopN (trimSt ((E_s_l03Cross α N).ann 155 6).head ((E_s_l03Cross α N).ann 155 6).grow 2) (bodyK Try.prog (E_s_l03Cross α N) 1 0 155 Try.f155 6) m (buildS s_l03Crossings_l1_p [.n out_n, .n out_l, .n out_c, .i i, .i r_, .i h0_0, .f h0_1, .f h0_2, .l h1]) (leaveLoop ((E_s_l03Cross α N).ann 155 6) 2 K) = s_l03Crossings_l1 none N i h0_0 h0_1 h0_2 m out_n out_l out_c r_ h1 (fun out_n_ out_l_ out_c_ h1_ => K (.exit 2) (buildS s_l03Crossings_l1_o0 [.n out_n_, .n out_l_, .n out_c_, .i i, .i h0_0, .f h0_1, .f h0_2, .l h1_])) := by
  intro m
  induction m with
  | zero => intros; rfl
  | succ m ih =>
    intro out_n out_l out_c r_ h1
    rw [loopN_round]
    refine (s_l03Crossings_l1_round N out_n out_l out_c i r_ h0_0 h0_1 h0_2 h1 _ K).trans ?_
    simp only [ih]
    rfl
def E_s_l03Crossings_l1 (α : Type) (N : Nat) : Env α := (E_s_l03Cross α N).addLoop2 155 6 (loopSum2 ((E_s_l03Cross α N).ann 155 6) 0 s_l03Crossings_l1_p (fun l K => match l with
    | [.n out_n, .n out_l, .n out_c, .i i, .i r_, .i h0_0, .f h0_1, .f h0_2, .l h1] => s_l03Crossings_l1 none N i h0_0 h0_1 h0_2 N out_n out_l out_c r_ h1 (fun out_n_ out_l_ out_c_ h1_ => K (.exit 2) (buildS s_l03Crossings_l1_o0 [.n out_n_, .n out_l_, .n out_c_, .i i, .i h0_0, .f h0_1, .f h0_2, .l h1_]))
    | _ => none) ((E_s_l03Cross α N).ls 155 6))
theorem E_s_l03Crossings_l1_ok {α : Type} (N : Nat) : EnvOk Try.prog (E_s_l03Crossings_l1 α N) := (E_s_l03Cross_ok N).addLoop2 Try.func155 (by kernel_rfl) (loopSum_ok prog_mixed prog_names (E_s_l03Cross_ok N) Try.func155 (by kernel_rfl) (d := 1) (ro := 0) fun l K r h => by
  split at h
  · exact (s_l03Crossings_l1_loop N _ _ _ _ K N _ _ _ _ _).trans h
  · cases h)

/-- spec.l03Crossings, loop -/
def s_l03Crossings_l0_p : SPat := ⟨[.undef, .ptr ⟨⟨0, 0⟩, 0, 0, 1⟩, .undef, .sliceV 1 0 0 3 false, .int .i64] ++ List.replicate 29 .undef, [[.vals [.int .i64], .ints .u8 8, .ints .u8 8], [.vec .i64]]⟩
def s_l03Crossings_l0_o0 : SPat := ⟨[.undef, .undef, .undef, .sliceV 1 0 0 3 false] ++ List.replicate 30 .undef, [[.vals [.int .i64], .ints .u8 8, .ints .u8 8], [.vec .i64]]⟩
theorem s_l03Crossings_l0_round {α : Type} (N : Nat) (out_n : Nat) (out_l : Nat) (out_c : Nat) (i : Int) (h0_0 : Int) (h0_1 : Nat → Int) (h0_2 : Nat → Int) (h1 : List Int) (kn : St → Option α) (K : AExit → St → Option α) :
    roundK Try.prog (E_s_l03Crossings_l1 α N) 1 0 155 Try.f155 3 2 (buildS s_l03Crossings_l0_p [.n out_n, .n out_l, .n out_c, .i i, .i h0_0, .f h0_1, .f h0_2, .l h1]) kn K = s_l03Crossings_l0_s none N h0_0 h0_1 h0_2 out_n out_l out_c i h1 (fun out_n out_l out_c i h1 => kn (buildS s_l03Crossings_l0_p [.n out_n, .n out_l, .n out_c, .i i, .i h0_0, .f h0_1, .f h0_2, .l h1])) (fun out_n_ out_l_ out_c_ h1_ => K (.exit 0) (buildS s_l03Crossings_l0_o0 [.n out_n_, .n out_l_, .n out_c_, .i h0_0, .f h0_1, .f h0_2, .l h1_])) := by kernel_rfl
theorem s_l03Crossings_l0_loop {α : Type} (N : Nat) (h0_0 : Int) (h0_1 : Nat → Int) (h0_2 : Nat → Int) (K : AExit → St → Option α) : ∀ (m : Nat) (out_n : Nat) (out_l : Nat) (out_c : Nat) (i : Int) (h1 : List Int),
    loopN (trimSt ((E_s_l03Crossings_l1 α N).ann 155 3).head ((E_s_l03Crossings_l1 α N).ann 155 3).grow 2) (bodyK Try.prog (E_s_l03Crossings_l1 α N) 1 0 155 Try.f155 3) m (buildS s_l03Crossings_l0_p [.n out_n, .n out_l, .n out_c, .i i, .i h0_0, .f h0_1, .f h0_2, .l h1]) (leaveLoop ((E_s_l03Crossings_l1 α N).ann 155 3) 2 K) = s_l03Crossings_l0 none N h0_0 h0_1 h0_2 m out_n out_l out_c i h1 (fun out_n_ out_l_ out_c_ h1_ => K (.exit 0) (buildS s_l03Crossings_l0_o0 [.n out_n_, .n out_l_, .n out_c_, .i h0_0, .f h0_1, .f h0_2, .l h1_])) := by
  intro m
  induction m with
  | zero => intros; rfl
  | succ m ih =>
    intro out_n out_l out_c i h1
    rw [loopN_round]
    refine (s_l03Crossings_l0_round N out_n out_l out_c i h0_0 h0_1 h0_2 h1 _ K).trans ?_
    simp only [ih]
    rfl
def E_s_l03Crossings_l0 (α : Type) (N : Nat) : Env α := (E_s_l03Crossings_l1 α N).addLoop2 155 3 (loopSum2 ((E_s_l03Crossings_l1 α N).ann 155 3) 0 s_l03Crossings_l0_p (fun l K => match l with
    | [.n out_n, .n out_l, .n out_c, .i i, .i h0_0, .f h0_1, .f h0_2, .l h1] => s_l03Crossings_l0 none N h0_0 h0_1 h0_2 N out_n out_l out_c i h1 (fun out_n_ out_l_ out_c_ h1_ => K (.exit 0) (buildS s_l03Crossings_l0_o0 [.n out_n_, .n out_l_, .n out_c_, .i h0_0, .f h0_1, .f h0_2, .l h1_]))
    | _ => none) ((E_s_l03Crossings_l1 α N).ls 155 3))
theorem E_s_l03Crossings_l0_ok {α : Type} (N : Nat) : EnvOk Try.prog (E_s_l03Crossings_l0 α N) := (E_s_l03Crossings_l1_ok N).addLoop2 Try.func155 (by kernel_rfl) (loopSum_ok prog_mixed prog_names (E_s_l03Crossings_l1_ok N) Try.func155 (by kernel_rfl) (d := 1) (ro := 0) fun l K r h => by
  split at h
  · exact (s_l03Crossings_l0_loop N _ _ _ K N _ _ _ _ _).trans h
  · cases h)

/-- spec.l03Crossings -/
def s_l03Crossings_a : SPat := ⟨[.agg [.vals [.int .i64], .ints .u8 8, .ints .u8 8]], []⟩
def s_l03Crossings_r0 : SPat := ⟨[.sliceV 0 0 0 3 false], [[.vec .i64]]⟩
theorem s_l03Crossings_run {α : Type} (N : Nat) (g_0 : Int) (g_1 : Nat → Int) (g_2 : Nat → Int) (K : AV → Heap → Option α) :
    callK Try.prog (E_s_l03Crossings_l0 α N) 1 155 0 (buildS s_l03Crossings_a [.i g_0, .f g_1, .f g_2]).t (buildS s_l03Crossings_a [.i g_0, .f g_1, .f g_2]).h K = s_l03Crossings none N g_0 g_1 g_2 (fun r_n_ r_l_ r_c_ h0_ => retK (buildS s_l03Crossings_r0 [.n r_n_, .n r_l_, .n r_c_, .l h0_]) K) := by kernel_rfl
def E_s_l03Crossings (α : Type) (N : Nat) : Env α := (E_s_l03Crossings_l0 α N).addFun 155 true 0 s_l03Crossings_a (fun l K => match l with
    | [.i g_0, .f g_1, .f g_2] => s_l03Crossings none N g_0 g_1 g_2 (fun r_n_ r_l_ r_c_ h0_ => retK (buildS s_l03Crossings_r0 [.n r_n_, .n r_l_, .n r_c_, .l h0_]) K)
    | _ => none)
theorem E_s_l03Crossings_ok {α : Type} (N : Nat) : EnvOk Try.prog (E_s_l03Crossings α N) := (E_s_l03Crossings_l0_ok N).addFun prog_mixed prog_names (d := 1) fun l K r h => by
  split at h
  · exact (s_l03Crossings_run N _ _ _ K).trans h
  · cases h

def A_s_l07Corners_l0 (α : Type) (N : Nat) : Env α := (E_s_l03Crossings α N).addAnn 165 3 { head := [1, 3, 4], grow := [3], out := [3], ret := [2] }
theorem A_s_l07Corners_l0_ok {α : Type} (N : Nat) : EnvOk Try.prog (A_s_l07Corners_l0 α N) := (E_s_l03Crossings_ok N).addAnn

/-- spec.l07Kind -/
def s_l07Kind_a : SPat := ⟨[.agg [.vals [.int .i64], .ints .u8 8, .ints .u8 8], .int .i64, .int .i64, .bool], []⟩
def s_l07Kind_r0 : SPat := ⟨[.int .i64], []⟩
theorem s_l07Kind_run {α : Type} (N : Nat) (g_0 : Int) (g_1 : Nat → Int) (g_2 : Nat → Int) (i : Int) (r_ : Int) (isX : Bool) (K : AV → Heap → Option α) :
    callK Try.prog (A_s_l07Corners_l0 α N) 1 209 0 (buildS s_l07Kind_a [.i g_0, .f g_1, .f g_2, .i i, .i r_, .b isX]).t (buildS s_l07Kind_a [.i g_0, .f g_1, .f g_2, .i i, .i r_, .b isX]).h K = s_l07Kind none N g_0 g_1 g_2 i r_ isX (fun r__ => retK (buildS s_l07Kind_r0 [.i r__]) K) := by kernel_rfl
def E_s_l07Kind (α : Type) (N : Nat) : Env α := (A_s_l07Corners_l0 α N).addFun 209 true 0 s_l07Kind_a (fun l K => match l with
    | [.i g_0, .f g_1, .f g_2, .i i, .i r_, .b isX] => s_l07Kind none N g_0 g_1 g_2 i r_ isX (fun r__ => retK (buildS s_l07Kind_r0 [.i r__]) K)
    | _ => none)
theorem E_s_l07Kind_ok {α : Type} (N : Nat) : EnvOk Try.prog (E_s_l07Kind α N) := (A_s_l07Corners_l0_ok N).addFun prog_mixed prog_names (d := 1) fun l K r h => by
  split at h
  · exact (s_l07Kind_run N _ _ _ _ _ _ K).trans h
  · cases h

/-- spec.l07Corners, loop -/
def s_l07Corners_l0_p : SPat := ⟨[.undef, .ptr ⟨⟨0, 0⟩, 0, 0, 1⟩, .undef, .sliceV 1 0 0 4 false, .int .i64] ++ List.replicate 37 .undef, [[.vals [.int .i64], .ints .u8 8, .ints .u8 8], [.recs [some IntKind.i64, some IntKind.i64, some IntKind.i64, none]]]⟩
def s_l07Corners_l0_o0 : SPat := ⟨[.undef, .undef, .undef, .sliceV 1 0 0 4 false] ++ List.replicate 38 .undef, [[.vals [.int .i64], .ints .u8 8, .ints .u8 8], [.recs [some IntKind.i64, some IntKind.i64, some IntKind.i64, none]]]⟩
theorem s_l07Corners_l0_round {α : Type} (N : Nat) (out_n : Nat) (out_l : Nat) (out_c : Nat) (i : Int) (h0_0 : Int) (h0_1 : Nat → Int) (h0_2 : Nat → Int) (h1 : List Int) (kn : St → Option α) (K : AExit → St → Option α) :
    roundK Try.prog (E_s_l07Kind α N) 1 0 165 Try.f165 3 2 (buildS s_l07Corners_l0_p [.n out_n, .n out_l, .n out_c, .i i, .i h0_0, .f h0_1, .f h0_2, .l h1]) kn K = s_l07Corners_l0_s none N h0_0 h0_1 h0_2 out_n out_l out_c i h1 (fun out_n out_l out_c i h1 => kn (buildS s_l07Corners_l0_p [.n out_n, .n out_l, .n out_c, .i i, .i h0_0, .f h0_1, .f h0_2, .l h1])) (fun out_n_ out_l_ out_c_ h1_ => K (.exit 0) (buildS s_l07Corners_l0_o0 [.n out_n_, .n out_l_, .n out_c_, .i h0_0, .f h0_1, .f h0_2, .l h1_])) := by kernel_rfl
theorem s_l07Corners_l0_loop {α : Type} (N : Nat) (h0_0 : Int) (h0_1 : Nat → Int) (h0_2 : Nat → Int) (K : AExit → St → Option α) : ∀ (m : Nat) (out_n : Nat) (out_l : Nat) (out_c : Nat) (i : Int) (h1 : List Int),
    loopN (trimSt ((E_s_l07Kind α N).ann 165 3).head ((E_s_l07Kind α N).ann 165 3).grow 2) (bodyK Try.prog (E_s_l07Kind α N) 1 0 165 Try.f165 3) m (buildS s_l07Corners_l0_p [.n out_n, .n out_l, .n out_c, .i i, .i h0_0, .f h0_1, .f h0_2, .l h1]) (leaveLoop ((E_s_l07Kind α N).ann 165 3) 2 K) = s_l07Corners_l0 none N h0_0 h0_1 h0_2 m out_n out_l out_c i h1 (fun out_n_ out_l_ out_c_ h1_ => K (.exit 0) (buildS s_l07Corners_l0_o0 [.n out_n_, .n out_l_, .n out_c_, .i h0_0, .f h0_1, .f h0_2, .l h1_])) := by
  intro m
  induction m with
  | zero => intros; rfl
  | succ m ih =>
    intro out_n out_l out_c i h1
    rw [loopN_round]
    refine (s_l07Corners_l0_round N out_n out_l out_c i h0_0 h0_1 h0_2 h1 _ K).trans ?_
    simp only [ih]
    rfl
def E_s_l07Corners_l0 (α : Type) (N : Nat) : Env α := (E_s_l07Kind α N).addLoop2 165 3 (loopSum2 ((E_s_l07Kind α N).ann 165 3) 0 s_l07Corners_l0_p (fun l K => match l with
    | [.n out_n, .n out_l, .n out_c, .i i, .i h0_0, .f h0_1, .f h0_2, .l h1] => s_l07Corners_l0 none N h0_0 h0_1 h0_2 N out_n out_l out_c i h1 (fun out_n_ out_l_ out_c_ h1_ => K (.exit 0) (buildS s_l07Corners_l0_o0 [.n out_n_, .n out_l_, .n out_c_, .i h0_0, .f h0_1, .f h0_2, .l h1_]))
    | _ => none) ((E_s_l07Kind α N).ls 165 3))
theorem E_s_l07Corners_l0_ok {α : Type} (N : Nat) : EnvOk Try.prog (E_s_l07Corners_l0 α N) := (E_s_l07Kind_ok N).addLoop2 Try.func165 (by kernel_rfl) (loopSum_ok prog_mixed prog_names (E_s_l07Kind_ok N) Try.func165 (by kernel_rfl) (d := 1) (ro := 0) fun l K r h => by
  split at h
  · exact (s_l07Corners_l0_loop N _ _ _ K N _ _ _ _ _).trans h
  · cases h)

/-- spec.l07Corners -/
def s_l07Corners_a : SPat := ⟨[.agg [.vals [.int .i64], .ints .u8 8, .ints .u8 8]], []⟩
def s_l07Corners_r0 : SPat := ⟨[.sliceV 0 0 0 4 false], [[.recs [some IntKind.i64, some IntKind.i64, some IntKind.i64, none]]]⟩
theorem s_l07Corners_run {α : Type} (N : Nat) (g_0 : Int) (g_1 : Nat → Int) (g_2 : Nat → Int) (K : AV → Heap → Option α) :
    callK Try.prog (E_s_l07Corners_l0 α N) 1 165 0 (buildS s_l07Corners_a [.i g_0, .f g_1, .f g_2]).t (buildS s_l07Corners_a [.i g_0, .f g_1, .f g_2]).h K = s_l07Corners none N g_0 g_1 g_2 (fun r_n_ r_l_ r_c_ h0_ => retK (buildS s_l07Corners_r0 [.n r_n_, .n r_l_, .n r_c_, .l h0_]) K) := by kernel_rfl
def E_s_l07Corners (α : Type) (N : Nat) : Env α := (E_s_l07Corners_l0 α N).addFun 165 true 0 s_l07Corners_a (fun l K => match l with
    | [.i g_0, .f g_1, .f g_2] => s_l07Corners none N g_0 g_1 g_2 (fun r_n_ r_l_ r_c_ h0_ => retK (buildS s_l07Corners_r0 [.n r_n_, .n r_l_, .n r_c_, .l h0_]) K)
    | _ => none)
theorem E_s_l07Corners_ok {α : Type} (N : Nat) : EnvOk Try.prog (E_s_l07Corners α N) := (E_s_l07Corners_l0_ok N).addFun prog_mixed prog_names (d := 1) fun l K r h => by
  split at h
  · exact (s_l07Corners_run N _ _ _ K).trans h
  · cases h

def A_s_l07Cusps_l0 (α : Type) (N : Nat) : Env α := (E_s_l07Corners α N).addAnn 91 4 { head := [1, 6, 8, 9, 10, 11], grow := [], out := [9, 10], ret := [4, 5] }
theorem A_s_l07Cusps_l0_ok {α : Type} (N : Nat) : EnvOk Try.prog (A_s_l07Cusps_l0 α N) := (E_s_l07Corners_ok N).addAnn

/-- spec.l07Cusps, loop -/
def s_l07Cusps_l0_p : SPat := ⟨[.undef, .int .i64, .undef, .undef, .undef, .undef, .ptr ⟨⟨1, 0⟩, 0, 0, 8⟩, .undef, .sliceV 2 0 0 4 false, .int .i64, .int .i64, .int .i64] ++ List.replicate 60 .undef, [[.vals [.int .i64], .ints .u8 8, .ints .u8 8], [.ints .i64 8], [.recs [some IntKind.i64, some IntKind.i64, some IntKind.i64, none]]]⟩
def s_l07Cusps_l0_o0 : SPat := ⟨[.undef, .undef, .undef, .undef, .undef, .undef, .undef, .undef, .undef, .int .i64, .int .i64] ++ List.replicate 61 .undef, [[.vals [.int .i64], .ints .u8 8, .ints .u8 8], [.ints .i64 8], [.recs [some IntKind.i64, some IntKind.i64, some IntKind.i64, none]]]⟩
theorem s_l07Cusps_l0_round {α : Type} (N : Nat) (t1 : Int) (t8_n : Nat) (t8_l : Nat) (t8_c : Nat) (t9 : Int) (t10 : Int) (t11 : Int) (h0_0 : Int) (h0_1 : Nat → Int) (h0_2 : Nat → Int) (h1 : Nat → Int) (h2 : List Int) (kn : St → Option α) (K : AExit → St → Option α) :
    roundK Try.prog (A_s_l07Cusps_l0 α N) 1 0 91 Try.f91 4 3 (buildS s_l07Cusps_l0_p [.i t1, .n t8_n, .n t8_l, .n t8_c, .i t9, .i t10, .i t11, .i h0_0, .f h0_1, .f h0_2, .f h1, .l h2]) kn K = s_l07Cusps_l0_s none t1 t8_n t8_l t8_c h0_0 h0_1 h0_2 h1 h2 t9 t10 t11 (fun t9 t10 t11 => kn (buildS s_l07Cusps_l0_p [.i t1, .n t8_n, .n t8_l, .n t8_c, .i t9, .i t10, .i t11, .i h0_0, .f h0_1, .f h0_2, .f h1, .l h2])) (fun t9_ t10_ => K (.exit 0) (buildS s_l07Cusps_l0_o0 [.i t9_, .i t10_, .i h0_0, .f h0_1, .f h0_2, .f h1, .l h2])) := by kernel_rfl
theorem s_l07Cusps_l0_loop {α : Type} (N : Nat) (t1 : Int) (t8_n : Nat) (t8_l : Nat) (t8_c : Nat) (h0_0 : Int) (h0_1 : Nat → Int) (h0_2 : Nat → Int) (h1 : Nat → Int) (h2 : List Int) (K : AExit → St → Option α) : ∀ (m : Nat) (t9 : Int) (t10 : Int) (t11 : Int),
    loopN (trimSt ((A_s_l07Cusps_l0 α N).ann 91 4).head ((A_s_l07Cusps_l0 α N).ann 91 4).grow 3) (bodyK Try.prog (A_s_l07Cusps_l0 α N) 1 0 91 Try.f91 4) m (buildS s_l07Cusps_l0_p [.i t1, .n t8_n, .n t8_l, .n t8_c, .i t9, .i t10, .i t11, .i h0_0, .f h0_1, .f h0_2, .f h1, .l h2]) (leaveLoop ((A_s_l07Cusps_l0 α N).ann 91 4) 3 K) = s_l07Cusps_l0 none t1 t8_n t8_l t8_c h0_0 h0_1 h0_2 h1 h2 m t9 t10 t11 (fun t9_ t10_ => K (.exit 0) (buildS s_l07Cusps_l0_o0 [.i t9_, .i t10_, .i h0_0, .f h0_1, .f h0_2, .f h1, .l h2])) := by
  intro m
  induction m with
  | zero => intros; rfl
  | succ m ih =>
    intro t9 t10 t11
    rw [loopN_round]
    refine (s_l07Cusps_l0_round N t1 t8_n t8_l t8_c t9 t10 t11 h0_0 h0_1 h0_2 h1 h2 _ K).trans ?_
    simp only [ih]
    rfl
def E_s_l07Cusps_l0 (α : Type) (N : Nat) : Env α := (A_s_l07Cusps_l0 α N).addLoop2 91 4 (loopSum2 ((A_s_l07Cusps_l0 α N).ann 91 4) 0 s_l07Cusps_l0_p (fun l K => match l with
    | [.i t1, .n t8_n, .n t8_l, .n t8_c, .i t9, .i t10, .i t11, .i h0_0, .f h0_1, .f h0_2, .f h1, .l h2] => s_l07Cusps_l0 none t1 t8_n t8_l t8_c h0_0 h0_1 h0_2 h1 h2 N t9 t10 t11 (fun t9_ t10_ => K (.exit 0) (buildS s_l07Cusps_l0_o0 [.i t9_, .i t10_, .i h0_0, .f h0_1, .f h0_2, .f h1, .l h2]))
    | _ => none) ((A_s_l07Cusps_l0 α N).ls 91 4))
theorem E_s_l07Cusps_l0_ok {α : Type} (N : Nat) : EnvOk Try.prog (E_s_l07Cusps_l0 α N) := (A_s_l07Cusps_l0_ok N).addLoop2 Try.func91 (by kernel_rfl) (loopSum_ok prog_mixed prog_names (A_s_l07Cusps_l0_ok N) Try.func91 (by kernel_rfl) (d := 1) (ro := 0) fun l K r h => by
  split at h
  · exact (s_l07Cusps_l0_loop N _ _ _ _ _ _ _ _ _ K N _ _ _).trans h
  · cases h)

/-- spec.l07Cusps -/
def s_l07Cusps_a : SPat := ⟨[.agg [.vals [.int .i64], .ints .u8 8, .ints .u8 8], .int .i64], []⟩
def s_l07Cusps_r0 : SPat := ⟨[.tuple [.int .i64, .int .i64]], []⟩
theorem s_l07Cusps_run {α : Type} (N : Nat) (g_0 : Int) (g_1 : Nat → Int) (g_2 : Nat → Int) (a1 : Int) (K : AV → Heap → Option α) :
    callK Try.prog (E_s_l07Cusps_l0 α N) 1 91 0 (buildS s_l07Cusps_a [.i g_0, .f g_1, .f g_2, .i a1]).t (buildS s_l07Cusps_a [.i g_0, .f g_1, .f g_2, .i a1]).h K = s_l07Cusps none N g_0 g_1 g_2 a1 (fun r_0_ r_1_ => retK (buildS s_l07Cusps_r0 [.i r_0_, .i r_1_]) K) := by kernel_rfl
def E_s_l07Cusps (α : Type) (N : Nat) : Env α := (E_s_l07Cusps_l0 α N).addFun 91 true 0 s_l07Cusps_a (fun l K => match l with
    | [.i g_0, .f g_1, .f g_2, .i a1] => s_l07Cusps none N g_0 g_1 g_2 a1 (fun r_0_ r_1_ => retK (buildS s_l07Cusps_r0 [.i r_0_, .i r_1_]) K)
    | _ => none)
theorem E_s_l07Cusps_ok {α : Type} (N : Nat) : EnvOk Try.prog (E_s_l07Cusps α N) := (E_s_l07Cusps_l0_ok N).addFun prog_mixed prog_names (d := 1) fun l K r h => by
  split at h
  · exact (s_l07Cusps_run N _ _ _ _ K).trans h
  · cases h

/-- impl.within -/
def i_within_a : SPat := ⟨[.int .i64, .int .i64, .int .i64], []⟩
def i_within_r0 : SPat := ⟨[.bool], []⟩
theorem i_within_run {α : Type} (N : Nat) (x : Int) (low : Int) (high : Int) (K : AV → Heap → Option α) :
    callK Try.prog (E_s_l07Cusps α N) 1 117 0 (buildS i_within_a [.i x, .i low, .i high]).t (buildS i_within_a [.i x, .i low, .i high]).h K = i_within none N x low high (fun r__ => retK (buildS i_within_r0 [.b r__]) K) := by kernel_rfl
def E_i_within (α : Type) (N : Nat) : Env α := (E_s_l07Cusps α N).addFun 117 true 0 i_within_a (fun l K => match l with
    | [.i x, .i low, .i high] => i_within none N x low high (fun r__ => retK (buildS i_within_r0 [.b r__]) K)
    | _ => none)
theorem E_i_within_ok {α : Type} (N : Nat) : EnvOk Try.prog (E_i_within α N) := (E_s_l07Cusps_ok N).addFun prog_mixed prog_names (d := 1) fun l K r h => by
  split at h
  · exact (i_within_run N _ _ _ K).trans h
  · cases h

/-- (impl.Grid).n -/
def i_Grid_n_a : SPat := ⟨[.agg [.vals [.int .i64], .ints .u8 8, .ints .u8 8]], []⟩
def i_Grid_n_r0 : SPat := ⟨[.int .i64], []⟩
theorem i_Grid_n_run {α : Type} (N : Nat) (g_0 : Int) (g_1 : Nat → Int) (g_2 : Nat → Int) (K : AV → Heap → Option α) :
    callK Try.prog (E_i_within α N) 1 106 0 (buildS i_Grid_n_a [.i g_0, .f g_1, .f g_2]).t (buildS i_Grid_n_a [.i g_0, .f g_1, .f g_2]).h K = i_Grid_n none N g_0 g_1 g_2 (retK (buildS i_Grid_n_r0 [.i g_0]) K) := by kernel_rfl
def E_i_Grid_n (α : Type) (N : Nat) : Env α := (E_i_within α N).addFun 106 true 0 i_Grid_n_a (fun l K => match l with
    | [.i g_0, .f g_1, .f g_2] => i_Grid_n none N g_0 g_1 g_2 (retK (buildS i_Grid_n_r0 [.i g_0]) K)
    | _ => none)
theorem E_i_Grid_n_ok {α : Type} (N : Nat) : EnvOk Try.prog (E_i_Grid_n α N) := (E_i_within_ok N).addFun prog_mixed prog_names (d := 1) fun l K r h => by
  split at h
  · exact (i_Grid_n_run N _ _ _ K).trans h
  · cases h

def A_i_isOrder_l0 (α : Type) (N : Nat) : Env α := (E_i_Grid_n α N).addAnn 195 3 { head := [1, 5, 8, 9, 10], grow := [], out := [1, 5], ret := [4] }
theorem A_i_isOrder_l0_ok {α : Type} (N : Nat) : EnvOk Try.prog (A_i_isOrder_l0 α N) := (E_i_Grid_n_ok N).addAnn

/-- impl.isOrder, loop -/
def i_isOrder_l0_s2_p : SPat := ⟨[.undef, .int .i64, .undef, .undef, .undef, .int .i64, .undef, .undef, .slice ⟨⟨0, 0⟩, 1, 0, 8⟩ 8 8 1 true, .intC .i64 8, .int .i64] ++ List.replicate 30 .undef, [[.vals [.int .i64], .ints .u8 8, .ints .u8 8]]⟩
def i_isOrder_l0_s2_o0 : SPat := ⟨[.undef, .undef, .undef, .undef, .boolC false] ++ List.replicate 36 .undef, [[.vals [.int .i64], .ints .u8 8, .ints .u8 8]]⟩
def i_isOrder_l0_s2_o1 : SPat := ⟨[.undef, .int .i64, .undef, .undef, .undef, .int .i64] ++ List.replicate 35 .undef, [[.vals [.int .i64], .ints .u8 8, .ints .u8 8]]⟩
theorem i_isOrder_l0_s2_round {α : Type} (N : Nat) (n : Int) (seen : Int) (t10 : Int) (h0_0 : Int) (h0_1 : Nat → Int) (h0_2 : Nat → Int) (kn : St → Option α) (K : AExit → St → Option α) :
    roundK Try.prog (A_i_isOrder_l0 α N) 1 1 195 Try.f195 3 1 (buildS i_isOrder_l0_s2_p [.i n, .i seen, .i t10, .i h0_0, .f h0_1, .f h0_2]) kn K = i_isOrder_l0_s2_s none n h0_0 h0_1 h0_2 seen t10 (fun seen t10 => kn (buildS i_isOrder_l0_s2_p [.i n, .i seen, .i t10, .i h0_0, .f h0_1, .f h0_2])) (K .ret (buildS i_isOrder_l0_s2_o0 [.i h0_0, .f h0_1, .f h0_2])) (fun seen_ => K (.exit 0) (buildS i_isOrder_l0_s2_o1 [.i n, .i seen_, .i h0_0, .f h0_1, .f h0_2])) := by kernel_rfl
theorem i_isOrder_l0_s2_loop {α : Type} (N : Nat) (n : Int) (h0_0 : Int) (h0_1 : Nat → Int) (h0_2 : Nat → Int) (K : AExit → St → Option α) : ∀ (m : Nat) (seen : Int) (t10 : Int),
    loopN (trimSt ((A_i_isOrder_l0 α N).ann 195 3).head ((A_i_isOrder_l0 α N).ann 195 3).grow 1) (bodyK Try.prog (A_i_isOrder_l0 α N) 1 1 195 Try.f195 3) m (buildS i_isOrder_l0_s2_p [.i n, .i seen, .i t10, .i h0_0, .f h0_1, .f h0_2]) (leaveLoop ((A_i_isOrder_l0 α N).ann 195 3) 1 K) = i_isOrder_l0_s2 none n h0_0 h0_1 h0_2 m seen t10 (K .ret (buildS i_isOrder_l0_s2_o0 [.i h0_0, .f h0_1, .f h0_2])) (fun seen_ => K (.exit 0) (buildS i_isOrder_l0_s2_o1 [.i n, .i seen_, .i h0_0, .f h0_1, .f h0_2])) := by
  intro m
  induction m with
  | zero => intros; rfl
  | succ m ih =>
    intro seen t10
    rw [loopN_round]
    refine (i_isOrder_l0_s2_round N n seen t10 h0_0 h0_1 h0_2 _ K).trans ?_
    simp only [ih]
    rfl
def E_i_isOrder_l0_s2 (α : Type) (N : Nat) : Env α := (A_i_isOrder_l0 α N).addLoop2 195 3 (loopSum2 ((A_i_isOrder_l0 α N).ann 195 3) 1 i_isOrder_l0_s2_p (fun l K => match l with
    | [.i n, .i seen, .i t10, .i h0_0, .f h0_1, .f h0_2] => i_isOrder_l0_s2 none n h0_0 h0_1 h0_2 N seen t10 (K .ret (buildS i_isOrder_l0_s2_o0 [.i h0_0, .f h0_1, .f h0_2])) (fun seen_ => K (.exit 0) (buildS i_isOrder_l0_s2_o1 [.i n, .i seen_, .i h0_0, .f h0_1, .f h0_2]))
    | _ => none) ((A_i_isOrder_l0 α N).ls 195 3))
theorem E_i_isOrder_l0_s2_ok {α : Type} (N : Nat) : EnvOk Try.prog (E_i_isOrder_l0_s2 α N) := (A_i_isOrder_l0_ok N).addLoop2 Try.func195 (by kernel_rfl) (loopSum_ok prog_mixed prog_names (A_i_isOrder_l0_ok N) Try.func195 (by kernel_rfl) (d := 1) (ro := 1) fun l K r h => by
  split at h
  · exact (i_isOrder_l0_s2_loop N _ _ _ _ K N _ _).trans h
  · cases h)

/-- impl.isOrder -/
def i_isOrder_s2_a : SPat := ⟨[.slice ⟨⟨0, 0⟩, 1, 0, 8⟩ 8 8 1 true, .int .i64], [[.vals [.int .i64], .ints .u8 8, .ints .u8 8]]⟩
def i_isOrder_s2_r0 : SPat := ⟨[.bool], [[.vals [.int .i64], .ints .u8 8, .ints .u8 8]]⟩
theorem i_isOrder_s2_run {α : Type} (N : Nat) (n : Int) (h0_0 : Int) (h0_1 : Nat → Int) (h0_2 : Nat → Int) (K : AV → Heap → Option α) :
    callK Try.prog (E_i_isOrder_l0_s2 α N) 1 195 1 (buildS i_isOrder_s2_a [.i n, .i h0_0, .f h0_1, .f h0_2]).t (buildS i_isOrder_s2_a [.i n, .i h0_0, .f h0_1, .f h0_2]).h K = i_isOrder_s2 none N n h0_0 h0_1 h0_2 (fun r__ => retK (buildS i_isOrder_s2_r0 [.b r__, .i h0_0, .f h0_1, .f h0_2]) K) := by kernel_rfl
def E_i_isOrder_s2 (α : Type) (N : Nat) : Env α := (E_i_isOrder_l0_s2 α N).addFun 195 true 1 i_isOrder_s2_a (fun l K => match l with
    | [.i n, .i h0_0, .f h0_1, .f h0_2] => i_isOrder_s2 none N n h0_0 h0_1 h0_2 (fun r__ => retK (buildS i_isOrder_s2_r0 [.b r__, .i h0_0, .f h0_1, .f h0_2]) K)
    | _ => none)
theorem E_i_isOrder_s2_ok {α : Type} (N : Nat) : EnvOk Try.prog (E_i_isOrder_s2 α N) := (E_i_isOrder_l0_s2_ok N).addFun prog_mixed prog_names (d := 1) fun l K r h => by
  split at h
  · exact (i_isOrder_s2_run N _ _ _ _ K).trans h
  · cases h

/-- impl.isOrder, loop -/
def i_isOrder_l0_s3_p : SPat := ⟨[.undef, .int .i64, .undef, .undef, .undef, .int .i64, .undef, .undef, .slice ⟨⟨0, 0⟩, 2, 0, 8⟩ 8 8 1 true, .intC .i64 8, .int .i64] ++ List.replicate 30 .undef, [[.vals [.int .i64], .ints .u8 8, .ints .u8 8]]⟩
def i_isOrder_l0_s3_o0 : SPat := ⟨[.undef, .undef, .undef, .undef, .boolC false] ++ List.replicate 36 .undef, [[.vals [.int .i64], .ints .u8 8, .ints .u8 8]]⟩
def i_isOrder_l0_s3_o1 : SPat := ⟨[.undef, .int .i64, .undef, .undef, .undef, .int .i64] ++ List.replicate 35 .undef, [[.vals [.int .i64], .ints .u8 8, .ints .u8 8]]⟩
theorem i_isOrder_l0_s3_round {α : Type} (N : Nat) (n : Int) (seen : Int) (t10 : Int) (h0_0 : Int) (h0_1 : Nat → Int) (h0_2 : Nat → Int) (kn : St → Option α) (K : AExit → St → Option α) :
    roundK Try.prog (E_i_isOrder_s2 α N) 1 1 195 Try.f195 3 1 (buildS i_isOrder_l0_s3_p [.i n, .i seen, .i t10, .i h0_0, .f h0_1, .f h0_2]) kn K = i_isOrder_l0_s3_s none n h0_0 h0_1 h0_2 seen t10 (fun seen t10 => kn (buildS i_isOrder_l0_s3_p [.i n, .i seen, .i t10, .i h0_0, .f h0_1, .f h0_2])) (K .ret (buildS i_isOrder_l0_s3_o0 [.i h0_0, .f h0_1, .f h0_2])) (fun seen_ => K (.exit 0) (buildS i_isOrder_l0_s3_o1 [.i n, .i seen_, .i h0_0, .f h0_1, .f h0_2])) := by kernel_rfl
theorem i_isOrder_l0_s3_loop {α : Type} (N : Nat) (n : Int) (h0_0 : Int) (h0_1 : Nat → Int) (h0_2 : Nat → Int) (K : AExit → St → Option α) : ∀ (m : Nat) (seen : Int) (t10 : Int),
    loopN (trimSt ((E_i_isOrder_s2 α N).ann 195 3).head ((E_i_isOrder_s2 α N).ann 195 3).grow 1) (bodyK Try.prog (E_i_isOrder_s2 α N) 1 1 195 Try.f195 3) m (buildS i_isOrder_l0_s3_p [.i n, .i seen, .i t10, .i h0_0, .f h0_1, .f h0_2]) (leaveLoop ((E_i_isOrder_s2 α N).ann 195 3) 1 K) = i_isOrder_l0_s3 none n h0_0 h0_1 h0_2 m seen t10 (K .ret (buildS i_isOrder_l0_s3_o0 [.i h0_0, .f h0_1, .f h0_2])) (fun seen_ => K (.exit 0) (buildS i_isOrder_l0_s3_o1 [.i n, .i seen_, .i h0_0, .f h0_1, .f h0_2])) := by
  intro m
  induction m with
  | zero => intros; rfl
  | succ m ih =>
    intro seen t10
    rw [loopN_round]
    refine (i_isOrder_l0_s3_round N n seen t10 h0_0 h0_1 h0_2 _ K).trans ?_
    simp only [ih]
    rfl
def E_i_isOrder_l0_s3 (α : Type) (N : Nat) : Env α := (E_i_isOrder_s2 α N).addLoop2 195 3 (loopSum2 ((E_i_isOrder_s2 α N).ann 195 3) 1 i_isOrder_l0_s3_p (fun l K => match l with
    | [.i n, .i seen, .i t10, .i h0_0, .f h0_1, .f h0_2] => i_isOrder_l0_s3 none n h0_0 h0_1 h0_2 N seen t10 (K .ret (buildS i_isOrder_l0_s3_o0 [.i h0_0, .f h0_1, .f h0_2])) (fun seen_ => K (.exit 0) (buildS i_isOrder_l0_s3_o1 [.i n, .i seen_, .i h0_0, .f h0_1, .f h0_2]))
    | _ => none) ((E_i_isOrder_s2 α N).ls 195 3))
theorem E_i_isOrder_l0_s3_ok {α : Type} (N : Nat) : EnvOk Try.prog (E_i_isOrder_l0_s3 α N) := (E_i_isOrder_s2_ok N).addLoop2 Try.func195 (by kernel_rfl) (loopSum_ok prog_mixed prog_names (E_i_isOrder_s2_ok N) Try.func195 (by kernel_rfl) (d := 1) (ro := 1) fun l K r h => by
  split at h
  · exact (i_isOrder_l0_s3_loop N _ _ _ _ K N _ _).trans h
  · cases h)

/-- impl.isOrder -/
def i_isOrder_s3_a : SPat := ⟨[.slice ⟨⟨0, 0⟩, 2, 0, 8⟩ 8 8 1 true, .int .i64], [[.vals [.int .i64], .ints .u8 8, .ints .u8 8]]⟩
def i_isOrder_s3_r0 : SPat := ⟨[.bool], [[.vals [.int .i64], .ints .u8 8, .ints .u8 8]]⟩
theorem i_isOrder_s3_run {α : Type} (N : Nat) (n : Int) (h0_0 : Int) (h0_1 : Nat → Int) (h0_2 : Nat → Int) (K : AV → Heap → Option α) :
    callK Try.prog (E_i_isOrder_l0_s3 α N) 1 195 1 (buildS i_isOrder_s3_a [.i n, .i h0_0, .f h0_1, .f h0_2]).t (buildS i_isOrder_s3_a [.i n, .i h0_0, .f h0_1, .f h0_2]).h K = i_isOrder_s3 none N n h0_0 h0_1 h0_2 (fun r__ => retK (buildS i_isOrder_s3_r0 [.b r__, .i h0_0, .f h0_1, .f h0_2]) K) := by kernel_rfl
def E_i_isOrder_s3 (α : Type) (N : Nat) : Env α := (E_i_isOrder_l0_s3 α N).addFun 195 true 1 i_isOrder_s3_a (fun l K => match l with
    | [.i n, .i h0_0, .f h0_1, .f h0_2] => i_isOrder_s3 none N n h0_0 h0_1 h0_2 (fun r__ => retK (buildS i_isOrder_s3_r0 [.b r__, .i h0_0, .f h0_1, .f h0_2]) K)
    | _ => none)
theorem E_i_isOrder_s3_ok {α : Type} (N : Nat) : EnvOk Try.prog (E_i_isOrder_s3 α N) := (E_i_isOrder_l0_s3_ok N).addFun prog_mixed prog_names (d := 1) fun l K r h => by
  split at h
  · exact (i_isOrder_s3_run N _ _ _ _ K).trans h
  · cases h

def A_i_IsGrid_l0 (α : Type) (N : Nat) : Env α := (E_i_isOrder_s3 α N).addAnn 116 4 { head := [1, 25, 26], grow := [], out := [], ret := [2] }
theorem A_i_IsGrid_l0_ok {α : Type} (N : Nat) : EnvOk Try.prog (A_i_IsGrid_l0 α N) := (E_i_isOrder_s3_ok N).addAnn

/-- impl.IsGrid, loop -/
def i_IsGrid_l0_p : SPat := ⟨[.undef, .ptr ⟨⟨0, 0⟩, 0, 0, 1⟩, .undef, .undef, .undef, .undef, .undef, .undef, .undef, .undef, .undef, .undef, .undef, .undef, .undef, .undef, .undef, .undef, .undef, .undef, .undef, .undef, .undef, .undef, .undef, .int .i64, .int .i64] ++ List.replicate 12 .undef, [[.vals [.int .i64], .ints .u8 8, .ints .u8 8]]⟩
def i_IsGrid_l0_o0 : SPat := ⟨[.undef, .undef, .boolC false] ++ List.replicate 36 .undef, [[.vals [.int .i64], .ints .u8 8, .ints .u8 8]]⟩
def i_IsGrid_l0_o1 : SPat := ⟨[] ++ List.replicate 39 .undef, [[.vals [.int .i64], .ints .u8 8, .ints .u8 8]]⟩
theorem i_IsGrid_l0_round {α : Type} (N : Nat) (t25 : Int) (t26 : Int) (h0_0 : Int) (h0_1 : Nat → Int) (h0_2 : Nat → Int) (kn : St → Option α) (K : AExit → St → Option α) :
    roundK Try.prog (A_i_IsGrid_l0 α N) 1 0 116 Try.f116 4 1 (buildS i_IsGrid_l0_p [.i t25, .i t26, .i h0_0, .f h0_1, .f h0_2]) kn K = i_IsGrid_l0_s none t25 h0_0 h0_1 h0_2 t26 (fun t26 => kn (buildS i_IsGrid_l0_p [.i t25, .i t26, .i h0_0, .f h0_1, .f h0_2])) (K .ret (buildS i_IsGrid_l0_o0 [.i h0_0, .f h0_1, .f h0_2])) (K (.exit 0) (buildS i_IsGrid_l0_o1 [.i h0_0, .f h0_1, .f h0_2])) := by kernel_rfl
theorem i_IsGrid_l0_loop {α : Type} (N : Nat) (t25 : Int) (h0_0 : Int) (h0_1 : Nat → Int) (h0_2 : Nat → Int) (K : AExit → St → Option α) : ∀ (m : Nat) (t26 : Int),
    loopN (trimSt ((A_i_IsGrid_l0 α N).ann 116 4).head ((A_i_IsGrid_l0 α N).ann 116 4).grow 1) (bodyK Try.prog (A_i_IsGrid_l0 α N) 1 0 116 Try.f116 4) m (buildS i_IsGrid_l0_p [.i t25, .i t26, .i h0_0, .f h0_1, .f h0_2]) (leaveLoop ((A_i_IsGrid_l0 α N).ann 116 4) 1 K) = i_IsGrid_l0 none t25 h0_0 h0_1 h0_2 m t26 (K .ret (buildS i_IsGrid_l0_o0 [.i h0_0, .f h0_1, .f h0_2])) (K (.exit 0) (buildS i_IsGrid_l0_o1 [.i h0_0, .f h0_1, .f h0_2])) := by
  intro m
  induction m with
  | zero => intros; rfl
  | succ m ih =>
    intro t26
    rw [loopN_round]
    refine (i_IsGrid_l0_round N t25 t26 h0_0 h0_1 h0_2 _ K).trans ?_
    simp only [ih]
    rfl
def E_i_IsGrid_l0 (α : Type) (N : Nat) : Env α := (A_i_IsGrid_l0 α N).addLoop2 116 4 (loopSum2 ((A_i_IsGrid_l0 α N).ann 116 4) 0 i_IsGrid_l0_p (fun l K => match l with
    | [.i t25, .i t26, .i h0_0, .f h0_1, .f h0_2] => i_IsGrid_l0 none t25 h0_0 h0_1 h0_2 N t26 (K .ret (buildS i_IsGrid_l0_o0 [.i h0_0, .f h0_1, .f h0_2])) (K (.exit 0) (buildS i_IsGrid_l0_o1 [.i h0_0, .f h0_1, .f h0_2]))
    | _ => none) ((A_i_IsGrid_l0 α N).ls 116 4))
theorem E_i_IsGrid_l0_ok {α : Type} (N : Nat) : EnvOk Try.prog (E_i_IsGrid_l0 α N) := (A_i_IsGrid_l0_ok N).addLoop2 Try.func116 (by kernel_rfl) (loopSum_ok prog_mixed prog_names (A_i_IsGrid_l0_ok N) Try.func116 (by kernel_rfl) (d := 1) (ro := 0) fun l K r h => by
  split at h
  · exact (i_IsGrid_l0_loop N _ _ _ _ K N _).trans h
  · cases h)

/-- impl.IsGrid -/
def i_IsGrid_a : SPat := ⟨[.agg [.vals [.int .i64], .ints .u8 8, .ints .u8 8]], []⟩
def i_IsGrid_r0 : SPat := ⟨[.bool], []⟩
theorem i_IsGrid_run {α : Type} (N : Nat) (g_0 : Int) (g_1 : Nat → Int) (g_2 : Nat → Int) (K : AV → Heap → Option α) :
    callK Try.prog (E_i_IsGrid_l0 α N) 1 116 0 (buildS i_IsGrid_a [.i g_0, .f g_1, .f g_2]).t (buildS i_IsGrid_a [.i g_0, .f g_1, .f g_2]).h K = i_IsGrid none N g_0 g_1 g_2 (fun r__ => retK (buildS i_IsGrid_r0 [.b r__]) K) := by kernel_rfl
def E_i_IsGrid (α : Type) (N : Nat) : Env α := (E_i_IsGrid_l0 α N).addFun 116 true 0 i_IsGrid_a (fun l K => match l with
    | [.i g_0, .f g_1, .f g_2] => i_IsGrid none N g_0 g_1 g_2 (fun r__ => retK (buildS i_IsGrid_r0 [.b r__]) K)
    | _ => none)
theorem E_i_IsGrid_ok {α : Type} (N : Nat) : EnvOk Try.prog (E_i_IsGrid α N) := (E_i_IsGrid_l0_ok N).addFun prog_mixed prog_names (d := 1) fun l K r h => by
  split at h
  · exact (i_IsGrid_run N _ _ _ K).trans h
  · cases h

def A_i_Grid_places_l0 (α : Type) (N : Nat) : Env α := (E_i_IsGrid α N).addAnn 189 3 { head := [3, 4, 5, 9, 10], grow := [], out := [4, 5], ret := [4] }
theorem A_i_Grid_places_l0_ok {α : Type} (N : Nat) : EnvOk Try.prog (A_i_Grid_places_l0 α N) := (E_i_IsGrid_ok N).addAnn

/-- (impl.Grid).places, loop -/
def i_Grid_places_l0_p : SPat := ⟨[.undef, .undef, .undef, .ptr ⟨⟨1, 0⟩, 0, 0, 8⟩, .ptr ⟨⟨2, 0⟩, 0, 0, 8⟩, .ptr ⟨⟨3, 0⟩, 0, 0, 8⟩, .undef, .undef, .undef, .int .i64, .int .i64] ++ List.replicate 9 .undef, [[.vals [.int .i64], .ints .u8 8, .ints .u8 8], [.ints .u8 8], [.ints .i64 8], [.ints .i64 8]]⟩
def i_Grid_places_l0_o0 : SPat := ⟨[.undef, .undef, .undef, .undef, .ptr ⟨⟨2, 0⟩, 0, 0, 8⟩, .ptr ⟨⟨3, 0⟩, 0, 0, 8⟩] ++ List.replicate 14 .undef, [[.vals [.int .i64], .ints .u8 8, .ints .u8 8], [.ints .u8 8], [.ints .i64 8], [.ints .i64 8]]⟩
theorem i_Grid_places_l0_round {α : Type} (N : Nat) (t9 : Int) (t10 : Int) (h0_0 : Int) (h0_1 : Nat → Int) (h0_2 : Nat → Int) (h1 : Nat → Int) (h2 : Nat → Int) (h3 : Nat → Int) (kn : St → Option α) (K : AExit → St → Option α) :
    roundK Try.prog (A_i_Grid_places_l0 α N) 1 0 189 Try.f189 3 4 (buildS i_Grid_places_l0_p [.i t9, .i t10, .i h0_0, .f h0_1, .f h0_2, .f h1, .f h2, .f h3]) kn K = i_Grid_places_l0_s none t9 h0_0 h0_1 h0_2 h1 h2 t10 h3 (fun t10 h3 => kn (buildS i_Grid_places_l0_p [.i t9, .i t10, .i h0_0, .f h0_1, .f h0_2, .f h1, .f h2, .f h3])) (fun h3_ => K (.exit 0) (buildS i_Grid_places_l0_o0 [.i h0_0, .f h0_1, .f h0_2, .f h1, .f h2, .f h3_])) := by kernel_rfl
theorem i_Grid_places_l0_loop {α : Type} (N : Nat) (t9 : Int) (h0_0 : Int) (h0_1 : Nat → Int) (h0_2 : Nat → Int) (h1 : Nat → Int) (h2 : Nat → Int) (K : AExit → St → Option α) : ∀ (m : Nat) (t10 : Int) (h3 : Nat → Int),
    loopN (trimSt ((A_i_Grid_places_l0 α N).ann 189 3).head ((A_i_Grid_places_l0 α N).ann 189 3).grow 4) (bodyK Try.prog (A_i_Grid_places_l0 α N) 1 0 189 Try.f189 3) m (buildS i_Grid_places_l0_p [.i t9, .i t10, .i h0_0, .f h0_1, .f h0_2, .f h1, .f h2, .f h3]) (leaveLoop ((A_i_Grid_places_l0 α N).ann 189 3) 4 K) = i_Grid_places_l0 none t9 h0_0 h0_1 h0_2 h1 h2 m t10 h3 (fun h3_ => K (.exit 0) (buildS i_Grid_places_l0_o0 [.i h0_0, .f h0_1, .f h0_2, .f h1, .f h2, .f h3_])) := by
  intro m
  induction m with
  | zero => intros; rfl
  | succ m ih =>
    intro t10 h3
    rw [loopN_round]
    refine (i_Grid_places_l0_round N t9 t10 h0_0 h0_1 h0_2 h1 h2 h3 _ K).trans ?_
    simp only [ih]
    rfl
def E_i_Grid_places_l0 (α : Type) (N : Nat) : Env α := (A_i_Grid_places_l0 α N).addLoop2 189 3 (loopSum2 ((A_i_Grid_places_l0 α N).ann 189 3) 0 i_Grid_places_l0_p (fun l K => match l with
    | [.i t9, .i t10, .i h0_0, .f h0_1, .f h0_2, .f h1, .f h2, .f h3] => i_Grid_places_l0 none t9 h0_0 h0_1 h0_2 h1 h2 N t10 h3 (fun h3_ => K (.exit 0) (buildS i_Grid_places_l0_o0 [.i h0_0, .f h0_1, .f h0_2, .f h1, .f h2, .f h3_]))
    | _ => none) ((A_i_Grid_places_l0 α N).ls 189 3))
theorem E_i_Grid_places_l0_ok {α : Type} (N : Nat) : EnvOk Try.prog (E_i_Grid_places_l0 α N) := (A_i_Grid_places_l0_ok N).addLoop2 Try.func189 (by kernel_rfl) (loopSum_ok prog_mixed prog_names (A_i_Grid_places_l0_ok N) Try.func189 (by kernel_rfl) (d := 1) (ro := 0) fun l K r h => by
  split at h
  · exact (i_Grid_places_l0_loop N _ _ _ _ _ _ K N _ _).trans h
  · cases h)

/-- (impl.Grid).places -/
def i_Grid_places_a : SPat := ⟨[.agg [.vals [.int .i64], .ints .u8 8, .ints .u8 8], .agg [.ints .u8 8]], []⟩
def i_Grid_places_r0 : SPat := ⟨[.agg [.ints .i64 8]], []⟩
theorem i_Grid_places_run {α : Type} (N : Nat) (g_0 : Int) (g_1 : Nat → Int) (g_2 : Nat → Int) (rows : Nat → Int) (K : AV → Heap → Option α) :
    callK Try.prog (E_i_Grid_places_l0 α N) 1 189 0 (buildS i_Grid_places_a [.i g_0, .f g_1, .f g_2, .f rows]).t (buildS i_Grid_places_a [.i g_0, .f g_1, .f g_2, .f rows]).h K = i_Grid_places none N g_0 g_1 g_2 rows (fun r__ => retK (buildS i_Grid_places_r0 [.f r__]) K) := by kernel_rfl
def E_i_Grid_places (α : Type) (N : Nat) : Env α := (E_i_Grid_places_l0 α N).addFun 189 true 0 i_Grid_places_a (fun l K => match l with
    | [.i g_0, .f g_1, .f g_2, .f rows] => i_Grid_places none N g_0 g_1 g_2 rows (fun r__ => retK (buildS i_Grid_places_r0 [.f r__]) K)
    | _ => none)
theorem E_i_Grid_places_ok {α : Type} (N : Nat) : EnvOk Try.prog (E_i_Grid_places α N) := (E_i_Grid_places_l0_ok N).addFun prog_mixed prog_names (d := 1) fun l K r h => by
  split at h
  · exact (i_Grid_places_run N _ _ _ _ K).trans h
  · cases h

def A_i_Grid_component_l0 (α : Type) (N : Nat) : Env α := (E_i_Grid_places α N).addAnn 95 3 { head := [1, 2, 4, 5, 6, 16, 17], grow := [], out := [1, 2, 4, 5], ret := [2, 3] }
theorem A_i_Grid_component_l0_ok {α : Type} (N : Nat) : EnvOk Try.prog (A_i_Grid_component_l0 α N) := (E_i_Grid_places_ok N).addAnn

def A_i_Grid_component_l1 (α : Type) (N : Nat) : Env α := (A_i_Grid_component_l0 α N).addAnn 95 8 { head := [1, 2, 4, 5, 6, 8, 16, 17], grow := [], out := [1, 2, 4, 5, 6, 16, 17], ret := [2, 3] }
theorem A_i_Grid_component_l1_ok {α : Type} (N : Nat) : EnvOk Try.prog (A_i_Grid_component_l1 α N) := (A_i_Grid_component_l0_ok N).addAnn

/-- (impl.Grid).component, loop -/
def i_Grid_component_l1_p : SPat := ⟨[.undef, .ptr ⟨⟨0, 0⟩, 0, 0, 1⟩, .ptr ⟨⟨1, 0⟩, 0, 0, 8⟩, .undef, .ptr ⟨⟨2, 0⟩, 0, 0, 8⟩, .int .i64, .ptr ⟨⟨3, 0⟩, 0, 0, 8⟩, .undef, .int .i64, .undef, .undef, .undef, .undef, .undef, .undef, .undef, .int .i64, .int .i64] ++ List.replicate 36 .undef, [[.vals [.int .i64], .ints .u8 8, .ints .u8 8], [.ints .i64 8], [.ints .i64 8], [.ints .i64 8]]⟩
def i_Grid_component_l1_o0 : SPat := ⟨[.undef, .ptr ⟨⟨0, 0⟩, 0, 0, 1⟩, .ptr ⟨⟨1, 0⟩, 0, 0, 8⟩, .undef, .ptr ⟨⟨2, 0⟩, 0, 0, 8⟩, .int .i64, .ptr ⟨⟨3, 0⟩, 0, 0, 8⟩, .undef, .undef, .undef, .undef, .undef, .undef, .undef, .undef, .undef, .int .i64, .int .i64] ++ List.replicate 36 .undef, [[.vals [.int .i64], .ints .u8 8, .ints .u8 8], [.ints .i64 8], [.ints .i64 8], [.ints .i64 8]]⟩
theorem i_Grid_component_l1_round {α : Type} (N : Nat) (many : Int) (k : Int) (t16 : Int) (t17 : Int) (h0_0 : Int) (h0_1 : Nat → Int) (h0_2 : Nat → Int) (h1 : Nat → Int) (h2 : Nat → Int) (h3 : Nat → Int) (kn : St → Option α) (K : AExit → St → Option α) :
    roundK Try.prog (A_i_Grid_component_l1 α N) 1 0 95 Try.f95 8 4 (buildS i_Grid_component_l1_p [.i many, .i k, .i t16, .i t17, .i h0_0, .f h0_1, .f h0_2, .f h1, .f h2, .f h3]) kn K = i_Grid_component_l1_s none many t16 t17 h0_0 h0_1 h0_2 h1 h3 k h2 (fun k h2 => kn (buildS i_Grid_component_l1_p [.i many, .i k, .i t16, .i t17, .i h0_0, .f h0_1, .f h0_2, .f h1, .f h2, .f h3])) (fun h2_ => K (.exit 2) (buildS i_Grid_component_l1_o0 [.i many, .i t16, .i t17, .i h0_0, .f h0_1, .f h0_2, .f h1, .f h2_, .f h3])) := by kernel_rfl
theorem i_Grid_component_l1_loop {α : Type} (N : Nat) (many : Int) (t16 : Int) (t17 : Int) (h0_0 : Int) (h0_1 : Nat → Int) (h0_2 : Nat → Int) (h1 : Nat → Int) (h3 : Nat → Int) (K : AExit → St → Option α) : ∀ (m : Nat) (k : Int) (h2 : Nat → Int),
    loopN (trimSt ((A_i_Grid_component_l1 α N).ann 95 8).head ((A_i_Grid_component_l1 α N).ann 95 8).grow 4) (bodyK Try.prog (A_i_Grid_component_l1 α N) 1 0 95 Try.f95 8) m (buildS i_Grid_component_l1_p [.i many, .i k, .i t16, .i t17, .i h0_0, .f h0_1, .f h0_2, .f h1, .f h2, .f h3]) (leaveLoop ((A_i_Grid_component_l1 α N).ann 95 8) 4 K) = i_Grid_component_l1 none many t16 t17 h0_0 h0_1 h0_2 h1 h3 m k h2 (fun h2_ => K (.exit 2) (buildS i_Grid_component_l1_o0 [.i many, .i t16, .i t17, .i h0_0, .f h0_1, .f h0_2, .f h1, .f h2_, .f h3])) := by
  intro m
  induction m with
  | zero => intros; rfl
  | succ m ih =>
    intro k h2
    rw [loopN_round]
    refine (i_Grid_component_l1_round N many k t16 t17 h0_0 h0_1 h0_2 h1 h2 h3 _ K).trans ?_
    simp only [ih]
    rfl
def E_i_Grid_component_l1 (α : Type) (N : Nat) : Env α := (A_i_Grid_component_l1 α N).addLoop2 95 8 (loopSum2 ((A_i_Grid_component_l1 α N).ann 95 8) 0 i_Grid_component_l1_p (fun l K => match l with
    | [.i many, .i k, .i t16, .i t17, .i h0_0, .f h0_1, .f h0_2, .f h1, .f h2, .f h3] => i_Grid_component_l1 none many t16 t17 h0_0 h0_1 h0_2 h1 h3 N k h2 (fun h2_ => K (.exit 2) (buildS i_Grid_component_l1_o0 [.i many, .i t16, .i t17, .i h0_0, .f h0_1, .f h0_2, .f h1, .f h2_, .f h3]))
    | _ => none) ((A_i_Grid_component_l1 α N).ls 95 8))
theorem E_i_Grid_component_l1_ok {α : Type} (N : Nat) : EnvOk Try.prog (E_i_Grid_component_l1 α N) := (A_i_Grid_component_l1_ok N).addLoop2 Try.func95 (by kernel_rfl) (loopSum_ok prog_mixed prog_names (A_i_Grid_component_l1_ok N) Try.func95 (by kernel_rfl) (d := 1) (ro := 0) fun l K r h => by
  split at h
  · exact (i_Grid_component_l1_loop N _ _ _ _ _ _ _ _ K N _ _).trans h
  · cases h)

/-- (impl.Grid).component, loop -/
def i_Grid_component_l0_p : SPat := ⟨[.undef, .ptr ⟨⟨0, 0⟩, 0, 0, 1⟩, .ptr ⟨⟨1, 0⟩, 0, 0, 8⟩, .undef, .ptr ⟨⟨2, 0⟩, 0, 0, 8⟩, .int .i64, .ptr ⟨⟨3, 0⟩, 0, 0, 8⟩, .undef, .undef, .undef, .undef, .undef, .undef, .undef, .undef, .undef, .int .i64, .int .i64] ++ List.replicate 36 .undef, [[.vals [.int .i64], .ints .u8 8, .ints .u8 8], [.ints .i64 8], [.ints .i64 8], [.ints .i64 8]]⟩
def i_Grid_component_l0_o0 : SPat := ⟨[.undef, .ptr ⟨⟨0, 0⟩, 0, 0, 1⟩, .ptr ⟨⟨1, 0⟩, 0, 0, 8⟩, .undef, .ptr ⟨⟨2, 0⟩, 0, 0, 8⟩, .int .i64] ++ List.replicate 48 .undef, [[.vals [.int .i64], .ints .u8 8, .ints .u8 8], [.ints .i64 8], [.ints .i64 8], [.ints .i64 8]]⟩
theorem i_Grid_component_l0_round {α : Type} (N : Nat) (many : Int) (t16 : Int) (t17 : Int) (h0_0 : Int) (h0_1 : Nat → Int) (h0_2 : Nat → Int) (h1 : Nat → Int) (h2 : Nat → Int) (h3 : Nat → Int) (kn : St → Option α) (K : AExit → St → Option α) :
    roundK Try.prog (E_i_Grid_component_l1 α N) 1 0 95 Try.f95 3 4 (buildS i_Grid_component_l0_p [.i many, .i t16, .i t17, .i h0_0, .f h0_1, .f h0_2, .f h1, .f h2, .f h3]) kn K = i_Grid_component_l0_s none N t16 h0_0 h0_1 h0_2 h1 h3 many t17 h2 (fun many t17 h2 => kn (buildS i_Grid_component_l0_p [.i many, .i t16, .i t17, .i h0_0, .f h0_1, .f h0_2, .f h1, .f h2, .f h3])) (fun many_ h2_ => K (.exit 0) (buildS i_Grid_component_l0_o0 [.i many_, .i h0_0, .f h0_1, .f h0_2, .f h1, .f h2_, .f h3])) := by kernel_rfl
theorem i_Grid_component_l0_loop {α : Type} (N : Nat) (t16 : Int) (h0_0 : Int) (h0_1 : Nat → Int) (h0_2 : Nat → Int) (h1 : Nat → Int) (h3 : Nat → Int) (K : AExit → St → Option α) : ∀ (m : Nat) (many : Int) (t17 : Int) (h2 : Nat → Int),
    loopN (trimSt ((E_i_Grid_component_l1 α N).ann 95 3).head ((E_i_Grid_component_l1 α N).ann 95 3).grow 4) (bodyK Try.prog (E_i_Grid_component_l1 α N) 1 0 95 Try.f95 3) m (buildS i_Grid_component_l0_p [.i many, .i t16, .i t17, .i h0_0, .f h0_1, .f h0_2, .f h1, .f h2, .f h3]) (leaveLoop ((E_i_Grid_component_l1 α N).ann 95 3) 4 K) = i_Grid_component_l0 none N t16 h0_0 h0_1 h0_2 h1 h3 m many t17 h2 (fun many_ h2_ => K (.exit 0) (buildS i_Grid_component_l0_o0 [.i many_, .i h0_0, .f h0_1, .f h0_2, .f h1, .f h2_, .f h3])) := by
  intro m
  induction m with
  | zero => intros; rfl
  | succ m ih =>
    intro many t17 h2
    rw [loopN_round]
    refine (i_Grid_component_l0_round N many t16 t17 h0_0 h0_1 h0_2 h1 h2 h3 _ K).trans ?_
    simp only [ih]
    rfl
def E_i_Grid_component_l0 (α : Type) (N : Nat) : Env α := (E_i_Grid_component_l1 α N).addLoop2 95 3 (loopSum2 ((E_i_Grid_component_l1 α N).ann 95 3) 0 i_Grid_component_l0_p (fun l K => match l with
    | [.i many, .i t16, .i t17, .i h0_0, .f h0_1, .f h0_2, .f h1, .f h2, .f h3] => i_Grid_component_l0 none N t16 h0_0 h0_1 h0_2 h1 h3 N many t17 h2 (fun many_ h2_ => K (.exit 0) (buildS i_Grid_component_l0_o0 [.i many_, .i h0_0, .f h0_1, .f h0_2, .f h1, .f h2_, .f h3]))
    | _ => none) ((E_i_Grid_component_l1 α N).ls 95 3))
theorem E_i_Grid_component_l0_ok {α : Type} (N : Nat) : EnvOk Try.prog (E_i_Grid_component_l0 α N) := (E_i_Grid_component_l1_ok N).addLoop2 Try.func95 (by kernel_rfl) (loopSum_ok prog_mixed prog_names (E_i_Grid_component_l1_ok N) Try.func95 (by kernel_rfl) (d := 1) (ro := 0) fun l K r h => by
  split at h
  · exact (i_Grid_component_l0_loop N _ _ _ _ _ _ K N _ _ _).trans h
  · cases h)

def A_i_Grid_component_l2 (α : Type) (N : Nat) : Env α := (E_i_Grid_component_l0 α N).addAnn 95 13 { head := [2, 4, 5, 42, 43], grow := [], out := [2, 4, 5], ret := [2, 3] }
theorem A_i_Grid_component_l2_ok {α : Type} (N : Nat) : EnvOk Try.prog (A_i_Grid_component_l2 α N) := (E_i_Grid_component_l0_ok N).addAnn

/-- (impl.Grid).component, loop -/
def i_Grid_component_l2_p : SPat := ⟨[.undef, .undef, .ptr ⟨⟨1, 0⟩, 0, 0, 8⟩, .undef, .ptr ⟨⟨2, 0⟩, 0, 0, 8⟩, .int .i64, .undef, .undef, .undef, .undef, .undef, .undef, .undef, .undef, .undef, .undef, .undef, .undef, .undef, .undef, .undef, .undef, .undef, .undef, .undef, .undef, .undef, .undef, .undef, .undef, .undef, .undef, .undef, .undef, .undef, .undef, .undef, .undef, .undef, .undef, .undef, .undef, .int .i64, .int .i64] ++ List.replicate 10 .undef, [[.vals [.int .i64], .ints .u8 8, .ints .u8 8], [.ints .i64 8], [.ints .i64 8], [.ints .i64 8]]⟩
def i_Grid_component_l2_o0 : SPat := ⟨[.undef, .undef, .ptr ⟨⟨1, 0⟩, 0, 0, 8⟩, .undef, .ptr ⟨⟨2, 0⟩, 0, 0, 8⟩, .int .i64] ++ List.replicate 48 .undef, [[.vals [.int .i64], .ints .u8 8, .ints .u8 8], [.ints .i64 8], [.ints .i64 8], [.ints .i64 8]]⟩
theorem i_Grid_component_l2_round {α : Type} (N : Nat) (many : Int) (t42 : Int) (t43 : Int) (h0_0 : Int) (h0_1 : Nat → Int) (h0_2 : Nat → Int) (h1 : Nat → Int) (h2 : Nat → Int) (h3 : Nat → Int) (kn : St → Option α) (K : AExit → St → Option α) :
    roundK Try.prog (A_i_Grid_component_l2 α N) 1 0 95 Try.f95 13 4 (buildS i_Grid_component_l2_p [.i many, .i t42, .i t43, .i h0_0, .f h0_1, .f h0_2, .f h1, .f h2, .f h3]) kn K = i_Grid_component_l2_s none many t42 h0_0 h0_1 h0_2 h1 h3 t43 h2 (fun t43 h2 => kn (buildS i_Grid_component_l2_p [.i many, .i t42, .i t43, .i h0_0, .f h0_1, .f h0_2, .f h1, .f h2, .f h3])) (fun h2_ => K (.exit 4) (buildS i_Grid_component_l2_o0 [.i many, .i h0_0, .f h0_1, .f h0_2, .f h1, .f h2_, .f h3])) := by kernel_rfl
theorem i_Grid_component_l2_loop {α : Type} (N : Nat) (many : Int) (t42 : Int) (h0_0 : Int) (h0_1 : Nat → Int) (h0_2 : Nat → Int) (h1 : Nat → Int) (h3 : Nat → Int) (K : AExit → St → Option α) : ∀ (m : Nat) (t43 : Int) (h2 : Nat → Int),
    loopN (trimSt ((A_i_Grid_component_l2 α N).ann 95 13).head ((A_i_Grid_component_l2 α N).ann 95 13).grow 4) (bodyK Try.prog (A_i_Grid_component_l2 α N) 1 0 95 Try.f95 13) m (buildS i_Grid_component_l2_p [.i many, .i t42, .i t43, .i h0_0, .f h0_1, .f h0_2, .f h1, .f h2, .f h3]) (leaveLoop ((A_i_Grid_component_l2 α N).ann 95 13) 4 K) = i_Grid_component_l2 none many t42 h0_0 h0_1 h0_2 h1 h3 m t43 h2 (fun h2_ => K (.exit 4) (buildS i_Grid_component_l2_o0 [.i many, .i h0_0, .f h0_1, .f h0_2, .f h1, .f h2_, .f h3])) := by
  intro m
  induction m with
  | zero => intros; rfl
  | succ m ih =>
    intro t43 h2
    rw [loopN_round]
    refine (i_Grid_component_l2_round N many t42 t43 h0_0 h0_1 h0_2 h1 h2 h3 _ K).trans ?_
    simp only [ih]
    rfl
def E_i_Grid_component_l2 (α : Type) (N : Nat) : Env α := (A_i_Grid_component_l2 α N).addLoop2 95 13 (loopSum2 ((A_i_Grid_component_l2 α N).ann 95 13) 0 i_Grid_component_l2_p (fun l K => match l with
    | [.i many, .i t42, .i t43, .i h0_0, .f h0_1, .f h0_2, .f h1, .f h2, .f h3] => i_Grid_component_l2 none many t42 h0_0 h0_1 h0_2 h1 h3 N t43 h2 (fun h2_ => K (.exit 4) (buildS i_Grid_component_l2_o0 [.i many, .i h0_0, .f h0_1, .f h0_2, .f h1, .f h2_, .f h3]))
    | _ => none) ((A_i_Grid_component_l2 α N).ls 95 13))
theorem E_i_Grid_component_l2_ok {α : Type} (N : Nat) : EnvOk Try.prog (E_i_Grid_component_l2 α N) := (A_i_Grid_component_l2_ok N).addLoop2 Try.func95 (by kernel_rfl) (loopSum_ok prog_mixed prog_names (A_i_Grid_component_l2_ok N) Try.func95 (by kernel_rfl) (d := 1) (ro := 0) fun l K r h => by
  split at h
  · exact (i_Grid_component_l2_loop N _ _ _ _ _ _ _ K N _ _).trans h
  · cases h)

/-- (impl.Grid).component -/
def i_Grid_component_a : SPat := ⟨[.agg [.vals [.int .i64], .ints .u8 8, .ints .u8 8]], []⟩
def i_Grid_component_r0 : SPat := ⟨[.tuple [.agg [.ints .i64 8], .int .i64]], []⟩
theorem i_Grid_component_run {α : Type} (N : Nat) (g_0 : Int) (g_1 : Nat → Int) (g_2 : Nat → Int) (K : AV → Heap → Option α) :
    callK Try.prog (E_i_Grid_component_l2 α N) 1 95 0 (buildS i_Grid_component_a [.i g_0, .f g_1, .f g_2]).t (buildS i_Grid_component_a [.i g_0, .f g_1, .f g_2]).h K = i_Grid_component none N g_0 g_1 g_2 (fun r_0_ r_1_ => retK (buildS i_Grid_component_r0 [.f r_0_, .i r_1_]) K) := by kernel_rfl
def E_i_Grid_component (α : Type) (N : Nat) : Env α := (E_i_Grid_component_l2 α N).addFun 95 true 0 i_Grid_component_a (fun l K => match l with
    | [.i g_0, .f g_1, .f g_2] => i_Grid_component none N g_0 g_1 g_2 (fun r_0_ r_1_ => retK (buildS i_Grid_component_r0 [.f r_0_, .i r_1_]) K)
    | _ => none)
theorem E_i_Grid_component_ok {α : Type} (N : Nat) : EnvOk Try.prog (E_i_Grid_component α N) := (E_i_Grid_component_l2_ok N).addFun prog_mixed prog_names (d := 1) fun l K r h => by
  split at h
  · exact (i_Grid_component_run N _ _ _ K).trans h
  · cases h

def A_i_Grid_corners_l0 (α : Type) (N : Nat) : Env α := (E_i_Grid_component α N).addAnn 96 3 { head := [1, 3, 4, 5, 19, 20], grow := [5], out := [5], ret := [2] }
theorem A_i_Grid_corners_l0_ok {α : Type} (N : Nat) : EnvOk Try.prog (A_i_Grid_corners_l0 α N) := (E_i_Grid_component_ok N).addAnn

/-- impl.kind -/
def i_kind_a : SPat := ⟨[.int .i64, .int .i64, .int .i64, .int .i64], []⟩
def i_kind_r0 : SPat := ⟨[.int .i64], []⟩
theorem i_kind_run {α : Type} (N : Nat) (column : Int) (row : Int) (otherRow : Int) (otherColumn : Int) (K : AV → Heap → Option α) :
    callK Try.prog (A_i_Grid_corners_l0 α N) 1 190 0 (buildS i_kind_a [.i column, .i row, .i otherRow, .i otherColumn]).t (buildS i_kind_a [.i column, .i row, .i otherRow, .i otherColumn]).h K = i_kind none N column row otherRow otherColumn (fun r__ => retK (buildS i_kind_r0 [.i r__]) K) := by kernel_rfl
def E_i_kind (α : Type) (N : Nat) : Env α := (A_i_Grid_corners_l0 α N).addFun 190 true 0 i_kind_a (fun l K => match l with
    | [.i column, .i row, .i otherRow, .i otherColumn] => i_kind none N column row otherRow otherColumn (fun r__ => retK (buildS i_kind_r0 [.i r__]) K)
    | _ => none)
theorem E_i_kind_ok {α : Type} (N : Nat) : EnvOk Try.prog (E_i_kind α N) := (A_i_Grid_corners_l0_ok N).addFun prog_mixed prog_names (d := 1) fun l K r h => by
  split at h
  · exact (i_kind_run N _ _ _ _ K).trans h
  · cases h

/-- (impl.Grid).corners, loop -/
def i_Grid_corners_l0_p : SPat := ⟨[.undef, .ptr ⟨⟨0, 0⟩, 0, 0, 1⟩, .undef, .ptr ⟨⟨2, 0⟩, 0, 0, 8⟩, .ptr ⟨⟨3, 0⟩, 0, 0, 8⟩, .sliceV 1 0 0 4 false, .undef, .undef, .undef, .undef, .undef, .undef, .undef, .undef, .undef, .undef, .undef, .undef, .undef, .int .i64, .int .i64] ++ List.replicate 40 .undef, [[.vals [.int .i64], .ints .u8 8, .ints .u8 8], [.recs [some IntKind.i64, some IntKind.i64, some IntKind.i64, none]], [.ints .i64 8], [.ints .i64 8]]⟩
def i_Grid_corners_l0_o0 : SPat := ⟨[.undef, .undef, .undef, .undef, .undef, .sliceV 1 0 0 4 false] ++ List.replicate 55 .undef, [[.vals [.int .i64], .ints .u8 8, .ints .u8 8], [.recs [some IntKind.i64, some IntKind.i64, some IntKind.i64, none]], [.ints .i64 8], [.ints .i64 8]]⟩
theorem i_Grid_corners_l0_round {α : Type} (N : Nat) (out_n : Nat) (out_l : Nat) (out_c : Nat) (t19 : Int) (t20 : Int) (h0_0 : Int) (h0_1 : Nat → Int) (h0_2 : Nat → Int) (h1 : List Int) (h2 : Nat → Int) (h3 : Nat → Int) (kn : St → Option α) (K : AExit → St → Option α) :
    roundK Try.prog (E_i_kind α N) 1 0 96 Try.f96 3 4 (buildS i_Grid_corners_l0_p [.n out_n, .n out_l, .n out_c, .i t19, .i t20, .i h0_0, .f h0_1, .f h0_2, .l h1, .f h2, .f h3]) kn K = i_Grid_corners_l0_s none N t19 h0_0 h0_1 h0_2 h2 h3 out_n out_l out_c t20 h1 (fun out_n out_l out_c t20 h1 => kn (buildS i_Grid_corners_l0_p [.n out_n, .n out_l, .n out_c, .i t19, .i t20, .i h0_0, .f h0_1, .f h0_2, .l h1, .f h2, .f h3])) (fun out_n_ out_l_ out_c_ h1_ => K (.exit 0) (buildS i_Grid_corners_l0_o0 [.n out_n_, .n out_l_, .n out_c_, .i h0_0, .f h0_1, .f h0_2, .l h1_, .f h2, .f h3])) := by kernel_rfl
theorem i_Grid_corners_l0_loop {α : Type} (N : Nat) (t19 : Int) (h0_0 : Int) (h0_1 : Nat → Int) (h0_2 : Nat → Int) (h2 : Nat → Int) (h3 : Nat → Int) (K : AExit → St → Option α) : ∀ (m : Nat) (out_n : Nat) (out_l : Nat) (out_c : Nat) (t20 : Int) (h1 : List Int),
    loopN (trimSt ((E_i_kind α N).ann 96 3).head ((E_i_kind α N).ann 96 3).grow 4) (bodyK Try.prog (E_i_kind α N) 1 0 96 Try.f96 3) m (buildS i_Grid_corners_l0_p [.n out_n, .n out_l, .n out_c, .i t19, .i t20, .i h0_0, .f h0_1, .f h0_2, .l h1, .f h2, .f h3]) (leaveLoop ((E_i_kind α N).ann 96 3) 4 K) = i_Grid_corners_l0 none N t19 h0_0 h0_1 h0_2 h2 h3 m out_n out_l out_c t20 h1 (fun out_n_ out_l_ out_c_ h1_ => K (.exit 0) (buildS i_Grid_corners_l0_o0 [.n out_n_, .n out_l_, .n out_c_, .i h0_0, .f h0_1, .f h0_2, .l h1_, .f h2, .f h3])) := by
  intro m
  induction m with
  | zero => intros; rfl
  | succ m ih =>
    intro out_n out_l out_c t20 h1
    rw [loopN_round]
    refine (i_Grid_corners_l0_round N out_n out_l out_c t19 t20 h0_0 h0_1 h0_2 h1 h2 h3 _ K).trans ?_
    simp only [ih]
    rfl
def E_i_Grid_corners_l0 (α : Type) (N : Nat) : Env α := (E_i_kind α N).addLoop2 96 3 (loopSum2 ((E_i_kind α N).ann 96 3) 0 i_Grid_corners_l0_p (fun l K => match l with
    | [.n out_n, .n out_l, .n out_c, .i t19, .i t20, .i h0_0, .f h0_1, .f h0_2, .l h1, .f h2, .f h3] => i_Grid_corners_l0 none N t19 h0_0 h0_1 h0_2 h2 h3 N out_n out_l out_c t20 h1 (fun out_n_ out_l_ out_c_ h1_ => K (.exit 0) (buildS i_Grid_corners_l0_o0 [.n out_n_, .n out_l_, .n out_c_, .i h0_0, .f h0_1, .f h0_2, .l h1_, .f h2, .f h3]))
    | _ => none) ((E_i_kind α N).ls 96 3))
theorem E_i_Grid_corners_l0_ok {α : Type} (N : Nat) : EnvOk Try.prog (E_i_Grid_corners_l0 α N) := (E_i_kind_ok N).addLoop2 Try.func96 (by kernel_rfl) (loopSum_ok prog_mixed prog_names (E_i_kind_ok N) Try.func96 (by kernel_rfl) (d := 1) (ro := 0) fun l K r h => by
  split at h
  · exact (i_Grid_corners_l0_loop N _ _ _ _ _ _ K N _ _ _ _ _).trans h
  · cases h)

/-- (impl.Grid).corners -/
def i_Grid_corners_a : SPat := ⟨[.agg [.vals [.int .i64], .ints .u8 8, .ints .u8 8]], []⟩
def i_Grid_corners_r0 : SPat := ⟨[.sliceV 0 0 0 4 false], [[.recs [some IntKind.i64, some IntKind.i64, some IntKind.i64, none]]]⟩
theorem i_Grid_corners_run {α : Type} (N : Nat) (g_0 : Int) (g_1 : Nat → Int) (g_2 : Nat → Int) (K : AV → Heap → Option α) :
    callK Try.prog (E_i_Grid_corners_l0 α N) 1 96 0 (buildS i_Grid_corners_a [.i g_0, .f g_1, .f g_2]).t (buildS i_Grid_corners_a [.i g_0, .f g_1, .f g_2]).h K = i_Grid_corners none N g_0 g_1 g_2 (fun r_n_ r_l_ r_c_ h0_ => retK (buildS i_Grid_corners_r0 [.n r_n_, .n r_l_, .n r_c_, .l h0_]) K) := by kernel_rfl
def E_i_Grid_corners (α : Type) (N : Nat) : Env α := (E_i_Grid_corners_l0 α N).addFun 96 true 0 i_Grid_corners_a (fun l K => match l with
    | [.i g_0, .f g_1, .f g_2] => i_Grid_corners none N g_0 g_1 g_2 (fun r_n_ r_l_ r_c_ h0_ => retK (buildS i_Grid_corners_r0 [.n r_n_, .n r_l_, .n r_c_, .l h0_]) K)
    | _ => none)
theorem E_i_Grid_corners_ok {α : Type} (N : Nat) : EnvOk Try.prog (E_i_Grid_corners α N) := (E_i_Grid_corners_l0_ok N).addFun prog_mixed prog_names (d := 1) fun l K r h => by
  split at h
  · exact (i_Grid_corners_run N _ _ _ K).trans h
  · cases h

/-- (impl.Corner).isCusp -/
def i_Corner_isCusp_a : SPat := ⟨[.agg [.vals [.int .i64, .int .i64, .int .i64, .bool]]], []⟩
def i_Corner_isCusp_r0 : SPat := ⟨[.bool], []⟩
theorem i_Corner_isCusp_run {α : Type} (N : Nat) (c_0 : Int) (c_1 : Int) (c_2 : Int) (c_3 : Bool) (K : AV → Heap → Option α) :
    callK Try.prog (E_i_Grid_corners α N) 1 191 0 (buildS i_Corner_isCusp_a [.i c_0, .i c_1, .i c_2, .b c_3]).t (buildS i_Corner_isCusp_a [.i c_0, .i c_1, .i c_2, .b c_3]).h K = i_Corner_isCusp none N c_0 c_1 c_2 c_3 (fun r__ => retK (buildS i_Corner_isCusp_r0 [.b r__]) K) := by kernel_rfl
def E_i_Corner_isCusp (α : Type) (N : Nat) : Env α := (E_i_Grid_corners α N).addFun 191 true 0 i_Corner_isCusp_a (fun l K => match l with
    | [.i c_0, .i c_1, .i c_2, .b c_3] => i_Corner_isCusp none N c_0 c_1 c_2 c_3 (fun r__ => retK (buildS i_Corner_isCusp_r0 [.b r__]) K)
    | _ => none)
theorem E_i_Corner_isCusp_ok {α : Type} (N : Nat) : EnvOk Try.prog (E_i_Corner_isCusp α N) := (E_i_Grid_corners_ok N).addFun prog_mixed prog_names (d := 1) fun l K r h => by
  split at h
  · exact (i_Corner_isCusp_run N _ _ _ _ K).trans h
  · cases h

/-- (impl.Corner).letter -/
def i_Corner_letter_a : SPat := ⟨[.agg [.vals [.int .i64, .int .i64, .int .i64, .bool]]], []⟩
def i_Corner_letter_r0 : SPat := ⟨[.str], []⟩
theorem i_Corner_letter_run {α : Type} (N : Nat) (c_0 : Int) (c_1 : Int) (c_2 : Int) (c_3 : Bool) (K : AV → Heap → Option α) :
    callK Try.prog (E_i_Corner_isCusp α N) 1 169 0 (buildS i_Corner_letter_a [.i c_0, .i c_1, .i c_2, .b c_3]).t (buildS i_Corner_letter_a [.i c_0, .i c_1, .i c_2, .b c_3]).h K = i_Corner_letter none N c_0 c_1 c_2 c_3 (fun r__ => retK (buildS i_Corner_letter_r0 [.s r__]) K) := by kernel_rfl
def E_i_Corner_letter (α : Type) (N : Nat) : Env α := (E_i_Corner_isCusp α N).addFun 169 true 0 i_Corner_letter_a (fun l K => match l with
    | [.i c_0, .i c_1, .i c_2, .b c_3] => i_Corner_letter none N c_0 c_1 c_2 c_3 (fun r__ => retK (buildS i_Corner_letter_r0 [.s r__]) K)
    | _ => none)
theorem E_i_Corner_letter_ok {α : Type} (N : Nat) : EnvOk Try.prog (E_i_Corner_letter α N) := (E_i_Corner_isCusp_ok N).addFun prog_mixed prog_names (d := 1) fun l K r h => by
  split at h
  · exact (i_Corner_letter_run N _ _ _ _ K).trans h
  · cases h

def A_i_Grid_crossings_l0 (α : Type) (N : Nat) : Env α := (E_i_Corner_letter α N).addAnn 154 3 { head := [1, 3, 4, 5, 21, 22], grow := [5], out := [5], ret := [2] }
theorem A_i_Grid_crossings_l0_ok {α : Type} (N : Nat) : EnvOk Try.prog (A_i_Grid_crossings_l0 α N) := (E_i_Corner_letter_ok N).addAnn

def A_i_Grid_crossings_l1 (α : Type) (N : Nat) : Env α := (A_i_Grid_crossings_l0 α N).addAnn 154 6 { head := [1, 3, 4, 5, 6, 21, 22, 26, 27], grow := [5], out := [1, 3, 4, 5, 21, 22], ret := [2] }
theorem A_i_Grid_crossings_l1_ok {α : Type} (N : Nat) : EnvOk Try.prog (A_i_Grid_crossings_l1 α N) := (A_i_Grid_crossings_l0_ok N).addAnn

/-- impl.isBetween -/
def i_isBetween_a : SPat := ⟨[.int .i64, .int .i64, .int .i64], []⟩
def i_isBetween_r0 : SPat := ⟨[.bool], []⟩
theorem i_isBetween_run {α : Type} (N : Nat) (x : Int) (a : Int) (b : Int) (K : AV → Heap → Option α) :
    callK Try.prog (A_i_Grid_crossings_l1 α N) 1 204 0 (buildS i_isBetween_a [.i x, .i a, .i b]).t (buildS i_isBetween_a [.i x, .i a, .i b]).h K = i_isBetween none N x a b (fun r__ => retK (buildS i_isBetween_r0 [.b r__]) K) := by kernel_rfl
def E_i_isBetween (α : Type) (N : Nat) : Env α := (A_i_Grid_crossings_l1 α N).addFun 204 true 0 i_isBetween_a (fun l K => match l with
    | [.i x, .i a, .i b] => i_isBetween none N x a b (fun r__ => retK (buildS i_isBetween_r0 [.b r__]) K)
    | _ => none)
theorem E_i_isBetween_ok {α : Type} (N : Nat) : EnvOk Try.prog (E_i_isBetween α N) := (A_i_Grid_crossings_l1_ok N).addFun prog_mixed prog_names (d := 1) fun l K r h => by
  split at h
  · exact (i_isBetween_run N _ _ _ K).trans h
  · cases h

/-- (impl.Grid).crossings, loop -/
def i_Grid_crossings_l1_p : SPat := ⟨[.undef, .ptr ⟨⟨0, 0⟩, 0, 0, 1⟩, .undef, .ptr ⟨⟨2, 0⟩, 0, 0, 8⟩, .ptr ⟨⟨3, 0⟩, 0, 0, 8⟩, .sliceV 1 0 0 3 false, .int .i64, .undef, .undef, .undef, .undef, .undef, .undef, .undef, .undef, .undef, .undef, .undef, .undef, .undef, .undef, .int .i64, .int .i64, .undef, .undef, .undef, .int .i64, .int .i64] ++ List.replicate 55 .undef, [[.vals [.int .i64], .ints .u8 8, .ints .u8 8], [.vec .i64], [.ints .i64 8], [.ints .i64 8]]⟩
def i_Grid_crossings_l1_o0 : SPat := ⟨[.undef, .ptr ⟨⟨0, 0⟩, 0, 0, 1⟩, .undef, .ptr ⟨⟨2, 0⟩, 0, 0, 8⟩, .ptr ⟨⟨3, 0⟩, 0, 0, 8⟩, .sliceV 1 0 0 3 false, .undef, .undef, .undef, .undef, .undef, .undef, .undef, .undef, .undef, .undef, .undef, .undef, .undef, .undef, .undef, .int .i64, .int .i64] ++ List.replicate 60 .undef, [[.vals [.int .i64], .ints .u8 8, .ints .u8 8], [.vec .i64], [.ints .i64 8], [.ints .i64 8]]⟩
theorem i_Grid_crossings_l1_round {α : Type} (N : Nat) (t5_n : Nat) (t5_l : Nat) (t5_c : Nat) (t6 : Int) (t21 : Int) (t22 : Int) (t26 : Int) (t27 : Int) (h0_0 : Int) (h0_1 : Nat → Int) (h0_2 : Nat → Int) (h1 : List Int) (h2 : Nat → Int) (h3 : Nat → Int) (kn : St → Option α) (K : AExit → St → Option α) :
    roundK Try.prog (E_i_isBetween α N) 1 0 154 Try.f154 6 4 (buildS i_Grid_crossings_l1_p [.n t5_n, .n t5_l, .n t5_c, .i t6, .i t21, .i t22, .i t26, .i t27, .i h0_0, .f h0_1, .f h0_2, .l h1, .f h2, .f h3]) kn K = i_Grid_crossings_l1_s none N t6 t21 t22 t26 h0_0 h0_1 h0_2 h2 h3 t5_n t5_l t5_c t27 h1 (fun t5_n t5_l t5_c t27 h1 => kn (buildS i_Grid_crossings_l1_p [.n t5_n, .n t5_l, .n t5_c, .i t6, .i t21, .i t22, .i t26, .i t27, .i h0_0, .f h0_1, .f h0_2, .l h1, .f h2, .f h3])) (fun t5_n_ t5_l_ t5_c_ h1_ => K (.exit 2) (buildS i_Grid_crossings_l1_o0 [.n t5_n_, .n t5_l_, .n t5_c_, .i t21, .i t22, .i h0_0, .f h0_1, .f h0_2, .l h1_, .f h2, .f h3])) := by kernel_rfl
theorem i_Grid_crossings_l1_loop {α : Type} (N : Nat) (t6 : Int) (t21 : Int) (t22 : Int) (t26 : Int) (h0_0 : Int) (h0_1 : Nat → Int) (h0_2 : Nat → Int) (h2 : Nat → Int) (h3 : Nat → Int) (K : AExit → St → Option α) : ∀ (m : Nat) (t5_n : Nat) (t5_l : Nat) (t5_c : Nat) (t27 : Int) (h1 : List Int),
    loopN (trimSt ((E_i_isBetween α N).ann 154 6).head ((E_i_isBetween α N).ann 154 6).grow 4) (bodyK Try.prog (E_i_isBetween α N) 1 0 154 Try.f154 6) m (buildS i_Grid_crossings_l1_p [.n t5_n, .n t5_l, .n t5_c, .i t6, .i t21, .i t22, .i t26, .i t27, .i h0_0, .f h0_1, .f h0_2, .l h1, .f h2, .f h3]) (leaveLoop ((E_i_isBetween α N).ann 154 6) 4 K) = i_Grid_crossings_l1 none N t6 t21 t22 t26 h0_0 h0_1 h0_2 h2 h3 m t5_n t5_l t5_c t27 h1 (fun t5_n_ t5_l_ t5_c_ h1_ => K (.exit 2) (buildS i_Grid_crossings_l1_o0 [.n t5_n_, .n t5_l_, .n t5_c_, .i t21, .i t22, .i h0_0, .f h0_1, .f h0_2, .l h1_, .f h2, .f h3])) := by
  intro m
  induction m with
  | zero => intros; rfl
  | succ m ih =>
    intro t5_n t5_l t5_c t27 h1
    rw [loopN_round]
    refine (i_Grid_crossings_l1_round N t5_n t5_l t5_c t6 t21 t22 t26 t27 h0_0 h0_1 h0_2 h1 h2 h3 _ K).trans ?_
    simp only [ih]
    rfl
def E_i_Grid_crossings_l1 (α : Type) (N : Nat) : Env α := (E_i_isBetween α N).addLoop2 154 6 (loopSum2 ((E_i_isBetween α N).ann 154 6) 0 i_Grid_crossings_l1_p (fun l K => match l with
    | [.n t5_n, .n t5_l, .n t5_c, .i t6, .i t21, .i t22, .i t26, .i t27, .i h0_0, .f h0_1, .f h0_2, .l h1, .f h2, .f h3] => i_Grid_crossings_l1 none N t6 t21 t22 t26 h0_0 h0_1 h0_2 h2 h3 N t5_n t5_l t5_c t27 h1 (fun t5_n_ t5_l_ t5_c_ h1_ => K (.exit 2) (buildS i_Grid_crossings_l1_o0 [.n t5_n_, .n t5_l_, .n t5_c_, .i t21, .i t22, .i h0_0, .f h0_1, .f h0_2, .l h1_, .f h2, .f h3]))
    | _ => none) ((E_i_isBetween α N).ls 154 6))
theorem E_i_Grid_crossings_l1_ok {α : Type} (N : Nat) : EnvOk Try.prog (E_i_Grid_crossings_l1 α N) := (E_i_isBetween_ok N).addLoop2 Try.func154 (by kernel_rfl) (loopSum_ok prog_mixed prog_names (E_i_isBetween_ok N) Try.func154 (by kernel_rfl) (d := 1) (ro := 0) fun l K r h => by
  split at h
  · exact (i_Grid_crossings_l1_loop N _ _ _ _ _ _ _ _ _ K N _ _ _ _ _).trans h
  · cases h)

/-- (impl.Grid).crossings, loop -/
def i_Grid_crossings_l0_p : SPat := ⟨[.undef, .ptr ⟨⟨0, 0⟩, 0, 0, 1⟩, .undef, .ptr ⟨⟨2, 0⟩, 0, 0, 8⟩, .ptr ⟨⟨3, 0⟩, 0, 0, 8⟩, .sliceV 1 0 0 3 false, .undef, .undef, .undef, .undef, .undef, .undef, .undef, .undef, .undef, .undef, .undef, .undef, .undef, .undef, .undef, .int .i64, .int .i64] ++ List.replicate 60 .undef, [[.vals [.int .i64], .ints .u8 8, .ints .u8 8], [.vec .i64], [.ints .i64 8], [.ints .i64 8]]⟩
def i_Grid_crossings_l0_o0 : SPat := ⟨[.undef, .undef, .undef, .undef, .undef, .sliceV 1 0 0 3 false] ++ List.replicate 77 .undef, [[.vals [.int .i64], .ints .u8 8, .ints .u8 8], [.vec .i64], [.ints .i64 8], [.ints .i64 8]]⟩
theorem i_Grid_crossings_l0_round {α : Type} (N : Nat) (t5_n : Nat) (t5_l : Nat) (t5_c : Nat) (t21 : Int) (t22 : Int) (h0_0 : Int) (h0_1 : Nat → Int) (h0_2 : Nat → Int) (h1 : List Int) (h2 : Nat → Int) (h3 : Nat → Int) (kn : St → Option α) (K : AExit → St → Option α) :
    roundK Try.prog (E_i_Grid_crossings_l1 α N) 1 0 154 Try.f154 3 4 (buildS i_Grid_crossings_l0_p [.n t5_n, .n t5_l, .n t5_c, .i t21, .i t22, .i h0_0, .f h0_1, .f h0_2, .l h1, .f h2, .f h3]) kn K = i_Grid_crossings_l0_s none N t21 h0_0 h0_1 h0_2 h2 h3 t5_n t5_l t5_c t22 h1 (fun t5_n t5_l t5_c t22 h1 => kn (buildS i_Grid_crossings_l0_p [.n t5_n, .n t5_l, .n t5_c, .i t21, .i t22, .i h0_0, .f h0_1, .f h0_2, .l h1, .f h2, .f h3])) (fun t5_n_ t5_l_ t5_c_ h1_ => K (.exit 0) (buildS i_Grid_crossings_l0_o0 [.n t5_n_, .n t5_l_, .n t5_c_, .i h0_0, .f h0_1, .f h0_2, .l h1_, .f h2, .f h3])) := by kernel_rfl
theorem i_Grid_crossings_l0_loop {α : Type} (N : Nat) (t21 : Int) (h0_0 : Int) (h0_1 : Nat → Int) (h0_2 : Nat → Int) (h2 : Nat → Int) (h3 : Nat → Int) (K : AExit → St → Option α) : ∀ (m : Nat) (t5_n : Nat) (t5_l : Nat) (t5_c : Nat) (t22 : Int) (h1 : List Int),
    loopN (trimSt ((E_i_Grid_crossings_l1 α N).ann 154 3).head ((E_i_Grid_crossings_l1 α N).ann 154 3).grow 4) (bodyK Try.prog (E_i_Grid_crossings_l1 α N) 1 0 154 Try.f154 3) m (buildS i_Grid_crossings_l0_p [.n t5_n, .n t5_l, .n t5_c, .i t21, .i t22, .i h0_0, .f h0_1, .f h0_2, .l h1, .f h2, .f h3]) (leaveLoop ((E_i_Grid_crossings_l1 α N).ann 154 3) 4 K) = i_Grid_crossings_l0 none N t21 h0_0 h0_1 h0_2 h2 h3 m t5_n t5_l t5_c t22 h1 (fun t5_n_ t5_l_ t5_c_ h1_ => K (.exit 0) (buildS i_Grid_crossings_l0_o0 [.n t5_n_, .n t5_l_, .n t5_c_, .i h0_0, .f h0_1, .f h0_2, .l h1_, .f h2, .f h3])) := by
  intro m
  induction m with
  | zero => intros; rfl
  | succ m ih =>
    intro t5_n t5_l t5_c t22 h1
    rw [loopN_round]
    refine (i_Grid_crossings_l0_round N t5_n t5_l t5_c t21 t22 h0_0 h0_1 h0_2 h1 h2 h3 _ K).trans ?_
    simp only [ih]
    rfl
def E_i_Grid_crossings_l0 (α : Type) (N : Nat) : Env α := (E_i_Grid_crossings_l1 α N).addLoop2 154 3 (loopSum2 ((E_i_Grid_crossings_l1 α N).ann 154 3) 0 i_Grid_crossings_l0_p (fun l K => match l with
    | [.n t5_n, .n t5_l, .n t5_c, .i t21, .i t22, .i h0_0, .f h0_1, .f h0_2, .l h1, .f h2, .f h3] => i_Grid_crossings_l0 none N t21 h0_0 h0_1 h0_2 h2 h3 N t5_n t5_l t5_c t22 h1 (fun t5_n_ t5_l_ t5_c_ h1_ => K (.exit 0) (buildS i_Grid_crossings_l0_o0 [.n t5_n_, .n t5_l_, .n t5_c_, .i h0_0, .f h0_1, .f h0_2, .l h1_, .f h2, .f h3]))
    | _ => none) ((E_i_Grid_crossings_l1 α N).ls 154 3))
theorem E_i_Grid_crossings_l0_ok {α : Type} (N : Nat) : EnvOk Try.prog (E_i_Grid_crossings_l0 α N) := (E_i_Grid_crossings_l1_ok N).addLoop2 Try.func154 (by kernel_rfl) (loopSum_ok prog_mixed prog_names (E_i_Grid_crossings_l1_ok N) Try.func154 (by kernel_rfl) (d := 1) (ro := 0) fun l K r h => by
  split at h
  · exact (i_Grid_crossings_l0_loop N _ _ _ _ _ _ K N _ _ _ _ _).trans h
  · cases h)

/-- (impl.Grid).crossings -/
def i_Grid_crossings_a : SPat := ⟨[.agg [.vals [.int .i64], .ints .u8 8, .ints .u8 8]], []⟩
def i_Grid_crossings_r0 : SPat := ⟨[.sliceV 0 0 0 3 false], [[.vec .i64]]⟩
theorem i_Grid_crossings_run {α : Type} (N : Nat) (g_0 : Int) (g_1 : Nat → Int) (g_2 : Nat → Int) (K : AV → Heap → Option α) :
    callK Try.prog (E_i_Grid_crossings_l0 α N) 1 154 0 (buildS i_Grid_crossings_a [.i g_0, .f g_1, .f g_2]).t (buildS i_Grid_crossings_a [.i g_0, .f g_1, .f g_2]).h K = i_Grid_crossings none N g_0 g_1 g_2 (fun r_n_ r_l_ r_c_ h0_ => retK (buildS i_Grid_crossings_r0 [.n r_n_, .n r_l_, .n r_c_, .l h0_]) K) := by kernel_rfl
def E_i_Grid_crossings (α : Type) (N : Nat) : Env α := (E_i_Grid_crossings_l0 α N).addFun 154 true 0 i_Grid_crossings_a (fun l K => match l with
    | [.i g_0, .f g_1, .f g_2] => i_Grid_crossings none N g_0 g_1 g_2 (fun r_n_ r_l_ r_c_ h0_ => retK (buildS i_Grid_crossings_r0 [.n r_n_, .n r_l_, .n r_c_, .l h0_]) K)
    | _ => none)
theorem E_i_Grid_crossings_ok {α : Type} (N : Nat) : EnvOk Try.prog (E_i_Grid_crossings α N) := (E_i_Grid_crossings_l0_ok N).addFun prog_mixed prog_names (d := 1) fun l K r h => by
  split at h
  · exact (i_Grid_crossings_run N _ _ _ K).trans h
  · cases h

/-- (impl.front).numbers -/
def i_front_numbers_a : SPat := ⟨[.agg [.ints .i64 3], .int .i64], []⟩
def i_front_numbers_r0 : SPat := ⟨[.slice ⟨⟨0, 0⟩, 0, 0, 2⟩ 2 2 1 true], [[.vec .i64]]⟩
theorem i_front_numbers_run {α : Type} (N : Nat) (f : Nat → Int) (writhe : Int) (K : AV → Heap → Option α) :
    callK Try.prog (E_i_Grid_crossings α N) 1 99 0 (buildS i_front_numbers_a [.f f, .i writhe]).t (buildS i_front_numbers_a [.f f, .i writhe]).h K = i_front_numbers none N f writhe (fun h0_ => retK (buildS i_front_numbers_r0 [.l h0_]) K) := by kernel_rfl
def E_i_front_numbers (α : Type) (N : Nat) : Env α := (E_i_Grid_crossings α N).addFun 99 true 0 i_front_numbers_a (fun l K => match l with
    | [.f f, .i writhe] => i_front_numbers none N f writhe (fun h0_ => retK (buildS i_front_numbers_r0 [.l h0_]) K)
    | _ => none)
theorem E_i_front_numbers_ok {α : Type} (N : Nat) : EnvOk Try.prog (E_i_front_numbers α N) := (E_i_Grid_crossings_ok N).addFun prog_mixed prog_names (d := 1) fun l K r h => by
  split at h
  · exact (i_front_numbers_run N _ _ K).trans h
  · cases h

/-- laws.big -/
def w_big_a : SPat := ⟨[.sliceV 0 0 0 1 false], [[.intsV .u8]]⟩
def w_big_r0 : SPat := ⟨[.bool], [[.intsV .u8]]⟩
theorem w_big_run {α : Type} (N : Nat) (code_n : Nat) (code_l : Nat) (code_c : Nat) (h0_n : Nat) (h0 : Nat → Int) (K : AV → Heap → Option α) :
    callK Try.prog (E_i_front_numbers α N) 1 16 1 (buildS w_big_a [.n code_n, .n code_l, .n code_c, .n h0_n, .f h0]).t (buildS w_big_a [.n code_n, .n code_l, .n code_c, .n h0_n, .f h0]).h K = w_big none N code_n code_l code_c h0_n h0 (fun r__ => retK (buildS w_big_r0 [.b r__, .n h0_n, .f h0]) K) := by kernel_rfl
def E_w_big (α : Type) (N : Nat) : Env α := (E_i_front_numbers α N).addFun 16 true 1 w_big_a (fun l K => match l with
    | [.n code_n, .n code_l, .n code_c, .n h0_n, .f h0] => w_big none N code_n code_l code_c h0_n h0 (fun r__ => retK (buildS w_big_r0 [.b r__, .n h0_n, .f h0]) K)
    | _ => none)
theorem E_w_big_ok {α : Type} (N : Nat) : EnvOk Try.prog (E_w_big α N) := (E_i_front_numbers_ok N).addFun prog_mixed prog_names (d := 1) fun l K r h => by
  split at h
  · exact (w_big_run N _ _ _ _ _ K).trans h
  · cases h

def A_s_l01From_l0 (α : Type) (N : Nat) : Env α := (E_w_big α N).addAnn 104 3 { head := [0, 3, 4], grow := [], out := [3], ret := [2] }
theorem A_s_l01From_l0_ok {α : Type} (N : Nat) : EnvOk Try.prog (A_s_l01From_l0 α N) := (E_w_big_ok N).addAnn

/-- spec.l01From, loop -/
def s_l01From_l0_p : SPat := ⟨[.sliceV 0 0 0 1 false, .undef, .undef, .ptr ⟨⟨1, 0⟩, 0, 0, 3⟩, .int .i64] ++ List.replicate 33 .undef, [[.intsV .u8], [.vals [.sliceV 0 0 0 1 false, .int .i64, .int .u64]]]⟩
def s_l01From_l0_o0 : SPat := ⟨[.undef, .undef, .undef, .ptr ⟨⟨1, 0⟩, 0, 0, 3⟩] ++ List.replicate 34 .undef, [[.intsV .u8], [.vals [.sliceV 0 0 0 1 false, .int .i64, .int .u64]]]⟩
theorem s_l01From_l0_round {α : Type} (N : Nat) (code_n : Nat) (code_l : Nat) (code_c : Nat) (i : Int) (h0_n : Nat) (h0 : Nat → Int) (h1_0_n : Nat) (h1_0_l : Nat) (h1_0_c : Nat) (h1_1 : Int) (h1_2 : Int) (kn : St → Option α) (K : AExit → St → Option α) :
    roundK Try.prog (A_s_l01From_l0 α N) 1 1 104 Try.f104 3 2 (buildS s_l01From_l0_p [.n code_n, .n code_l, .n code_c, .i i, .n h0_n, .f h0, .n h1_0_n, .n h1_0_l, .n h1_0_c, .i h1_1, .i h1_2]) kn K = s_l01From_l0_s none code_n code_l code_c h0_n h0 h1_0_n h1_0_l h1_0_c h1_1 i h1_2 (fun i h1_2 => kn (buildS s_l01From_l0_p [.n code_n, .n code_l, .n code_c, .i i, .n h0_n, .f h0, .n h1_0_n, .n h1_0_l, .n h1_0_c, .i h1_1, .i h1_2])) (fun h1_2_ => K (.exit 0) (buildS s_l01From_l0_o0 [.n h0_n, .f h0, .n h1_0_n, .n h1_0_l, .n h1_0_c, .i h1_1, .i h1_2_])) := by kernel_rfl
theorem s_l01From_l0_loop {α : Type} (N : Nat) (code_n : Nat) (code_l : Nat) (code_c : Nat) (h0_n : Nat) (h0 : Nat → Int) (h1_0_n : Nat) (h1_0_l : Nat) (h1_0_c : Nat) (h1_1 : Int) (K : AExit → St → Option α) : ∀ (m : Nat) (i : Int) (h1_2 : Int),
    loopN (trimSt ((A_s_l01From_l0 α N).ann 104 3).head ((A_s_l01From_l0 α N).ann 104 3).grow 2) (bodyK Try.prog (A_s_l01From_l0 α N) 1 1 104 Try.f104 3) m (buildS s_l01From_l0_p [.n code_n, .n code_l, .n code_c, .i i, .n h0_n, .f h0, .n h1_0_n, .n h1_0_l, .n h1_0_c, .i h1_1, .i h1_2]) (leaveLoop ((A_s_l01From_l0 α N).ann 104 3) 2 K) = s_l01From_l0 none code_n code_l code_c h0_n h0 h1_0_n h1_0_l h1_0_c h1_1 m i h1_2 (fun h1_2_ => K (.exit 0) (buildS s_l01From_l0_o0 [.n h0_n, .f h0, .n h1_0_n, .n h1_0_l, .n h1_0_c, .i h1_1, .i h1_2_])) := by
  intro m
  induction m with
  | zero => intros; rfl
  | succ m ih =>
    intro i h1_2
    rw [loopN_round]
    refine (s_l01From_l0_round N code_n code_l code_c i h0_n h0 h1_0_n h1_0_l h1_0_c h1_1 h1_2 _ K).trans ?_
    simp only [ih]
    rfl
def E_s_l01From_l0 (α : Type) (N : Nat) : Env α := (A_s_l01From_l0 α N).addLoop2 104 3 (loopSum2 ((A_s_l01From_l0 α N).ann 104 3) 1 s_l01From_l0_p (fun l K => match l with
    | [.n code_n, .n code_l, .n code_c, .i i, .n h0_n, .f h0, .n h1_0_n, .n h1_0_l, .n h1_0_c, .i h1_1, .i h1_2] => s_l01From_l0 none code_n code_l code_c h0_n h0 h1_0_n h1_0_l h1_0_c h1_1 N i h1_2 (fun h1_2_ => K (.exit 0) (buildS s_l01From_l0_o0 [.n h0_n, .f h0, .n h1_0_n, .n h1_0_l, .n h1_0_c, .i h1_1, .i h1_2_]))
    | _ => none) ((A_s_l01From_l0 α N).ls 104 3))
theorem E_s_l01From_l0_ok {α : Type} (N : Nat) : EnvOk Try.prog (E_s_l01From_l0 α N) := (A_s_l01From_l0_ok N).addLoop2 Try.func104 (by kernel_rfl) (loopSum_ok prog_mixed prog_names (A_s_l01From_l0_ok N) Try.func104 (by kernel_rfl) (d := 1) (ro := 1) fun l K r h => by
  split at h
  · exact (s_l01From_l0_loop N _ _ _ _ _ _ _ _ _ K N _ _).trans h
  · cases h)

/-- spec.l01From -/
def s_l01From_a : SPat := ⟨[.sliceV 0 0 0 1 false], [[.intsV .u8]]⟩
def s_l01From_r0 : SPat := ⟨[.ptr ⟨⟨1, 0⟩, 0, 0, 3⟩], [[.intsV .u8], [.vals [.sliceV 0 0 0 1 false, .int .i64, .int .u64]]]⟩
theorem s_l01From_run {α : Type} (N : Nat) (code_n : Nat) (code_l : Nat) (code_c : Nat) (h0_n : Nat) (h0 : Nat → Int) (K : AV → Heap → Option α) :
    callK Try.prog (E_s_l01From_l0 α N) 1 104 1 (buildS s_l01From_a [.n code_n, .n code_l, .n code_c, .n h0_n, .f h0]).t (buildS s_l01From_a [.n code_n, .n code_l, .n code_c, .n h0_n, .f h0]).h K = s_l01From none N code_n code_l code_c h0_n h0 (fun h1_1_ h1_2_ => retK (buildS s_l01From_r0 [.n h0_n, .f h0, .n code_n, .n code_l, .n code_c, .i h1_1_, .i h1_2_]) K) := by kernel_rfl
def E_s_l01From (α : Type) (N : Nat) : Env α := (E_s_l01From_l0 α N).addFun 104 true 1 s_l01From_a (fun l K => match l with
    | [.n code_n, .n code_l, .n code_c, .n h0_n, .f h0] => s_l01From none N code_n code_l code_c h0_n h0 (fun h1_1_ h1_2_ => retK (buildS s_l01From_r0 [.n h0_n, .f h0, .n code_n, .n code_l, .n code_c, .i h1_1_, .i h1_2_]) K)
    | _ => none)
theorem E_s_l01From_ok {α : Type} (N : Nat) : EnvOk Try.prog (E_s_l01From α N) := (E_s_l01From_l0_ok N).addFun prog_mixed prog_names (d := 1) fun l K r h => by
  split at h
  · exact (s_l01From_run N _ _ _ _ _ K).trans h
  · cases h

/-- spec.l01Next -/
def s_l01Next_s2_a : SPat := ⟨[.ptr ⟨⟨1, 0⟩, 0, 0, 3⟩, .int .i64], [[.intsV .u8], [.vals [.sliceV 0 0 0 1 false, .int .i64, .int .u64]]]⟩
def s_l01Next_s2_r0 : SPat := ⟨[.int .i64], [[.intsV .u8], [.vals [.sliceV 0 0 0 1 false, .int .i64, .int .u64]]]⟩
theorem s_l01Next_s2_run {α : Type} (N : Nat) (n : Int) (h0_n : Nat) (h0 : Nat → Int) (h1_0_n : Nat) (h1_0_l : Nat) (h1_0_c : Nat) (h1_1 : Int) (h1_2 : Int) (K : AV → Heap → Option α) :
    callK Try.prog (E_s_l01From α N) 1 114 1 (buildS s_l01Next_s2_a [.i n, .n h0_n, .f h0, .n h1_0_n, .n h1_0_l, .n h1_0_c, .i h1_1, .i h1_2]).t (buildS s_l01Next_s2_a [.i n, .n h0_n, .f h0, .n h1_0_n, .n h1_0_l, .n h1_0_c, .i h1_1, .i h1_2]).h K = s_l01Next_s2 none N n h0_n h0 h1_0_n h1_0_l h1_0_c h1_1 h1_2 (fun r__ h1_1_ h1_2_ => retK (buildS s_l01Next_s2_r0 [.i r__, .n h0_n, .f h0, .n h1_0_n, .n h1_0_l, .n h1_0_c, .i h1_1_, .i h1_2_]) K) := by kernel_rfl
def E_s_l01Next_s2 (α : Type) (N : Nat) : Env α := (E_s_l01From α N).addFun 114 false 1 s_l01Next_s2_a (fun l K => match l with
    | [.i n, .n h0_n, .f h0, .n h1_0_n, .n h1_0_l, .n h1_0_c, .i h1_1, .i h1_2] => s_l01Next_s2 none N n h0_n h0 h1_0_n h1_0_l h1_0_c h1_1 h1_2 (fun r__ h1_1_ h1_2_ => retK (buildS s_l01Next_s2_r0 [.i r__, .n h0_n, .f h0, .n h1_0_n, .n h1_0_l, .n h1_0_c, .i h1_1_, .i h1_2_]) K)
    | _ => none)
theorem E_s_l01Next_s2_ok {α : Type} (N : Nat) : EnvOk Try.prog (E_s_l01Next_s2 α N) := (E_s_l01From_ok N).addFun prog_mixed prog_names (d := 1) fun l K r h => by
  split at h
  · exact (s_l01Next_s2_run N _ _ _ _ _ _ _ _ K).trans h
  · cases h

/-- spec.l01Pick -/
def s_l01Pick_s3_a : SPat := ⟨[.ptr ⟨⟨1, 0⟩, 0, 0, 3⟩, .slice ⟨⟨2, 0⟩, 0, 0, 3⟩ 3 3 1 true], [[.intsV .u8], [.vals [.sliceV 0 0 0 1 false, .int .i64, .int .u64]], [.vec .i64]]⟩
def s_l01Pick_s3_r0 : SPat := ⟨[.int .i64], [[.intsV .u8], [.vals [.sliceV 0 0 0 1 false, .int .i64, .int .u64]], [.vec .i64]]⟩
theorem s_l01Pick_s3_run {α : Type} (N : Nat) (h0_n : Nat) (h0 : Nat → Int) (h1_0_n : Nat) (h1_0_l : Nat) (h1_0_c : Nat) (h1_1 : Int) (h1_2 : Int) (h2 : List Int) (K : AV → Heap → Option α) :
    callK Try.prog (E_s_l01Next_s2 α N) 1 115 1 (buildS s_l01Pick_s3_a [.n h0_n, .f h0, .n h1_0_n, .n h1_0_l, .n h1_0_c, .i h1_1, .i h1_2, .l h2]).t (buildS s_l01Pick_s3_a [.n h0_n, .f h0, .n h1_0_n, .n h1_0_l, .n h1_0_c, .i h1_1, .i h1_2, .l h2]).h K = s_l01Pick_s3 none N h0_n h0 h1_0_n h1_0_l h1_0_c h1_1 h1_2 h2 (fun r__ h1_1_ h1_2_ => retK (buildS s_l01Pick_s3_r0 [.i r__, .n h0_n, .f h0, .n h1_0_n, .n h1_0_l, .n h1_0_c, .i h1_1_, .i h1_2_, .l h2]) K) := by kernel_rfl
def E_s_l01Pick_s3 (α : Type) (N : Nat) : Env α := (E_s_l01Next_s2 α N).addFun 115 false 1 s_l01Pick_s3_a (fun l K => match l with
    | [.n h0_n, .f h0, .n h1_0_n, .n h1_0_l, .n h1_0_c, .i h1_1, .i h1_2, .l h2] => s_l01Pick_s3 none N h0_n h0 h1_0_n h1_0_l h1_0_c h1_1 h1_2 h2 (fun r__ h1_1_ h1_2_ => retK (buildS s_l01Pick_s3_r0 [.i r__, .n h0_n, .f h0, .n h1_0_n, .n h1_0_l, .n h1_0_c, .i h1_1_, .i h1_2_, .l h2]) K)
    | _ => none)
theorem E_s_l01Pick_s3_ok {α : Type} (N : Nat) : EnvOk Try.prog (E_s_l01Pick_s3 α N) := (E_s_l01Next_s2_ok N).addFun prog_mixed prog_names (d := 1) fun l K r h => by
  split at h
  · exact (s_l01Pick_s3_run N _ _ _ _ _ _ _ _ K).trans h
  · cases h

def A_s_l01Mixed_l0 (α : Type) (N : Nat) : Env α := (E_s_l01Pick_s3 α N).addAnn 197 3 { head := [0, 1, 4, 5, 6], grow := [], out := [0, 1, 4, 5], ret := [4] }
theorem A_s_l01Mixed_l0_ok {α : Type} (N : Nat) : EnvOk Try.prog (A_s_l01Mixed_l0 α N) := (E_s_l01Pick_s3_ok N).addAnn

/-- spec.l01Mixed, loop -/
def s_l01Mixed_l0_s2_p : SPat := ⟨[.ptr ⟨⟨1, 0⟩, 0, 0, 3⟩, .int .i64, .undef, .undef, .ptr ⟨⟨2, 0⟩, 0, 0, 8⟩, .ptr ⟨⟨3, 0⟩, 0, 0, 8⟩, .int .i64] ++ List.replicate 35 .undef, [[.intsV .u8], [.vals [.sliceV 0 0 0 1 false, .int .i64, .int .u64]], [.ints .u8 8], [.ints .u8 8]]⟩
def s_l01Mixed_l0_s2_o0 : SPat := ⟨[.ptr ⟨⟨1, 0⟩, 0, 0, 3⟩, .int .i64, .undef, .undef, .ptr ⟨⟨2, 0⟩, 0, 0, 8⟩, .ptr ⟨⟨3, 0⟩, 0, 0, 8⟩] ++ List.replicate 36 .undef, [[.intsV .u8], [.vals [.sliceV 0 0 0 1 false, .int .i64, .int .u64]], [.ints .u8 8], [.ints .u8 8]]⟩
theorem s_l01Mixed_l0_s2_round {α : Type} (N : Nat) (n : Int) (i : Int) (h0_n : Nat) (h0 : Nat → Int) (h1_0_n : Nat) (h1_0_l : Nat) (h1_0_c : Nat) (h1_1 : Int) (h1_2 : Int) (h2 : Nat → Int) (h3 : Nat → Int) (kn : St → Option α) (K : AExit → St → Option α) :
    roundK Try.prog (A_s_l01Mixed_l0 α N) 1 1 197 Try.f197 3 4 (buildS s_l01Mixed_l0_s2_p [.i n, .i i, .n h0_n, .f h0, .n h1_0_n, .n h1_0_l, .n h1_0_c, .i h1_1, .i h1_2, .f h2, .f h3]) kn K = s_l01Mixed_l0_s2_s none n h0_n h0 h1_0_n h1_0_l h1_0_c h1_1 h1_2 h2 i h3 (fun i h3 => kn (buildS s_l01Mixed_l0_s2_p [.i n, .i i, .n h0_n, .f h0, .n h1_0_n, .n h1_0_l, .n h1_0_c, .i h1_1, .i h1_2, .f h2, .f h3])) (fun h3_ => K (.exit 0) (buildS s_l01Mixed_l0_s2_o0 [.i n, .n h0_n, .f h0, .n h1_0_n, .n h1_0_l, .n h1_0_c, .i h1_1, .i h1_2, .f h2, .f h3_])) := by kernel_rfl
theorem s_l01Mixed_l0_s2_loop {α : Type} (N : Nat) (n : Int) (h0_n : Nat) (h0 : Nat → Int) (h1_0_n : Nat) (h1_0_l : Nat) (h1_0_c : Nat) (h1_1 : Int) (h1_2 : Int) (h2 : Nat → Int) (K : AExit → St → Option α) : ∀ (m : Nat) (i : Int) (h3 : Nat → Int),
    loopN (trimSt ((A_s_l01Mixed_l0 α N).ann 197 3).head ((A_s_l01Mixed_l0 α N).ann 197 3).grow 4) (bodyK Try.prog (A_s_l01Mixed_l0 α N) 1 1 197 Try.f197 3) m (buildS s_l01Mixed_l0_s2_p [.i n, .i i, .n h0_n, .f h0, .n h1_0_n, .n h1_0_l, .n h1_0_c, .i h1_1, .i h1_2, .f h2, .f h3]) (leaveLoop ((A_s_l01Mixed_l0 α N).ann 197 3) 4 K) = s_l01Mixed_l0_s2 none n h0_n h0 h1_0_n h1_0_l h1_0_c h1_1 h1_2 h2 m i h3 (fun h3_ => K (.exit 0) (buildS s_l01Mixed_l0_s2_o0 [.i n, .n h0_n, .f h0, .n h1_0_n, .n h1_0_l, .n h1_0_c, .i h1_1, .i h1_2, .f h2, .f h3_])) := by
  intro m
  induction m with
  | zero => intros; rfl
  | succ m ih =>
    intro i h3
    rw [loopN_round]
    refine (s_l01Mixed_l0_s2_round N n i h0_n h0 h1_0_n h1_0_l h1_0_c h1_1 h1_2 h2 h3 _ K).trans ?_
    simp only [ih]
    rfl
def E_s_l01Mixed_l0_s2 (α : Type) (N : Nat) : Env α := (A_s_l01Mixed_l0 α N).addLoop2 197 3 (loopSum2 ((A_s_l01Mixed_l0 α N).ann 197 3) 1 s_l01Mixed_l0_s2_p (fun l K => match l with
    | [.i n, .i i, .n h0_n, .f h0, .n h1_0_n, .n h1_0_l, .n h1_0_c, .i h1_1, .i h1_2, .f h2, .f h3] => s_l01Mixed_l0_s2 none n h0_n h0 h1_0_n h1_0_l h1_0_c h1_1 h1_2 h2 N i h3 (fun h3_ => K (.exit 0) (buildS s_l01Mixed_l0_s2_o0 [.i n, .n h0_n, .f h0, .n h1_0_n, .n h1_0_l, .n h1_0_c, .i h1_1, .i h1_2, .f h2, .f h3_]))
    | _ => none) ((A_s_l01Mixed_l0 α N).ls 197 3))
theorem E_s_l01Mixed_l0_s2_ok {α : Type} (N : Nat) : EnvOk Try.prog (E_s_l01Mixed_l0_s2 α N) := (A_s_l01Mixed_l0_ok N).addLoop2 Try.func197 (by kernel_rfl) (loopSum_ok prog_mixed prog_names (A_s_l01Mixed_l0_ok N) Try.func197 (by kernel_rfl) (d := 1) (ro := 1) fun l K r h => by
  split at h
  · exact (s_l01Mixed_l0_s2_loop N _ _ _ _ _ _ _ _ _ K N _ _).trans h
  · cases h)

def A_s_l01Mixed_l1 (α : Type) (N : Nat) : Env α := (E_s_l01Mixed_l0_s2 α N).addAnn 197 7 { head := [0, 4, 5, 7], grow := [], out := [4, 5], ret := [4] }
theorem A_s_l01Mixed_l1_ok {α : Type} (N : Nat) : EnvOk Try.prog (A_s_l01Mixed_l1 α N) := (E_s_l01Mixed_l0_s2_ok N).addAnn

/-- spec.l01Mixed, loop -/
def s_l01Mixed_l1_s2_p : SPat := ⟨[.ptr ⟨⟨1, 0⟩, 0, 0, 3⟩, .undef, .undef, .undef, .ptr ⟨⟨2, 0⟩, 0, 0, 8⟩, .ptr ⟨⟨3, 0⟩, 0, 0, 8⟩, .undef, .int .i64] ++ List.replicate 34 .undef, [[.intsV .u8], [.vals [.sliceV 0 0 0 1 false, .int .i64, .int .u64]], [.ints .u8 8], [.ints .u8 8]]⟩
def s_l01Mixed_l1_s2_o0 : SPat := ⟨[.undef, .undef, .undef, .undef, .ptr ⟨⟨2, 0⟩, 0, 0, 8⟩, .ptr ⟨⟨3, 0⟩, 0, 0, 8⟩] ++ List.replicate 36 .undef, [[.intsV .u8], [.vals [.sliceV 0 0 0 1 false, .int .i64, .int .u64]], [.ints .u8 8], [.ints .u8 8]]⟩
theorem s_l01Mixed_l1_s2_round {α : Type} (N : Nat) (i : Int) (h0_n : Nat) (h0 : Nat → Int) (h1_0_n : Nat) (h1_0_l : Nat) (h1_0_c : Nat) (h1_1 : Int) (h1_2 : Int) (h2 : Nat → Int) (h3 : Nat → Int) (kn : St → Option α) (K : AExit → St → Option α) :
    roundK Try.prog (A_s_l01Mixed_l1 α N) 1 1 197 Try.f197 7 4 (buildS s_l01Mixed_l1_s2_p [.i i, .n h0_n, .f h0, .n h1_0_n, .n h1_0_l, .n h1_0_c, .i h1_1, .i h1_2, .f h2, .f h3]) kn K = s_l01Mixed_l1_s2_s none N h0_n h0 h1_0_n h1_0_l h1_0_c h2 i h1_1 h1_2 h3 (fun i h1_1 h1_2 h3 => kn (buildS s_l01Mixed_l1_s2_p [.i i, .n h0_n, .f h0, .n h1_0_n, .n h1_0_l, .n h1_0_c, .i h1_1, .i h1_2, .f h2, .f h3])) (fun h1_1_ h1_2_ h3_ => K (.exit 2) (buildS s_l01Mixed_l1_s2_o0 [.n h0_n, .f h0, .n h1_0_n, .n h1_0_l, .n h1_0_c, .i h1_1_, .i h1_2_, .f h2, .f h3_])) := by kernel_rfl
theorem s_l01Mixed_l1_s2_loop {α : Type} (N : Nat) (h0_n : Nat) (h0 : Nat → Int) (h1_0_n : Nat) (h1_0_l : Nat) (h1_0_c : Nat) (h2 : Nat → Int) (K : AExit → St → Option α) : ∀ (m : Nat) (i : Int) (h1_1 : Int) (h1_2 : Int) (h3 : Nat → Int),
    loopN (trimSt ((A_s_l01Mixed_l1 α N).ann 197 7).head ((A_s_l01Mixed_l1 α N).ann 197 7).grow 4) (bodyK Try.prog (A_s_l01Mixed_l1 α N) 1 1 197 Try.f197 7) m (buildS s_l01Mixed_l1_s2_p [.i i, .n h0_n, .f h0, .n h1_0_n, .n h1_0_l, .n h1_0_c, .i h1_1, .i h1_2, .f h2, .f h3]) (leaveLoop ((A_s_l01Mixed_l1 α N).ann 197 7) 4 K) = s_l01Mixed_l1_s2 none N h0_n h0 h1_0_n h1_0_l h1_0_c h2 m i h1_1 h1_2 h3 (fun h1_1_ h1_2_ h3_ => K (.exit 2) (buildS s_l01Mixed_l1_s2_o0 [.n h0_n, .f h0, .n h1_0_n, .n h1_0_l, .n h1_0_c, .i h1_1_, .i h1_2_, .f h2, .f h3_])) := by
  intro m
  induction m with
  | zero => intros; rfl
  | succ m ih =>
    intro i h1_1 h1_2 h3
    rw [loopN_round]
    refine (s_l01Mixed_l1_s2_round N i h0_n h0 h1_0_n h1_0_l h1_0_c h1_1 h1_2 h2 h3 _ K).trans ?_
    simp only [ih]
    rfl
def E_s_l01Mixed_l1_s2 (α : Type) (N : Nat) : Env α := (A_s_l01Mixed_l1 α N).addLoop2 197 7 (loopSum2 ((A_s_l01Mixed_l1 α N).ann 197 7) 1 s_l01Mixed_l1_s2_p (fun l K => match l with
    | [.i i, .n h0_n, .f h0, .n h1_0_n, .n h1_0_l, .n h1_0_c, .i h1_1, .i h1_2, .f h2, .f h3] => s_l01Mixed_l1_s2 none N h0_n h0 h1_0_n h1_0_l h1_0_c h2 N i h1_1 h1_2 h3 (fun h1_1_ h1_2_ h3_ => K (.exit 2) (buildS s_l01Mixed_l1_s2_o0 [.n h0_n, .f h0, .n h1_0_n, .n h1_0_l, .n h1_0_c, .i h1_1_, .i h1_2_, .f h2, .f h3_]))
    | _ => none) ((A_s_l01Mixed_l1 α N).ls 197 7))
theorem E_s_l01Mixed_l1_s2_ok {α : Type} (N : Nat) : EnvOk Try.prog (E_s_l01Mixed_l1_s2 α N) := (A_s_l01Mixed_l1_ok N).addLoop2 Try.func197 (by kernel_rfl) (loopSum_ok prog_mixed prog_names (A_s_l01Mixed_l1_ok N) Try.func197 (by kernel_rfl) (d := 1) (ro := 1) fun l K r h => by
  split at h
  · exact (s_l01Mixed_l1_s2_loop N _ _ _ _ _ _ K N _ _ _ _).trans h
  · cases h)

/-- spec.l01Mixed -/
def s_l01Mixed_s2_a : SPat := ⟨[.ptr ⟨⟨1, 0⟩, 0, 0, 3⟩, .int .i64], [[.intsV .u8], [.vals [.sliceV 0 0 0 1 false, .int .i64, .int .u64]]]⟩
def s_l01Mixed_s2_r0 : SPat := ⟨[.agg [.ints .u8 8]], [[.intsV .u8], [.vals [.sliceV 0 0 0 1 false, .int .i64, .int .u64]]]⟩
theorem s_l01Mixed_s2_run {α : Type} (N : Nat) (n : Int) (h0_n : Nat) (h0 : Nat → Int) (h1_0_n : Nat) (h1_0_l : Nat) (h1_0_c : Nat) (h1_1 : Int) (h1_2 : Int) (K : AV → Heap → Option α) :
    callK Try.prog (E_s_l01Mixed_l1_s2 α N) 1 197 1 (buildS s_l01Mixed_s2_a [.i n, .n h0_n, .f h0, .n h1_0_n, .n h1_0_l, .n h1_0_c, .i h1_1, .i h1_2]).t (buildS s_l01Mixed_s2_a [.i n, .n h0_n, .f h0, .n h1_0_n, .n h1_0_l, .n h1_0_c, .i h1_1, .i h1_2]).h K = s_l01Mixed_s2 none N n h0_n h0 h1_0_n h1_0_l h1_0_c h1_1 h1_2 (fun r__ h1_1_ h1_2_ => retK (buildS s_l01Mixed_s2_r0 [.f r__, .n h0_n, .f h0, .n h1_0_n, .n h1_0_l, .n h1_0_c, .i h1_1_, .i h1_2_]) K) := by kernel_rfl
def E_s_l01Mixed_s2 (α : Type) (N : Nat) : Env α := (E_s_l01Mixed_l1_s2 α N).addFun 197 false 1 s_l01Mixed_s2_a (fun l K => match l with
    | [.i n, .n h0_n, .f h0, .n h1_0_n, .n h1_0_l, .n h1_0_c, .i h1_1, .i h1_2] => s_l01Mixed_s2 none N n h0_n h0 h1_0_n h1_0_l h1_0_c h1_1 h1_2 (fun r__ h1_1_ h1_2_ => retK (buildS s_l01Mixed_s2_r0 [.f r__, .n h0_n, .f h0, .n h1_0_n, .n h1_0_l, .n h1_0_c, .i h1_1_, .i h1_2_]) K)
    | _ => none)
theorem E_s_l01Mixed_s2_ok {α : Type} (N : Nat) : EnvOk Try.prog (E_s_l01Mixed_s2 α N) := (E_s_l01Mixed_l1_s2_ok N).addFun prog_mixed prog_names (d := 1) fun l K r h => by
  split at h
  · exact (s_l01Mixed_s2_run N _ _ _ _ _ _ _ _ K).trans h
  · cases h

def A_s_l01DrawSize_l0 (α : Type) (N : Nat) : Env α := (E_s_l01Mixed_s2 α N).addAnn 122 3 { head := [1, 4, 5, 6, 7], grow := [], out := [1, 4, 5, 6], ret := [4] }
theorem A_s_l01DrawSize_l0_ok {α : Type} (N : Nat) : EnvOk Try.prog (A_s_l01DrawSize_l0 α N) := (E_s_l01Mixed_s2_ok N).addAnn

/-- spec.l01DrawSize, loop -/
def s_l01DrawSize_l0_s2_p : SPat := ⟨[.undef, .int .i64, .undef, .undef, .ptr ⟨⟨2, 0⟩, 0, 0, 1⟩, .ptr ⟨⟨3, 0⟩, 0, 0, 8⟩, .ptr ⟨⟨4, 0⟩, 0, 0, 8⟩, .int .i64] ++ List.replicate 66 .undef, [[.intsV .u8], [.vals [.sliceV 0 0 0 1 false, .int .i64, .int .u64]], [.vals [.int .i64], .ints .u8 8, .ints .u8 8], [.ints .u8 8], [.ints .u8 8]]⟩
def s_l01DrawSize_l0_s2_o0 : SPat := ⟨[.undef, .int .i64, .undef, .undef, .ptr ⟨⟨2, 0⟩, 0, 0, 1⟩, .ptr ⟨⟨3, 0⟩, 0, 0, 8⟩, .ptr ⟨⟨4, 0⟩, 0, 0, 8⟩] ++ List.replicate 67 .undef, [[.intsV .u8], [.vals [.sliceV 0 0 0 1 false, .int .i64, .int .u64]], [.vals [.int .i64], .ints .u8 8, .ints .u8 8], [.ints .u8 8], [.ints .u8 8]]⟩
theorem s_l01DrawSize_l0_s2_round {α : Type} (N : Nat) (t1 : Int) (t7 : Int) (h0_n : Nat) (h0 : Nat → Int) (h1_0_n : Nat) (h1_0_l : Nat) (h1_0_c : Nat) (h1_1 : Int) (h1_2 : Int) (h2_0 : Int) (h2_1 : Nat → Int) (h2_2 : Nat → Int) (h3 : Nat → Int) (h4 : Nat → Int) (kn : St → Option α) (K : AExit → St → Option α) :
    roundK Try.prog (A_s_l01DrawSize_l0 α N) 1 1 122 Try.f122 3 5 (buildS s_l01DrawSize_l0_s2_p [.i t1, .i t7, .n h0_n, .f h0, .n h1_0_n, .n h1_0_l, .n h1_0_c, .i h1_1, .i h1_2, .i h2_0, .f h2_1, .f h2_2, .f h3, .f h4]) kn K = s_l01DrawSize_l0_s2_s none t1 h0_n h0 h1_0_n h1_0_l h1_0_c h1_1 h1_2 h2_0 h2_1 h2_2 h3 t7 h4 (fun t7 h4 => kn (buildS s_l01DrawSize_l0_s2_p [.i t1, .i t7, .n h0_n, .f h0, .n h1_0_n, .n h1_0_l, .n h1_0_c, .i h1_1, .i h1_2, .i h2_0, .f h2_1, .f h2_2, .f h3, .f h4])) (fun h4_ => K (.exit 0) (buildS s_l01DrawSize_l0_s2_o0 [.i t1, .n h0_n, .f h0, .n h1_0_n, .n h1_0_l, .n h1_0_c, .i h1_1, .i h1_2, .i h2_0, .f h2_1, .f h2_2, .f h3, .f h4_])) := by kernel_rfl
theorem s_l01DrawSize_l0_s2_loop {α : Type} (N : Nat) (t1 : Int) (h0_n : Nat) (h0 : Nat → Int) (h1_0_n : Nat) (h1_0_l : Nat) (h1_0_c : Nat) (h1_1 : Int) (h1_2 : Int) (h2_0 : Int) (h2_1 : Nat → Int) (h2_2 : Nat → Int) (h3 : Nat → Int) (K : AExit → St → Option α) : ∀ (m : Nat) (t7 : Int) (h4 : Nat → Int),
    loopN (trimSt ((A_s_l01DrawSize_l0 α N).ann 122 3).head ((A_s_l01DrawSize_l0 α N).ann 122 3).grow 5) (bodyK Try.prog (A_s_l01DrawSize_l0 α N) 1 1 122 Try.f122 3) m (buildS s_l01DrawSize_l0_s2_p [.i t1, .i t7, .n h0_n, .f h0, .n h1_0_n, .n h1_0_l, .n h1_0_c, .i h1_1, .i h1_2, .i h2_0, .f h2_1, .f h2_2, .f h3, .f h4]) (leaveLoop ((A_s_l01DrawSize_l0 α N).ann 122 3) 5 K) = s_l01DrawSize_l0_s2 none t1 h0_n h0 h1_0_n h1_0_l h1_0_c h1_1 h1_2 h2_0 h2_1 h2_2 h3 m t7 h4 (fun h4_ => K (.exit 0) (buildS s_l01DrawSize_l0_s2_o0 [.i t1, .n h0_n, .f h0, .n h1_0_n, .n h1_0_l, .n h1_0_c, .i h1_1, .i h1_2, .i h2_0, .f h2_1, .f h2_2, .f h3, .f h4_])) := by
  intro m
  induction m with
  | zero => intros; rfl
  | succ m ih =>
    intro t7 h4
    rw [loopN_round]
    refine (s_l01DrawSize_l0_s2_round N t1 t7 h0_n h0 h1_0_n h1_0_l h1_0_c h1_1 h1_2 h2_0 h2_1 h2_2 h3 h4 _ K).trans ?_
    simp only [ih]
    rfl
def E_s_l01DrawSize_l0_s2 (α : Type) (N : Nat) : Env α := (A_s_l01DrawSize_l0 α N).addLoop2 122 3 (loopSum2 ((A_s_l01DrawSize_l0 α N).ann 122 3) 1 s_l01DrawSize_l0_s2_p (fun l K => match l with
    | [.i t1, .i t7, .n h0_n, .f h0, .n h1_0_n, .n h1_0_l, .n h1_0_c, .i h1_1, .i h1_2, .i h2_0, .f h2_1, .f h2_2, .f h3, .f h4] => s_l01DrawSize_l0_s2 none t1 h0_n h0 h1_0_n h1_0_l h1_0_c h1_1 h1_2 h2_0 h2_1 h2_2 h3 N t7 h4 (fun h4_ => K (.exit 0) (buildS s_l01DrawSize_l0_s2_o0 [.i t1, .n h0_n, .f h0, .n h1_0_n, .n h1_0_l, .n h1_0_c, .i h1_1, .i h1_2, .i h2_0, .f h2_1, .f h2_2, .f h3, .f h4_]))
    | _ => none) ((A_s_l01DrawSize_l0 α N).ls 122 3))
theorem E_s_l01DrawSize_l0_s2_ok {α : Type} (N : Nat) : EnvOk Try.prog (E_s_l01DrawSize_l0_s2 α N) := (A_s_l01DrawSize_l0_ok N).addLoop2 Try.func122 (by kernel_rfl) (loopSum_ok prog_mixed prog_names (A_s_l01DrawSize_l0_ok N) Try.func122 (by kernel_rfl) (d := 1) (ro := 1) fun l K r h => by
  split at h
  · exact (s_l01DrawSize_l0_s2_loop N _ _ _ _ _ _ _ _ _ _ _ _ K N _ _).trans h
  · cases h)

def A_s_l01DrawSize_l1 (α : Type) (N : Nat) : Env α := (E_s_l01DrawSize_l0_s2 α N).addAnn 122 14 { head := [1, 4, 5, 11, 12], grow := [], out := [4, 11], ret := [4] }
theorem A_s_l01DrawSize_l1_ok {α : Type} (N : Nat) : EnvOk Try.prog (A_s_l01DrawSize_l1 α N) := (E_s_l01DrawSize_l0_s2_ok N).addAnn

/-- spec.l01DrawSize, loop -/
def s_l01DrawSize_l1_s2_p : SPat := ⟨[.undef, .int .i64, .undef, .undef, .ptr ⟨⟨2, 0⟩, 0, 0, 1⟩, .ptr ⟨⟨3, 0⟩, 0, 0, 8⟩, .undef, .undef, .undef, .undef, .undef, .ptr ⟨⟨5, 0⟩, 0, 0, 1⟩, .int .i64] ++ List.replicate 61 .undef, [[.intsV .u8], [.vals [.sliceV 0 0 0 1 false, .int .i64, .int .u64]], [.vals [.int .i64], .ints .u8 8, .ints .u8 8], [.ints .u8 8], [.ints .u8 8], [.vals [.int .i64], .ints .u8 8, .ints .u8 8]]⟩
def s_l01DrawSize_l1_s2_o0 : SPat := ⟨[.undef, .undef, .undef, .undef, .ptr ⟨⟨2, 0⟩, 0, 0, 1⟩, .undef, .undef, .undef, .undef, .undef, .undef, .ptr ⟨⟨5, 0⟩, 0, 0, 1⟩] ++ List.replicate 62 .undef, [[.intsV .u8], [.vals [.sliceV 0 0 0 1 false, .int .i64, .int .u64]], [.vals [.int .i64], .ints .u8 8, .ints .u8 8], [.ints .u8 8], [.ints .u8 8], [.vals [.int .i64], .ints .u8 8, .ints .u8 8]]⟩
theorem s_l01DrawSize_l1_s2_round {α : Type} (N : Nat) (t1 : Int) (t12 : Int) (h0_n : Nat) (h0 : Nat → Int) (h1_0_n : Nat) (h1_0_l : Nat) (h1_0_c : Nat) (h1_1 : Int) (h1_2 : Int) (h2_0 : Int) (h2_1 : Nat → Int) (h2_2 : Nat → Int) (h3 : Nat → Int) (h4 : Nat → Int) (h5_0 : Int) (h5_1 : Nat → Int) (h5_2 : Nat → Int) (kn : St → Option α) (K : AExit → St → Option α) :
    roundK Try.prog (A_s_l01DrawSize_l1 α N) 1 1 122 Try.f122 14 6 (buildS s_l01DrawSize_l1_s2_p [.i t1, .i t12, .n h0_n, .f h0, .n h1_0_n, .n h1_0_l, .n h1_0_c, .i h1_1, .i h1_2, .i h2_0, .f h2_1, .f h2_2, .f h3, .f h4, .i h5_0, .f h5_1, .f h5_2]) kn K = s_l01DrawSize_l1_s2_s none t1 h0_n h0 h1_0_n h1_0_l h1_0_c h1_1 h1_2 h2_0 h2_1 h2_2 h3 h4 h5_0 h5_1 t12 h5_2 (fun t12 h5_2 => kn (buildS s_l01DrawSize_l1_s2_p [.i t1, .i t12, .n h0_n, .f h0, .n h1_0_n, .n h1_0_l, .n h1_0_c, .i h1_1, .i h1_2, .i h2_0, .f h2_1, .f h2_2, .f h3, .f h4, .i h5_0, .f h5_1, .f h5_2])) (fun h5_2_ => K (.exit 2) (buildS s_l01DrawSize_l1_s2_o0 [.n h0_n, .f h0, .n h1_0_n, .n h1_0_l, .n h1_0_c, .i h1_1, .i h1_2, .i h2_0, .f h2_1, .f h2_2, .f h3, .f h4, .i h5_0, .f h5_1, .f h5_2_])) := by kernel_rfl
theorem s_l01DrawSize_l1_s2_loop {α : Type} (N : Nat) (t1 : Int) (h0_n : Nat) (h0 : Nat → Int) (h1_0_n : Nat) (h1_0_l : Nat) (h1_0_c : Nat) (h1_1 : Int) (h1_2 : Int) (h2_0 : Int) (h2_1 : Nat → Int) (h2_2 : Nat → Int) (h3 : Nat → Int) (h4 : Nat → Int) (h5_0 : Int) (h5_1 : Nat → Int) (K : AExit → St → Option α) : ∀ (m : Nat) (t12 : Int) (h5_2 : Nat → Int),
    loopN (trimSt ((A_s_l01DrawSize_l1 α N).ann 122 14).head ((A_s_l01DrawSize_l1 α N).ann 122 14).grow 6) (bodyK Try.prog (A_s_l01DrawSize_l1 α N) 1 1 122 Try.f122 14) m (buildS s_l01DrawSize_l1_s2_p [.i t1, .i t12, .n h0_n, .f h0, .n h1_0_n, .n h1_0_l, .n h1_0_c, .i h1_1, .i h1_2, .i h2_0, .f h2_1, .f h2_2, .f h3, .f h4, .i h5_0, .f h5_1, .f h5_2]) (leaveLoop ((A_s_l01DrawSize_l1 α N).ann 122 14) 6 K) = s_l01DrawSize_l1_s2 none t1 h0_n h0 h1_0_n h1_0_l h1_0_c h1_1 h1_2 h2_0 h2_1 h2_2 h3 h4 h5_0 h5_1 m t12 h5_2 (fun h5_2_ => K (.exit 2) (buildS s_l01DrawSize_l1_s2_o0 [.n h0_n, .f h0, .n h1_0_n, .n h1_0_l, .n h1_0_c, .i h1_1, .i h1_2, .i h2_0, .f h2_1, .f h2_2, .f h3, .f h4, .i h5_0, .f h5_1, .f h5_2_])) := by
  intro m
  induction m with
  | zero => intros; rfl
  | succ m ih =>
    intro t12 h5_2
    rw [loopN_round]
    refine (s_l01DrawSize_l1_s2_round N t1 t12 h0_n h0 h1_0_n h1_0_l h1_0_c h1_1 h1_2 h2_0 h2_1 h2_2 h3 h4 h5_0 h5_1 h5_2 _ K).trans ?_
    simp only [ih]
    rfl
def E_s_l01DrawSize_l1_s2 (α : Type) (N : Nat) : Env α := (A_s_l01DrawSize_l1 α N).addLoop2 122 14 (loopSum2 ((A_s_l01DrawSize_l1 α N).ann 122 14) 1 s_l01DrawSize_l1_s2_p (fun l K => match l with
    | [.i t1, .i t12, .n h0_n, .f h0, .n h1_0_n, .n h1_0_l, .n h1_0_c, .i h1_1, .i h1_2, .i h2_0, .f h2_1, .f h2_2, .f h3, .f h4, .i h5_0, .f h5_1, .f h5_2] => s_l01DrawSize_l1_s2 none t1 h0_n h0 h1_0_n h1_0_l h1_0_c h1_1 h1_2 h2_0 h2_1 h2_2 h3 h4 h5_0 h5_1 N t12 h5_2 (fun h5_2_ => K (.exit 2) (buildS s_l01DrawSize_l1_s2_o0 [.n h0_n, .f h0, .n h1_0_n, .n h1_0_l, .n h1_0_c, .i h1_1, .i h1_2, .i h2_0, .f h2_1, .f h2_2, .f h3, .f h4, .i h5_0, .f h5_1, .f h5_2_]))
    | _ => none) ((A_s_l01DrawSize_l1 α N).ls 122 14))
theorem E_s_l01DrawSize_l1_s2_ok {α : Type} (N : Nat) : EnvOk Try.prog (E_s_l01DrawSize_l1_s2 α N) := (A_s_l01DrawSize_l1_ok N).addLoop2 Try.func122 (by kernel_rfl) (loopSum_ok prog_mixed prog_names (A_s_l01DrawSize_l1_ok N) Try.func122 (by kernel_rfl) (d := 1) (ro := 1) fun l K r h => by
  split at h
  · exact (s_l01DrawSize_l1_s2_loop N _ _ _ _ _ _ _ _ _ _ _ _ _ _ _ K N _ _).trans h
  · cases h)

/-- spec.l01DrawSize -/
def s_l01DrawSize_s2_a : SPat := ⟨[.ptr ⟨⟨1, 0⟩, 0, 0, 3⟩, .int .i64], [[.intsV .u8], [.vals [.sliceV 0 0 0 1 false, .int .i64, .int .u64]]]⟩
def s_l01DrawSize_s2_r0 : SPat := ⟨[.agg [.vals [.int .i64], .ints .u8 8, .ints .u8 8]], [[.intsV .u8], [.vals [.sliceV 0 0 0 1 false, .int .i64, .int .u64]]]⟩
theorem s_l01DrawSize_s2_run {α : Type} (N : Nat) (a1 : Int) (h0_n : Nat) (h0 : Nat → Int) (h1_0_n : Nat) (h1_0_l : Nat) (h1_0_c : Nat) (h1_1 : Int) (h1_2 : Int) (K : AV → Heap → Option α) :
    callK Try.prog (E_s_l01DrawSize_l1_s2 α N) 1 122 1 (buildS s_l01DrawSize_s2_a [.i a1, .n h0_n, .f h0, .n h1_0_n, .n h1_0_l, .n h1_0_c, .i h1_1, .i h1_2]).t (buildS s_l01DrawSize_s2_a [.i a1, .n h0_n, .f h0, .n h1_0_n, .n h1_0_l, .n h1_0_c, .i h1_1, .i h1_2]).h K = s_l01DrawSize_s2 none N a1 h0_n h0 h1_0_n h1_0_l h1_0_c h1_1 h1_2 (fun r_1_ r_2_ h1_1_ h1_2_ => retK (buildS s_l01DrawSize_s2_r0 [.i a1, .f r_1_, .f r_2_, .n h0_n, .f h0, .n h1_0_n, .n h1_0_l, .n h1_0_c, .i h1_1_, .i h1_2_]) K) := by kernel_rfl
def E_s_l01DrawSize_s2 (α : Type) (N : Nat) : Env α := (E_s_l01DrawSize_l1_s2 α N).addFun 122 false 1 s_l01DrawSize_s2_a (fun l K => match l with
    | [.i a1, .n h0_n, .f h0, .n h1_0_n, .n h1_0_l, .n h1_0_c, .i h1_1, .i h1_2] => s_l01DrawSize_s2 none N a1 h0_n h0 h1_0_n h1_0_l h1_0_c h1_1 h1_2 (fun r_1_ r_2_ h1_1_ h1_2_ => retK (buildS s_l01DrawSize_s2_r0 [.i a1, .f r_1_, .f r_2_, .n h0_n, .f h0, .n h1_0_n, .n h1_0_l, .n h1_0_c, .i h1_1_, .i h1_2_]) K)
    | _ => none)
theorem E_s_l01DrawSize_s2_ok {α : Type} (N : Nat) : EnvOk Try.prog (E_s_l01DrawSize_s2 α N) := (E_s_l01DrawSize_l1_s2_ok N).addFun prog_mixed prog_names (d := 1) fun l K r h => by
  split at h
  · exact (s_l01DrawSize_s2_run N _ _ _ _ _ _ _ _ K).trans h
  · cases h

/-- spec.l01Pick -/
def s_l01Pick_s4_a : SPat := ⟨[.ptr ⟨⟨1, 0⟩, 0, 0, 3⟩, .slice ⟨⟨2, 0⟩, 0, 0, 5⟩ 5 5 1 true], [[.intsV .u8], [.vals [.sliceV 0 0 0 1 false, .int .i64, .int .u64]], [.vec .i64]]⟩
def s_l01Pick_s4_r0 : SPat := ⟨[.int .i64], [[.intsV .u8], [.vals [.sliceV 0 0 0 1 false, .int .i64, .int .u64]], [.vec .i64]]⟩
theorem s_l01Pick_s4_run {α : Type} (N : Nat) (h0_n : Nat) (h0 : Nat → Int) (h1_0_n : Nat) (h1_0_l : Nat) (h1_0_c : Nat) (h1_1 : Int) (h1_2 : Int) (h2 : List Int) (K : AV → Heap → Option α) :
    callK Try.prog (E_s_l01DrawSize_s2 α N) 1 115 1 (buildS s_l01Pick_s4_a [.n h0_n, .f h0, .n h1_0_n, .n h1_0_l, .n h1_0_c, .i h1_1, .i h1_2, .l h2]).t (buildS s_l01Pick_s4_a [.n h0_n, .f h0, .n h1_0_n, .n h1_0_l, .n h1_0_c, .i h1_1, .i h1_2, .l h2]).h K = s_l01Pick_s4 none N h0_n h0 h1_0_n h1_0_l h1_0_c h1_1 h1_2 h2 (fun r__ h1_1_ h1_2_ => retK (buildS s_l01Pick_s4_r0 [.i r__, .n h0_n, .f h0, .n h1_0_n, .n h1_0_l, .n h1_0_c, .i h1_1_, .i h1_2_, .l h2]) K) := by kernel_rfl
def E_s_l01Pick_s4 (α : Type) (N : Nat) : Env α := (E_s_l01DrawSize_s2 α N).addFun 115 false 1 s_l01Pick_s4_a (fun l K => match l with
    | [.n h0_n, .f h0, .n h1_0_n, .n h1_0_l, .n h1_0_c, .i h1_1, .i h1_2, .l h2] => s_l01Pick_s4 none N h0_n h0 h1_0_n h1_0_l h1_0_c h1_1 h1_2 h2 (fun r__ h1_1_ h1_2_ => retK (buildS s_l01Pick_s4_r0 [.i r__, .n h0_n, .f h0, .n h1_0_n, .n h1_0_l, .n h1_0_c, .i h1_1_, .i h1_2_, .l h2]) K)
    | _ => none)
theorem E_s_l01Pick_s4_ok {α : Type} (N : Nat) : EnvOk Try.prog (E_s_l01Pick_s4 α N) := (E_s_l01DrawSize_s2_ok N).addFun prog_mixed prog_names (d := 1) fun l K r h => by
  split at h
  · exact (s_l01Pick_s4_run N _ _ _ _ _ _ _ _ K).trans h
  · cases h

def A_s_l01Draw_l0 (α : Type) (N : Nat) : Env α := (E_s_l01Pick_s4 α N).addAnn 192 7 { head := [0, 2, 3, 4, 5, 6], grow := [], out := [0, 2, 4, 5], ret := [2] }
theorem A_s_l01Draw_l0_ok {α : Type} (N : Nat) : EnvOk Try.prog (A_s_l01Draw_l0 α N) := (E_s_l01Pick_s4_ok N).addAnn

/-- spec.l01Draw, loop -/
def s_l01Draw_l0_s2_p : SPat := ⟨[.ptr ⟨⟨1, 0⟩, 0, 0, 3⟩, .undef, .ptr ⟨⟨2, 0⟩, 0, 0, 1⟩, .int .i64, .int .i64, .ptr ⟨⟨3, 0⟩, 0, 0, 1⟩, .int .i64] ++ List.replicate 55 .undef, [[.intsV .u8], [.vals [.sliceV 0 0 0 1 false, .int .i64, .int .u64]], [.vals [.int .i64], .ints .u8 8, .ints .u8 8], [.vals [.int .i64], .ints .u8 8, .ints .u8 8]]⟩
def s_l01Draw_l0_s2_o0 : SPat := ⟨[.ptr ⟨⟨1, 0⟩, 0, 0, 3⟩, .undef, .ptr ⟨⟨2, 0⟩, 0, 0, 1⟩, .undef, .int .i64, .ptr ⟨⟨3, 0⟩, 0, 0, 1⟩] ++ List.replicate 56 .undef, [[.intsV .u8], [.vals [.sliceV 0 0 0 1 false, .int .i64, .int .u64]], [.vals [.int .i64], .ints .u8 8, .ints .u8 8], [.vals [.int .i64], .ints .u8 8, .ints .u8 8]]⟩
theorem s_l01Draw_l0_s2_round {α : Type} (N : Nat) (p : Int) (n : Int) (i : Int) (h0_n : Nat) (h0 : Nat → Int) (h1_0_n : Nat) (h1_0_l : Nat) (h1_0_c : Nat) (h1_1 : Int) (h1_2 : Int) (h2_0 : Int) (h2_1 : Nat → Int) (h2_2 : Nat → Int) (h3_0 : Int) (h3_1 : Nat → Int) (h3_2 : Nat → Int) (kn : St → Option α) (K : AExit → St → Option α) :
    roundK Try.prog (A_s_l01Draw_l0 α N) 1 1 192 Try.f192 7 4 (buildS s_l01Draw_l0_s2_p [.i p, .i n, .i i, .n h0_n, .f h0, .n h1_0_n, .n h1_0_l, .n h1_0_c, .i h1_1, .i h1_2, .i h2_0, .f h2_1, .f h2_2, .i h3_0, .f h3_1, .f h3_2]) kn K = s_l01Draw_l0_s2_s none p n h0_n h0 h1_0_n h1_0_l h1_0_c h1_1 h1_2 h2_0 h2_1 h2_2 h3_0 i h3_1 h3_2 (fun i h3_1 h3_2 => kn (buildS s_l01Draw_l0_s2_p [.i p, .i n, .i i, .n h0_n, .f h0, .n h1_0_n, .n h1_0_l, .n h1_0_c, .i h1_1, .i h1_2, .i h2_0, .f h2_1, .f h2_2, .i h3_0, .f h3_1, .f h3_2])) (fun h3_1_ h3_2_ => K (.exit 1) (buildS s_l01Draw_l0_s2_o0 [.i n, .n h0_n, .f h0, .n h1_0_n, .n h1_0_l, .n h1_0_c, .i h1_1, .i h1_2, .i h2_0, .f h2_1, .f h2_2, .i h3_0, .f h3_1_, .f h3_2_])) := by kernel_rfl
theorem s_l01Draw_l0_s2_loop {α : Type} (N : Nat) (p : Int) (n : Int) (h0_n : Nat) (h0 : Nat → Int) (h1_0_n : Nat) (h1_0_l : Nat) (h1_0_c : Nat) (h1_1 : Int) (h1_2 : Int) (h2_0 : Int) (h2_1 : Nat → Int) (h2_2 : Nat → Int) (h3_0 : Int) (K : AExit → St → Option α) : ∀ (m : Nat) (i : Int) (h3_1 : Nat → Int) (h3_2 : Nat → Int),
    loopN (trimSt ((A_s_l01Draw_l0 α N).ann 192 7).head ((A_s_l01Draw_l0 α N).ann 192 7).grow 4) (bodyK Try.prog (A_s_l01Draw_l0 α N) 1 1 192 Try.f192 7) m (buildS s_l01Draw_l0_s2_p [.i p, .i n, .i i, .n h0_n, .f h0, .n h1_0_n, .n h1_0_l, .n h1_0_c, .i h1_1, .i h1_2, .i h2_0, .f h2_1, .f h2_2, .i h3_0, .f h3_1, .f h3_2]) (leaveLoop ((A_s_l01Draw_l0 α N).ann 192 7) 4 K) = s_l01Draw_l0_s2 none p n h0_n h0 h1_0_n h1_0_l h1_0_c h1_1 h1_2 h2_0 h2_1 h2_2 h3_0 m i h3_1 h3_2 (fun h3_1_ h3_2_ => K (.exit 1) (buildS s_l01Draw_l0_s2_o0 [.i n, .n h0_n, .f h0, .n h1_0_n, .n h1_0_l, .n h1_0_c, .i h1_1, .i h1_2, .i h2_0, .f h2_1, .f h2_2, .i h3_0, .f h3_1_, .f h3_2_])) := by
  intro m
  induction m with
  | zero => intros; rfl
  | succ m ih =>
    intro i h3_1 h3_2
    rw [loopN_round]
    refine (s_l01Draw_l0_s2_round N p n i h0_n h0 h1_0_n h1_0_l h1_0_c h1_1 h1_2 h2_0 h2_1 h2_2 h3_0 h3_1 h3_2 _ K).trans ?_
    simp only [ih]
    rfl
def E_s_l01Draw_l0_s2 (α : Type) (N : Nat) : Env α := (A_s_l01Draw_l0 α N).addLoop2 192 7 (loopSum2 ((A_s_l01Draw_l0 α N).ann 192 7) 1 s_l01Draw_l0_s2_p (fun l K => match l with
    | [.i p, .i n, .i i, .n h0_n, .f h0, .n h1_0_n, .n h1_0_l, .n h1_0_c, .i h1_1, .i h1_2, .i h2_0, .f h2_1, .f h2_2, .i h3_0, .f h3_1, .f h3_2] => s_l01Draw_l0_s2 none p n h0_n h0 h1_0_n h1_0_l h1_0_c h1_1 h1_2 h2_0 h2_1 h2_2 h3_0 N i h3_1 h3_2 (fun h3_1_ h3_2_ => K (.exit 1) (buildS s_l01Draw_l0_s2_o0 [.i n, .n h0_n, .f h0, .n h1_0_n, .n h1_0_l, .n h1_0_c, .i h1_1, .i h1_2, .i h2_0, .f h2_1, .f h2_2, .i h3_0, .f h3_1_, .f h3_2_]))
    | _ => none) ((A_s_l01Draw_l0 α N).ls 192 7))
theorem E_s_l01Draw_l0_s2_ok {α : Type} (N : Nat) : EnvOk Try.prog (E_s_l01Draw_l0_s2 α N) := (A_s_l01Draw_l0_ok N).addLoop2 Try.func192 (by kernel_rfl) (loopSum_ok prog_mixed prog_names (A_s_l01Draw_l0_ok N) Try.func192 (by kernel_rfl) (d := 1) (ro := 1) fun l K r h => by
  split at h
  · exact (s_l01Draw_l0_s2_loop N _ _ _ _ _ _ _ _ _ _ _ _ _ K N _ _ _).trans h
  · cases h)

def A_s_l01Rolled_l0 (α : Type) (N : Nat) : Env α := (E_s_l01Draw_l0_s2 α N).addAnn 120 3 { head := [1, 2, 3, 6, 7, 8, 9], grow := [], out := [6, 8], ret := [6] }
theorem A_s_l01Rolled_l0_ok {α : Type} (N : Nat) : EnvOk Try.prog (A_s_l01Rolled_l0 α N) := (E_s_l01Draw_l0_s2_ok N).addAnn

/-- spec.l01Rolled, loop -/
def s_l01Rolled_l0_p : SPat := ⟨[.undef, .int .i64, .int .i64, .ptr ⟨⟨0, 0⟩, 0, 0, 1⟩, .undef, .undef, .ptr ⟨⟨1, 0⟩, 0, 0, 1⟩, .int .i64, .ptr ⟨⟨2, 0⟩, 0, 0, 1⟩, .int .i64] ++ List.replicate 55 .undef, [[.vals [.int .i64], .ints .u8 8, .ints .u8 8], [.vals [.int .i64], .ints .u8 8, .ints .u8 8], [.vals [.int .i64], .ints .u8 8, .ints .u8 8]]⟩
def s_l01Rolled_l0_o0 : SPat := ⟨[.undef, .undef, .undef, .undef, .undef, .undef, .ptr ⟨⟨1, 0⟩, 0, 0, 1⟩, .undef, .ptr ⟨⟨2, 0⟩, 0, 0, 1⟩] ++ List.replicate 56 .undef, [[.vals [.int .i64], .ints .u8 8, .ints .u8 8], [.vals [.int .i64], .ints .u8 8, .ints .u8 8], [.vals [.int .i64], .ints .u8 8, .ints .u8 8]]⟩
theorem s_l01Rolled_l0_round {α : Type} (N : Nat) (t1 : Int) (t2 : Int) (t7 : Int) (t9 : Int) (h0_0 : Int) (h0_1 : Nat → Int) (h0_2 : Nat → Int) (h1_0 : Int) (h1_1 : Nat → Int) (h1_2 : Nat → Int) (h2_0 : Int) (h2_1 : Nat → Int) (h2_2 : Nat → Int) (kn : St → Option α) (K : AExit → St → Option α) :
    roundK Try.prog (A_s_l01Rolled_l0 α N) 1 0 120 Try.f120 3 3 (buildS s_l01Rolled_l0_p [.i t1, .i t2, .i t7, .i t9, .i h0_0, .f h0_1, .f h0_2, .i h1_0, .f h1_1, .f h1_2, .i h2_0, .f h2_1, .f h2_2]) kn K = s_l01Rolled_l0_s none t1 t2 t7 h0_0 h0_1 h0_2 h1_0 h1_1 h1_2 h2_0 t9 h2_1 h2_2 (fun t9 h2_1 h2_2 => kn (buildS s_l01Rolled_l0_p [.i t1, .i t2, .i t7, .i t9, .i h0_0, .f h0_1, .f h0_2, .i h1_0, .f h1_1, .f h1_2, .i h2_0, .f h2_1, .f h2_2])) (fun h2_1_ h2_2_ => K (.exit 0) (buildS s_l01Rolled_l0_o0 [.i h0_0, .f h0_1, .f h0_2, .i h1_0, .f h1_1, .f h1_2, .i h2_0, .f h2_1_, .f h2_2_])) := by kernel_rfl
theorem s_l01Rolled_l0_loop {α : Type} (N : Nat) (t1 : Int) (t2 : Int) (t7 : Int) (h0_0 : Int) (h0_1 : Nat → Int) (h0_2 : Nat → Int) (h1_0 : Int) (h1_1 : Nat → Int) (h1_2 : Nat → Int) (h2_0 : Int) (K : AExit → St → Option α) : ∀ (m : Nat) (t9 : Int) (h2_1 : Nat → Int) (h2_2 : Nat → Int),
    loopN (trimSt ((A_s_l01Rolled_l0 α N).ann 120 3).head ((A_s_l01Rolled_l0 α N).ann 120 3).grow 3) (bodyK Try.prog (A_s_l01Rolled_l0 α N) 1 0 120 Try.f120 3) m (buildS s_l01Rolled_l0_p [.i t1, .i t2, .i t7, .i t9, .i h0_0, .f h0_1, .f h0_2, .i h1_0, .f h1_1, .f h1_2, .i h2_0, .f h2_1, .f h2_2]) (leaveLoop ((A_s_l01Rolled_l0 α N).ann 120 3) 3 K) = s_l01Rolled_l0 none t1 t2 t7 h0_0 h0_1 h0_2 h1_0 h1_1 h1_2 h2_0 m t9 h2_1 h2_2 (fun h2_1_ h2_2_ => K (.exit 0) (buildS s_l01Rolled_l0_o0 [.i h0_0, .f h0_1, .f h0_2, .i h1_0, .f h1_1, .f h1_2, .i h2_0, .f h2_1_, .f h2_2_])) := by
  intro m
  induction m with
  | zero => intros; rfl
  | succ m ih =>
    intro t9 h2_1 h2_2
    rw [loopN_round]
    refine (s_l01Rolled_l0_round N t1 t2 t7 t9 h0_0 h0_1 h0_2 h1_0 h1_1 h1_2 h2_0 h2_1 h2_2 _ K).trans ?_
    simp only [ih]
    rfl
def E_s_l01Rolled_l0 (α : Type) (N : Nat) : Env α := (A_s_l01Rolled_l0 α N).addLoop2 120 3 (loopSum2 ((A_s_l01Rolled_l0 α N).ann 120 3) 0 s_l01Rolled_l0_p (fun l K => match l with
    | [.i t1, .i t2, .i t7, .i t9, .i h0_0, .f h0_1, .f h0_2, .i h1_0, .f h1_1, .f h1_2, .i h2_0, .f h2_1, .f h2_2] => s_l01Rolled_l0 none t1 t2 t7 h0_0 h0_1 h0_2 h1_0 h1_1 h1_2 h2_0 N t9 h2_1 h2_2 (fun h2_1_ h2_2_ => K (.exit 0) (buildS s_l01Rolled_l0_o0 [.i h0_0, .f h0_1, .f h0_2, .i h1_0, .f h1_1, .f h1_2, .i h2_0, .f h2_1_, .f h2_2_]))
    | _ => none) ((A_s_l01Rolled_l0 α N).ls 120 3))
theorem E_s_l01Rolled_l0_ok {α : Type} (N : Nat) : EnvOk Try.prog (E_s_l01Rolled_l0 α N) := (A_s_l01Rolled_l0_ok N).addLoop2 Try.func120 (by kernel_rfl) (loopSum_ok prog_mixed prog_names (A_s_l01Rolled_l0_ok N) Try.func120 (by kernel_rfl) (d := 1) (ro := 0) fun l K r h => by
  split at h
  · exact (s_l01Rolled_l0_loop N _ _ _ _ _ _ _ _ _ _ K N _ _ _).trans h
  · cases h)

/-- spec.l01Rolled -/
def s_l01Rolled_a : SPat := ⟨[.agg [.vals [.int .i64], .ints .u8 8, .ints .u8 8], .int .i64, .int .i64], []⟩
def s_l01Rolled_r0 : SPat := ⟨[.agg [.vals [.int .i64], .ints .u8 8, .ints .u8 8]], []⟩
theorem s_l01Rolled_run {α : Type} (N : Nat) (g_0 : Int) (g_1 : Nat → Int) (g_2 : Nat → Int) (a1 : Int) (a2 : Int) (K : AV → Heap → Option α) :
    callK Try.prog (E_s_l01Rolled_l0 α N) 1 120 0 (buildS s_l01Rolled_a [.i g_0, .f g_1, .f g_2, .i a1, .i a2]).t (buildS s_l01Rolled_a [.i g_0, .f g_1, .f g_2, .i a1, .i a2]).h K = s_l01Rolled none N g_0 g_1 g_2 a1 a2 (fun r_1_ r_2_ => retK (buildS s_l01Rolled_r0 [.i g_0, .f r_1_, .f r_2_]) K) := by kernel_rfl
def E_s_l01Rolled (α : Type) (N : Nat) : Env α := (E_s_l01Rolled_l0 α N).addFun 120 true 0 s_l01Rolled_a (fun l K => match l with
    | [.i g_0, .f g_1, .f g_2, .i a1, .i a2] => s_l01Rolled none N g_0 g_1 g_2 a1 a2 (fun r_1_ r_2_ => retK (buildS s_l01Rolled_r0 [.i g_0, .f r_1_, .f r_2_]) K)
    | _ => none)
theorem E_s_l01Rolled_ok {α : Type} (N : Nat) : EnvOk Try.prog (E_s_l01Rolled α N) := (E_s_l01Rolled_l0_ok N).addFun prog_mixed prog_names (d := 1) fun l K r h => by
  split at h
  · exact (s_l01Rolled_run N _ _ _ _ _ K).trans h
  · cases h

/-- spec.l01Draw -/
def s_l01Draw_s2_a : SPat := ⟨[.ptr ⟨⟨1, 0⟩, 0, 0, 3⟩], [[.intsV .u8], [.vals [.sliceV 0 0 0 1 false, .int .i64, .int .u64]]]⟩
def s_l01Draw_s2_r0 : SPat := ⟨[.agg [.vals [.int .i64], .ints .u8 8, .ints .u8 8]], [[.intsV .u8], [.vals [.sliceV 0 0 0 1 false, .int .i64, .int .u64]]]⟩
theorem s_l01Draw_s2_run {α : Type} (N : Nat) (h0_n : Nat) (h0 : Nat → Int) (h1_0_n : Nat) (h1_0_l : Nat) (h1_0_c : Nat) (h1_1 : Int) (h1_2 : Int) (K : AV → Heap → Option α) :
    callK Try.prog (E_s_l01Rolled α N) 1 192 1 (buildS s_l01Draw_s2_a [.n h0_n, .f h0, .n h1_0_n, .n h1_0_l, .n h1_0_c, .i h1_1, .i h1_2]).t (buildS s_l01Draw_s2_a [.n h0_n, .f h0, .n h1_0_n, .n h1_0_l, .n h1_0_c, .i h1_1, .i h1_2]).h K = s_l01Draw_s2 none N h0_n h0 h1_0_n h1_0_l h1_0_c h1_1 h1_2 (fun r_0_ r_1_ r_2_ h1_1_ h1_2_ => retK (buildS s_l01Draw_s2_r0 [.i r_0_, .f r_1_, .f r_2_, .n h0_n, .f h0, .n h1_0_n, .n h1_0_l, .n h1_0_c, .i h1_1_, .i h1_2_]) K) := by kernel_rfl
def E_s_l01Draw_s2 (α : Type) (N : Nat) : Env α := (E_s_l01Rolled α N).addFun 192 false 1 s_l01Draw_s2_a (fun l K => match l with
    | [.n h0_n, .f h0, .n h1_0_n, .n h1_0_l, .n h1_0_c, .i h1_1, .i h1_2] => s_l01Draw_s2 none N h0_n h0 h1_0_n h1_0_l h1_0_c h1_1 h1_2 (fun r_0_ r_1_ r_2_ h1_1_ h1_2_ => retK (buildS s_l01Draw_s2_r0 [.i r_0_, .f r_1_, .f r_2_, .n h0_n, .f h0, .n h1_0_n, .n h1_0_l, .n h1_0_c, .i h1_1_, .i h1_2_]) K)
    | _ => none)
theorem E_s_l01Draw_s2_ok {α : Type} (N : Nat) : EnvOk Try.prog (E_s_l01Draw_s2 α N) := (E_s_l01Rolled_ok N).addFun prog_mixed prog_names (d := 1) fun l K r h => by
  split at h
  · exact (s_l01Draw_s2_run N _ _ _ _ _ _ _ K).trans h
  · cases h

/-- spec.l01Broken -/
def s_l01Broken_s2_a : SPat := ⟨[.ptr ⟨⟨1, 0⟩, 0, 0, 3⟩, .agg [.vals [.int .i64], .ints .u8 8, .ints .u8 8]], [[.intsV .u8], [.vals [.sliceV 0 0 0 1 false, .int .i64, .int .u64]]]⟩
def s_l01Broken_s2_r0 : SPat := ⟨[.agg [.vals [.int .i64], .ints .u8 8, .ints .u8 8]], [[.intsV .u8], [.vals [.sliceV 0 0 0 1 false, .int .i64, .int .u64]]]⟩
theorem s_l01Broken_s2_run {α : Type} (N : Nat) (g_0 : Int) (g_1 : Nat → Int) (g_2 : Nat → Int) (h0_n : Nat) (h0 : Nat → Int) (h1_0_n : Nat) (h1_0_l : Nat) (h1_0_c : Nat) (h1_1 : Int) (h1_2 : Int) (K : AV → Heap → Option α) :
    callK Try.prog (E_s_l01Draw_s2 α N) 1 121 1 (buildS s_l01Broken_s2_a [.i g_0, .f g_1, .f g_2, .n h0_n, .f h0, .n h1_0_n, .n h1_0_l, .n h1_0_c, .i h1_1, .i h1_2]).t (buildS s_l01Broken_s2_a [.i g_0, .f g_1, .f g_2, .n h0_n, .f h0, .n h1_0_n, .n h1_0_l, .n h1_0_c, .i h1_1, .i h1_2]).h K = s_l01Broken_s2 none N g_0 g_1 g_2 h0_n h0 h1_0_n h1_0_l h1_0_c h1_1 h1_2 (fun r_0_ r_1_ r_2_ h1_1_ h1_2_ => retK (buildS s_l01Broken_s2_r0 [.i r_0_, .f r_1_, .f r_2_, .n h0_n, .f h0, .n h1_0_n, .n h1_0_l, .n h1_0_c, .i h1_1_, .i h1_2_]) K) := by kernel_rfl
def E_s_l01Broken_s2 (α : Type) (N : Nat) : Env α := (E_s_l01Draw_s2 α N).addFun 121 false 1 s_l01Broken_s2_a (fun l K => match l with
    | [.i g_0, .f g_1, .f g_2, .n h0_n, .f h0, .n h1_0_n, .n h1_0_l, .n h1_0_c, .i h1_1, .i h1_2] => s_l01Broken_s2 none N g_0 g_1 g_2 h0_n h0 h1_0_n h1_0_l h1_0_c h1_1 h1_2 (fun r_0_ r_1_ r_2_ h1_1_ h1_2_ => retK (buildS s_l01Broken_s2_r0 [.i r_0_, .f r_1_, .f r_2_, .n h0_n, .f h0, .n h1_0_n, .n h1_0_l, .n h1_0_c, .i h1_1_, .i h1_2_]) K)
    | _ => none)
theorem E_s_l01Broken_s2_ok {α : Type} (N : Nat) : EnvOk Try.prog (E_s_l01Broken_s2 α N) := (E_s_l01Draw_s2_ok N).addFun prog_mixed prog_names (d := 1) fun l K r h => by
  split at h
  · exact (s_l01Broken_s2_run N _ _ _ _ _ _ _ _ _ _ K).trans h
  · cases h

/-- spec.l01Spoil -/
def s_l01Spoil_a : SPat := ⟨[.ptr ⟨⟨1, 0⟩, 0, 0, 3⟩], [[.intsV .u8], [.vals [.sliceV 0 0 0 1 false, .int .i64, .int .u64]]]⟩
def s_l01Spoil_r0 : SPat := ⟨[.agg [.vals [.int .i64], .ints .u8 8, .ints .u8 8]], [[.intsV .u8], [.vals [.sliceV 0 0 0 1 false, .int .i64, .int .u64]]]⟩
theorem s_l01Spoil_run {α : Type} (N : Nat) (h0_n : Nat) (h0 : Nat → Int) (h1_0_n : Nat) (h1_0_l : Nat) (h1_0_c : Nat) (h1_1 : Int) (h1_2 : Int) (K : AV → Heap → Option α) :
    callK Try.prog (E_s_l01Broken_s2 α N) 1 103 1 (buildS s_l01Spoil_a [.n h0_n, .f h0, .n h1_0_n, .n h1_0_l, .n h1_0_c, .i h1_1, .i h1_2]).t (buildS s_l01Spoil_a [.n h0_n, .f h0, .n h1_0_n, .n h1_0_l, .n h1_0_c, .i h1_1, .i h1_2]).h K = s_l01Spoil none N h0_n h0 h1_0_n h1_0_l h1_0_c h1_1 h1_2 (fun r_0_ r_1_ r_2_ h1_1_ h1_2_ => retK (buildS s_l01Spoil_r0 [.i r_0_, .f r_1_, .f r_2_, .n h0_n, .f h0, .n h1_0_n, .n h1_0_l, .n h1_0_c, .i h1_1_, .i h1_2_]) K) := by kernel_rfl
def E_s_l01Spoil (α : Type) (N : Nat) : Env α := (E_s_l01Broken_s2 α N).addFun 103 false 1 s_l01Spoil_a (fun l K => match l with
    | [.n h0_n, .f h0, .n h1_0_n, .n h1_0_l, .n h1_0_c, .i h1_1, .i h1_2] => s_l01Spoil none N h0_n h0 h1_0_n h1_0_l h1_0_c h1_1 h1_2 (fun r_0_ r_1_ r_2_ h1_1_ h1_2_ => retK (buildS s_l01Spoil_r0 [.i r_0_, .f r_1_, .f r_2_, .n h0_n, .f h0, .n h1_0_n, .n h1_0_l, .n h1_0_c, .i h1_1_, .i h1_2_]) K)
    | _ => none)
theorem E_s_l01Spoil_ok {α : Type} (N : Nat) : EnvOk Try.prog (E_s_l01Spoil α N) := (E_s_l01Broken_s2_ok N).addFun prog_mixed prog_names (d := 1) fun l K r h => by
  split at h
  · exact (s_l01Spoil_run N _ _ _ _ _ _ _ K).trans h
  · cases h

/-- (*impl.front).add -/
def i_front_add_a : SPat := ⟨[.ptr ⟨⟨0, 0⟩, 0, 0, 3⟩, .agg [.vals [.int .i64, .int .i64, .int .i64, .bool]]], [[.ints .i64 3]]⟩
def i_front_add_r0 : SPat := ⟨[.tuple []], [[.ints .i64 3]]⟩
theorem i_front_add_run {α : Type} (N : Nat) (c_0 : Int) (c_1 : Int) (c_2 : Int) (c_3 : Bool) (h0 : Nat → Int) (K : AV → Heap → Option α) :
    callK Try.prog (E_s_l01Spoil α N) 1 97 0 (buildS i_front_add_a [.i c_0, .i c_1, .i c_2, .b c_3, .f h0]).t (buildS i_front_add_a [.i c_0, .i c_1, .i c_2, .b c_3, .f h0]).h K = i_front_add none N c_0 c_1 c_2 c_3 h0 (fun h0_ => retK (buildS i_front_add_r0 [.f h0_]) K) := by kernel_rfl
def E_i_front_add (α : Type) (N : Nat) : Env α := (E_s_l01Spoil α N).addFun 97 false 0 i_front_add_a (fun l K => match l with
    | [.i c_0, .i c_1, .i c_2, .b c_3, .f h0] => i_front_add none N c_0 c_1 c_2 c_3 h0 (fun h0_ => retK (buildS i_front_add_r0 [.f h0_]) K)
    | _ => none)
theorem E_i_front_add_ok {α : Type} (N : Nat) : EnvOk Try.prog (E_i_front_add α N) := (E_s_l01Spoil_ok N).addFun prog_mixed prog_names (d := 1) fun l K r h => by
  split at h
  · exact (i_front_add_run N _ _ _ _ _ K).trans h
  · cases h

def A_i_Grid_front_l0 (α : Type) (N : Nat) : Env α := (E_i_front_add α N).addAnn 142 3 { head := [2, 3, 8, 9, 10], grow := [], out := [2, 3], ret := [2] }
theorem A_i_Grid_front_l0_ok {α : Type} (N : Nat) : EnvOk Try.prog (A_i_Grid_front_l0 α N) := (E_i_front_add_ok N).addAnn

/-- (impl.Grid).front, loop -/
def i_Grid_front_l0_p : SPat := ⟨[.undef, .undef, .ptr ⟨⟨1, 0⟩, 0, 0, 3⟩, .ptr ⟨⟨2, 0⟩, 0, 0, 3⟩, .undef, .undef, .undef, .undef, .sliceV 3 0 0 4 false, .int .i64, .int .i64] ++ List.replicate 7 .undef, [[.vals [.int .i64], .ints .u8 8, .ints .u8 8], [.ints .i64 3], [.ints .i64 3], [.recs [some IntKind.i64, some IntKind.i64, some IntKind.i64, none]]]⟩
def i_Grid_front_l0_o0 : SPat := ⟨[.undef, .undef, .ptr ⟨⟨1, 0⟩, 0, 0, 3⟩, .ptr ⟨⟨2, 0⟩, 0, 0, 3⟩] ++ List.replicate 14 .undef, [[.vals [.int .i64], .ints .u8 8, .ints .u8 8], [.ints .i64 3], [.ints .i64 3], [.recs [some IntKind.i64, some IntKind.i64, some IntKind.i64, none]]]⟩
theorem i_Grid_front_l0_round {α : Type} (N : Nat) (t8_n : Nat) (t8_l : Nat) (t8_c : Nat) (t9 : Int) (t10 : Int) (h0_0 : Int) (h0_1 : Nat → Int) (h0_2 : Nat → Int) (h1 : Nat → Int) (h2 : Nat → Int) (h3 : List Int) (kn : St → Option α) (K : AExit → St → Option α) :
    roundK Try.prog (A_i_Grid_front_l0 α N) 1 0 142 Try.f142 3 4 (buildS i_Grid_front_l0_p [.n t8_n, .n t8_l, .n t8_c, .i t9, .i t10, .i h0_0, .f h0_1, .f h0_2, .f h1, .f h2, .l h3]) kn K = i_Grid_front_l0_s none N t8_n t8_l t8_c t9 h0_0 h0_1 h0_2 h1 h3 t10 h2 (fun t10 h2 => kn (buildS i_Grid_front_l0_p [.n t8_n, .n t8_l, .n t8_c, .i t9, .i t10, .i h0_0, .f h0_1, .f h0_2, .f h1, .f h2, .l h3])) (fun h2_ => K (.exit 0) (buildS i_Grid_front_l0_o0 [.i h0_0, .f h0_1, .f h0_2, .f h1, .f h2_, .l h3])) := by kernel_rfl
theorem i_Grid_front_l0_loop {α : Type} (N : Nat) (t8_n : Nat) (t8_l : Nat) (t8_c : Nat) (t9 : Int) (h0_0 : Int) (h0_1 : Nat → Int) (h0_2 : Nat → Int) (h1 : Nat → Int) (h3 : List Int) (K : AExit → St → Option α) : ∀ (m : Nat) (t10 : Int) (h2 : Nat → Int),
    loopN (trimSt ((A_i_Grid_front_l0 α N).ann 142 3).head ((A_i_Grid_front_l0 α N).ann 142 3).grow 4) (bodyK Try.prog (A_i_Grid_front_l0 α N) 1 0 142 Try.f142 3) m (buildS i_Grid_front_l0_p [.n t8_n, .n t8_l, .n t8_c, .i t9, .i t10, .i h0_0, .f h0_1, .f h0_2, .f h1, .f h2, .l h3]) (leaveLoop ((A_i_Grid_front_l0 α N).ann 142 3) 4 K) = i_Grid_front_l0 none N t8_n t8_l t8_c t9 h0_0 h0_1 h0_2 h1 h3 m t10 h2 (fun h2_ => K (.exit 0) (buildS i_Grid_front_l0_o0 [.i h0_0, .f h0_1, .f h0_2, .f h1, .f h2_, .l h3])) := by
  intro m
  induction m with
  | zero => intros; rfl
  | succ m ih =>
    intro t10 h2
    rw [loopN_round]
    refine (i_Grid_front_l0_round N t8_n t8_l t8_c t9 t10 h0_0 h0_1 h0_2 h1 h2 h3 _ K).trans ?_
    simp only [ih]
    rfl
def E_i_Grid_front_l0 (α : Type) (N : Nat) : Env α := (A_i_Grid_front_l0 α N).addLoop2 142 3 (loopSum2 ((A_i_Grid_front_l0 α N).ann 142 3) 0 i_Grid_front_l0_p (fun l K => match l with
    | [.n t8_n, .n t8_l, .n t8_c, .i t9, .i t10, .i h0_0, .f h0_1, .f h0_2, .f h1, .f h2, .l h3] => i_Grid_front_l0 none N t8_n t8_l t8_c t9 h0_0 h0_1 h0_2 h1 h3 N t10 h2 (fun h2_ => K (.exit 0) (buildS i_Grid_front_l0_o0 [.i h0_0, .f h0_1, .f h0_2, .f h1, .f h2_, .l h3]))
    | _ => none) ((A_i_Grid_front_l0 α N).ls 142 3))
theorem E_i_Grid_front_l0_ok {α : Type} (N : Nat) : EnvOk Try.prog (E_i_Grid_front_l0 α N) := (A_i_Grid_front_l0_ok N).addLoop2 Try.func142 (by kernel_rfl) (loopSum_ok prog_mixed prog_names (A_i_Grid_front_l0_ok N) Try.func142 (by kernel_rfl) (d := 1) (ro := 0) fun l K r h => by
  split at h
  · exact (i_Grid_front_l0_loop N _ _ _ _ _ _ _ _ _ K N _ _).trans h
  · cases h)

/-- (impl.Grid).front -/
def i_Grid_front_a : SPat := ⟨[.agg [.vals [.int .i64], .ints .u8 8, .ints .u8 8]], []⟩
def i_Grid_front_r0 : SPat := ⟨[.agg [.ints .i64 3]], []⟩
theorem i_Grid_front_run {α : Type} (N : Nat) (g_0 : Int) (g_1 : Nat → Int) (g_2 : Nat → Int) (K : AV → Heap → Option α) :
    callK Try.prog (E_i_Grid_front_l0 α N) 1 142 0 (buildS i_Grid_front_a [.i g_0, .f g_1, .f g_2]).t (buildS i_Grid_front_a [.i g_0, .f g_1, .f g_2]).h K = i_Grid_front none N g_0 g_1 g_2 (fun r__ => retK (buildS i_Grid_front_r0 [.f r__]) K) := by kernel_rfl
def E_i_Grid_front (α : Type) (N : Nat) : Env α := (E_i_Grid_front_l0 α N).addFun 142 true 0 i_Grid_front_a (fun l K => match l with
    | [.i g_0, .f g_1, .f g_2] => i_Grid_front none N g_0 g_1 g_2 (fun r__ => retK (buildS i_Grid_front_r0 [.f r__]) K)
    | _ => none)
theorem E_i_Grid_front_ok {α : Type} (N : Nat) : EnvOk Try.prog (E_i_Grid_front α N) := (E_i_Grid_front_l0_ok N).addFun prog_mixed prog_names (d := 1) fun l K r h => by
  split at h
  · exact (i_Grid_front_run N _ _ _ K).trans h
  · cases h

def A_i_Grid_writhe_l0 (α : Type) (N : Nat) : Env α := (E_i_Grid_front α N).addAnn 147 3 { head := [3, 7, 8, 9], grow := [], out := [3], ret := [2] }
theorem A_i_Grid_writhe_l0_ok {α : Type} (N : Nat) : EnvOk Try.prog (A_i_Grid_writhe_l0 α N) := (E_i_Grid_front_ok N).addAnn

/-- (impl.Grid).writhe, loop -/
def i_Grid_writhe_l0_p : SPat := ⟨[.undef, .undef, .undef, .int .i64, .undef, .undef, .undef, .sliceV 1 0 0 3 false, .int .i64, .int .i64] ++ List.replicate 9 .undef, [[.vals [.int .i64], .ints .u8 8, .ints .u8 8], [.vec .i64]]⟩
def i_Grid_writhe_l0_o0 : SPat := ⟨[.undef, .undef, .undef, .int .i64] ++ List.replicate 15 .undef, [[.vals [.int .i64], .ints .u8 8, .ints .u8 8], [.vec .i64]]⟩
theorem i_Grid_writhe_l0_round {α : Type} (N : Nat) (sum : Int) (t7_n : Nat) (t7_l : Nat) (t7_c : Nat) (t8 : Int) (t9 : Int) (h0_0 : Int) (h0_1 : Nat → Int) (h0_2 : Nat → Int) (h1 : List Int) (kn : St → Option α) (K : AExit → St → Option α) :
    roundK Try.prog (A_i_Grid_writhe_l0 α N) 1 0 147 Try.f147 3 2 (buildS i_Grid_writhe_l0_p [.i sum, .n t7_n, .n t7_l, .n t7_c, .i t8, .i t9, .i h0_0, .f h0_1, .f h0_2, .l h1]) kn K = i_Grid_writhe_l0_s none t7_n t7_l t7_c t8 h0_0 h0_1 h0_2 h1 sum t9 (fun sum t9 => kn (buildS i_Grid_writhe_l0_p [.i sum, .n t7_n, .n t7_l, .n t7_c, .i t8, .i t9, .i h0_0, .f h0_1, .f h0_2, .l h1])) (fun sum_ => K (.exit 0) (buildS i_Grid_writhe_l0_o0 [.i sum_, .i h0_0, .f h0_1, .f h0_2, .l h1])) := by kernel_rfl
theorem i_Grid_writhe_l0_loop {α : Type} (N : Nat) (t7_n : Nat) (t7_l : Nat) (t7_c : Nat) (t8 : Int) (h0_0 : Int) (h0_1 : Nat → Int) (h0_2 : Nat → Int) (h1 : List Int) (K : AExit → St → Option α) : ∀ (m : Nat) (sum : Int) (t9 : Int),
    loopN (trimSt ((A_i_Grid_writhe_l0 α N).ann 147 3).head ((A_i_Grid_writhe_l0 α N).ann 147 3).grow 2) (bodyK Try.prog (A_i_Grid_writhe_l0 α N) 1 0 147 Try.f147 3) m (buildS i_Grid_writhe_l0_p [.i sum, .n t7_n, .n t7_l, .n t7_c, .i t8, .i t9, .i h0_0, .f h0_1, .f h0_2, .l h1]) (leaveLoop ((A_i_Grid_writhe_l0 α N).ann 147 3) 2 K) = i_Grid_writhe_l0 none t7_n t7_l t7_c t8 h0_0 h0_1 h0_2 h1 m sum t9 (fun sum_ => K (.exit 0) (buildS i_Grid_writhe_l0_o0 [.i sum_, .i h0_0, .f h0_1, .f h0_2, .l h1])) := by
  intro m
  induction m with
  | zero => intros; rfl
  | succ m ih =>
    intro sum t9
    rw [loopN_round]
    refine (i_Grid_writhe_l0_round N sum t7_n t7_l t7_c t8 t9 h0_0 h0_1 h0_2 h1 _ K).trans ?_
    simp only [ih]
    rfl
def E_i_Grid_writhe_l0 (α : Type) (N : Nat) : Env α := (A_i_Grid_writhe_l0 α N).addLoop2 147 3 (loopSum2 ((A_i_Grid_writhe_l0 α N).ann 147 3) 0 i_Grid_writhe_l0_p (fun l K => match l with
    | [.i sum, .n t7_n, .n t7_l, .n t7_c, .i t8, .i t9, .i h0_0, .f h0_1, .f h0_2, .l h1] => i_Grid_writhe_l0 none t7_n t7_l t7_c t8 h0_0 h0_1 h0_2 h1 N sum t9 (fun sum_ => K (.exit 0) (buildS i_Grid_writhe_l0_o0 [.i sum_, .i h0_0, .f h0_1, .f h0_2, .l h1]))
    | _ => none) ((A_i_Grid_writhe_l0 α N).ls 147 3))
theorem E_i_Grid_writhe_l0_ok {α : Type} (N : Nat) : EnvOk Try.prog (E_i_Grid_writhe_l0 α N) := (A_i_Grid_writhe_l0_ok N).addLoop2 Try.func147 (by kernel_rfl) (loopSum_ok prog_mixed prog_names (A_i_Grid_writhe_l0_ok N) Try.func147 (by kernel_rfl) (d := 1) (ro := 0) fun l K r h => by
  split at h
  · exact (i_Grid_writhe_l0_loop N _ _ _ _ _ _ _ _ K N _ _).trans h
  · cases h)

/-- (impl.Grid).writhe -/
def i_Grid_writhe_a : SPat := ⟨[.agg [.vals [.int .i64], .ints .u8 8, .ints .u8 8]], []⟩
def i_Grid_writhe_r0 : SPat := ⟨[.int .i64], []⟩
theorem i_Grid_writhe_run {α : Type} (N : Nat) (g_0 : Int) (g_1 : Nat → Int) (g_2 : Nat → Int) (K : AV → Heap → Option α) :
    callK Try.prog (E_i_Grid_writhe_l0 α N) 1 147 0 (buildS i_Grid_writhe_a [.i g_0, .f g_1, .f g_2]).t (buildS i_Grid_writhe_a [.i g_0, .f g_1, .f g_2]).h K = i_Grid_writhe none N g_0 g_1 g_2 (fun r__ => retK (buildS i_Grid_writhe_r0 [.i r__]) K) := by kernel_rfl
def E_i_Grid_writhe (α : Type) (N : Nat) : Env α := (E_i_Grid_writhe_l0 α N).addFun 147 true 0 i_Grid_writhe_a (fun l K => match l with
    | [.i g_0, .f g_1, .f g_2] => i_Grid_writhe none N g_0 g_1 g_2 (fun r__ => retK (buildS i_Grid_writhe_r0 [.i r__]) K)
    | _ => none)
theorem E_i_Grid_writhe_ok {α : Type} (N : Nat) : EnvOk Try.prog (E_i_Grid_writhe α N) := (E_i_Grid_writhe_l0_ok N).addFun prog_mixed prog_names (d := 1) fun l K r h => by
  split at h
  · exact (i_Grid_writhe_run N _ _ _ K).trans h
  · cases h

/-- (impl.Grid).numbers -/
def i_Grid_numbers_a : SPat := ⟨[.agg [.vals [.int .i64], .ints .u8 8, .ints .u8 8]], []⟩
def i_Grid_numbers_r0 : SPat := ⟨[.slice ⟨⟨0, 0⟩, 0, 0, 2⟩ 2 2 1 true], [[.vec .i64]]⟩
theorem i_Grid_numbers_run {α : Type} (N : Nat) (g_0 : Int) (g_1 : Nat → Int) (g_2 : Nat → Int) (K : AV → Heap → Option α) :
    callK Try.prog (E_i_Grid_writhe α N) 1 138 0 (buildS i_Grid_numbers_a [.i g_0, .f g_1, .f g_2]).t (buildS i_Grid_numbers_a [.i g_0, .f g_1, .f g_2]).h K = i_Grid_numbers none N g_0 g_1 g_2 (fun h0_ => retK (buildS i_Grid_numbers_r0 [.l h0_]) K) := by kernel_rfl
def E_i_Grid_numbers (α : Type) (N : Nat) : Env α := (E_i_Grid_writhe α N).addFun 138 true 0 i_Grid_numbers_a (fun l K => match l with
    | [.i g_0, .f g_1, .f g_2] => i_Grid_numbers none N g_0 g_1 g_2 (fun h0_ => retK (buildS i_Grid_numbers_r0 [.l h0_]) K)
    | _ => none)
theorem E_i_Grid_numbers_ok {α : Type} (N : Nat) : EnvOk Try.prog (E_i_Grid_numbers α N) := (E_i_Grid_writhe_ok N).addFun prog_mixed prog_names (d := 1) fun l K r h => by
  split at h
  · exact (i_Grid_numbers_run N _ _ _ K).trans h
  · cases h

def A_s_l03Writhe_l0 (α : Type) (N : Nat) : Env α := (E_i_Grid_numbers α N).addAnn 156 3 { head := [3, 4, 5], grow := [], out := [4], ret := [2] }
theorem A_s_l03Writhe_l0_ok {α : Type} (N : Nat) : EnvOk Try.prog (A_s_l03Writhe_l0 α N) := (E_i_Grid_numbers_ok N).addAnn

/-- spec.l03Writhe, loop -/
def s_l03Writhe_l0_p : SPat := ⟨[.undef, .undef, .undef, .sliceV 1 0 0 3 false, .int .i64, .int .i64] ++ List.replicate 16 .undef, [[.vals [.int .i64], .ints .u8 8, .ints .u8 8], [.vec .i64]]⟩
def s_l03Writhe_l0_o0 : SPat := ⟨[.undef, .undef, .undef, .undef, .int .i64] ++ List.replicate 17 .undef, [[.vals [.int .i64], .ints .u8 8, .ints .u8 8], [.vec .i64]]⟩
theorem s_l03Writhe_l0_round {α : Type} (N : Nat) (list_n : Nat) (list_l : Nat) (list_c : Nat) (out : Int) (i : Int) (h0_0 : Int) (h0_1 : Nat → Int) (h0_2 : Nat → Int) (h1 : List Int) (kn : St → Option α) (K : AExit → St → Option α) :
    roundK Try.prog (A_s_l03Writhe_l0 α N) 1 0 156 Try.f156 3 2 (buildS s_l03Writhe_l0_p [.n list_n, .n list_l, .n list_c, .i out, .i i, .i h0_0, .f h0_1, .f h0_2, .l h1]) kn K = s_l03Writhe_l0_s none list_n list_l list_c h0_0 h0_1 h0_2 h1 out i (fun out i => kn (buildS s_l03Writhe_l0_p [.n list_n, .n list_l, .n list_c, .i out, .i i, .i h0_0, .f h0_1, .f h0_2, .l h1])) (fun out_ => K (.exit 0) (buildS s_l03Writhe_l0_o0 [.i out_, .i h0_0, .f h0_1, .f h0_2, .l h1])) := by kernel_rfl
theorem s_l03Writhe_l0_loop {α : Type} (N : Nat) (list_n : Nat) (list_l : Nat) (list_c : Nat) (h0_0 : Int) (h0_1 : Nat → Int) (h0_2 : Nat → Int) (h1 : List Int) (K : AExit → St → Option α) : ∀ (m : Nat) (out : Int) (i : Int),
    loopN (trimSt ((A_s_l03Writhe_l0 α N).ann 156 3).head ((A_s_l03Writhe_l0 α N).ann 156 3).grow 2) (bodyK Try.prog (A_s_l03Writhe_l0 α N) 1 0 156 Try.f156 3) m (buildS s_l03Writhe_l0_p [.n list_n, .n list_l, .n list_c, .i out, .i i, .i h0_0, .f h0_1, .f h0_2, .l h1]) (leaveLoop ((A_s_l03Writhe_l0 α N).ann 156 3) 2 K) = s_l03Writhe_l0 none list_n list_l list_c h0_0 h0_1 h0_2 h1 m out i (fun out_ => K (.exit 0) (buildS s_l03Writhe_l0_o0 [.i out_, .i h0_0, .f h0_1, .f h0_2, .l h1])) := by
  intro m
  induction m with
  | zero => intros; rfl
  | succ m ih =>
    intro out i
    rw [loopN_round]
    refine (s_l03Writhe_l0_round N list_n list_l list_c out i h0_0 h0_1 h0_2 h1 _ K).trans ?_
    simp only [ih]
    rfl
def E_s_l03Writhe_l0 (α : Type) (N : Nat) : Env α := (A_s_l03Writhe_l0 α N).addLoop2 156 3 (loopSum2 ((A_s_l03Writhe_l0 α N).ann 156 3) 0 s_l03Writhe_l0_p (fun l K => match l with
    | [.n list_n, .n list_l, .n list_c, .i out, .i i, .i h0_0, .f h0_1, .f h0_2, .l h1] => s_l03Writhe_l0 none list_n list_l list_c h0_0 h0_1 h0_2 h1 N out i (fun out_ => K (.exit 0) (buildS s_l03Writhe_l0_o0 [.i out_, .i h0_0, .f h0_1, .f h0_2, .l h1]))
    | _ => none) ((A_s_l03Writhe_l0 α N).ls 156 3))
theorem E_s_l03Writhe_l0_ok {α : Type} (N : Nat) : EnvOk Try.prog (E_s_l03Writhe_l0 α N) := (A_s_l03Writhe_l0_ok N).addLoop2 Try.func156 (by kernel_rfl) (loopSum_ok prog_mixed prog_names (A_s_l03Writhe_l0_ok N) Try.func156 (by kernel_rfl) (d := 1) (ro := 0) fun l K r h => by
  split at h
  · exact (s_l03Writhe_l0_loop N _ _ _ _ _ _ _ K N _ _).trans h
  · cases h)

/-- spec.l03Writhe -/
def s_l03Writhe_a : SPat := ⟨[.agg [.vals [.int .i64], .ints .u8 8, .ints .u8 8]], []⟩
def s_l03Writhe_r0 : SPat := ⟨[.int .i64], []⟩
theorem s_l03Writhe_run {α : Type} (N : Nat) (g_0 : Int) (g_1 : Nat → Int) (g_2 : Nat → Int) (K : AV → Heap → Option α) :
    callK Try.prog (E_s_l03Writhe_l0 α N) 1 156 0 (buildS s_l03Writhe_a [.i g_0, .f g_1, .f g_2]).t (buildS s_l03Writhe_a [.i g_0, .f g_1, .f g_2]).h K = s_l03Writhe none N g_0 g_1 g_2 (fun r__ => retK (buildS s_l03Writhe_r0 [.i r__]) K) := by kernel_rfl
def E_s_l03Writhe (α : Type) (N : Nat) : Env α := (E_s_l03Writhe_l0 α N).addFun 156 true 0 s_l03Writhe_a (fun l K => match l with
    | [.i g_0, .f g_1, .f g_2] => s_l03Writhe none N g_0 g_1 g_2 (fun r__ => retK (buildS s_l03Writhe_r0 [.i r__]) K)
    | _ => none)
theorem E_s_l03Writhe_ok {α : Type} (N : Nat) : EnvOk Try.prog (E_s_l03Writhe α N) := (E_s_l03Writhe_l0_ok N).addFun prog_mixed prog_names (d := 1) fun l K r h => by
  split at h
  · exact (s_l03Writhe_run N _ _ _ K).trans h
  · cases h

/-- spec.l07Numbers -/
def s_l07Numbers_a : SPat := ⟨[.agg [.vals [.int .i64], .ints .u8 8, .ints .u8 8]], []⟩
def s_l07Numbers_r0 : SPat := ⟨[.tuple [.int .i64, .int .i64]], []⟩
theorem s_l07Numbers_run {α : Type} (N : Nat) (g_0 : Int) (g_1 : Nat → Int) (g_2 : Nat → Int) (K : AV → Heap → Option α) :
    callK Try.prog (E_s_l03Writhe α N) 1 139 0 (buildS s_l07Numbers_a [.i g_0, .f g_1, .f g_2]).t (buildS s_l07Numbers_a [.i g_0, .f g_1, .f g_2]).h K = s_l07Numbers none N g_0 g_1 g_2 (fun r_0_ r_1_ => retK (buildS s_l07Numbers_r0 [.i r_0_, .i r_1_]) K) := by kernel_rfl
def E_s_l07Numbers (α : Type) (N : Nat) : Env α := (E_s_l03Writhe α N).addFun 139 true 0 s_l07Numbers_a (fun l K => match l with
    | [.i g_0, .f g_1, .f g_2] => s_l07Numbers none N g_0 g_1 g_2 (fun r_0_ r_1_ => retK (buildS s_l07Numbers_r0 [.i r_0_, .i r_1_]) K)
    | _ => none)
theorem E_s_l07Numbers_ok {α : Type} (N : Nat) : EnvOk Try.prog (E_s_l07Numbers α N) := (E_s_l03Writhe_ok N).addFun prog_mixed prog_names (d := 1) fun l K r h => by
  split at h
  · exact (s_l07Numbers_run N _ _ _ K).trans h
  · cases h

/-- (impl.Grid).isKnot -/
def i_Grid_isKnot_a : SPat := ⟨[.agg [.vals [.int .i64], .ints .u8 8, .ints .u8 8]], []⟩
def i_Grid_isKnot_r0 : SPat := ⟨[.bool], []⟩
theorem i_Grid_isKnot_run {α : Type} (N : Nat) (g_0 : Int) (g_1 : Nat → Int) (g_2 : Nat → Int) (K : AV → Heap → Option α) :
    callK Try.prog (E_s_l07Numbers α N) 1 110 0 (buildS i_Grid_isKnot_a [.i g_0, .f g_1, .f g_2]).t (buildS i_Grid_isKnot_a [.i g_0, .f g_1, .f g_2]).h K = i_Grid_isKnot none N g_0 g_1 g_2 (fun r__ => retK (buildS i_Grid_isKnot_r0 [.b r__]) K) := by kernel_rfl
def E_i_Grid_isKnot (α : Type) (N : Nat) : Env α := (E_s_l07Numbers α N).addFun 110 true 0 i_Grid_isKnot_a (fun l K => match l with
    | [.i g_0, .f g_1, .f g_2] => i_Grid_isKnot none N g_0 g_1 g_2 (fun r__ => retK (buildS i_Grid_isKnot_r0 [.b r__]) K)
    | _ => none)
theorem E_i_Grid_isKnot_ok {α : Type} (N : Nat) : EnvOk Try.prog (E_i_Grid_isKnot α N) := (E_s_l07Numbers_ok N).addFun prog_mixed prog_names (d := 1) fun l K r h => by
  split at h
  · exact (i_Grid_isKnot_run N _ _ _ K).trans h
  · cases h

/-- impl.SelfLinkings$1 -/
def i_SelfLinkings_1_a : SPat := ⟨[.agg [.vals [.int .i64], .ints .u8 8, .ints .u8 8]], []⟩
def i_SelfLinkings_1_r0 : SPat := ⟨[.slice ⟨⟨0, 0⟩, 0, 0, 2⟩ 2 2 1 true], [[.vec .i64]]⟩
theorem i_SelfLinkings_1_run {α : Type} (N : Nat) (g_0 : Int) (g_1 : Nat → Int) (g_2 : Nat → Int) (K : AV → Heap → Option α) :
    callK Try.prog (E_i_Grid_isKnot α N) 1 152 0 (buildS i_SelfLinkings_1_a [.i g_0, .f g_1, .f g_2]).t (buildS i_SelfLinkings_1_a [.i g_0, .f g_1, .f g_2]).h K = i_SelfLinkings_1 none N g_0 g_1 g_2 (fun h0_ => retK (buildS i_SelfLinkings_1_r0 [.l h0_]) K) := by kernel_rfl
def E_i_SelfLinkings_1 (α : Type) (N : Nat) : Env α := (E_i_Grid_isKnot α N).addFun 152 true 0 i_SelfLinkings_1_a (fun l K => match l with
    | [.i g_0, .f g_1, .f g_2] => i_SelfLinkings_1 none N g_0 g_1 g_2 (fun h0_ => retK (buildS i_SelfLinkings_1_r0 [.l h0_]) K)
    | _ => none)
theorem E_i_SelfLinkings_1_ok {α : Type} (N : Nat) : EnvOk Try.prog (E_i_SelfLinkings_1 α N) := (E_i_Grid_isKnot_ok N).addFun prog_mixed prog_names (d := 1) fun l K r h => by
  split at h
  · exact (i_SelfLinkings_1_run N _ _ _ K).trans h
  · cases h

/-- impl.knotted[[]int64] -/
def i_knotted_int64_a : SPat := ⟨[.agg [.vals [.int .i64], .ints .u8 8, .ints .u8 8], .func 152 []], []⟩
def i_knotted_int64_r0 : SPat := ⟨[.tuple [.nils, .int .i64]], []⟩
def i_knotted_int64_r1 : SPat := ⟨[.tuple [.slice ⟨⟨0, 0⟩, 0, 0, 2⟩ 2 2 1 true, .int .i64]], [[.vec .i64]]⟩
theorem i_knotted_int64_run {α : Type} (N : Nat) (g_0 : Int) (g_1 : Nat → Int) (g_2 : Nat → Int) (K : AV → Heap → Option α) :
    callK Try.prog (E_i_SelfLinkings_1 α N) 1 151 0 (buildS i_knotted_int64_a [.i g_0, .f g_1, .f g_2]).t (buildS i_knotted_int64_a [.i g_0, .f g_1, .f g_2]).h K = i_knotted_int64 none N g_0 g_1 g_2 (fun r_1_ => retK (buildS i_knotted_int64_r0 [.i r_1_]) K) (fun r_1_ h0_ => retK (buildS i_knotted_int64_r1 [.i r_1_, .l h0_]) K) := by kernel_rfl
def E_i_knotted_int64 (α : Type) (N : Nat) : Env α := (E_i_SelfLinkings_1 α N).addFun 151 true 0 i_knotted_int64_a (fun l K => match l with
    | [.i g_0, .f g_1, .f g_2] => i_knotted_int64 none N g_0 g_1 g_2 (fun r_1_ => retK (buildS i_knotted_int64_r0 [.i r_1_]) K) (fun r_1_ h0_ => retK (buildS i_knotted_int64_r1 [.i r_1_, .l h0_]) K)
    | _ => none)
theorem E_i_knotted_int64_ok {α : Type} (N : Nat) : EnvOk Try.prog (E_i_knotted_int64 α N) := (E_i_SelfLinkings_1_ok N).addFun prog_mixed prog_names (d := 1) fun l K r h => by
  split at h
  · exact (i_knotted_int64_run N _ _ _ K).trans h
  · cases h

/-- impl.SelfLinkings -/
def i_SelfLinkings_a : SPat := ⟨[.agg [.vals [.int .i64], .ints .u8 8, .ints .u8 8]], []⟩
def i_SelfLinkings_r0 : SPat := ⟨[.tuple [.nils, .int .i64]], []⟩
def i_SelfLinkings_r1 : SPat := ⟨[.tuple [.slice ⟨⟨0, 0⟩, 0, 0, 2⟩ 2 2 1 true, .int .i64]], [[.vec .i64]]⟩
theorem i_SelfLinkings_run {α : Type} (N : Nat) (g_0 : Int) (g_1 : Nat → Int) (g_2 : Nat → Int) (K : AV → Heap → Option α) :
    callK Try.prog (E_i_knotted_int64 α N) 1 58 0 (buildS i_SelfLinkings_a [.i g_0, .f g_1, .f g_2]).t (buildS i_SelfLinkings_a [.i g_0, .f g_1, .f g_2]).h K = i_SelfLinkings none N g_0 g_1 g_2 (fun r_1_ => retK (buildS i_SelfLinkings_r0 [.i r_1_]) K) (fun r_1_ h0_ => retK (buildS i_SelfLinkings_r1 [.i r_1_, .l h0_]) K) := by kernel_rfl
def E_i_SelfLinkings (α : Type) (N : Nat) : Env α := (E_i_knotted_int64 α N).addFun 58 true 0 i_SelfLinkings_a (fun l K => match l with
    | [.i g_0, .f g_1, .f g_2] => i_SelfLinkings none N g_0 g_1 g_2 (fun r_1_ => retK (buildS i_SelfLinkings_r0 [.i r_1_]) K) (fun r_1_ h0_ => retK (buildS i_SelfLinkings_r1 [.i r_1_, .l h0_]) K)
    | _ => none)
theorem E_i_SelfLinkings_ok {α : Type} (N : Nat) : EnvOk Try.prog (E_i_SelfLinkings α N) := (E_i_knotted_int64_ok N).addFun prog_mixed prog_names (d := 1) fun l K r h => by
  split at h
  · exact (i_SelfLinkings_run N _ _ _ K).trans h
  · cases h

/-- impl.CountCusps$1 -/
def i_CountCusps_1_a : SPat := ⟨[.agg [.vals [.int .i64], .ints .u8 8, .ints .u8 8]], []⟩
def i_CountCusps_1_r0 : SPat := ⟨[.int .i64], []⟩
theorem i_CountCusps_1_run {α : Type} (N : Nat) (g_0 : Int) (g_1 : Nat → Int) (g_2 : Nat → Int) (K : AV → Heap → Option α) :
    callK Try.prog (E_i_SelfLinkings α N) 1 141 0 (buildS i_CountCusps_1_a [.i g_0, .f g_1, .f g_2]).t (buildS i_CountCusps_1_a [.i g_0, .f g_1, .f g_2]).h K = i_CountCusps_1 none N g_0 g_1 g_2 (fun r__ => retK (buildS i_CountCusps_1_r0 [.i r__]) K) := by kernel_rfl
def E_i_CountCusps_1 (α : Type) (N : Nat) : Env α := (E_i_SelfLinkings α N).addFun 141 true 0 i_CountCusps_1_a (fun l K => match l with
    | [.i g_0, .f g_1, .f g_2] => i_CountCusps_1 none N g_0 g_1 g_2 (fun r__ => retK (buildS i_CountCusps_1_r0 [.i r__]) K)
    | _ => none)
theorem E_i_CountCusps_1_ok {α : Type} (N : Nat) : EnvOk Try.prog (E_i_CountCusps_1 α N) := (E_i_SelfLinkings_ok N).addFun prog_mixed prog_names (d := 1) fun l K r h => by
  split at h
  · exact (i_CountCusps_1_run N _ _ _ K).trans h
  · cases h

/-- impl.whole[int64] -/
def i_whole_int64_v1_a : SPat := ⟨[.agg [.vals [.int .i64], .ints .u8 8, .ints .u8 8], .func 141 []], []⟩
def i_whole_int64_v1_r0 : SPat := ⟨[.tuple [.int .i64, .int .i64]], []⟩
theorem i_whole_int64_v1_run {α : Type} (N : Nat) (g_0 : Int) (g_1 : Nat → Int) (g_2 : Nat → Int) (K : AV → Heap → Option α) :
    callK Try.prog (E_i_CountCusps_1 α N) 1 136 0 (buildS i_whole_int64_v1_a [.i g_0, .f g_1, .f g_2]).t (buildS i_whole_int64_v1_a [.i g_0, .f g_1, .f g_2]).h K = i_whole_int64_v1 none N g_0 g_1 g_2 (fun r_0_ r_1_ => retK (buildS i_whole_int64_v1_r0 [.i r_0_, .i r_1_]) K) := by kernel_rfl
def E_i_whole_int64_v1 (α : Type) (N : Nat) : Env α := (E_i_CountCusps_1 α N).addFun 136 true 0 i_whole_int64_v1_a (fun l K => match l with
    | [.i g_0, .f g_1, .f g_2] => i_whole_int64_v1 none N g_0 g_1 g_2 (fun r_0_ r_1_ => retK (buildS i_whole_int64_v1_r0 [.i r_0_, .i r_1_]) K)
    | _ => none)
theorem E_i_whole_int64_v1_ok {α : Type} (N : Nat) : EnvOk Try.prog (E_i_whole_int64_v1 α N) := (E_i_CountCusps_1_ok N).addFun prog_mixed prog_names (d := 1) fun l K r h => by
  split at h
  · exact (i_whole_int64_v1_run N _ _ _ K).trans h
  · cases h

/-- impl.CountCusps -/
def i_CountCusps_a : SPat := ⟨[.agg [.vals [.int .i64], .ints .u8 8, .ints .u8 8]], []⟩
def i_CountCusps_r0 : SPat := ⟨[.tuple [.int .i64, .int .i64]], []⟩
theorem i_CountCusps_run {α : Type} (N : Nat) (g_0 : Int) (g_1 : Nat → Int) (g_2 : Nat → Int) (K : AV → Heap → Option α) :
    callK Try.prog (E_i_whole_int64_v1 α N) 1 50 0 (buildS i_CountCusps_a [.i g_0, .f g_1, .f g_2]).t (buildS i_CountCusps_a [.i g_0, .f g_1, .f g_2]).h K = i_CountCusps none N g_0 g_1 g_2 (fun r_0_ r_1_ => retK (buildS i_CountCusps_r0 [.i r_0_, .i r_1_]) K) := by kernel_rfl
def E_i_CountCusps (α : Type) (N : Nat) : Env α := (E_i_whole_int64_v1 α N).addFun 50 true 0 i_CountCusps_a (fun l K => match l with
    | [.i g_0, .f g_1, .f g_2] => i_CountCusps none N g_0 g_1 g_2 (fun r_0_ r_1_ => retK (buildS i_CountCusps_r0 [.i r_0_, .i r_1_]) K)
    | _ => none)
theorem E_i_CountCusps_ok {α : Type} (N : Nat) : EnvOk Try.prog (E_i_CountCusps α N) := (E_i_whole_int64_v1_ok N).addFun prog_mixed prog_names (d := 1) fun l K r h => by
  split at h
  · exact (i_CountCusps_run N _ _ _ K).trans h
  · cases h

/-- impl.RotationOf$1 -/
def i_RotationOf_1_a : SPat := ⟨[.agg [.vals [.int .i64], .ints .u8 8, .ints .u8 8]], []⟩
def i_RotationOf_1_r0 : SPat := ⟨[.int .i64], []⟩
theorem i_RotationOf_1_run {α : Type} (N : Nat) (g_0 : Int) (g_1 : Nat → Int) (g_2 : Nat → Int) (K : AV → Heap → Option α) :
    callK Try.prog (E_i_CountCusps α N) 1 140 0 (buildS i_RotationOf_1_a [.i g_0, .f g_1, .f g_2]).t (buildS i_RotationOf_1_a [.i g_0, .f g_1, .f g_2]).h K = i_RotationOf_1 none N g_0 g_1 g_2 (fun r__ => retK (buildS i_RotationOf_1_r0 [.i r__]) K) := by kernel_rfl
def E_i_RotationOf_1 (α : Type) (N : Nat) : Env α := (E_i_CountCusps α N).addFun 140 true 0 i_RotationOf_1_a (fun l K => match l with
    | [.i g_0, .f g_1, .f g_2] => i_RotationOf_1 none N g_0 g_1 g_2 (fun r__ => retK (buildS i_RotationOf_1_r0 [.i r__]) K)
    | _ => none)
theorem E_i_RotationOf_1_ok {α : Type} (N : Nat) : EnvOk Try.prog (E_i_RotationOf_1 α N) := (E_i_CountCusps_ok N).addFun prog_mixed prog_names (d := 1) fun l K r h => by
  split at h
  · exact (i_RotationOf_1_run N _ _ _ K).trans h
  · cases h

/-- impl.whole[int64] -/
def i_whole_int64_v1_s2_a : SPat := ⟨[.agg [.vals [.int .i64], .ints .u8 8, .ints .u8 8], .func 140 []], []⟩
def i_whole_int64_v1_s2_r0 : SPat := ⟨[.tuple [.int .i64, .int .i64]], []⟩
theorem i_whole_int64_v1_s2_run {α : Type} (N : Nat) (g_0 : Int) (g_1 : Nat → Int) (g_2 : Nat → Int) (K : AV → Heap → Option α) :
    callK Try.prog (E_i_RotationOf_1 α N) 1 136 0 (buildS i_whole_int64_v1_s2_a [.i g_0, .f g_1, .f g_2]).t (buildS i_whole_int64_v1_s2_a [.i g_0, .f g_1, .f g_2]).h K = i_whole_int64_v1_s2 none N g_0 g_1 g_2 (fun r_0_ r_1_ => retK (buildS i_whole_int64_v1_s2_r0 [.i r_0_, .i r_1_]) K) := by kernel_rfl
def E_i_whole_int64_v1_s2 (α : Type) (N : Nat) : Env α := (E_i_RotationOf_1 α N).addFun 136 true 0 i_whole_int64_v1_s2_a (fun l K => match l with
    | [.i g_0, .f g_1, .f g_2] => i_whole_int64_v1_s2 none N g_0 g_1 g_2 (fun r_0_ r_1_ => retK (buildS i_whole_int64_v1_s2_r0 [.i r_0_, .i r_1_]) K)
    | _ => none)
theorem E_i_whole_int64_v1_s2_ok {α : Type} (N : Nat) : EnvOk Try.prog (E_i_whole_int64_v1_s2 α N) := (E_i_RotationOf_1_ok N).addFun prog_mixed prog_names (d := 1) fun l K r h => by
  split at h
  · exact (i_whole_int64_v1_s2_run N _ _ _ K).trans h
  · cases h

/-- impl.RotationOf -/
def i_RotationOf_a : SPat := ⟨[.agg [.vals [.int .i64], .ints .u8 8, .ints .u8 8]], []⟩
def i_RotationOf_r0 : SPat := ⟨[.tuple [.int .i64, .int .i64]], []⟩
theorem i_RotationOf_run {α : Type} (N : Nat) (g_0 : Int) (g_1 : Nat → Int) (g_2 : Nat → Int) (K : AV → Heap → Option α) :
    callK Try.prog (E_i_whole_int64_v1_s2 α N) 1 48 0 (buildS i_RotationOf_a [.i g_0, .f g_1, .f g_2]).t (buildS i_RotationOf_a [.i g_0, .f g_1, .f g_2]).h K = i_RotationOf none N g_0 g_1 g_2 (fun r_0_ r_1_ => retK (buildS i_RotationOf_r0 [.i r_0_, .i r_1_]) K) := by kernel_rfl
def E_i_RotationOf (α : Type) (N : Nat) : Env α := (E_i_whole_int64_v1_s2 α N).addFun 48 true 0 i_RotationOf_a (fun l K => match l with
    | [.i g_0, .f g_1, .f g_2] => i_RotationOf none N g_0 g_1 g_2 (fun r_0_ r_1_ => retK (buildS i_RotationOf_r0 [.i r_0_, .i r_1_]) K)
    | _ => none)
theorem E_i_RotationOf_ok {α : Type} (N : Nat) : EnvOk Try.prog (E_i_RotationOf α N) := (E_i_whole_int64_v1_s2_ok N).addFun prog_mixed prog_names (d := 1) fun l K r h => by
  split at h
  · exact (i_RotationOf_run N _ _ _ K).trans h
  · cases h

/-- spec.DrawThurstonBennequin -/
def s_DrawThurstonBennequin_a : SPat := ⟨[.sliceV 0 0 0 1 false], [[.intsV .u8]]⟩
def s_DrawThurstonBennequin_r0 : SPat := ⟨[.agg [.vals [.int .i64], .ints .u8 8, .ints .u8 8]], [[.intsV .u8]]⟩
theorem s_DrawThurstonBennequin_run {α : Type} (N : Nat) (code_n : Nat) (code_l : Nat) (code_c : Nat) (h0_n : Nat) (h0 : Nat → Int) (K : AV → Heap → Option α) :
    callK Try.prog (E_i_RotationOf α N) 1 45 1 (buildS s_DrawThurstonBennequin_a [.n code_n, .n code_l, .n code_c, .n h0_n, .f h0]).t (buildS s_DrawThurstonBennequin_a [.n code_n, .n code_l, .n code_c, .n h0_n, .f h0]).h K = s_DrawThurstonBennequin none N code_n code_l code_c h0_n h0 (fun r_0_ r_1_ r_2_ => retK (buildS s_DrawThurstonBennequin_r0 [.i r_0_, .f r_1_, .f r_2_, .n h0_n, .f h0]) K) := by kernel_rfl
def E_s_DrawThurstonBennequin (α : Type) (N : Nat) : Env α := (E_i_RotationOf α N).addFun 45 true 1 s_DrawThurstonBennequin_a (fun l K => match l with
    | [.n code_n, .n code_l, .n code_c, .n h0_n, .f h0] => s_DrawThurstonBennequin none N code_n code_l code_c h0_n h0 (fun r_0_ r_1_ r_2_ => retK (buildS s_DrawThurstonBennequin_r0 [.i r_0_, .f r_1_, .f r_2_, .n h0_n, .f h0]) K)
    | _ => none)
theorem E_s_DrawThurstonBennequin_ok {α : Type} (N : Nat) : EnvOk Try.prog (E_s_DrawThurstonBennequin α N) := (E_i_RotationOf_ok N).addFun prog_mixed prog_names (d := 1) fun l K r h => by
  split at h
  · exact (s_DrawThurstonBennequin_run N _ _ _ _ _ K).trans h
  · cases h
end Go.AM
