/- A part of a proof about the given program: an abstract machine, what the given functions come to, and plain laws. -/
import Derived.Test.YtoginabccpjeoaaMachG
import Derived.Test.YtoginabccpjeoaaDallLawCorners1
import Derived.Test.YtoginabccpjeoaaProg
set_option linter.unusedVariables false
set_option linter.unusedSimpArgs false
set_option maxRecDepth 100000
namespace Go.AM
open Go.Proofs
def E0 (α : Type) (N : Nat) : Env α := Env.base (fun _ _ => {}) N
theorem E0_ok {α : Type} (N : Nat) : EnvOk Try.prog (E0 α N) := .base
theorem prog_mixed : Try.prog.follows .mixedOrders = true := by kernel_rfl
theorem prog_names : NamesOk Try.prog := .of_all (by kernel_rfl)
def s_l01In_a : SPat := ⟨[.int .i64, .int .i64, .int .i64], []⟩
def s_l01In_r0 : SPat := ⟨[.bool], []⟩
theorem s_l01In_run {α : Type} (N : Nat) (n : Int) (low : Int) (high : Int) (K : AV -> Heap -> Option α) :
    callK Try.prog (E0 α N) 1 119 0 (buildS s_l01In_a [.i n, .i low, .i high]).t (buildS s_l01In_a [.i n, .i low, .i high]).h K = s_l01In none N n low high (fun r__ => retK (buildS s_l01In_r0 [.b r__]) K) := by kernel_rfl
def E_s_l01In (α : Type) (N : Nat) : Env α := (E0 α N).addFun 119 true 0 s_l01In_a (fun l K => match l with
    | [.i n, .i low, .i high] => s_l01In none N n low high (fun r__ => retK (buildS s_l01In_r0 [.b r__]) K)
    | _ => none)
theorem E_s_l01In_ok {α : Type} (N : Nat) : EnvOk Try.prog (E_s_l01In α N) := (E0_ok N).addFun prog_mixed prog_names (d := 1) fun l K r h => by
  split at h
  · exact (s_l01In_run N _ _ _ K).trans h
  · cases h
def A_s_l01Perm_l0 (α : Type) (N : Nat) : Env α := (E_s_l01In α N).addAnn 193 3 { head := [1, 2, 5, 6], grow := [], out := [], ret := [4] }
theorem A_s_l01Perm_l0_ok {α : Type} (N : Nat) : EnvOk Try.prog (A_s_l01Perm_l0 α N) := (E_s_l01In_ok N).addAnn
def s_l01Perm_l0_p : SPat := ⟨[.undef, .int .i64, .ptr ⟨⟨0, 0⟩, 0, 0, 8⟩, .undef, .undef, .ptr ⟨⟨1, 0⟩, 0, 0, 8⟩, .int .i64] ++ List.replicate 29 .undef, [[.ints .u8 8], [.bools 8]]⟩
def s_l01Perm_l0_o0 : SPat := ⟨[.undef, .undef, .undef, .undef, .boolC false] ++ List.replicate 31 .undef, [[.ints .u8 8], [.bools 8]]⟩
def s_l01Perm_l0_o1 : SPat := ⟨[] ++ List.replicate 36 .undef, [[.ints .u8 8], [.bools 8]]⟩
theorem s_l01Perm_l0_round {α : Type} (N : Nat) (n : Int) (i : Int) (h0 : NI) (h1 : Nat -> Bool) (kn : St -> Option α) (K : AExit -> St -> Option α) :
    roundK Try.prog (A_s_l01Perm_l0 α N) 1 0 193 Try.f193 3 2 (buildS s_l01Perm_l0_p [.i n, .i i, .f h0, .g h1]) kn K = s_l01Perm_l0_s none n h0 i h1 (fun i h1 => kn (buildS s_l01Perm_l0_p [.i n, .i i, .f h0, .g h1])) (fun h1_ => K .ret (buildS s_l01Perm_l0_o0 [.f h0, .g h1_])) (fun h1_ => K (.exit 0) (buildS s_l01Perm_l0_o1 [.f h0, .g h1_])) := by kernel_rfl
theorem s_l01Perm_l0_loop {α : Type} (N : Nat) (n : Int) (h0 : NI) (K : AExit -> St -> Option α) : ∀ (m : Nat) (i : Int) (h1 : Nat -> Bool),
    loopN (trimSt ((A_s_l01Perm_l0 α N).ann 193 3).head ((A_s_l01Perm_l0 α N).ann 193 3).grow 2) (bodyK Try.prog (A_s_l01Perm_l0 α N) 1 0 193 Try.f193 3) m (buildS s_l01Perm_l0_p [.i n, .i i, .f h0, .g h1]) (leaveLoop ((A_s_l01Perm_l0 α N).ann 193 3) 2 K) = s_l01Perm_l0 none n h0 m i h1 (fun h1_ => K .ret (buildS s_l01Perm_l0_o0 [.f h0, .g h1_])) (fun h1_ => K (.exit 0) (buildS s_l01Perm_l0_o1 [.f h0, .g h1_])) := by
  intro m
  induction m with
  | zero => intros; rfl
  | succ m ih =>
    intro i h1
    rw [loopN_round]
    refine (s_l01Perm_l0_round N n i h0 h1 _ K).trans ?_
    simp only [ih]
    rfl
def E_s_l01Perm_l0 (α : Type) (N : Nat) : Env α := (A_s_l01Perm_l0 α N).addLoop2 193 3 (loopSum2 ((A_s_l01Perm_l0 α N).ann 193 3) 0 s_l01Perm_l0_p (fun l K => match l with
    | [.i n, .i i, .f h0, .g h1] => s_l01Perm_l0 none n h0 N i h1 (fun h1_ => K .ret (buildS s_l01Perm_l0_o0 [.f h0, .g h1_])) (fun h1_ => K (.exit 0) (buildS s_l01Perm_l0_o1 [.f h0, .g h1_]))
    | _ => none) ((A_s_l01Perm_l0 α N).ls 193 3))
theorem E_s_l01Perm_l0_ok {α : Type} (N : Nat) : EnvOk Try.prog (E_s_l01Perm_l0 α N) := (A_s_l01Perm_l0_ok N).addLoop2 Try.func193 (by kernel_rfl) (loopSum_ok prog_mixed prog_names (A_s_l01Perm_l0_ok N) Try.func193 (by kernel_rfl) (d := 1) (ro := 0) fun l K r h => by
  split at h
  · exact (s_l01Perm_l0_loop N _ _ K N _ _).trans h
  · cases h)
def s_l01Perm_a : SPat := ⟨[.agg [.ints .u8 8], .int .i64], []⟩
def s_l01Perm_r0 : SPat := ⟨[.bool], []⟩
theorem s_l01Perm_run {α : Type} (N : Nat) (list : NI) (n : Int) (K : AV -> Heap -> Option α) :
    callK Try.prog (E_s_l01Perm_l0 α N) 1 193 0 (buildS s_l01Perm_a [.f list, .i n]).t (buildS s_l01Perm_a [.f list, .i n]).h K = s_l01Perm none N list n (fun r__ => retK (buildS s_l01Perm_r0 [.b r__]) K) := by kernel_rfl
def E_s_l01Perm (α : Type) (N : Nat) : Env α := (E_s_l01Perm_l0 α N).addFun 193 true 0 s_l01Perm_a (fun l K => match l with
    | [.f list, .i n] => s_l01Perm none N list n (fun r__ => retK (buildS s_l01Perm_r0 [.b r__]) K)
    | _ => none)
theorem E_s_l01Perm_ok {α : Type} (N : Nat) : EnvOk Try.prog (E_s_l01Perm α N) := (E_s_l01Perm_l0_ok N).addFun prog_mixed prog_names (d := 1) fun l K r h => by
  split at h
  · exact (s_l01Perm_run N _ _ K).trans h
  · cases h
def A_s_l01Is_l0 (α : Type) (N : Nat) : Env α := (E_s_l01Perm α N).addAnn 107 4 { head := [1, 3], grow := [], out := [], ret := [2] }
theorem A_s_l01Is_l0_ok {α : Type} (N : Nat) : EnvOk Try.prog (A_s_l01Is_l0 α N) := (E_s_l01Perm_ok N).addAnn
def s_l01Is_l0_p : SPat := ⟨[.undef, .ptr ⟨⟨0, 0⟩, 0, 0, 1⟩, .undef, .int .i64] ++ List.replicate 35 .undef, [[.vals [.int .i64], .ints .u8 8, .ints .u8 8]]⟩
def s_l01Is_l0_o0 : SPat := ⟨[.undef, .undef, .boolC false] ++ List.replicate 36 .undef, [[.vals [.int .i64], .ints .u8 8, .ints .u8 8]]⟩
def s_l01Is_l0_o1 : SPat := ⟨[] ++ List.replicate 39 .undef, [[.vals [.int .i64], .ints .u8 8, .ints .u8 8]]⟩
theorem s_l01Is_l0_round {α : Type} (N : Nat) (i : Int) (h0_0 : Int) (h0_1 : NI) (h0_2 : NI) (kn : St -> Option α) (K : AExit -> St -> Option α) :
    roundK Try.prog (A_s_l01Is_l0 α N) 1 0 107 Try.f107 4 1 (buildS s_l01Is_l0_p [.i i, .i h0_0, .f h0_1, .f h0_2]) kn K = s_l01Is_l0_s none h0_0 h0_1 h0_2 i (fun i => kn (buildS s_l01Is_l0_p [.i i, .i h0_0, .f h0_1, .f h0_2])) (K .ret (buildS s_l01Is_l0_o0 [.i h0_0, .f h0_1, .f h0_2])) (K (.exit 0) (buildS s_l01Is_l0_o1 [.i h0_0, .f h0_1, .f h0_2])) := by kernel_rfl
theorem s_l01Is_l0_loop {α : Type} (N : Nat) (h0_0 : Int) (h0_1 : NI) (h0_2 : NI) (K : AExit -> St -> Option α) : ∀ (m : Nat) (i : Int),
    loopN (trimSt ((A_s_l01Is_l0 α N).ann 107 4).head ((A_s_l01Is_l0 α N).ann 107 4).grow 1) (bodyK Try.prog (A_s_l01Is_l0 α N) 1 0 107 Try.f107 4) m (buildS s_l01Is_l0_p [.i i, .i h0_0, .f h0_1, .f h0_2]) (leaveLoop ((A_s_l01Is_l0 α N).ann 107 4) 1 K) = s_l01Is_l0 none h0_0 h0_1 h0_2 m i (K .ret (buildS s_l01Is_l0_o0 [.i h0_0, .f h0_1, .f h0_2])) (K (.exit 0) (buildS s_l01Is_l0_o1 [.i h0_0, .f h0_1, .f h0_2])) := by
  intro m
  induction m with
  | zero => intros; rfl
  | succ m ih =>
    intro i
    rw [loopN_round]
    refine (s_l01Is_l0_round N i h0_0 h0_1 h0_2 _ K).trans ?_
    simp only [ih]
    rfl
def E_s_l01Is_l0 (α : Type) (N : Nat) : Env α := (A_s_l01Is_l0 α N).addLoop2 107 4 (loopSum2 ((A_s_l01Is_l0 α N).ann 107 4) 0 s_l01Is_l0_p (fun l K => match l with
    | [.i i, .i h0_0, .f h0_1, .f h0_2] => s_l01Is_l0 none h0_0 h0_1 h0_2 N i (K .ret (buildS s_l01Is_l0_o0 [.i h0_0, .f h0_1, .f h0_2])) (K (.exit 0) (buildS s_l01Is_l0_o1 [.i h0_0, .f h0_1, .f h0_2]))
    | _ => none) ((A_s_l01Is_l0 α N).ls 107 4))
theorem E_s_l01Is_l0_ok {α : Type} (N : Nat) : EnvOk Try.prog (E_s_l01Is_l0 α N) := (A_s_l01Is_l0_ok N).addLoop2 Try.func107 (by kernel_rfl) (loopSum_ok prog_mixed prog_names (A_s_l01Is_l0_ok N) Try.func107 (by kernel_rfl) (d := 1) (ro := 0) fun l K r h => by
  split at h
  · exact (s_l01Is_l0_loop N _ _ _ K N _).trans h
  · cases h)
def s_l01Is_a : SPat := ⟨[.agg [.vals [.int .i64], .ints .u8 8, .ints .u8 8]], []⟩
def s_l01Is_r0 : SPat := ⟨[.bool], []⟩
theorem s_l01Is_run {α : Type} (N : Nat) (g_0 : Int) (g_1 : NI) (g_2 : NI) (K : AV -> Heap -> Option α) :
    callK Try.prog (E_s_l01Is_l0 α N) 1 107 0 (buildS s_l01Is_a [.i g_0, .f g_1, .f g_2]).t (buildS s_l01Is_a [.i g_0, .f g_1, .f g_2]).h K = s_l01Is none N g_0 g_1 g_2 (fun r__ => retK (buildS s_l01Is_r0 [.b r__]) K) := by kernel_rfl
def E_s_l01Is (α : Type) (N : Nat) : Env α := (E_s_l01Is_l0 α N).addFun 107 true 0 s_l01Is_a (fun l K => match l with
    | [.i g_0, .f g_1, .f g_2] => s_l01Is none N g_0 g_1 g_2 (fun r__ => retK (buildS s_l01Is_r0 [.b r__]) K)
    | _ => none)
theorem E_s_l01Is_ok {α : Type} (N : Nat) : EnvOk Try.prog (E_s_l01Is α N) := (E_s_l01Is_l0_ok N).addFun prog_mixed prog_names (d := 1) fun l K r h => by
  split at h
  · exact (s_l01Is_run N _ _ _ K).trans h
  · cases h
def A_s_l01Components_l0 (α : Type) (N : Nat) : Env α := (E_s_l01Is α N).addAnn 108 3 { head := [1, 2, 4, 5, 6], grow := [], out := [1, 2, 4, 5], ret := [2, 3] }
theorem A_s_l01Components_l0_ok {α : Type} (N : Nat) : EnvOk Try.prog (A_s_l01Components_l0 α N) := (E_s_l01Is_ok N).addAnn
def s_l01Components_l0_p : SPat := ⟨[.undef, .ptr ⟨⟨0, 0⟩, 0, 0, 1⟩, .ptr ⟨⟨1, 0⟩, 0, 0, 8⟩, .undef, .ptr ⟨⟨2, 0⟩, 0, 0, 8⟩, .intC .i64 0, .int .i64] ++ List.replicate 34 .undef, [[.vals [.int .i64], .ints .u8 8, .ints .u8 8], [.ints .i64 8], [.ints .i64 8]]⟩
def s_l01Components_l0_o0 : SPat := ⟨[.undef, .ptr ⟨⟨0, 0⟩, 0, 0, 1⟩, .ptr ⟨⟨1, 0⟩, 0, 0, 8⟩, .undef, .ptr ⟨⟨2, 0⟩, 0, 0, 8⟩, .intC .i64 0] ++ List.replicate 35 .undef, [[.vals [.int .i64], .ints .u8 8, .ints .u8 8], [.ints .i64 8], [.ints .i64 8]]⟩
theorem s_l01Components_l0_round {α : Type} (N : Nat) (i : Int) (h0_0 : Int) (h0_1 : NI) (h0_2 : NI) (h1 : NI) (h2 : NI) (kn : St -> Option α) (K : AExit -> St -> Option α) :
    roundK Try.prog (A_s_l01Components_l0 α N) 1 0 108 Try.f108 3 3 (buildS s_l01Components_l0_p [.i i, .i h0_0, .f h0_1, .f h0_2, .f h1, .f h2]) kn K = s_l01Components_l0_s none h0_0 h0_1 h0_2 h1 i h2 (fun i h2 => kn (buildS s_l01Components_l0_p [.i i, .i h0_0, .f h0_1, .f h0_2, .f h1, .f h2])) (fun h2_ => K (.exit 0) (buildS s_l01Components_l0_o0 [.i h0_0, .f h0_1, .f h0_2, .f h1, .f h2_])) := by kernel_rfl
theorem s_l01Components_l0_loop {α : Type} (N : Nat) (h0_0 : Int) (h0_1 : NI) (h0_2 : NI) (h1 : NI) (K : AExit -> St -> Option α) : ∀ (m : Nat) (i : Int) (h2 : NI),
    loopN (trimSt ((A_s_l01Components_l0 α N).ann 108 3).head ((A_s_l01Components_l0 α N).ann 108 3).grow 3) (bodyK Try.prog (A_s_l01Components_l0 α N) 1 0 108 Try.f108 3) m (buildS s_l01Components_l0_p [.i i, .i h0_0, .f h0_1, .f h0_2, .f h1, .f h2]) (leaveLoop ((A_s_l01Components_l0 α N).ann 108 3) 3 K) = s_l01Components_l0 none h0_0 h0_1 h0_2 h1 m i h2 (fun h2_ => K (.exit 0) (buildS s_l01Components_l0_o0 [.i h0_0, .f h0_1, .f h0_2, .f h1, .f h2_])) := by
  intro m
  induction m with
  | zero => intros; rfl
  | succ m ih =>
    intro i h2
    rw [loopN_round]
    refine (s_l01Components_l0_round N i h0_0 h0_1 h0_2 h1 h2 _ K).trans ?_
    simp only [ih]
    rfl
def E_s_l01Components_l0 (α : Type) (N : Nat) : Env α := (A_s_l01Components_l0 α N).addLoop2 108 3 (loopSum2 ((A_s_l01Components_l0 α N).ann 108 3) 0 s_l01Components_l0_p (fun l K => match l with
    | [.i i, .i h0_0, .f h0_1, .f h0_2, .f h1, .f h2] => s_l01Components_l0 none h0_0 h0_1 h0_2 h1 N i h2 (fun h2_ => K (.exit 0) (buildS s_l01Components_l0_o0 [.i h0_0, .f h0_1, .f h0_2, .f h1, .f h2_]))
    | _ => none) ((A_s_l01Components_l0 α N).ls 108 3))
theorem E_s_l01Components_l0_ok {α : Type} (N : Nat) : EnvOk Try.prog (E_s_l01Components_l0 α N) := (A_s_l01Components_l0_ok N).addLoop2 Try.func108 (by kernel_rfl) (loopSum_ok prog_mixed prog_names (A_s_l01Components_l0_ok N) Try.func108 (by kernel_rfl) (d := 1) (ro := 0) fun l K r h => by
  split at h
  · exact (s_l01Components_l0_loop N _ _ _ _ K N _ _).trans h
  · cases h)
def A_s_l01Components_l1 (α : Type) (N : Nat) : Env α := (E_s_l01Components_l0 α N).addAnn 108 7 { head := [1, 2, 4, 5, 7], grow := [], out := [2, 4, 5], ret := [2, 3] }
theorem A_s_l01Components_l1_ok {α : Type} (N : Nat) : EnvOk Try.prog (A_s_l01Components_l1 α N) := (E_s_l01Components_l0_ok N).addAnn
def A_s_l01Components_l2 (α : Type) (N : Nat) : Env α := (A_s_l01Components_l1 α N).addAnn 108 11 { head := [1, 2, 4, 5, 7, 8], grow := [], out := [1, 2, 4, 5, 7], ret := [2, 3] }
theorem A_s_l01Components_l2_ok {α : Type} (N : Nat) : EnvOk Try.prog (A_s_l01Components_l2 α N) := (A_s_l01Components_l1_ok N).addAnn
def A_s_l01Row_l0 (α : Type) (N : Nat) : Env α := (A_s_l01Components_l2 α N).addAnn 157 2 { head := [1, 2, 3, 7], grow := [], out := [], ret := [6] }
theorem A_s_l01Row_l0_ok {α : Type} (N : Nat) : EnvOk Try.prog (A_s_l01Row_l0 α N) := (A_s_l01Components_l2_ok N).addAnn
def s_l01Row_l0_p : SPat := ⟨[.undef, .int .i64, .int .i64, .ptr ⟨⟨0, 0⟩, 0, 0, 8⟩, .undef, .undef, .undef, .int .i64] ++ List.replicate 12 .undef, [[.ints .u8 8]]⟩
def s_l01Row_l0_o0 : SPat := ⟨[.undef, .undef, .undef, .undef, .undef, .undef, .int .i64] ++ List.replicate 13 .undef, [[.ints .u8 8]]⟩
def s_l01Row_l0_o1 : SPat := ⟨[] ++ List.replicate 20 .undef, [[.ints .u8 8]]⟩
theorem s_l01Row_l0_round {α : Type} (N : Nat) (n : Int) (r_ : Int) (i : Int) (h0 : NI) (kn : St -> Option α) (K : AExit -> St -> Option α) :
    roundK Try.prog (A_s_l01Row_l0 α N) 1 0 157 Try.f157 2 1 (buildS s_l01Row_l0_p [.i n, .i r_, .i i, .f h0]) kn K = s_l01Row_l0_s none n r_ h0 i (fun i => kn (buildS s_l01Row_l0_p [.i n, .i r_, .i i, .f h0])) (fun t6_ => K .ret (buildS s_l01Row_l0_o0 [.i t6_, .f h0])) (K (.exit 0) (buildS s_l01Row_l0_o1 [.f h0])) := by kernel_rfl
theorem s_l01Row_l0_loop {α : Type} (N : Nat) (n : Int) (r_ : Int) (h0 : NI) (K : AExit -> St -> Option α) : ∀ (m : Nat) (i : Int),
    loopN (trimSt ((A_s_l01Row_l0 α N).ann 157 2).head ((A_s_l01Row_l0 α N).ann 157 2).grow 1) (bodyK Try.prog (A_s_l01Row_l0 α N) 1 0 157 Try.f157 2) m (buildS s_l01Row_l0_p [.i n, .i r_, .i i, .f h0]) (leaveLoop ((A_s_l01Row_l0 α N).ann 157 2) 1 K) = s_l01Row_l0 none n r_ h0 m i (fun t6_ => K .ret (buildS s_l01Row_l0_o0 [.i t6_, .f h0])) (K (.exit 0) (buildS s_l01Row_l0_o1 [.f h0])) := by
  intro m
  induction m with
  | zero => intros; rfl
  | succ m ih =>
    intro i
    rw [loopN_round]
    refine (s_l01Row_l0_round N n r_ i h0 _ K).trans ?_
    simp only [ih]
    rfl
def E_s_l01Row_l0 (α : Type) (N : Nat) : Env α := (A_s_l01Row_l0 α N).addLoop2 157 2 (loopSum2 ((A_s_l01Row_l0 α N).ann 157 2) 0 s_l01Row_l0_p (fun l K => match l with
    | [.i n, .i r_, .i i, .f h0] => s_l01Row_l0 none n r_ h0 N i (fun t6_ => K .ret (buildS s_l01Row_l0_o0 [.i t6_, .f h0])) (K (.exit 0) (buildS s_l01Row_l0_o1 [.f h0]))
    | _ => none) ((A_s_l01Row_l0 α N).ls 157 2))
theorem E_s_l01Row_l0_ok {α : Type} (N : Nat) : EnvOk Try.prog (E_s_l01Row_l0 α N) := (A_s_l01Row_l0_ok N).addLoop2 Try.func157 (by kernel_rfl) (loopSum_ok prog_mixed prog_names (A_s_l01Row_l0_ok N) Try.func157 (by kernel_rfl) (d := 1) (ro := 0) fun l K r h => by
  split at h
  · exact (s_l01Row_l0_loop N _ _ _ K N _).trans h
  · cases h)
def s_l01Row_a : SPat := ⟨[.agg [.ints .u8 8], .int .i64, .int .i64], []⟩
def s_l01Row_r0 : SPat := ⟨[.int .i64], []⟩
theorem s_l01Row_run {α : Type} (N : Nat) (list : NI) (n : Int) (r_ : Int) (K : AV -> Heap -> Option α) :
    callK Try.prog (E_s_l01Row_l0 α N) 1 157 0 (buildS s_l01Row_a [.f list, .i n, .i r_]).t (buildS s_l01Row_a [.f list, .i n, .i r_]).h K = s_l01Row none N list n r_ (fun r__ => retK (buildS s_l01Row_r0 [.i r__]) K) := by kernel_rfl
def E_s_l01Row (α : Type) (N : Nat) : Env α := (E_s_l01Row_l0 α N).addFun 157 true 0 s_l01Row_a (fun l K => match l with
    | [.f list, .i n, .i r_] => s_l01Row none N list n r_ (fun r__ => retK (buildS s_l01Row_r0 [.i r__]) K)
    | _ => none)
theorem E_s_l01Row_ok {α : Type} (N : Nat) : EnvOk Try.prog (E_s_l01Row α N) := (E_s_l01Row_l0_ok N).addFun prog_mixed prog_names (d := 1) fun l K r h => by
  split at h
  · exact (s_l01Row_run N _ _ _ K).trans h
  · cases h
def s_l01Follow_a : SPat := ⟨[.agg [.vals [.int .i64], .ints .u8 8, .ints .u8 8], .int .i64], []⟩
def s_l01Follow_r0 : SPat := ⟨[.int .i64], []⟩
theorem s_l01Follow_run {α : Type} (N : Nat) (g_0 : Int) (g_1 : NI) (g_2 : NI) (i : Int) (K : AV -> Heap -> Option α) :
    callK Try.prog (E_s_l01Row α N) 1 159 0 (buildS s_l01Follow_a [.i g_0, .f g_1, .f g_2, .i i]).t (buildS s_l01Follow_a [.i g_0, .f g_1, .f g_2, .i i]).h K = s_l01Follow none N g_0 g_1 g_2 i (fun r__ => retK (buildS s_l01Follow_r0 [.i r__]) K) := by kernel_rfl
def E_s_l01Follow (α : Type) (N : Nat) : Env α := (E_s_l01Row α N).addFun 159 true 0 s_l01Follow_a (fun l K => match l with
    | [.i g_0, .f g_1, .f g_2, .i i] => s_l01Follow none N g_0 g_1 g_2 i (fun r__ => retK (buildS s_l01Follow_r0 [.i r__]) K)
    | _ => none)
theorem E_s_l01Follow_ok {α : Type} (N : Nat) : EnvOk Try.prog (E_s_l01Follow α N) := (E_s_l01Row_ok N).addFun prog_mixed prog_names (d := 1) fun l K r h => by
  split at h
  · exact (s_l01Follow_run N _ _ _ _ K).trans h
  · cases h
def s_l01Components_l2_p : SPat := ⟨[.undef, .ptr ⟨⟨0, 0⟩, 0, 0, 1⟩, .ptr ⟨⟨1, 0⟩, 0, 0, 8⟩, .undef, .ptr ⟨⟨2, 0⟩, 0, 0, 8⟩, .int .i64, .undef, .int .i64, .int .i64] ++ List.replicate 32 .undef, [[.vals [.int .i64], .ints .u8 8, .ints .u8 8], [.ints .i64 8], [.ints .i64 8]]⟩
def s_l01Components_l2_o0 : SPat := ⟨[.undef, .ptr ⟨⟨0, 0⟩, 0, 0, 1⟩, .ptr ⟨⟨1, 0⟩, 0, 0, 8⟩, .undef, .ptr ⟨⟨2, 0⟩, 0, 0, 8⟩, .int .i64, .undef, .int .i64] ++ List.replicate 33 .undef, [[.vals [.int .i64], .ints .u8 8, .ints .u8 8], [.ints .i64 8], [.ints .i64 8]]⟩
theorem s_l01Components_l2_round {α : Type} (N : Nat) (count : Int) (i : Int) (k : Int) (h0_0 : Int) (h0_1 : NI) (h0_2 : NI) (h1 : NI) (h2 : NI) (kn : St -> Option α) (K : AExit -> St -> Option α) :
    roundK Try.prog (E_s_l01Follow α N) 1 0 108 Try.f108 11 3 (buildS s_l01Components_l2_p [.i count, .i i, .i k, .i h0_0, .f h0_1, .f h0_2, .f h1, .f h2]) kn K = s_l01Components_l2_s none N count i h0_0 h0_1 h0_2 h1 k h2 (fun k h2 => kn (buildS s_l01Components_l2_p [.i count, .i i, .i k, .i h0_0, .f h0_1, .f h0_2, .f h1, .f h2])) (fun h2_ => K (.exit 4) (buildS s_l01Components_l2_o0 [.i count, .i i, .i h0_0, .f h0_1, .f h0_2, .f h1, .f h2_])) := by kernel_rfl
theorem s_l01Components_l2_loop {α : Type} (N : Nat) (count : Int) (i : Int) (h0_0 : Int) (h0_1 : NI) (h0_2 : NI) (h1 : NI) (K : AExit -> St -> Option α) : ∀ (m : Nat) (k : Int) (h2 : NI),
    loopN (trimSt ((E_s_l01Follow α N).ann 108 11).head ((E_s_l01Follow α N).ann 108 11).grow 3) (bodyK Try.prog (E_s_l01Follow α N) 1 0 108 Try.f108 11) m (buildS s_l01Components_l2_p [.i count, .i i, .i k, .i h0_0, .f h0_1, .f h0_2, .f h1, .f h2]) (leaveLoop ((E_s_l01Follow α N).ann 108 11) 3 K) = s_l01Components_l2 none N count i h0_0 h0_1 h0_2 h1 m k h2 (fun h2_ => K (.exit 4) (buildS s_l01Components_l2_o0 [.i count, .i i, .i h0_0, .f h0_1, .f h0_2, .f h1, .f h2_])) := by
  intro m
  induction m with
  | zero => intros; rfl
  | succ m ih =>
    intro k h2
    rw [loopN_round]
    refine (s_l01Components_l2_round N count i k h0_0 h0_1 h0_2 h1 h2 _ K).trans ?_
    simp only [ih]
    rfl
def E_s_l01Components_l2 (α : Type) (N : Nat) : Env α := (E_s_l01Follow α N).addLoop2 108 11 (loopSum2 ((E_s_l01Follow α N).ann 108 11) 0 s_l01Components_l2_p (fun l K => match l with
    | [.i count, .i i, .i k, .i h0_0, .f h0_1, .f h0_2, .f h1, .f h2] => s_l01Components_l2 none N count i h0_0 h0_1 h0_2 h1 N k h2 (fun h2_ => K (.exit 4) (buildS s_l01Components_l2_o0 [.i count, .i i, .i h0_0, .f h0_1, .f h0_2, .f h1, .f h2_]))
    | _ => none) ((E_s_l01Follow α N).ls 108 11))
theorem E_s_l01Components_l2_ok {α : Type} (N : Nat) : EnvOk Try.prog (E_s_l01Components_l2 α N) := (E_s_l01Follow_ok N).addLoop2 Try.func108 (by kernel_rfl) (loopSum_ok prog_mixed prog_names (E_s_l01Follow_ok N) Try.func108 (by kernel_rfl) (d := 1) (ro := 0) fun l K r h => by
  split at h
  · exact (s_l01Components_l2_loop N _ _ _ _ _ _ K N _ _).trans h
  · cases h)
def s_l01Components_l1_p : SPat := ⟨[.undef, .ptr ⟨⟨0, 0⟩, 0, 0, 1⟩, .ptr ⟨⟨1, 0⟩, 0, 0, 8⟩, .undef, .ptr ⟨⟨2, 0⟩, 0, 0, 8⟩, .int .i64, .undef, .int .i64] ++ List.replicate 33 .undef, [[.vals [.int .i64], .ints .u8 8, .ints .u8 8], [.ints .i64 8], [.ints .i64 8]]⟩
def s_l01Components_l1_o0 : SPat := ⟨[.undef, .undef, .ptr ⟨⟨1, 0⟩, 0, 0, 8⟩, .undef, .ptr ⟨⟨2, 0⟩, 0, 0, 8⟩, .int .i64] ++ List.replicate 35 .undef, [[.vals [.int .i64], .ints .u8 8, .ints .u8 8], [.ints .i64 8], [.ints .i64 8]]⟩
theorem s_l01Components_l1_round {α : Type} (N : Nat) (count : Int) (i : Int) (h0_0 : Int) (h0_1 : NI) (h0_2 : NI) (h1 : NI) (h2 : NI) (kn : St -> Option α) (K : AExit -> St -> Option α) :
    roundK Try.prog (E_s_l01Components_l2 α N) 1 0 108 Try.f108 7 3 (buildS s_l01Components_l1_p [.i count, .i i, .i h0_0, .f h0_1, .f h0_2, .f h1, .f h2]) kn K = s_l01Components_l1_s none N h0_0 h0_1 h0_2 h1 count i h2 (fun count i h2 => kn (buildS s_l01Components_l1_p [.i count, .i i, .i h0_0, .f h0_1, .f h0_2, .f h1, .f h2])) (fun count_ h2_ => K (.exit 2) (buildS s_l01Components_l1_o0 [.i count_, .i h0_0, .f h0_1, .f h0_2, .f h1, .f h2_])) := by kernel_rfl
theorem s_l01Components_l1_loop {α : Type} (N : Nat) (h0_0 : Int) (h0_1 : NI) (h0_2 : NI) (h1 : NI) (K : AExit -> St -> Option α) : ∀ (m : Nat) (count : Int) (i : Int) (h2 : NI),
    loopN (trimSt ((E_s_l01Components_l2 α N).ann 108 7).head ((E_s_l01Components_l2 α N).ann 108 7).grow 3) (bodyK Try.prog (E_s_l01Components_l2 α N) 1 0 108 Try.f108 7) m (buildS s_l01Components_l1_p [.i count, .i i, .i h0_0, .f h0_1, .f h0_2, .f h1, .f h2]) (leaveLoop ((E_s_l01Components_l2 α N).ann 108 7) 3 K) = s_l01Components_l1 none N h0_0 h0_1 h0_2 h1 m count i h2 (fun count_ h2_ => K (.exit 2) (buildS s_l01Components_l1_o0 [.i count_, .i h0_0, .f h0_1, .f h0_2, .f h1, .f h2_])) := by
  intro m
  induction m with
  | zero => intros; rfl
  | succ m ih =>
    intro count i h2
    rw [loopN_round]
    refine (s_l01Components_l1_round N count i h0_0 h0_1 h0_2 h1 h2 _ K).trans ?_
    simp only [ih]
    rfl
def E_s_l01Components_l1 (α : Type) (N : Nat) : Env α := (E_s_l01Components_l2 α N).addLoop2 108 7 (loopSum2 ((E_s_l01Components_l2 α N).ann 108 7) 0 s_l01Components_l1_p (fun l K => match l with
    | [.i count, .i i, .i h0_0, .f h0_1, .f h0_2, .f h1, .f h2] => s_l01Components_l1 none N h0_0 h0_1 h0_2 h1 N count i h2 (fun count_ h2_ => K (.exit 2) (buildS s_l01Components_l1_o0 [.i count_, .i h0_0, .f h0_1, .f h0_2, .f h1, .f h2_]))
    | _ => none) ((E_s_l01Components_l2 α N).ls 108 7))
theorem E_s_l01Components_l1_ok {α : Type} (N : Nat) : EnvOk Try.prog (E_s_l01Components_l1 α N) := (E_s_l01Components_l2_ok N).addLoop2 Try.func108 (by kernel_rfl) (loopSum_ok prog_mixed prog_names (E_s_l01Components_l2_ok N) Try.func108 (by kernel_rfl) (d := 1) (ro := 0) fun l K r h => by
  split at h
  · exact (s_l01Components_l1_loop N _ _ _ _ K N _ _ _).trans h
  · cases h)
def s_l01Components_a : SPat := ⟨[.agg [.vals [.int .i64], .ints .u8 8, .ints .u8 8]], []⟩
def s_l01Components_r0 : SPat := ⟨[.tuple [.agg [.ints .i64 8], .int .i64]], []⟩
theorem s_l01Components_run {α : Type} (N : Nat) (g_0 : Int) (g_1 : NI) (g_2 : NI) (K : AV -> Heap -> Option α) :
    callK Try.prog (E_s_l01Components_l1 α N) 1 108 0 (buildS s_l01Components_a [.i g_0, .f g_1, .f g_2]).t (buildS s_l01Components_a [.i g_0, .f g_1, .f g_2]).h K = s_l01Components none N g_0 g_1 g_2 (fun r_0_ r_1_ => retK (buildS s_l01Components_r0 [.f r_0_, .i r_1_]) K) := by kernel_rfl
def E_s_l01Components (α : Type) (N : Nat) : Env α := (E_s_l01Components_l1 α N).addFun 108 true 0 s_l01Components_a (fun l K => match l with
    | [.i g_0, .f g_1, .f g_2] => s_l01Components none N g_0 g_1 g_2 (fun r_0_ r_1_ => retK (buildS s_l01Components_r0 [.f r_0_, .i r_1_]) K)
    | _ => none)
theorem E_s_l01Components_ok {α : Type} (N : Nat) : EnvOk Try.prog (E_s_l01Components α N) := (E_s_l01Components_l1_ok N).addFun prog_mixed prog_names (d := 1) fun l K r h => by
  split at h
  · exact (s_l01Components_run N _ _ _ K).trans h
  · cases h
def A_s_l03Crossings_l0 (α : Type) (N : Nat) : Env α := (E_s_l01Components α N).addAnn 155 3 { head := [1, 3, 4], grow := [3], out := [3], ret := [2] }
theorem A_s_l03Crossings_l0_ok {α : Type} (N : Nat) : EnvOk Try.prog (A_s_l03Crossings_l0 α N) := (E_s_l01Components_ok N).addAnn
def A_s_l03Crossings_l1 (α : Type) (N : Nat) : Env α := (A_s_l03Crossings_l0 α N).addAnn 155 6 { head := [1, 3, 4, 5], grow := [3], out := [1, 3, 4], ret := [2] }
theorem A_s_l03Crossings_l1_ok {α : Type} (N : Nat) : EnvOk Try.prog (A_s_l03Crossings_l1 α N) := (A_s_l03Crossings_l0_ok N).addAnn
def s_l03Cross_a : SPat := ⟨[.agg [.vals [.int .i64], .ints .u8 8, .ints .u8 8], .int .i64, .int .i64], []⟩
def s_l03Cross_r0 : SPat := ⟨[.int .i64], []⟩
theorem s_l03Cross_run {α : Type} (N : Nat) (g_0 : Int) (g_1 : NI) (g_2 : NI) (i : Int) (r_ : Int) (K : AV -> Heap -> Option α) :
    callK Try.prog (A_s_l03Crossings_l1 α N) 1 205 0 (buildS s_l03Cross_a [.i g_0, .f g_1, .f g_2, .i i, .i r_]).t (buildS s_l03Cross_a [.i g_0, .f g_1, .f g_2, .i i, .i r_]).h K = s_l03Cross none N g_0 g_1 g_2 i r_ (fun r__ => retK (buildS s_l03Cross_r0 [.i r__]) K) := by kernel_rfl
def E_s_l03Cross (α : Type) (N : Nat) : Env α := (A_s_l03Crossings_l1 α N).addFun 205 true 0 s_l03Cross_a (fun l K => match l with
    | [.i g_0, .f g_1, .f g_2, .i i, .i r_] => s_l03Cross none N g_0 g_1 g_2 i r_ (fun r__ => retK (buildS s_l03Cross_r0 [.i r__]) K)
    | _ => none)
theorem E_s_l03Cross_ok {α : Type} (N : Nat) : EnvOk Try.prog (E_s_l03Cross α N) := (A_s_l03Crossings_l1_ok N).addFun prog_mixed prog_names (d := 1) fun l K r h => by
  split at h
  · exact (s_l03Cross_run N _ _ _ _ _ K).trans h
  · cases h
def s_l03Crossings_l1_p : SPat := ⟨[.undef, .ptr ⟨⟨0, 0⟩, 0, 0, 1⟩, .undef, .sliceV 1 0 0 3 false, .int .i64, .int .i64] ++ List.replicate 28 .undef, [[.vals [.int .i64], .ints .u8 8, .ints .u8 8], [.vec .i64]]⟩
def s_l03Crossings_l1_o0 : SPat := ⟨[.undef, .ptr ⟨⟨0, 0⟩, 0, 0, 1⟩, .undef, .sliceV 1 0 0 3 false, .int .i64] ++ List.replicate 29 .undef, [[.vals [.int .i64], .ints .u8 8, .ints .u8 8], [.vec .i64]]⟩
theorem s_l03Crossings_l1_round {α : Type} (N : Nat) (out_n : Nat) (out_l : Nat) (out_c : Nat) (i : Int) (r_ : Int) (h0_0 : Int) (h0_1 : NI) (h0_2 : NI) (h1 : List Int) (kn : St -> Option α) (K : AExit -> St -> Option α) :
    roundK Try.prog (E_s_l03Cross α N) 1 0 155 Try.f155 6 2 (buildS s_l03Crossings_l1_p [.n out_n, .n out_l, .n out_c, .i i, .i r_, .i h0_0, .f h0_1, .f h0_2, .l h1]) kn K = s_l03Crossings_l1_s none N i h0_0 h0_1 h0_2 out_n out_l out_c r_ h1 (fun out_n out_l out_c r_ h1 => kn (buildS s_l03Crossings_l1_p [.n out_n, .n out_l, .n out_c, .i i, .i r_, .i h0_0, .f h0_1, .f h0_2, .l h1])) (fun out_n_ out_l_ out_c_ h1_ => K (.exit 2) (buildS s_l03Crossings_l1_o0 [.n out_n_, .n out_l_, .n out_c_, .i i, .i h0_0, .f h0_1, .f h0_2, .l h1_])) := by kernel_rfl
theorem s_l03Crossings_l1_loop {α : Type} (N : Nat) (i : Int) (h0_0 : Int) (h0_1 : NI) (h0_2 : NI) (K : AExit -> St -> Option α) : ∀ (m : Nat) (out_n : Nat) (out_l : Nat) (out_c : Nat) (r_ : Int) (h1 : List Int),
    loopN (trimSt ((E_s_l03Cross α N).ann 155 6).head ((E_s_l03Cross α N).ann 155 6).grow 2) (bodyK Try.prog (E_s_l03Cross α N) 1 0 155 Try.f155 6) m (buildS s_l03Crossings_l1_p [.n out_n, .n out_l, .n out_c, .i i, .i r_, .i h0_0, .f h0_1, .f h0_2, .l h1]) (leaveLoop ((E_s_l03Cross α N).ann 155 6) 2 K) = s_l03Crossings_l1 none N i h0_0 h0_1 h0_2 m out_n out_l out_c r_ h1 (fun out_n_ out_l_ out_c_ h1_ => K (.exit 2) (buildS s_l03Crossings_l1_o0 [.n out_n_, .n out_l_, .n out_c_, .i i, .i h0_0, .f h0_1, .f h0_2, .l h1_])) := by
  intro m
  induction m with
  | zero => intros; rfl
  | succ m ih =>
    intro out_n out_l out_c r_ h1
    rw [loopN_round]
    refine (s_l03Crossings_l1_round N out_n out_l out_c i r_ h0_0 h0_1 h0_2 h1 _ K).trans ?_
    simp only [ih]
    rfl
def E_s_l03Crossings_l1 (α : Type) (N : Nat) : Env α := (E_s_l03Cross α N).addLoop2 155 6 (loopSum2 ((E_s_l03Cross α N).ann 155 6) 0 s_l03Crossings_l1_p (fun l K => match l with
    | [.n out_n, .n out_l, .n out_c, .i i, .i r_, .i h0_0, .f h0_1, .f h0_2, .l h1] => s_l03Crossings_l1 none N i h0_0 h0_1 h0_2 N out_n out_l out_c r_ h1 (fun out_n_ out_l_ out_c_ h1_ => K (.exit 2) (buildS s_l03Crossings_l1_o0 [.n out_n_, .n out_l_, .n out_c_, .i i, .i h0_0, .f h0_1, .f h0_2, .l h1_]))
    | _ => none) ((E_s_l03Cross α N).ls 155 6))
theorem E_s_l03Crossings_l1_ok {α : Type} (N : Nat) : EnvOk Try.prog (E_s_l03Crossings_l1 α N) := (E_s_l03Cross_ok N).addLoop2 Try.func155 (by kernel_rfl) (loopSum_ok prog_mixed prog_names (E_s_l03Cross_ok N) Try.func155 (by kernel_rfl) (d := 1) (ro := 0) fun l K r h => by
  split at h
  · exact (s_l03Crossings_l1_loop N _ _ _ _ K N _ _ _ _ _).trans h
  · cases h)
def s_l03Crossings_l0_p : SPat := ⟨[.undef, .ptr ⟨⟨0, 0⟩, 0, 0, 1⟩, .undef, .sliceV 1 0 0 3 false, .int .i64] ++ List.replicate 29 .undef, [[.vals [.int .i64], .ints .u8 8, .ints .u8 8], [.vec .i64]]⟩
def s_l03Crossings_l0_o0 : SPat := ⟨[.undef, .undef, .undef, .sliceV 1 0 0 3 false] ++ List.replicate 30 .undef, [[.vals [.int .i64], .ints .u8 8, .ints .u8 8], [.vec .i64]]⟩
theorem s_l03Crossings_l0_round {α : Type} (N : Nat) (out_n : Nat) (out_l : Nat) (out_c : Nat) (i : Int) (h0_0 : Int) (h0_1 : NI) (h0_2 : NI) (h1 : List Int) (kn : St -> Option α) (K : AExit -> St -> Option α) :
    roundK Try.prog (E_s_l03Crossings_l1 α N) 1 0 155 Try.f155 3 2 (buildS s_l03Crossings_l0_p [.n out_n, .n out_l, .n out_c, .i i, .i h0_0, .f h0_1, .f h0_2, .l h1]) kn K = s_l03Crossings_l0_s none N h0_0 h0_1 h0_2 out_n out_l out_c i h1 (fun out_n out_l out_c i h1 => kn (buildS s_l03Crossings_l0_p [.n out_n, .n out_l, .n out_c, .i i, .i h0_0, .f h0_1, .f h0_2, .l h1])) (fun out_n_ out_l_ out_c_ h1_ => K (.exit 0) (buildS s_l03Crossings_l0_o0 [.n out_n_, .n out_l_, .n out_c_, .i h0_0, .f h0_1, .f h0_2, .l h1_])) := by kernel_rfl
theorem s_l03Crossings_l0_loop {α : Type} (N : Nat) (h0_0 : Int) (h0_1 : NI) (h0_2 : NI) (K : AExit -> St -> Option α) : ∀ (m : Nat) (out_n : Nat) (out_l : Nat) (out_c : Nat) (i : Int) (h1 : List Int),
    loopN (trimSt ((E_s_l03Crossings_l1 α N).ann 155 3).head ((E_s_l03Crossings_l1 α N).ann 155 3).grow 2) (bodyK Try.prog (E_s_l03Crossings_l1 α N) 1 0 155 Try.f155 3) m (buildS s_l03Crossings_l0_p [.n out_n, .n out_l, .n out_c, .i i, .i h0_0, .f h0_1, .f h0_2, .l h1]) (leaveLoop ((E_s_l03Crossings_l1 α N).ann 155 3) 2 K) = s_l03Crossings_l0 none N h0_0 h0_1 h0_2 m out_n out_l out_c i h1 (fun out_n_ out_l_ out_c_ h1_ => K (.exit 0) (buildS s_l03Crossings_l0_o0 [.n out_n_, .n out_l_, .n out_c_, .i h0_0, .f h0_1, .f h0_2, .l h1_])) := by
  intro m
  induction m with
  | zero => intros; rfl
  | succ m ih =>
    intro out_n out_l out_c i h1
    rw [loopN_round]
    refine (s_l03Crossings_l0_round N out_n out_l out_c i h0_0 h0_1 h0_2 h1 _ K).trans ?_
    simp only [ih]
    rfl
def E_s_l03Crossings_l0 (α : Type) (N : Nat) : Env α := (E_s_l03Crossings_l1 α N).addLoop2 155 3 (loopSum2 ((E_s_l03Crossings_l1 α N).ann 155 3) 0 s_l03Crossings_l0_p (fun l K => match l with
    | [.n out_n, .n out_l, .n out_c, .i i, .i h0_0, .f h0_1, .f h0_2, .l h1] => s_l03Crossings_l0 none N h0_0 h0_1 h0_2 N out_n out_l out_c i h1 (fun out_n_ out_l_ out_c_ h1_ => K (.exit 0) (buildS s_l03Crossings_l0_o0 [.n out_n_, .n out_l_, .n out_c_, .i h0_0, .f h0_1, .f h0_2, .l h1_]))
    | _ => none) ((E_s_l03Crossings_l1 α N).ls 155 3))
theorem E_s_l03Crossings_l0_ok {α : Type} (N : Nat) : EnvOk Try.prog (E_s_l03Crossings_l0 α N) := (E_s_l03Crossings_l1_ok N).addLoop2 Try.func155 (by kernel_rfl) (loopSum_ok prog_mixed prog_names (E_s_l03Crossings_l1_ok N) Try.func155 (by kernel_rfl) (d := 1) (ro := 0) fun l K r h => by
  split at h
  · exact (s_l03Crossings_l0_loop N _ _ _ K N _ _ _ _ _).trans h
  · cases h)
def s_l03Crossings_a : SPat := ⟨[.agg [.vals [.int .i64], .ints .u8 8, .ints .u8 8]], []⟩
def s_l03Crossings_r0 : SPat := ⟨[.sliceV 0 0 0 3 false], [[.vec .i64]]⟩
theorem s_l03Crossings_run {α : Type} (N : Nat) (g_0 : Int) (g_1 : NI) (g_2 : NI) (K : AV -> Heap -> Option α) :
    callK Try.prog (E_s_l03Crossings_l0 α N) 1 155 0 (buildS s_l03Crossings_a [.i g_0, .f g_1, .f g_2]).t (buildS s_l03Crossings_a [.i g_0, .f g_1, .f g_2]).h K = s_l03Crossings none N g_0 g_1 g_2 (fun r_n_ r_l_ r_c_ h0_ => retK (buildS s_l03Crossings_r0 [.n r_n_, .n r_l_, .n r_c_, .l h0_]) K) := by kernel_rfl
def E_s_l03Crossings (α : Type) (N : Nat) : Env α := (E_s_l03Crossings_l0 α N).addFun 155 true 0 s_l03Crossings_a (fun l K => match l with
    | [.i g_0, .f g_1, .f g_2] => s_l03Crossings none N g_0 g_1 g_2 (fun r_n_ r_l_ r_c_ h0_ => retK (buildS s_l03Crossings_r0 [.n r_n_, .n r_l_, .n r_c_, .l h0_]) K)
    | _ => none)
theorem E_s_l03Crossings_ok {α : Type} (N : Nat) : EnvOk Try.prog (E_s_l03Crossings α N) := (E_s_l03Crossings_l0_ok N).addFun prog_mixed prog_names (d := 1) fun l K r h => by
  split at h
  · exact (s_l03Crossings_run N _ _ _ K).trans h
  · cases h
def A_s_LinkingTable_l0 (α : Type) (N : Nat) : Env α := (E_s_l03Crossings α N).addAnn 64 6 { head := [1, 4, 5, 6, 7, 8], grow := [], out := [5, 6], ret := [2, 3] }
theorem A_s_LinkingTable_l0_ok {α : Type} (N : Nat) : EnvOk Try.prog (A_s_LinkingTable_l0 α N) := (E_s_l03Crossings_ok N).addAnn
def s_LinkingTable_l0_p : SPat := ⟨[.undef, .ptr ⟨⟨0, 0⟩, 0, 0, 1⟩, .undef, .undef, .ptr ⟨⟨1, 0⟩, 0, 0, 8⟩, .int .i64, .ptr ⟨⟨3, 0⟩, 0, 0, 64⟩, .sliceV 2 0 0 3 false, .int .i64] ++ List.replicate 100 .undef, [[.vals [.int .i64], .ints .u8 8, .ints .u8 8], [.ints .i64 8], [.vec .i64], [.ints .i64 64]]⟩
def s_LinkingTable_l0_o0 : SPat := ⟨[.undef, .undef, .undef, .undef, .undef, .int .i64, .ptr ⟨⟨3, 0⟩, 0, 0, 64⟩] ++ List.replicate 102 .undef, [[.vals [.int .i64], .ints .u8 8, .ints .u8 8], [.ints .i64 8], [.vec .i64], [.ints .i64 64]]⟩
theorem s_LinkingTable_l0_round {α : Type} (N : Nat) (t5 : Int) (t7_n : Nat) (t7_l : Nat) (t7_c : Nat) (t8 : Int) (h0_0 : Int) (h0_1 : NI) (h0_2 : NI) (h1 : NI) (h2 : List Int) (h3 : NI) (kn : St -> Option α) (K : AExit -> St -> Option α) :
    roundK Try.prog (A_s_LinkingTable_l0 α N) 1 0 64 Try.f64 6 4 (buildS s_LinkingTable_l0_p [.i t5, .n t7_n, .n t7_l, .n t7_c, .i t8, .i h0_0, .f h0_1, .f h0_2, .f h1, .l h2, .f h3]) kn K = s_LinkingTable_l0_s none N t5 t7_n t7_l t7_c h0_0 h0_1 h0_2 h1 h2 t8 h3 (fun t8 h3 => kn (buildS s_LinkingTable_l0_p [.i t5, .n t7_n, .n t7_l, .n t7_c, .i t8, .i h0_0, .f h0_1, .f h0_2, .f h1, .l h2, .f h3])) (fun h3_ => K (.exit 0) (buildS s_LinkingTable_l0_o0 [.i t5, .i h0_0, .f h0_1, .f h0_2, .f h1, .l h2, .f h3_])) := by kernel_rfl
theorem s_LinkingTable_l0_loop {α : Type} (N : Nat) (t5 : Int) (t7_n : Nat) (t7_l : Nat) (t7_c : Nat) (h0_0 : Int) (h0_1 : NI) (h0_2 : NI) (h1 : NI) (h2 : List Int) (K : AExit -> St -> Option α) : ∀ (m : Nat) (t8 : Int) (h3 : NI),
    loopN (trimSt ((A_s_LinkingTable_l0 α N).ann 64 6).head ((A_s_LinkingTable_l0 α N).ann 64 6).grow 4) (bodyK Try.prog (A_s_LinkingTable_l0 α N) 1 0 64 Try.f64 6) m (buildS s_LinkingTable_l0_p [.i t5, .n t7_n, .n t7_l, .n t7_c, .i t8, .i h0_0, .f h0_1, .f h0_2, .f h1, .l h2, .f h3]) (leaveLoop ((A_s_LinkingTable_l0 α N).ann 64 6) 4 K) = s_LinkingTable_l0 none N t5 t7_n t7_l t7_c h0_0 h0_1 h0_2 h1 h2 m t8 h3 (fun h3_ => K (.exit 0) (buildS s_LinkingTable_l0_o0 [.i t5, .i h0_0, .f h0_1, .f h0_2, .f h1, .l h2, .f h3_])) := by
  intro m
  induction m with
  | zero => intros; rfl
  | succ m ih =>
    intro t8 h3
    rw [loopN_round]
    refine (s_LinkingTable_l0_round N t5 t7_n t7_l t7_c t8 h0_0 h0_1 h0_2 h1 h2 h3 _ K).trans ?_
    simp only [ih]
    rfl
def E_s_LinkingTable_l0 (α : Type) (N : Nat) : Env α := (A_s_LinkingTable_l0 α N).addLoop2 64 6 (loopSum2 ((A_s_LinkingTable_l0 α N).ann 64 6) 0 s_LinkingTable_l0_p (fun l K => match l with
    | [.i t5, .n t7_n, .n t7_l, .n t7_c, .i t8, .i h0_0, .f h0_1, .f h0_2, .f h1, .l h2, .f h3] => s_LinkingTable_l0 none N t5 t7_n t7_l t7_c h0_0 h0_1 h0_2 h1 h2 N t8 h3 (fun h3_ => K (.exit 0) (buildS s_LinkingTable_l0_o0 [.i t5, .i h0_0, .f h0_1, .f h0_2, .f h1, .l h2, .f h3_]))
    | _ => none) ((A_s_LinkingTable_l0 α N).ls 64 6))
theorem E_s_LinkingTable_l0_ok {α : Type} (N : Nat) : EnvOk Try.prog (E_s_LinkingTable_l0 α N) := (A_s_LinkingTable_l0_ok N).addLoop2 Try.func64 (by kernel_rfl) (loopSum_ok prog_mixed prog_names (A_s_LinkingTable_l0_ok N) Try.func64 (by kernel_rfl) (d := 1) (ro := 0) fun l K r h => by
  split at h
  · exact (s_LinkingTable_l0_loop N _ _ _ _ _ _ _ _ _ K N _ _).trans h
  · cases h)
def A_s_LinkingTable_l1 (α : Type) (N : Nat) : Env α := (E_s_LinkingTable_l0 α N).addAnn 64 12 { head := [5, 6, 11, 12], grow := [11], out := [11], ret := [2, 3] }
theorem A_s_LinkingTable_l1_ok {α : Type} (N : Nat) : EnvOk Try.prog (A_s_LinkingTable_l1 α N) := (E_s_LinkingTable_l0_ok N).addAnn
def A_s_LinkingTable_l2 (α : Type) (N : Nat) : Env α := (A_s_LinkingTable_l1 α N).addAnn 64 16 { head := [5, 6, 11, 12, 13, 14], grow := [13], out := [5, 6, 11, 12, 13], ret := [2, 3] }
theorem A_s_LinkingTable_l2_ok {α : Type} (N : Nat) : EnvOk Try.prog (A_s_LinkingTable_l2 α N) := (A_s_LinkingTable_l1_ok N).addAnn
def s_LinkingTable_l2_p : SPat := ⟨[.undef, .undef, .undef, .undef, .undef, .int .i64, .ptr ⟨⟨3, 0⟩, 0, 0, 64⟩, .undef, .undef, .undef, .undef, .sliceV 5 0 0 1 false, .int .i64, .sliceV 6 0 0 1 false, .int .i64] ++ List.replicate 94 .undef, [[.vals [.int .i64], .ints .u8 8, .ints .u8 8], [.ints .i64 8], [.vec .i64], [.ints .i64 64], [.pool .i64], [.hdr 4], [.vec .i64]]⟩
def s_LinkingTable_l2_o0 : SPat := ⟨[.undef, .undef, .undef, .undef, .undef, .int .i64, .ptr ⟨⟨3, 0⟩, 0, 0, 64⟩, .undef, .undef, .undef, .undef, .sliceV 5 0 0 1 false, .int .i64, .sliceV 6 0 0 1 false] ++ List.replicate 95 .undef, [[.vals [.int .i64], .ints .u8 8, .ints .u8 8], [.ints .i64 8], [.vec .i64], [.ints .i64 64], [.pool .i64], [.hdr 4], [.vec .i64]]⟩
theorem s_LinkingTable_l2_round {α : Type} (N : Nat) (t5 : Int) (t11_n : Nat) (t11_l : Nat) (t11_c : Nat) (t12 : Int) (t13_n : Nat) (t13_l : Nat) (t13_c : Nat) (t14 : Int) (h0_0 : Int) (h0_1 : NI) (h0_2 : NI) (h1 : NI) (h2 : List Int) (h3 : NI) (h4 : List (List Int)) (h5 : List (Nat × Nat)) (h6 : List Int) (kn : St -> Option α) (K : AExit -> St -> Option α) :
    roundK Try.prog (A_s_LinkingTable_l2 α N) 1 0 64 Try.f64 16 7 (buildS s_LinkingTable_l2_p [.i t5, .n t11_n, .n t11_l, .n t11_c, .i t12, .n t13_n, .n t13_l, .n t13_c, .i t14, .i h0_0, .f h0_1, .f h0_2, .f h1, .l h2, .f h3, .r h4, .p h5, .l h6]) kn K = s_LinkingTable_l2_s none t5 t11_n t11_l t11_c t12 h0_0 h0_1 h0_2 h1 h2 h3 h4 h5 t13_n t13_l t13_c t14 h6 (fun t13_n t13_l t13_c t14 h6 => kn (buildS s_LinkingTable_l2_p [.i t5, .n t11_n, .n t11_l, .n t11_c, .i t12, .n t13_n, .n t13_l, .n t13_c, .i t14, .i h0_0, .f h0_1, .f h0_2, .f h1, .l h2, .f h3, .r h4, .p h5, .l h6])) (fun t13_n_ t13_l_ t13_c_ h6_ => K (.exit 4) (buildS s_LinkingTable_l2_o0 [.i t5, .n t11_n, .n t11_l, .n t11_c, .i t12, .n t13_n_, .n t13_l_, .n t13_c_, .i h0_0, .f h0_1, .f h0_2, .f h1, .l h2, .f h3, .r h4, .p h5, .l h6_])) := by kernel_rfl
theorem s_LinkingTable_l2_loop {α : Type} (N : Nat) (t5 : Int) (t11_n : Nat) (t11_l : Nat) (t11_c : Nat) (t12 : Int) (h0_0 : Int) (h0_1 : NI) (h0_2 : NI) (h1 : NI) (h2 : List Int) (h3 : NI) (h4 : List (List Int)) (h5 : List (Nat × Nat)) (K : AExit -> St -> Option α) : ∀ (m : Nat) (t13_n : Nat) (t13_l : Nat) (t13_c : Nat) (t14 : Int) (h6 : List Int),
    loopN (trimSt ((A_s_LinkingTable_l2 α N).ann 64 16).head ((A_s_LinkingTable_l2 α N).ann 64 16).grow 7) (bodyK Try.prog (A_s_LinkingTable_l2 α N) 1 0 64 Try.f64 16) m (buildS s_LinkingTable_l2_p [.i t5, .n t11_n, .n t11_l, .n t11_c, .i t12, .n t13_n, .n t13_l, .n t13_c, .i t14, .i h0_0, .f h0_1, .f h0_2, .f h1, .l h2, .f h3, .r h4, .p h5, .l h6]) (leaveLoop ((A_s_LinkingTable_l2 α N).ann 64 16) 7 K) = s_LinkingTable_l2 none t5 t11_n t11_l t11_c t12 h0_0 h0_1 h0_2 h1 h2 h3 h4 h5 m t13_n t13_l t13_c t14 h6 (fun t13_n_ t13_l_ t13_c_ h6_ => K (.exit 4) (buildS s_LinkingTable_l2_o0 [.i t5, .n t11_n, .n t11_l, .n t11_c, .i t12, .n t13_n_, .n t13_l_, .n t13_c_, .i h0_0, .f h0_1, .f h0_2, .f h1, .l h2, .f h3, .r h4, .p h5, .l h6_])) := by
  intro m
  induction m with
  | zero => intros; rfl
  | succ m ih =>
    intro t13_n t13_l t13_c t14 h6
    rw [loopN_round]
    refine (s_LinkingTable_l2_round N t5 t11_n t11_l t11_c t12 t13_n t13_l t13_c t14 h0_0 h0_1 h0_2 h1 h2 h3 h4 h5 h6 _ K).trans ?_
    simp only [ih]
    rfl
def E_s_LinkingTable_l2 (α : Type) (N : Nat) : Env α := (A_s_LinkingTable_l2 α N).addLoop2 64 16 (loopSum2 ((A_s_LinkingTable_l2 α N).ann 64 16) 0 s_LinkingTable_l2_p (fun l K => match l with
    | [.i t5, .n t11_n, .n t11_l, .n t11_c, .i t12, .n t13_n, .n t13_l, .n t13_c, .i t14, .i h0_0, .f h0_1, .f h0_2, .f h1, .l h2, .f h3, .r h4, .p h5, .l h6] => s_LinkingTable_l2 none t5 t11_n t11_l t11_c t12 h0_0 h0_1 h0_2 h1 h2 h3 h4 h5 N t13_n t13_l t13_c t14 h6 (fun t13_n_ t13_l_ t13_c_ h6_ => K (.exit 4) (buildS s_LinkingTable_l2_o0 [.i t5, .n t11_n, .n t11_l, .n t11_c, .i t12, .n t13_n_, .n t13_l_, .n t13_c_, .i h0_0, .f h0_1, .f h0_2, .f h1, .l h2, .f h3, .r h4, .p h5, .l h6_]))
    | _ => none) ((A_s_LinkingTable_l2 α N).ls 64 16))
theorem E_s_LinkingTable_l2_ok {α : Type} (N : Nat) : EnvOk Try.prog (E_s_LinkingTable_l2 α N) := (A_s_LinkingTable_l2_ok N).addLoop2 Try.func64 (by kernel_rfl) (loopSum_ok prog_mixed prog_names (A_s_LinkingTable_l2_ok N) Try.func64 (by kernel_rfl) (d := 1) (ro := 0) fun l K r h => by
  split at h
  · exact (s_LinkingTable_l2_loop N _ _ _ _ _ _ _ _ _ _ _ _ _ K N _ _ _ _ _).trans h
  · cases h)
def s_LinkingTable_l1_p : SPat := ⟨[.undef, .undef, .undef, .undef, .undef, .int .i64, .ptr ⟨⟨3, 0⟩, 0, 0, 64⟩, .undef, .undef, .undef, .undef, .sliceV 5 0 0 1 false, .int .i64] ++ List.replicate 96 .undef, [[.vals [.int .i64], .ints .u8 8, .ints .u8 8], [.ints .i64 8], [.vec .i64], [.ints .i64 64], [.pool .i64], [.hdr 4]]⟩
def s_LinkingTable_l1_o0 : SPat := ⟨[.undef, .undef, .undef, .undef, .undef, .undef, .undef, .undef, .undef, .undef, .undef, .sliceV 5 0 0 1 false] ++ List.replicate 97 .undef, [[.vals [.int .i64], .ints .u8 8, .ints .u8 8], [.ints .i64 8], [.vec .i64], [.ints .i64 64], [.pool .i64], [.hdr 4]]⟩
theorem s_LinkingTable_l1_round {α : Type} (N : Nat) (t5 : Int) (t11_n : Nat) (t11_l : Nat) (t11_c : Nat) (t12 : Int) (h0_0 : Int) (h0_1 : NI) (h0_2 : NI) (h1 : NI) (h2 : List Int) (h3 : NI) (h4 : List (List Int)) (h5 : List (Nat × Nat)) (kn : St -> Option α) (K : AExit -> St -> Option α) :
    roundK Try.prog (E_s_LinkingTable_l2 α N) 1 0 64 Try.f64 12 6 (buildS s_LinkingTable_l1_p [.i t5, .n t11_n, .n t11_l, .n t11_c, .i t12, .i h0_0, .f h0_1, .f h0_2, .f h1, .l h2, .f h3, .r h4, .p h5]) kn K = s_LinkingTable_l1_s none N t5 h0_0 h0_1 h0_2 h1 h2 h3 t11_n t11_l t11_c t12 h4 h5 (fun t11_n t11_l t11_c t12 h4 h5 => kn (buildS s_LinkingTable_l1_p [.i t5, .n t11_n, .n t11_l, .n t11_c, .i t12, .i h0_0, .f h0_1, .f h0_2, .f h1, .l h2, .f h3, .r h4, .p h5])) (fun t11_n_ t11_l_ t11_c_ h4_ h5_ => K (.exit 2) (buildS s_LinkingTable_l1_o0 [.n t11_n_, .n t11_l_, .n t11_c_, .i h0_0, .f h0_1, .f h0_2, .f h1, .l h2, .f h3, .r h4_, .p h5_])) := by kernel_rfl
theorem s_LinkingTable_l1_loop {α : Type} (N : Nat) (t5 : Int) (h0_0 : Int) (h0_1 : NI) (h0_2 : NI) (h1 : NI) (h2 : List Int) (h3 : NI) (K : AExit -> St -> Option α) : ∀ (m : Nat) (t11_n : Nat) (t11_l : Nat) (t11_c : Nat) (t12 : Int) (h4 : List (List Int)) (h5 : List (Nat × Nat)),
    loopN (trimSt ((E_s_LinkingTable_l2 α N).ann 64 12).head ((E_s_LinkingTable_l2 α N).ann 64 12).grow 6) (bodyK Try.prog (E_s_LinkingTable_l2 α N) 1 0 64 Try.f64 12) m (buildS s_LinkingTable_l1_p [.i t5, .n t11_n, .n t11_l, .n t11_c, .i t12, .i h0_0, .f h0_1, .f h0_2, .f h1, .l h2, .f h3, .r h4, .p h5]) (leaveLoop ((E_s_LinkingTable_l2 α N).ann 64 12) 6 K) = s_LinkingTable_l1 none N t5 h0_0 h0_1 h0_2 h1 h2 h3 m t11_n t11_l t11_c t12 h4 h5 (fun t11_n_ t11_l_ t11_c_ h4_ h5_ => K (.exit 2) (buildS s_LinkingTable_l1_o0 [.n t11_n_, .n t11_l_, .n t11_c_, .i h0_0, .f h0_1, .f h0_2, .f h1, .l h2, .f h3, .r h4_, .p h5_])) := by
  intro m
  induction m with
  | zero => intros; rfl
  | succ m ih =>
    intro t11_n t11_l t11_c t12 h4 h5
    rw [loopN_round]
    refine (s_LinkingTable_l1_round N t5 t11_n t11_l t11_c t12 h0_0 h0_1 h0_2 h1 h2 h3 h4 h5 _ K).trans ?_
    simp only [ih]
    rfl
def E_s_LinkingTable_l1 (α : Type) (N : Nat) : Env α := (E_s_LinkingTable_l2 α N).addLoop2 64 12 (loopSum2 ((E_s_LinkingTable_l2 α N).ann 64 12) 0 s_LinkingTable_l1_p (fun l K => match l with
    | [.i t5, .n t11_n, .n t11_l, .n t11_c, .i t12, .i h0_0, .f h0_1, .f h0_2, .f h1, .l h2, .f h3, .r h4, .p h5] => s_LinkingTable_l1 none N t5 h0_0 h0_1 h0_2 h1 h2 h3 N t11_n t11_l t11_c t12 h4 h5 (fun t11_n_ t11_l_ t11_c_ h4_ h5_ => K (.exit 2) (buildS s_LinkingTable_l1_o0 [.n t11_n_, .n t11_l_, .n t11_c_, .i h0_0, .f h0_1, .f h0_2, .f h1, .l h2, .f h3, .r h4_, .p h5_]))
    | _ => none) ((E_s_LinkingTable_l2 α N).ls 64 12))
theorem E_s_LinkingTable_l1_ok {α : Type} (N : Nat) : EnvOk Try.prog (E_s_LinkingTable_l1 α N) := (E_s_LinkingTable_l2_ok N).addLoop2 Try.func64 (by kernel_rfl) (loopSum_ok prog_mixed prog_names (E_s_LinkingTable_l2_ok N) Try.func64 (by kernel_rfl) (d := 1) (ro := 0) fun l K r h => by
  split at h
  · exact (s_LinkingTable_l1_loop N _ _ _ _ _ _ _ K N _ _ _ _ _ _).trans h
  · cases h)
def s_LinkingTable_a : SPat := ⟨[.agg [.vals [.int .i64], .ints .u8 8, .ints .u8 8]], []⟩
def s_LinkingTable_r0 : SPat := ⟨[.tuple [.nils, .int .i64]], []⟩
def s_LinkingTable_r1 : SPat := ⟨[.tuple [.sliceV 0 0 0 1 false, .int .i64]], [[.hdr 1], [.pool .i64]]⟩
theorem s_LinkingTable_run {α : Type} (N : Nat) (g_0 : Int) (g_1 : NI) (g_2 : NI) (K : AV -> Heap -> Option α) :
    callK Try.prog (E_s_LinkingTable_l1 α N) 1 64 0 (buildS s_LinkingTable_a [.i g_0, .f g_1, .f g_2]).t (buildS s_LinkingTable_a [.i g_0, .f g_1, .f g_2]).h K = s_LinkingTable none N g_0 g_1 g_2 (fun r_1_ => retK (buildS s_LinkingTable_r0 [.i r_1_]) K) (fun r_0_n_ r_0_l_ r_0_c_ r_1_ h0_ h1_ => retK (buildS s_LinkingTable_r1 [.n r_0_n_, .n r_0_l_, .n r_0_c_, .i r_1_, .p h0_, .r h1_]) K) := by kernel_rfl
def E_s_LinkingTable (α : Type) (N : Nat) : Env α := (E_s_LinkingTable_l1 α N).addFun 64 true 0 s_LinkingTable_a (fun l K => match l with
    | [.i g_0, .f g_1, .f g_2] => s_LinkingTable none N g_0 g_1 g_2 (fun r_1_ => retK (buildS s_LinkingTable_r0 [.i r_1_]) K) (fun r_0_n_ r_0_l_ r_0_c_ r_1_ h0_ h1_ => retK (buildS s_LinkingTable_r1 [.n r_0_n_, .n r_0_l_, .n r_0_c_, .i r_1_, .p h0_, .r h1_]) K)
    | _ => none)
theorem E_s_LinkingTable_ok {α : Type} (N : Nat) : EnvOk Try.prog (E_s_LinkingTable α N) := (E_s_LinkingTable_l1_ok N).addFun prog_mixed prog_names (d := 1) fun l K r h => by
  split at h
  · exact (s_LinkingTable_run N _ _ _ K).trans h
  · cases h
def A_s_ComponentNumbers_l0 (α : Type) (N : Nat) : Env α := (E_s_LinkingTable α N).addAnn 10 6 { head := [1, 4, 6, 7], grow := [6], out := [6], ret := [2, 3] }
theorem A_s_ComponentNumbers_l0_ok {α : Type} (N : Nat) : EnvOk Try.prog (A_s_ComponentNumbers_l0 α N) := (E_s_LinkingTable_ok N).addAnn
def A_s_l07Corners_l0 (α : Type) (N : Nat) : Env α := (A_s_ComponentNumbers_l0 α N).addAnn 165 3 { head := [1, 3, 4], grow := [3], out := [3], ret := [2] }
theorem A_s_l07Corners_l0_ok {α : Type} (N : Nat) : EnvOk Try.prog (A_s_l07Corners_l0 α N) := (A_s_ComponentNumbers_l0_ok N).addAnn
def s_l07Kind_a : SPat := ⟨[.agg [.vals [.int .i64], .ints .u8 8, .ints .u8 8], .int .i64, .int .i64, .bool], []⟩
def s_l07Kind_r0 : SPat := ⟨[.int .i64], []⟩
theorem s_l07Kind_run {α : Type} (N : Nat) (g_0 : Int) (g_1 : NI) (g_2 : NI) (i : Int) (r_ : Int) (isX : Bool) (K : AV -> Heap -> Option α) :
    callK Try.prog (A_s_l07Corners_l0 α N) 1 209 0 (buildS s_l07Kind_a [.i g_0, .f g_1, .f g_2, .i i, .i r_, .b isX]).t (buildS s_l07Kind_a [.i g_0, .f g_1, .f g_2, .i i, .i r_, .b isX]).h K = s_l07Kind none N g_0 g_1 g_2 i r_ isX (fun r__ => retK (buildS s_l07Kind_r0 [.i r__]) K) := by kernel_rfl
def E_s_l07Kind (α : Type) (N : Nat) : Env α := (A_s_l07Corners_l0 α N).addFun 209 true 0 s_l07Kind_a (fun l K => match l with
    | [.i g_0, .f g_1, .f g_2, .i i, .i r_, .b isX] => s_l07Kind none N g_0 g_1 g_2 i r_ isX (fun r__ => retK (buildS s_l07Kind_r0 [.i r__]) K)
    | _ => none)
theorem E_s_l07Kind_ok {α : Type} (N : Nat) : EnvOk Try.prog (E_s_l07Kind α N) := (A_s_l07Corners_l0_ok N).addFun prog_mixed prog_names (d := 1) fun l K r h => by
  split at h
  · exact (s_l07Kind_run N _ _ _ _ _ _ K).trans h
  · cases h
def s_l07Corners_l0_p : SPat := ⟨[.undef, .ptr ⟨⟨0, 0⟩, 0, 0, 1⟩, .undef, .sliceV 1 0 0 4 false, .int .i64] ++ List.replicate 37 .undef, [[.vals [.int .i64], .ints .u8 8, .ints .u8 8], [.recs [some IntKind.i64, some IntKind.i64, some IntKind.i64, none]]]⟩
def s_l07Corners_l0_o0 : SPat := ⟨[.undef, .undef, .undef, .sliceV 1 0 0 4 false] ++ List.replicate 38 .undef, [[.vals [.int .i64], .ints .u8 8, .ints .u8 8], [.recs [some IntKind.i64, some IntKind.i64, some IntKind.i64, none]]]⟩
theorem s_l07Corners_l0_round {α : Type} (N : Nat) (out_n : Nat) (out_l : Nat) (out_c : Nat) (i : Int) (h0_0 : Int) (h0_1 : NI) (h0_2 : NI) (h1 : List Int) (kn : St -> Option α) (K : AExit -> St -> Option α) :
    roundK Try.prog (E_s_l07Kind α N) 1 0 165 Try.f165 3 2 (buildS s_l07Corners_l0_p [.n out_n, .n out_l, .n out_c, .i i, .i h0_0, .f h0_1, .f h0_2, .l h1]) kn K = s_l07Corners_l0_s none N h0_0 h0_1 h0_2 out_n out_l out_c i h1 (fun out_n out_l out_c i h1 => kn (buildS s_l07Corners_l0_p [.n out_n, .n out_l, .n out_c, .i i, .i h0_0, .f h0_1, .f h0_2, .l h1])) (fun out_n_ out_l_ out_c_ h1_ => K (.exit 0) (buildS s_l07Corners_l0_o0 [.n out_n_, .n out_l_, .n out_c_, .i h0_0, .f h0_1, .f h0_2, .l h1_])) := by kernel_rfl
theorem s_l07Corners_l0_loop {α : Type} (N : Nat) (h0_0 : Int) (h0_1 : NI) (h0_2 : NI) (K : AExit -> St -> Option α) : ∀ (m : Nat) (out_n : Nat) (out_l : Nat) (out_c : Nat) (i : Int) (h1 : List Int),
    loopN (trimSt ((E_s_l07Kind α N).ann 165 3).head ((E_s_l07Kind α N).ann 165 3).grow 2) (bodyK Try.prog (E_s_l07Kind α N) 1 0 165 Try.f165 3) m (buildS s_l07Corners_l0_p [.n out_n, .n out_l, .n out_c, .i i, .i h0_0, .f h0_1, .f h0_2, .l h1]) (leaveLoop ((E_s_l07Kind α N).ann 165 3) 2 K) = s_l07Corners_l0 none N h0_0 h0_1 h0_2 m out_n out_l out_c i h1 (fun out_n_ out_l_ out_c_ h1_ => K (.exit 0) (buildS s_l07Corners_l0_o0 [.n out_n_, .n out_l_, .n out_c_, .i h0_0, .f h0_1, .f h0_2, .l h1_])) := by
  intro m
  induction m with
  | zero => intros; rfl
  | succ m ih =>
    intro out_n out_l out_c i h1
    rw [loopN_round]
    refine (s_l07Corners_l0_round N out_n out_l out_c i h0_0 h0_1 h0_2 h1 _ K).trans ?_
    simp only [ih]
    rfl
def E_s_l07Corners_l0 (α : Type) (N : Nat) : Env α := (E_s_l07Kind α N).addLoop2 165 3 (loopSum2 ((E_s_l07Kind α N).ann 165 3) 0 s_l07Corners_l0_p (fun l K => match l with
    | [.n out_n, .n out_l, .n out_c, .i i, .i h0_0, .f h0_1, .f h0_2, .l h1] => s_l07Corners_l0 none N h0_0 h0_1 h0_2 N out_n out_l out_c i h1 (fun out_n_ out_l_ out_c_ h1_ => K (.exit 0) (buildS s_l07Corners_l0_o0 [.n out_n_, .n out_l_, .n out_c_, .i h0_0, .f h0_1, .f h0_2, .l h1_]))
    | _ => none) ((E_s_l07Kind α N).ls 165 3))
theorem E_s_l07Corners_l0_ok {α : Type} (N : Nat) : EnvOk Try.prog (E_s_l07Corners_l0 α N) := (E_s_l07Kind_ok N).addLoop2 Try.func165 (by kernel_rfl) (loopSum_ok prog_mixed prog_names (E_s_l07Kind_ok N) Try.func165 (by kernel_rfl) (d := 1) (ro := 0) fun l K r h => by
  split at h
  · exact (s_l07Corners_l0_loop N _ _ _ K N _ _ _ _ _).trans h
  · cases h)
def s_l07Corners_a : SPat := ⟨[.agg [.vals [.int .i64], .ints .u8 8, .ints .u8 8]], []⟩
def s_l07Corners_r0 : SPat := ⟨[.sliceV 0 0 0 4 false], [[.recs [some IntKind.i64, some IntKind.i64, some IntKind.i64, none]]]⟩
theorem s_l07Corners_run {α : Type} (N : Nat) (g_0 : Int) (g_1 : NI) (g_2 : NI) (K : AV -> Heap -> Option α) :
    callK Try.prog (E_s_l07Corners_l0 α N) 1 165 0 (buildS s_l07Corners_a [.i g_0, .f g_1, .f g_2]).t (buildS s_l07Corners_a [.i g_0, .f g_1, .f g_2]).h K = s_l07Corners none N g_0 g_1 g_2 (fun r_n_ r_l_ r_c_ h0_ => retK (buildS s_l07Corners_r0 [.n r_n_, .n r_l_, .n r_c_, .l h0_]) K) := by kernel_rfl
def E_s_l07Corners (α : Type) (N : Nat) : Env α := (E_s_l07Corners_l0 α N).addFun 165 true 0 s_l07Corners_a (fun l K => match l with
    | [.i g_0, .f g_1, .f g_2] => s_l07Corners none N g_0 g_1 g_2 (fun r_n_ r_l_ r_c_ h0_ => retK (buildS s_l07Corners_r0 [.n r_n_, .n r_l_, .n r_c_, .l h0_]) K)
    | _ => none)
theorem E_s_l07Corners_ok {α : Type} (N : Nat) : EnvOk Try.prog (E_s_l07Corners α N) := (E_s_l07Corners_l0_ok N).addFun prog_mixed prog_names (d := 1) fun l K r h => by
  split at h
  · exact (s_l07Corners_run N _ _ _ K).trans h
  · cases h
def A_s_l07Cusps_l0 (α : Type) (N : Nat) : Env α := (E_s_l07Corners α N).addAnn 91 4 { head := [1, 6, 8, 9, 10, 11], grow := [], out := [9, 10], ret := [4, 5] }
theorem A_s_l07Cusps_l0_ok {α : Type} (N : Nat) : EnvOk Try.prog (A_s_l07Cusps_l0 α N) := (E_s_l07Corners_ok N).addAnn
def s_l07Cusps_l0_p : SPat := ⟨[.undef, .int .i64, .undef, .undef, .undef, .undef, .ptr ⟨⟨1, 0⟩, 0, 0, 8⟩, .undef, .sliceV 2 0 0 4 false, .int .i64, .int .i64, .int .i64] ++ List.replicate 60 .undef, [[.vals [.int .i64], .ints .u8 8, .ints .u8 8], [.ints .i64 8], [.recs [some IntKind.i64, some IntKind.i64, some IntKind.i64, none]]]⟩
def s_l07Cusps_l0_o0 : SPat := ⟨[.undef, .undef, .undef, .undef, .undef, .undef, .undef, .undef, .undef, .int .i64, .int .i64] ++ List.replicate 61 .undef, [[.vals [.int .i64], .ints .u8 8, .ints .u8 8], [.ints .i64 8], [.recs [some IntKind.i64, some IntKind.i64, some IntKind.i64, none]]]⟩
theorem s_l07Cusps_l0_round {α : Type} (N : Nat) (t1 : Int) (t8_n : Nat) (t8_l : Nat) (t8_c : Nat) (t9 : Int) (t10 : Int) (t11 : Int) (h0_0 : Int) (h0_1 : NI) (h0_2 : NI) (h1 : NI) (h2 : List Int) (kn : St -> Option α) (K : AExit -> St -> Option α) :
    roundK Try.prog (A_s_l07Cusps_l0 α N) 1 0 91 Try.f91 4 3 (buildS s_l07Cusps_l0_p [.i t1, .n t8_n, .n t8_l, .n t8_c, .i t9, .i t10, .i t11, .i h0_0, .f h0_1, .f h0_2, .f h1, .l h2]) kn K = s_l07Cusps_l0_s none t1 t8_n t8_l t8_c h0_0 h0_1 h0_2 h1 h2 t9 t10 t11 (fun t9 t10 t11 => kn (buildS s_l07Cusps_l0_p [.i t1, .n t8_n, .n t8_l, .n t8_c, .i t9, .i t10, .i t11, .i h0_0, .f h0_1, .f h0_2, .f h1, .l h2])) (fun t9_ t10_ => K (.exit 0) (buildS s_l07Cusps_l0_o0 [.i t9_, .i t10_, .i h0_0, .f h0_1, .f h0_2, .f h1, .l h2])) := by kernel_rfl
theorem s_l07Cusps_l0_loop {α : Type} (N : Nat) (t1 : Int) (t8_n : Nat) (t8_l : Nat) (t8_c : Nat) (h0_0 : Int) (h0_1 : NI) (h0_2 : NI) (h1 : NI) (h2 : List Int) (K : AExit -> St -> Option α) : ∀ (m : Nat) (t9 : Int) (t10 : Int) (t11 : Int),
    loopN (trimSt ((A_s_l07Cusps_l0 α N).ann 91 4).head ((A_s_l07Cusps_l0 α N).ann 91 4).grow 3) (bodyK Try.prog (A_s_l07Cusps_l0 α N) 1 0 91 Try.f91 4) m (buildS s_l07Cusps_l0_p [.i t1, .n t8_n, .n t8_l, .n t8_c, .i t9, .i t10, .i t11, .i h0_0, .f h0_1, .f h0_2, .f h1, .l h2]) (leaveLoop ((A_s_l07Cusps_l0 α N).ann 91 4) 3 K) = s_l07Cusps_l0 none t1 t8_n t8_l t8_c h0_0 h0_1 h0_2 h1 h2 m t9 t10 t11 (fun t9_ t10_ => K (.exit 0) (buildS s_l07Cusps_l0_o0 [.i t9_, .i t10_, .i h0_0, .f h0_1, .f h0_2, .f h1, .l h2])) := by
  intro m
  induction m with
  | zero => intros; rfl
  | succ m ih =>
    intro t9 t10 t11
    rw [loopN_round]
    refine (s_l07Cusps_l0_round N t1 t8_n t8_l t8_c t9 t10 t11 h0_0 h0_1 h0_2 h1 h2 _ K).trans ?_
    simp only [ih]
    rfl
def E_s_l07Cusps_l0 (α : Type) (N : Nat) : Env α := (A_s_l07Cusps_l0 α N).addLoop2 91 4 (loopSum2 ((A_s_l07Cusps_l0 α N).ann 91 4) 0 s_l07Cusps_l0_p (fun l K => match l with
    | [.i t1, .n t8_n, .n t8_l, .n t8_c, .i t9, .i t10, .i t11, .i h0_0, .f h0_1, .f h0_2, .f h1, .l h2] => s_l07Cusps_l0 none t1 t8_n t8_l t8_c h0_0 h0_1 h0_2 h1 h2 N t9 t10 t11 (fun t9_ t10_ => K (.exit 0) (buildS s_l07Cusps_l0_o0 [.i t9_, .i t10_, .i h0_0, .f h0_1, .f h0_2, .f h1, .l h2]))
    | _ => none) ((A_s_l07Cusps_l0 α N).ls 91 4))
theorem E_s_l07Cusps_l0_ok {α : Type} (N : Nat) : EnvOk Try.prog (E_s_l07Cusps_l0 α N) := (A_s_l07Cusps_l0_ok N).addLoop2 Try.func91 (by kernel_rfl) (loopSum_ok prog_mixed prog_names (A_s_l07Cusps_l0_ok N) Try.func91 (by kernel_rfl) (d := 1) (ro := 0) fun l K r h => by
  split at h
  · exact (s_l07Cusps_l0_loop N _ _ _ _ _ _ _ _ _ K N _ _ _).trans h
  · cases h)
def s_l07Cusps_a : SPat := ⟨[.agg [.vals [.int .i64], .ints .u8 8, .ints .u8 8], .int .i64], []⟩
def s_l07Cusps_r0 : SPat := ⟨[.tuple [.int .i64, .int .i64]], []⟩
theorem s_l07Cusps_run {α : Type} (N : Nat) (g_0 : Int) (g_1 : NI) (g_2 : NI) (a1 : Int) (K : AV -> Heap -> Option α) :
    callK Try.prog (E_s_l07Cusps_l0 α N) 1 91 0 (buildS s_l07Cusps_a [.i g_0, .f g_1, .f g_2, .i a1]).t (buildS s_l07Cusps_a [.i g_0, .f g_1, .f g_2, .i a1]).h K = s_l07Cusps none N g_0 g_1 g_2 a1 (fun r_0_ r_1_ => retK (buildS s_l07Cusps_r0 [.i r_0_, .i r_1_]) K) := by kernel_rfl
def E_s_l07Cusps (α : Type) (N : Nat) : Env α := (E_s_l07Cusps_l0 α N).addFun 91 true 0 s_l07Cusps_a (fun l K => match l with
    | [.i g_0, .f g_1, .f g_2, .i a1] => s_l07Cusps none N g_0 g_1 g_2 a1 (fun r_0_ r_1_ => retK (buildS s_l07Cusps_r0 [.i r_0_, .i r_1_]) K)
    | _ => none)
theorem E_s_l07Cusps_ok {α : Type} (N : Nat) : EnvOk Try.prog (E_s_l07Cusps α N) := (E_s_l07Cusps_l0_ok N).addFun prog_mixed prog_names (d := 1) fun l K r h => by
  split at h
  · exact (s_l07Cusps_run N _ _ _ _ K).trans h
  · cases h
def s_ComponentNumbers_l0_p : SPat := ⟨[.undef, .ptr ⟨⟨0, 0⟩, 0, 0, 1⟩, .undef, .undef, .nils, .undef, .sliceV 2 0 0 1 false, .int .i64] ++ List.replicate 45 .undef, [[.vals [.int .i64], .ints .u8 8, .ints .u8 8], [.pool .i64], [.hdr 1]]⟩
def s_ComponentNumbers_l0_o0 : SPat := ⟨[.undef, .undef, .undef, .undef, .undef, .undef, .sliceV 2 0 0 1 false] ++ List.replicate 46 .undef, [[.vals [.int .i64], .ints .u8 8, .ints .u8 8], [.pool .i64], [.hdr 1]]⟩
theorem s_ComponentNumbers_l0_round {α : Type} (N : Nat) (out_n : Nat) (out_l : Nat) (out_c : Nat) (c : Int) (h0_0 : Int) (h0_1 : NI) (h0_2 : NI) (h1 : List (List Int)) (h2 : List (Nat × Nat)) (kn : St -> Option α) (K : AExit -> St -> Option α) :
    roundK Try.prog (E_s_l07Cusps α N) 1 0 10 Try.f10 6 3 (buildS s_ComponentNumbers_l0_p [.n out_n, .n out_l, .n out_c, .i c, .i h0_0, .f h0_1, .f h0_2, .r h1, .p h2]) kn K = s_ComponentNumbers_l0_s none N out_n out_l out_c c h0_0 h0_1 h0_2 h1 h2  (kn (buildS s_ComponentNumbers_l0_p [.n out_n, .n out_l, .n out_c, .i c, .i h0_0, .f h0_1, .f h0_2, .r h1, .p h2])) (K (.exit 0) (buildS s_ComponentNumbers_l0_o0 [.n out_n, .n out_l, .n out_c, .i h0_0, .f h0_1, .f h0_2, .r h1, .p h2])) := by kernel_rfl
theorem s_ComponentNumbers_l0_loop {α : Type} (N : Nat) (out_n : Nat) (out_l : Nat) (out_c : Nat) (c : Int) (h0_0 : Int) (h0_1 : NI) (h0_2 : NI) (h1 : List (List Int)) (h2 : List (Nat × Nat)) (K : AExit -> St -> Option α) : ∀ (m : Nat),
    loopN (trimSt ((E_s_l07Cusps α N).ann 10 6).head ((E_s_l07Cusps α N).ann 10 6).grow 3) (bodyK Try.prog (E_s_l07Cusps α N) 1 0 10 Try.f10 6) m (buildS s_ComponentNumbers_l0_p [.n out_n, .n out_l, .n out_c, .i c, .i h0_0, .f h0_1, .f h0_2, .r h1, .p h2]) (leaveLoop ((E_s_l07Cusps α N).ann 10 6) 3 K) = s_ComponentNumbers_l0 none N out_n out_l out_c c h0_0 h0_1 h0_2 h1 h2 m  (K (.exit 0) (buildS s_ComponentNumbers_l0_o0 [.n out_n, .n out_l, .n out_c, .i h0_0, .f h0_1, .f h0_2, .r h1, .p h2])) := by
  intro m
  induction m with
  | zero => intros; rfl
  | succ m ih =>
    rw [loopN_round]
    refine (s_ComponentNumbers_l0_round N out_n out_l out_c c h0_0 h0_1 h0_2 h1 h2 _ K).trans ?_
    simp only [ih]
    rfl
def E_s_ComponentNumbers_l0 (α : Type) (N : Nat) : Env α := (E_s_l07Cusps α N).addLoop2 10 6 (loopSum2 ((E_s_l07Cusps α N).ann 10 6) 0 s_ComponentNumbers_l0_p (fun l K => match l with
    | [.n out_n, .n out_l, .n out_c, .i c, .i h0_0, .f h0_1, .f h0_2, .r h1, .p h2] => s_ComponentNumbers_l0 none N out_n out_l out_c c h0_0 h0_1 h0_2 h1 h2 N  (K (.exit 0) (buildS s_ComponentNumbers_l0_o0 [.n out_n, .n out_l, .n out_c, .i h0_0, .f h0_1, .f h0_2, .r h1, .p h2]))
    | _ => none) ((E_s_l07Cusps α N).ls 10 6))
theorem E_s_ComponentNumbers_l0_ok {α : Type} (N : Nat) : EnvOk Try.prog (E_s_ComponentNumbers_l0 α N) := (E_s_l07Cusps_ok N).addLoop2 Try.func10 (by kernel_rfl) (loopSum_ok prog_mixed prog_names (E_s_l07Cusps_ok N) Try.func10 (by kernel_rfl) (d := 1) (ro := 0) fun l K r h => by
  split at h
  · exact (s_ComponentNumbers_l0_loop N _ _ _ _ _ _ _ _ _ K N ).trans h
  · cases h)
def s_ComponentNumbers_l0_s2_p : SPat := ⟨[.undef, .ptr ⟨⟨0, 0⟩, 0, 0, 1⟩, .undef, .undef, .sliceV 1 0 0 1 false, .undef, .sliceV 4 0 0 1 false, .int .i64] ++ List.replicate 45 .undef, [[.vals [.int .i64], .ints .u8 8, .ints .u8 8], [.hdr 2], [.pool .i64], [.pool .i64], [.hdr 3]]⟩
def s_ComponentNumbers_l0_s2_o0 : SPat := ⟨[.undef, .undef, .undef, .undef, .undef, .undef, .sliceV 4 0 0 1 false] ++ List.replicate 46 .undef, [[.vals [.int .i64], .ints .u8 8, .ints .u8 8], [.hdr 2], [.pool .i64], [.pool .i64], [.hdr 3]]⟩
theorem s_ComponentNumbers_l0_s2_round {α : Type} (N : Nat) (table_n : Nat) (table_l : Nat) (table_c : Nat) (out_n : Nat) (out_l : Nat) (out_c : Nat) (c : Int) (h0_0 : Int) (h0_1 : NI) (h0_2 : NI) (h1 : List (Nat × Nat)) (h2 : List (List Int)) (h3 : List (List Int)) (h4 : List (Nat × Nat)) (kn : St -> Option α) (K : AExit -> St -> Option α) :
    roundK Try.prog (E_s_ComponentNumbers_l0 α N) 1 0 10 Try.f10 6 5 (buildS s_ComponentNumbers_l0_s2_p [.n table_n, .n table_l, .n table_c, .n out_n, .n out_l, .n out_c, .i c, .i h0_0, .f h0_1, .f h0_2, .p h1, .r h2, .r h3, .p h4]) kn K = s_ComponentNumbers_l0_s2_s none N table_n table_l table_c h0_0 h0_1 h0_2 h1 h2 out_n out_l out_c c h3 h4 (fun out_n out_l out_c c h3 h4 => kn (buildS s_ComponentNumbers_l0_s2_p [.n table_n, .n table_l, .n table_c, .n out_n, .n out_l, .n out_c, .i c, .i h0_0, .f h0_1, .f h0_2, .p h1, .r h2, .r h3, .p h4])) (fun out_n_ out_l_ out_c_ h3_ h4_ => K (.exit 0) (buildS s_ComponentNumbers_l0_s2_o0 [.n out_n_, .n out_l_, .n out_c_, .i h0_0, .f h0_1, .f h0_2, .p h1, .r h2, .r h3_, .p h4_])) := by kernel_rfl
theorem s_ComponentNumbers_l0_s2_loop {α : Type} (N : Nat) (table_n : Nat) (table_l : Nat) (table_c : Nat) (h0_0 : Int) (h0_1 : NI) (h0_2 : NI) (h1 : List (Nat × Nat)) (h2 : List (List Int)) (K : AExit -> St -> Option α) : ∀ (m : Nat) (out_n : Nat) (out_l : Nat) (out_c : Nat) (c : Int) (h3 : List (List Int)) (h4 : List (Nat × Nat)),
    loopN (trimSt ((E_s_ComponentNumbers_l0 α N).ann 10 6).head ((E_s_ComponentNumbers_l0 α N).ann 10 6).grow 5) (bodyK Try.prog (E_s_ComponentNumbers_l0 α N) 1 0 10 Try.f10 6) m (buildS s_ComponentNumbers_l0_s2_p [.n table_n, .n table_l, .n table_c, .n out_n, .n out_l, .n out_c, .i c, .i h0_0, .f h0_1, .f h0_2, .p h1, .r h2, .r h3, .p h4]) (leaveLoop ((E_s_ComponentNumbers_l0 α N).ann 10 6) 5 K) = s_ComponentNumbers_l0_s2 none N table_n table_l table_c h0_0 h0_1 h0_2 h1 h2 m out_n out_l out_c c h3 h4 (fun out_n_ out_l_ out_c_ h3_ h4_ => K (.exit 0) (buildS s_ComponentNumbers_l0_s2_o0 [.n out_n_, .n out_l_, .n out_c_, .i h0_0, .f h0_1, .f h0_2, .p h1, .r h2, .r h3_, .p h4_])) := by
  intro m
  induction m with
  | zero => intros; rfl
  | succ m ih =>
    intro out_n out_l out_c c h3 h4
    rw [loopN_round]
    refine (s_ComponentNumbers_l0_s2_round N table_n table_l table_c out_n out_l out_c c h0_0 h0_1 h0_2 h1 h2 h3 h4 _ K).trans ?_
    simp only [ih]
    rfl
def E_s_ComponentNumbers_l0_s2 (α : Type) (N : Nat) : Env α := (E_s_ComponentNumbers_l0 α N).addLoop2 10 6 (loopSum2 ((E_s_ComponentNumbers_l0 α N).ann 10 6) 0 s_ComponentNumbers_l0_s2_p (fun l K => match l with
    | [.n table_n, .n table_l, .n table_c, .n out_n, .n out_l, .n out_c, .i c, .i h0_0, .f h0_1, .f h0_2, .p h1, .r h2, .r h3, .p h4] => s_ComponentNumbers_l0_s2 none N table_n table_l table_c h0_0 h0_1 h0_2 h1 h2 N out_n out_l out_c c h3 h4 (fun out_n_ out_l_ out_c_ h3_ h4_ => K (.exit 0) (buildS s_ComponentNumbers_l0_s2_o0 [.n out_n_, .n out_l_, .n out_c_, .i h0_0, .f h0_1, .f h0_2, .p h1, .r h2, .r h3_, .p h4_]))
    | _ => none) ((E_s_ComponentNumbers_l0 α N).ls 10 6))
theorem E_s_ComponentNumbers_l0_s2_ok {α : Type} (N : Nat) : EnvOk Try.prog (E_s_ComponentNumbers_l0_s2 α N) := (E_s_ComponentNumbers_l0_ok N).addLoop2 Try.func10 (by kernel_rfl) (loopSum_ok prog_mixed prog_names (E_s_ComponentNumbers_l0_ok N) Try.func10 (by kernel_rfl) (d := 1) (ro := 0) fun l K r h => by
  split at h
  · exact (s_ComponentNumbers_l0_s2_loop N _ _ _ _ _ _ _ _ K N _ _ _ _ _ _).trans h
  · cases h)
def s_ComponentNumbers_a : SPat := ⟨[.agg [.vals [.int .i64], .ints .u8 8, .ints .u8 8]], []⟩
def s_ComponentNumbers_r0 : SPat := ⟨[.tuple [.nils, .int .i64]], []⟩
def s_ComponentNumbers_r1 : SPat := ⟨[.tuple [.slice ⟨⟨0, 0⟩, 0, 0, 0⟩ 0 0 1 false, .int .i64]], [[.hdr 1], [.pool .i64]]⟩
def s_ComponentNumbers_r2 : SPat := ⟨[.tuple [.sliceV 0 0 0 1 false, .int .i64]], [[.hdr 1], [.pool .i64]]⟩
theorem s_ComponentNumbers_run {α : Type} (N : Nat) (g_0 : Int) (g_1 : NI) (g_2 : NI) (K : AV -> Heap -> Option α) :
    callK Try.prog (E_s_ComponentNumbers_l0_s2 α N) 1 10 0 (buildS s_ComponentNumbers_a [.i g_0, .f g_1, .f g_2]).t (buildS s_ComponentNumbers_a [.i g_0, .f g_1, .f g_2]).h K = s_ComponentNumbers none N g_0 g_1 g_2 (fun r_1_ => retK (buildS s_ComponentNumbers_r0 [.i r_1_]) K) (fun r_1_ h0_ h1_ => retK (buildS s_ComponentNumbers_r1 [.i r_1_, .p h0_, .r h1_]) K) (fun r_0_n_ r_0_l_ r_0_c_ r_1_ h0_ h1_ => retK (buildS s_ComponentNumbers_r2 [.n r_0_n_, .n r_0_l_, .n r_0_c_, .i r_1_, .p h0_, .r h1_]) K) := by kernel_rfl
def E_s_ComponentNumbers (α : Type) (N : Nat) : Env α := (E_s_ComponentNumbers_l0_s2 α N).addFun 10 true 0 s_ComponentNumbers_a (fun l K => match l with
    | [.i g_0, .f g_1, .f g_2] => s_ComponentNumbers none N g_0 g_1 g_2 (fun r_1_ => retK (buildS s_ComponentNumbers_r0 [.i r_1_]) K) (fun r_1_ h0_ h1_ => retK (buildS s_ComponentNumbers_r1 [.i r_1_, .p h0_, .r h1_]) K) (fun r_0_n_ r_0_l_ r_0_c_ r_1_ h0_ h1_ => retK (buildS s_ComponentNumbers_r2 [.n r_0_n_, .n r_0_l_, .n r_0_c_, .i r_1_, .p h0_, .r h1_]) K)
    | _ => none)
theorem E_s_ComponentNumbers_ok {α : Type} (N : Nat) : EnvOk Try.prog (E_s_ComponentNumbers α N) := (E_s_ComponentNumbers_l0_s2_ok N).addFun prog_mixed prog_names (d := 1) fun l K r h => by
  split at h
  · exact (s_ComponentNumbers_run N _ _ _ K).trans h
  · cases h
def i_within_a : SPat := ⟨[.int .i64, .int .i64, .int .i64], []⟩
def i_within_r0 : SPat := ⟨[.bool], []⟩
theorem i_within_run {α : Type} (N : Nat) (x : Int) (low : Int) (high : Int) (K : AV -> Heap -> Option α) :
    callK Try.prog (E_s_ComponentNumbers α N) 1 117 0 (buildS i_within_a [.i x, .i low, .i high]).t (buildS i_within_a [.i x, .i low, .i high]).h K = i_within none N x low high (fun r__ => retK (buildS i_within_r0 [.b r__]) K) := by kernel_rfl
def E_i_within (α : Type) (N : Nat) : Env α := (E_s_ComponentNumbers α N).addFun 117 true 0 i_within_a (fun l K => match l with
    | [.i x, .i low, .i high] => i_within none N x low high (fun r__ => retK (buildS i_within_r0 [.b r__]) K)
    | _ => none)
theorem E_i_within_ok {α : Type} (N : Nat) : EnvOk Try.prog (E_i_within α N) := (E_s_ComponentNumbers_ok N).addFun prog_mixed prog_names (d := 1) fun l K r h => by
  split at h
  · exact (i_within_run N _ _ _ K).trans h
  · cases h
def i_Grid_n_a : SPat := ⟨[.agg [.vals [.int .i64], .ints .u8 8, .ints .u8 8]], []⟩
def i_Grid_n_r0 : SPat := ⟨[.int .i64], []⟩
theorem i_Grid_n_run {α : Type} (N : Nat) (g_0 : Int) (g_1 : NI) (g_2 : NI) (K : AV -> Heap -> Option α) :
    callK Try.prog (E_i_within α N) 1 106 0 (buildS i_Grid_n_a [.i g_0, .f g_1, .f g_2]).t (buildS i_Grid_n_a [.i g_0, .f g_1, .f g_2]).h K = i_Grid_n none N g_0 g_1 g_2 (retK (buildS i_Grid_n_r0 [.i g_0]) K) := by kernel_rfl
def E_i_Grid_n (α : Type) (N : Nat) : Env α := (E_i_within α N).addFun 106 true 0 i_Grid_n_a (fun l K => match l with
    | [.i g_0, .f g_1, .f g_2] => i_Grid_n none N g_0 g_1 g_2 (retK (buildS i_Grid_n_r0 [.i g_0]) K)
    | _ => none)
theorem E_i_Grid_n_ok {α : Type} (N : Nat) : EnvOk Try.prog (E_i_Grid_n α N) := (E_i_within_ok N).addFun prog_mixed prog_names (d := 1) fun l K r h => by
  split at h
  · exact (i_Grid_n_run N _ _ _ K).trans h
  · cases h
def A_i_isOrder_l0 (α : Type) (N : Nat) : Env α := (E_i_Grid_n α N).addAnn 195 3 { head := [1, 5, 8, 9, 10], grow := [], out := [1, 5], ret := [4] }
theorem A_i_isOrder_l0_ok {α : Type} (N : Nat) : EnvOk Try.prog (A_i_isOrder_l0 α N) := (E_i_Grid_n_ok N).addAnn
def i_isOrder_l0_s2_p : SPat := ⟨[.undef, .int .i64, .undef, .undef, .undef, .int .i64, .undef, .undef, .slice ⟨⟨0, 0⟩, 1, 0, 8⟩ 8 8 1 true, .intC .i64 8, .int .i64] ++ List.replicate 30 .undef, [[.vals [.int .i64], .ints .u8 8, .ints .u8 8]]⟩
def i_isOrder_l0_s2_o0 : SPat := ⟨[.undef, .undef, .undef, .undef, .boolC false] ++ List.replicate 36 .undef, [[.vals [.int .i64], .ints .u8 8, .ints .u8 8]]⟩
def i_isOrder_l0_s2_o1 : SPat := ⟨[.undef, .int .i64, .undef, .undef, .undef, .int .i64] ++ List.replicate 35 .undef, [[.vals [.int .i64], .ints .u8 8, .ints .u8 8]]⟩
theorem i_isOrder_l0_s2_round {α : Type} (N : Nat) (n : Int) (seen : Int) (t10 : Int) (h0_0 : Int) (h0_1 : NI) (h0_2 : NI) (kn : St -> Option α) (K : AExit -> St -> Option α) :
    roundK Try.prog (A_i_isOrder_l0 α N) 1 1 195 Try.f195 3 1 (buildS i_isOrder_l0_s2_p [.i n, .i seen, .i t10, .i h0_0, .f h0_1, .f h0_2]) kn K = i_isOrder_l0_s2_s none n h0_0 h0_1 h0_2 seen t10 (fun seen t10 => kn (buildS i_isOrder_l0_s2_p [.i n, .i seen, .i t10, .i h0_0, .f h0_1, .f h0_2])) (K .ret (buildS i_isOrder_l0_s2_o0 [.i h0_0, .f h0_1, .f h0_2])) (fun seen_ => K (.exit 0) (buildS i_isOrder_l0_s2_o1 [.i n, .i seen_, .i h0_0, .f h0_1, .f h0_2])) := by kernel_rfl
theorem i_isOrder_l0_s2_loop {α : Type} (N : Nat) (n : Int) (h0_0 : Int) (h0_1 : NI) (h0_2 : NI) (K : AExit -> St -> Option α) : ∀ (m : Nat) (seen : Int) (t10 : Int),
    loopN (trimSt ((A_i_isOrder_l0 α N).ann 195 3).head ((A_i_isOrder_l0 α N).ann 195 3).grow 1) (bodyK Try.prog (A_i_isOrder_l0 α N) 1 1 195 Try.f195 3) m (buildS i_isOrder_l0_s2_p [.i n, .i seen, .i t10, .i h0_0, .f h0_1, .f h0_2]) (leaveLoop ((A_i_isOrder_l0 α N).ann 195 3) 1 K) = i_isOrder_l0_s2 none n h0_0 h0_1 h0_2 m seen t10 (K .ret (buildS i_isOrder_l0_s2_o0 [.i h0_0, .f h0_1, .f h0_2])) (fun seen_ => K (.exit 0) (buildS i_isOrder_l0_s2_o1 [.i n, .i seen_, .i h0_0, .f h0_1, .f h0_2])) := by
  intro m
  induction m with
  | zero => intros; rfl
  | succ m ih =>
    intro seen t10
    rw [loopN_round]
    refine (i_isOrder_l0_s2_round N n seen t10 h0_0 h0_1 h0_2 _ K).trans ?_
    simp only [ih]
    rfl
def E_i_isOrder_l0_s2 (α : Type) (N : Nat) : Env α := (A_i_isOrder_l0 α N).addLoop2 195 3 (loopSum2 ((A_i_isOrder_l0 α N).ann 195 3) 1 i_isOrder_l0_s2_p (fun l K => match l with
    | [.i n, .i seen, .i t10, .i h0_0, .f h0_1, .f h0_2] => i_isOrder_l0_s2 none n h0_0 h0_1 h0_2 N seen t10 (K .ret (buildS i_isOrder_l0_s2_o0 [.i h0_0, .f h0_1, .f h0_2])) (fun seen_ => K (.exit 0) (buildS i_isOrder_l0_s2_o1 [.i n, .i seen_, .i h0_0, .f h0_1, .f h0_2]))
    | _ => none) ((A_i_isOrder_l0 α N).ls 195 3))
theorem E_i_isOrder_l0_s2_ok {α : Type} (N : Nat) : EnvOk Try.prog (E_i_isOrder_l0_s2 α N) := (A_i_isOrder_l0_ok N).addLoop2 Try.func195 (by kernel_rfl) (loopSum_ok prog_mixed prog_names (A_i_isOrder_l0_ok N) Try.func195 (by kernel_rfl) (d := 1) (ro := 1) fun l K r h => by
  split at h
  · exact (i_isOrder_l0_s2_loop N _ _ _ _ K N _ _).trans h
  · cases h)
def i_isOrder_s2_a : SPat := ⟨[.slice ⟨⟨0, 0⟩, 1, 0, 8⟩ 8 8 1 true, .int .i64], [[.vals [.int .i64], .ints .u8 8, .ints .u8 8]]⟩
def i_isOrder_s2_r0 : SPat := ⟨[.bool], [[.vals [.int .i64], .ints .u8 8, .ints .u8 8]]⟩
theorem i_isOrder_s2_run {α : Type} (N : Nat) (n : Int) (h0_0 : Int) (h0_1 : NI) (h0_2 : NI) (K : AV -> Heap -> Option α) :
    callK Try.prog (E_i_isOrder_l0_s2 α N) 1 195 1 (buildS i_isOrder_s2_a [.i n, .i h0_0, .f h0_1, .f h0_2]).t (buildS i_isOrder_s2_a [.i n, .i h0_0, .f h0_1, .f h0_2]).h K = i_isOrder_s2 none N n h0_0 h0_1 h0_2 (fun r__ => retK (buildS i_isOrder_s2_r0 [.b r__, .i h0_0, .f h0_1, .f h0_2]) K) := by kernel_rfl
def E_i_isOrder_s2 (α : Type) (N : Nat) : Env α := (E_i_isOrder_l0_s2 α N).addFun 195 true 1 i_isOrder_s2_a (fun l K => match l with
    | [.i n, .i h0_0, .f h0_1, .f h0_2] => i_isOrder_s2 none N n h0_0 h0_1 h0_2 (fun r__ => retK (buildS i_isOrder_s2_r0 [.b r__, .i h0_0, .f h0_1, .f h0_2]) K)
    | _ => none)
theorem E_i_isOrder_s2_ok {α : Type} (N : Nat) : EnvOk Try.prog (E_i_isOrder_s2 α N) := (E_i_isOrder_l0_s2_ok N).addFun prog_mixed prog_names (d := 1) fun l K r h => by
  split at h
  · exact (i_isOrder_s2_run N _ _ _ _ K).trans h
  · cases h
def i_isOrder_l0_s3_p : SPat := ⟨[.undef, .int .i64, .undef, .undef, .undef, .int .i64, .undef, .undef, .slice ⟨⟨0, 0⟩, 2, 0, 8⟩ 8 8 1 true, .intC .i64 8, .int .i64] ++ List.replicate 30 .undef, [[.vals [.int .i64], .ints .u8 8, .ints .u8 8]]⟩
def i_isOrder_l0_s3_o0 : SPat := ⟨[.undef, .undef, .undef, .undef, .boolC false] ++ List.replicate 36 .undef, [[.vals [.int .i64], .ints .u8 8, .ints .u8 8]]⟩
def i_isOrder_l0_s3_o1 : SPat := ⟨[.undef, .int .i64, .undef, .undef, .undef, .int .i64] ++ List.replicate 35 .undef, [[.vals [.int .i64], .ints .u8 8, .ints .u8 8]]⟩
theorem i_isOrder_l0_s3_round {α : Type} (N : Nat) (n : Int) (seen : Int) (t10 : Int) (h0_0 : Int) (h0_1 : NI) (h0_2 : NI) (kn : St -> Option α) (K : AExit -> St -> Option α) :
    roundK Try.prog (E_i_isOrder_s2 α N) 1 1 195 Try.f195 3 1 (buildS i_isOrder_l0_s3_p [.i n, .i seen, .i t10, .i h0_0, .f h0_1, .f h0_2]) kn K = i_isOrder_l0_s3_s none n h0_0 h0_1 h0_2 seen t10 (fun seen t10 => kn (buildS i_isOrder_l0_s3_p [.i n, .i seen, .i t10, .i h0_0, .f h0_1, .f h0_2])) (K .ret (buildS i_isOrder_l0_s3_o0 [.i h0_0, .f h0_1, .f h0_2])) (fun seen_ => K (.exit 0) (buildS i_isOrder_l0_s3_o1 [.i n, .i seen_, .i h0_0, .f h0_1, .f h0_2])) := by kernel_rfl
theorem i_isOrder_l0_s3_loop {α : Type} (N : Nat) (n : Int) (h0_0 : Int) (h0_1 : NI) (h0_2 : NI) (K : AExit -> St -> Option α) : ∀ (m : Nat) (seen : Int) (t10 : Int),
    loopN (trimSt ((E_i_isOrder_s2 α N).ann 195 3).head ((E_i_isOrder_s2 α N).ann 195 3).grow 1) (bodyK Try.prog (E_i_isOrder_s2 α N) 1 1 195 Try.f195 3) m (buildS i_isOrder_l0_s3_p [.i n, .i seen, .i t10, .i h0_0, .f h0_1, .f h0_2]) (leaveLoop ((E_i_isOrder_s2 α N).ann 195 3) 1 K) = i_isOrder_l0_s3 none n h0_0 h0_1 h0_2 m seen t10 (K .ret (buildS i_isOrder_l0_s3_o0 [.i h0_0, .f h0_1, .f h0_2])) (fun seen_ => K (.exit 0) (buildS i_isOrder_l0_s3_o1 [.i n, .i seen_, .i h0_0, .f h0_1, .f h0_2])) := by
  intro m
  induction m with
  | zero => intros; rfl
  | succ m ih =>
    intro seen t10
    rw [loopN_round]
    refine (i_isOrder_l0_s3_round N n seen t10 h0_0 h0_1 h0_2 _ K).trans ?_
    simp only [ih]
    rfl
def E_i_isOrder_l0_s3 (α : Type) (N : Nat) : Env α := (E_i_isOrder_s2 α N).addLoop2 195 3 (loopSum2 ((E_i_isOrder_s2 α N).ann 195 3) 1 i_isOrder_l0_s3_p (fun l K => match l with
    | [.i n, .i seen, .i t10, .i h0_0, .f h0_1, .f h0_2] => i_isOrder_l0_s3 none n h0_0 h0_1 h0_2 N seen t10 (K .ret (buildS i_isOrder_l0_s3_o0 [.i h0_0, .f h0_1, .f h0_2])) (fun seen_ => K (.exit 0) (buildS i_isOrder_l0_s3_o1 [.i n, .i seen_, .i h0_0, .f h0_1, .f h0_2]))
    | _ => none) ((E_i_isOrder_s2 α N).ls 195 3))
theorem E_i_isOrder_l0_s3_ok {α : Type} (N : Nat) : EnvOk Try.prog (E_i_isOrder_l0_s3 α N) := (E_i_isOrder_s2_ok N).addLoop2 Try.func195 (by kernel_rfl) (loopSum_ok prog_mixed prog_names (E_i_isOrder_s2_ok N) Try.func195 (by kernel_rfl) (d := 1) (ro := 1) fun l K r h => by
  split at h
  · exact (i_isOrder_l0_s3_loop N _ _ _ _ K N _ _).trans h
  · cases h)
def i_isOrder_s3_a : SPat := ⟨[.slice ⟨⟨0, 0⟩, 2, 0, 8⟩ 8 8 1 true, .int .i64], [[.vals [.int .i64], .ints .u8 8, .ints .u8 8]]⟩
def i_isOrder_s3_r0 : SPat := ⟨[.bool], [[.vals [.int .i64], .ints .u8 8, .ints .u8 8]]⟩
theorem i_isOrder_s3_run {α : Type} (N : Nat) (n : Int) (h0_0 : Int) (h0_1 : NI) (h0_2 : NI) (K : AV -> Heap -> Option α) :
    callK Try.prog (E_i_isOrder_l0_s3 α N) 1 195 1 (buildS i_isOrder_s3_a [.i n, .i h0_0, .f h0_1, .f h0_2]).t (buildS i_isOrder_s3_a [.i n, .i h0_0, .f h0_1, .f h0_2]).h K = i_isOrder_s3 none N n h0_0 h0_1 h0_2 (fun r__ => retK (buildS i_isOrder_s3_r0 [.b r__, .i h0_0, .f h0_1, .f h0_2]) K) := by kernel_rfl
def E_i_isOrder_s3 (α : Type) (N : Nat) : Env α := (E_i_isOrder_l0_s3 α N).addFun 195 true 1 i_isOrder_s3_a (fun l K => match l with
    | [.i n, .i h0_0, .f h0_1, .f h0_2] => i_isOrder_s3 none N n h0_0 h0_1 h0_2 (fun r__ => retK (buildS i_isOrder_s3_r0 [.b r__, .i h0_0, .f h0_1, .f h0_2]) K)
    | _ => none)
theorem E_i_isOrder_s3_ok {α : Type} (N : Nat) : EnvOk Try.prog (E_i_isOrder_s3 α N) := (E_i_isOrder_l0_s3_ok N).addFun prog_mixed prog_names (d := 1) fun l K r h => by
  split at h
  · exact (i_isOrder_s3_run N _ _ _ _ K).trans h
  · cases h
def A_i_IsGrid_l0 (α : Type) (N : Nat) : Env α := (E_i_isOrder_s3 α N).addAnn 116 4 { head := [1, 25, 26], grow := [], out := [], ret := [2] }
theorem A_i_IsGrid_l0_ok {α : Type} (N : Nat) : EnvOk Try.prog (A_i_IsGrid_l0 α N) := (E_i_isOrder_s3_ok N).addAnn
def i_IsGrid_l0_p : SPat := ⟨[.undef, .ptr ⟨⟨0, 0⟩, 0, 0, 1⟩, .undef, .undef, .undef, .undef, .undef, .undef, .undef, .undef, .undef, .undef, .undef, .undef, .undef, .undef, .undef, .undef, .undef, .undef, .undef, .undef, .undef, .undef, .undef, .int .i64, .int .i64] ++ List.replicate 12 .undef, [[.vals [.int .i64], .ints .u8 8, .ints .u8 8]]⟩
def i_IsGrid_l0_o0 : SPat := ⟨[.undef, .undef, .boolC false] ++ List.replicate 36 .undef, [[.vals [.int .i64], .ints .u8 8, .ints .u8 8]]⟩
def i_IsGrid_l0_o1 : SPat := ⟨[] ++ List.replicate 39 .undef, [[.vals [.int .i64], .ints .u8 8, .ints .u8 8]]⟩
theorem i_IsGrid_l0_round {α : Type} (N : Nat) (t25 : Int) (t26 : Int) (h0_0 : Int) (h0_1 : NI) (h0_2 : NI) (kn : St -> Option α) (K : AExit -> St -> Option α) :
    roundK Try.prog (A_i_IsGrid_l0 α N) 1 0 116 Try.f116 4 1 (buildS i_IsGrid_l0_p [.i t25, .i t26, .i h0_0, .f h0_1, .f h0_2]) kn K = i_IsGrid_l0_s none t25 h0_0 h0_1 h0_2 t26 (fun t26 => kn (buildS i_IsGrid_l0_p [.i t25, .i t26, .i h0_0, .f h0_1, .f h0_2])) (K .ret (buildS i_IsGrid_l0_o0 [.i h0_0, .f h0_1, .f h0_2])) (K (.exit 0) (buildS i_IsGrid_l0_o1 [.i h0_0, .f h0_1, .f h0_2])) := by kernel_rfl
theorem i_IsGrid_l0_loop {α : Type} (N : Nat) (t25 : Int) (h0_0 : Int) (h0_1 : NI) (h0_2 : NI) (K : AExit -> St -> Option α) : ∀ (m : Nat) (t26 : Int),
    loopN (trimSt ((A_i_IsGrid_l0 α N).ann 116 4).head ((A_i_IsGrid_l0 α N).ann 116 4).grow 1) (bodyK Try.prog (A_i_IsGrid_l0 α N) 1 0 116 Try.f116 4) m (buildS i_IsGrid_l0_p [.i t25, .i t26, .i h0_0, .f h0_1, .f h0_2]) (leaveLoop ((A_i_IsGrid_l0 α N).ann 116 4) 1 K) = i_IsGrid_l0 none t25 h0_0 h0_1 h0_2 m t26 (K .ret (buildS i_IsGrid_l0_o0 [.i h0_0, .f h0_1, .f h0_2])) (K (.exit 0) (buildS i_IsGrid_l0_o1 [.i h0_0, .f h0_1, .f h0_2])) := by
  intro m
  induction m with
  | zero => intros; rfl
  | succ m ih =>
    intro t26
    rw [loopN_round]
    refine (i_IsGrid_l0_round N t25 t26 h0_0 h0_1 h0_2 _ K).trans ?_
    simp only [ih]
    rfl
def E_i_IsGrid_l0 (α : Type) (N : Nat) : Env α := (A_i_IsGrid_l0 α N).addLoop2 116 4 (loopSum2 ((A_i_IsGrid_l0 α N).ann 116 4) 0 i_IsGrid_l0_p (fun l K => match l with
    | [.i t25, .i t26, .i h0_0, .f h0_1, .f h0_2] => i_IsGrid_l0 none t25 h0_0 h0_1 h0_2 N t26 (K .ret (buildS i_IsGrid_l0_o0 [.i h0_0, .f h0_1, .f h0_2])) (K (.exit 0) (buildS i_IsGrid_l0_o1 [.i h0_0, .f h0_1, .f h0_2]))
    | _ => none) ((A_i_IsGrid_l0 α N).ls 116 4))
theorem E_i_IsGrid_l0_ok {α : Type} (N : Nat) : EnvOk Try.prog (E_i_IsGrid_l0 α N) := (A_i_IsGrid_l0_ok N).addLoop2 Try.func116 (by kernel_rfl) (loopSum_ok prog_mixed prog_names (A_i_IsGrid_l0_ok N) Try.func116 (by kernel_rfl) (d := 1) (ro := 0) fun l K r h => by
  split at h
  · exact (i_IsGrid_l0_loop N _ _ _ _ K N _).trans h
  · cases h)
def i_IsGrid_a : SPat := ⟨[.agg [.vals [.int .i64], .ints .u8 8, .ints .u8 8]], []⟩
def i_IsGrid_r0 : SPat := ⟨[.bool], []⟩
theorem i_IsGrid_run {α : Type} (N : Nat) (g_0 : Int) (g_1 : NI) (g_2 : NI) (K : AV -> Heap -> Option α) :
    callK Try.prog (E_i_IsGrid_l0 α N) 1 116 0 (buildS i_IsGrid_a [.i g_0, .f g_1, .f g_2]).t (buildS i_IsGrid_a [.i g_0, .f g_1, .f g_2]).h K = i_IsGrid none N g_0 g_1 g_2 (fun r__ => retK (buildS i_IsGrid_r0 [.b r__]) K) := by kernel_rfl
def E_i_IsGrid (α : Type) (N : Nat) : Env α := (E_i_IsGrid_l0 α N).addFun 116 true 0 i_IsGrid_a (fun l K => match l with
    | [.i g_0, .f g_1, .f g_2] => i_IsGrid none N g_0 g_1 g_2 (fun r__ => retK (buildS i_IsGrid_r0 [.b r__]) K)
    | _ => none)
theorem E_i_IsGrid_ok {α : Type} (N : Nat) : EnvOk Try.prog (E_i_IsGrid α N) := (E_i_IsGrid_l0_ok N).addFun prog_mixed prog_names (d := 1) fun l K r h => by
  split at h
  · exact (i_IsGrid_run N _ _ _ K).trans h
  · cases h
def A_i_Grid_places_l0 (α : Type) (N : Nat) : Env α := (E_i_IsGrid α N).addAnn 189 3 { head := [3, 4, 5, 9, 10], grow := [], out := [4, 5], ret := [4] }
theorem A_i_Grid_places_l0_ok {α : Type} (N : Nat) : EnvOk Try.prog (A_i_Grid_places_l0 α N) := (E_i_IsGrid_ok N).addAnn
def i_Grid_places_l0_p : SPat := ⟨[.undef, .undef, .undef, .ptr ⟨⟨1, 0⟩, 0, 0, 8⟩, .ptr ⟨⟨2, 0⟩, 0, 0, 8⟩, .ptr ⟨⟨3, 0⟩, 0, 0, 8⟩, .undef, .undef, .undef, .int .i64, .int .i64] ++ List.replicate 9 .undef, [[.vals [.int .i64], .ints .u8 8, .ints .u8 8], [.ints .u8 8], [.ints .i64 8], [.ints .i64 8]]⟩
def i_Grid_places_l0_o0 : SPat := ⟨[.undef, .undef, .undef, .undef, .ptr ⟨⟨2, 0⟩, 0, 0, 8⟩, .ptr ⟨⟨3, 0⟩, 0, 0, 8⟩] ++ List.replicate 14 .undef, [[.vals [.int .i64], .ints .u8 8, .ints .u8 8], [.ints .u8 8], [.ints .i64 8], [.ints .i64 8]]⟩
theorem i_Grid_places_l0_round {α : Type} (N : Nat) (t9 : Int) (t10 : Int) (h0_0 : Int) (h0_1 : NI) (h0_2 : NI) (h1 : NI) (h2 : NI) (h3 : NI) (kn : St -> Option α) (K : AExit -> St -> Option α) :
    roundK Try.prog (A_i_Grid_places_l0 α N) 1 0 189 Try.f189 3 4 (buildS i_Grid_places_l0_p [.i t9, .i t10, .i h0_0, .f h0_1, .f h0_2, .f h1, .f h2, .f h3]) kn K = i_Grid_places_l0_s none t9 h0_0 h0_1 h0_2 h1 h2 t10 h3 (fun t10 h3 => kn (buildS i_Grid_places_l0_p [.i t9, .i t10, .i h0_0, .f h0_1, .f h0_2, .f h1, .f h2, .f h3])) (fun h3_ => K (.exit 0) (buildS i_Grid_places_l0_o0 [.i h0_0, .f h0_1, .f h0_2, .f h1, .f h2, .f h3_])) := by kernel_rfl
theorem i_Grid_places_l0_loop {α : Type} (N : Nat) (t9 : Int) (h0_0 : Int) (h0_1 : NI) (h0_2 : NI) (h1 : NI) (h2 : NI) (K : AExit -> St -> Option α) : ∀ (m : Nat) (t10 : Int) (h3 : NI),
    loopN (trimSt ((A_i_Grid_places_l0 α N).ann 189 3).head ((A_i_Grid_places_l0 α N).ann 189 3).grow 4) (bodyK Try.prog (A_i_Grid_places_l0 α N) 1 0 189 Try.f189 3) m (buildS i_Grid_places_l0_p [.i t9, .i t10, .i h0_0, .f h0_1, .f h0_2, .f h1, .f h2, .f h3]) (leaveLoop ((A_i_Grid_places_l0 α N).ann 189 3) 4 K) = i_Grid_places_l0 none t9 h0_0 h0_1 h0_2 h1 h2 m t10 h3 (fun h3_ => K (.exit 0) (buildS i_Grid_places_l0_o0 [.i h0_0, .f h0_1, .f h0_2, .f h1, .f h2, .f h3_])) := by
  intro m
  induction m with
  | zero => intros; rfl
  | succ m ih =>
    intro t10 h3
    rw [loopN_round]
    refine (i_Grid_places_l0_round N t9 t10 h0_0 h0_1 h0_2 h1 h2 h3 _ K).trans ?_
    simp only [ih]
    rfl
def E_i_Grid_places_l0 (α : Type) (N : Nat) : Env α := (A_i_Grid_places_l0 α N).addLoop2 189 3 (loopSum2 ((A_i_Grid_places_l0 α N).ann 189 3) 0 i_Grid_places_l0_p (fun l K => match l with
    | [.i t9, .i t10, .i h0_0, .f h0_1, .f h0_2, .f h1, .f h2, .f h3] => i_Grid_places_l0 none t9 h0_0 h0_1 h0_2 h1 h2 N t10 h3 (fun h3_ => K (.exit 0) (buildS i_Grid_places_l0_o0 [.i h0_0, .f h0_1, .f h0_2, .f h1, .f h2, .f h3_]))
    | _ => none) ((A_i_Grid_places_l0 α N).ls 189 3))
theorem E_i_Grid_places_l0_ok {α : Type} (N : Nat) : EnvOk Try.prog (E_i_Grid_places_l0 α N) := (A_i_Grid_places_l0_ok N).addLoop2 Try.func189 (by kernel_rfl) (loopSum_ok prog_mixed prog_names (A_i_Grid_places_l0_ok N) Try.func189 (by kernel_rfl) (d := 1) (ro := 0) fun l K r h => by
  split at h
  · exact (i_Grid_places_l0_loop N _ _ _ _ _ _ K N _ _).trans h
  · cases h)
def i_Grid_places_a : SPat := ⟨[.agg [.vals [.int .i64], .ints .u8 8, .ints .u8 8], .agg [.ints .u8 8]], []⟩
def i_Grid_places_r0 : SPat := ⟨[.agg [.ints .i64 8]], []⟩
theorem i_Grid_places_run {α : Type} (N : Nat) (g_0 : Int) (g_1 : NI) (g_2 : NI) (rows : NI) (K : AV -> Heap -> Option α) :
    callK Try.prog (E_i_Grid_places_l0 α N) 1 189 0 (buildS i_Grid_places_a [.i g_0, .f g_1, .f g_2, .f rows]).t (buildS i_Grid_places_a [.i g_0, .f g_1, .f g_2, .f rows]).h K = i_Grid_places none N g_0 g_1 g_2 rows (fun r__ => retK (buildS i_Grid_places_r0 [.f r__]) K) := by kernel_rfl
def E_i_Grid_places (α : Type) (N : Nat) : Env α := (E_i_Grid_places_l0 α N).addFun 189 true 0 i_Grid_places_a (fun l K => match l with
    | [.i g_0, .f g_1, .f g_2, .f rows] => i_Grid_places none N g_0 g_1 g_2 rows (fun r__ => retK (buildS i_Grid_places_r0 [.f r__]) K)
    | _ => none)
theorem E_i_Grid_places_ok {α : Type} (N : Nat) : EnvOk Try.prog (E_i_Grid_places α N) := (E_i_Grid_places_l0_ok N).addFun prog_mixed prog_names (d := 1) fun l K r h => by
  split at h
  · exact (i_Grid_places_run N _ _ _ _ K).trans h
  · cases h
def A_i_Grid_component_l0 (α : Type) (N : Nat) : Env α := (E_i_Grid_places α N).addAnn 95 3 { head := [1, 2, 4, 5, 6, 16, 17], grow := [], out := [1, 2, 4, 5], ret := [2, 3] }
theorem A_i_Grid_component_l0_ok {α : Type} (N : Nat) : EnvOk Try.prog (A_i_Grid_component_l0 α N) := (E_i_Grid_places_ok N).addAnn
def A_i_Grid_component_l1 (α : Type) (N : Nat) : Env α := (A_i_Grid_component_l0 α N).addAnn 95 8 { head := [1, 2, 4, 5, 6, 8, 16, 17], grow := [], out := [1, 2, 4, 5, 6, 16, 17], ret := [2, 3] }
theorem A_i_Grid_component_l1_ok {α : Type} (N : Nat) : EnvOk Try.prog (A_i_Grid_component_l1 α N) := (A_i_Grid_component_l0_ok N).addAnn
def i_Grid_component_l1_p : SPat := ⟨[.undef, .ptr ⟨⟨0, 0⟩, 0, 0, 1⟩, .ptr ⟨⟨1, 0⟩, 0, 0, 8⟩, .undef, .ptr ⟨⟨2, 0⟩, 0, 0, 8⟩, .int .i64, .ptr ⟨⟨3, 0⟩, 0, 0, 8⟩, .undef, .int .i64, .undef, .undef, .undef, .undef, .undef, .undef, .undef, .int .i64, .int .i64] ++ List.replicate 36 .undef, [[.vals [.int .i64], .ints .u8 8, .ints .u8 8], [.ints .i64 8], [.ints .i64 8], [.ints .i64 8]]⟩
def i_Grid_component_l1_o0 : SPat := ⟨[.undef, .ptr ⟨⟨0, 0⟩, 0, 0, 1⟩, .ptr ⟨⟨1, 0⟩, 0, 0, 8⟩, .undef, .ptr ⟨⟨2, 0⟩, 0, 0, 8⟩, .int .i64, .ptr ⟨⟨3, 0⟩, 0, 0, 8⟩, .undef, .undef, .undef, .undef, .undef, .undef, .undef, .undef, .undef, .int .i64, .int .i64] ++ List.replicate 36 .undef, [[.vals [.int .i64], .ints .u8 8, .ints .u8 8], [.ints .i64 8], [.ints .i64 8], [.ints .i64 8]]⟩
theorem i_Grid_component_l1_round {α : Type} (N : Nat) (many : Int) (k : Int) (t16 : Int) (t17 : Int) (h0_0 : Int) (h0_1 : NI) (h0_2 : NI) (h1 : NI) (h2 : NI) (h3 : NI) (kn : St -> Option α) (K : AExit -> St -> Option α) :
    roundK Try.prog (A_i_Grid_component_l1 α N) 1 0 95 Try.f95 8 4 (buildS i_Grid_component_l1_p [.i many, .i k, .i t16, .i t17, .i h0_0, .f h0_1, .f h0_2, .f h1, .f h2, .f h3]) kn K = i_Grid_component_l1_s none many t16 t17 h0_0 h0_1 h0_2 h1 h3 k h2 (fun k h2 => kn (buildS i_Grid_component_l1_p [.i many, .i k, .i t16, .i t17, .i h0_0, .f h0_1, .f h0_2, .f h1, .f h2, .f h3])) (fun h2_ => K (.exit 2) (buildS i_Grid_component_l1_o0 [.i many, .i t16, .i t17, .i h0_0, .f h0_1, .f h0_2, .f h1, .f h2_, .f h3])) := by kernel_rfl
theorem i_Grid_component_l1_loop {α : Type} (N : Nat) (many : Int) (t16 : Int) (t17 : Int) (h0_0 : Int) (h0_1 : NI) (h0_2 : NI) (h1 : NI) (h3 : NI) (K : AExit -> St -> Option α) : ∀ (m : Nat) (k : Int) (h2 : NI),
    loopN (trimSt ((A_i_Grid_component_l1 α N).ann 95 8).head ((A_i_Grid_component_l1 α N).ann 95 8).grow 4) (bodyK Try.prog (A_i_Grid_component_l1 α N) 1 0 95 Try.f95 8) m (buildS i_Grid_component_l1_p [.i many, .i k, .i t16, .i t17, .i h0_0, .f h0_1, .f h0_2, .f h1, .f h2, .f h3]) (leaveLoop ((A_i_Grid_component_l1 α N).ann 95 8) 4 K) = i_Grid_component_l1 none many t16 t17 h0_0 h0_1 h0_2 h1 h3 m k h2 (fun h2_ => K (.exit 2) (buildS i_Grid_component_l1_o0 [.i many, .i t16, .i t17, .i h0_0, .f h0_1, .f h0_2, .f h1, .f h2_, .f h3])) := by
  intro m
  induction m with
  | zero => intros; rfl
  | succ m ih =>
    intro k h2
    rw [loopN_round]
    refine (i_Grid_component_l1_round N many k t16 t17 h0_0 h0_1 h0_2 h1 h2 h3 _ K).trans ?_
    simp only [ih]
    rfl
def E_i_Grid_component_l1 (α : Type) (N : Nat) : Env α := (A_i_Grid_component_l1 α N).addLoop2 95 8 (loopSum2 ((A_i_Grid_component_l1 α N).ann 95 8) 0 i_Grid_component_l1_p (fun l K => match l with
    | [.i many, .i k, .i t16, .i t17, .i h0_0, .f h0_1, .f h0_2, .f h1, .f h2, .f h3] => i_Grid_component_l1 none many t16 t17 h0_0 h0_1 h0_2 h1 h3 N k h2 (fun h2_ => K (.exit 2) (buildS i_Grid_component_l1_o0 [.i many, .i t16, .i t17, .i h0_0, .f h0_1, .f h0_2, .f h1, .f h2_, .f h3]))
    | _ => none) ((A_i_Grid_component_l1 α N).ls 95 8))
theorem E_i_Grid_component_l1_ok {α : Type} (N : Nat) : EnvOk Try.prog (E_i_Grid_component_l1 α N) := (A_i_Grid_component_l1_ok N).addLoop2 Try.func95 (by kernel_rfl) (loopSum_ok prog_mixed prog_names (A_i_Grid_component_l1_ok N) Try.func95 (by kernel_rfl) (d := 1) (ro := 0) fun l K r h => by
  split at h
  · exact (i_Grid_component_l1_loop N _ _ _ _ _ _ _ _ K N _ _).trans h
  · cases h)
def i_Grid_component_l0_p : SPat := ⟨[.undef, .ptr ⟨⟨0, 0⟩, 0, 0, 1⟩, .ptr ⟨⟨1, 0⟩, 0, 0, 8⟩, .undef, .ptr ⟨⟨2, 0⟩, 0, 0, 8⟩, .int .i64, .ptr ⟨⟨3, 0⟩, 0, 0, 8⟩, .undef, .undef, .undef, .undef, .undef, .undef, .undef, .undef, .undef, .int .i64, .int .i64] ++ List.replicate 36 .undef, [[.vals [.int .i64], .ints .u8 8, .ints .u8 8], [.ints .i64 8], [.ints .i64 8], [.ints .i64 8]]⟩
def i_Grid_component_l0_o0 : SPat := ⟨[.undef, .ptr ⟨⟨0, 0⟩, 0, 0, 1⟩, .ptr ⟨⟨1, 0⟩, 0, 0, 8⟩, .undef, .ptr ⟨⟨2, 0⟩, 0, 0, 8⟩, .int .i64] ++ List.replicate 48 .undef, [[.vals [.int .i64], .ints .u8 8, .ints .u8 8], [.ints .i64 8], [.ints .i64 8], [.ints .i64 8]]⟩
theorem i_Grid_component_l0_round {α : Type} (N : Nat) (many : Int) (t16 : Int) (t17 : Int) (h0_0 : Int) (h0_1 : NI) (h0_2 : NI) (h1 : NI) (h2 : NI) (h3 : NI) (kn : St -> Option α) (K : AExit -> St -> Option α) :
    roundK Try.prog (E_i_Grid_component_l1 α N) 1 0 95 Try.f95 3 4 (buildS i_Grid_component_l0_p [.i many, .i t16, .i t17, .i h0_0, .f h0_1, .f h0_2, .f h1, .f h2, .f h3]) kn K = i_Grid_component_l0_s none N t16 h0_0 h0_1 h0_2 h1 h3 many t17 h2 (fun many t17 h2 => kn (buildS i_Grid_component_l0_p [.i many, .i t16, .i t17, .i h0_0, .f h0_1, .f h0_2, .f h1, .f h2, .f h3])) (fun many_ h2_ => K (.exit 0) (buildS i_Grid_component_l0_o0 [.i many_, .i h0_0, .f h0_1, .f h0_2, .f h1, .f h2_, .f h3])) := by kernel_rfl
theorem i_Grid_component_l0_loop {α : Type} (N : Nat) (t16 : Int) (h0_0 : Int) (h0_1 : NI) (h0_2 : NI) (h1 : NI) (h3 : NI) (K : AExit -> St -> Option α) : ∀ (m : Nat) (many : Int) (t17 : Int) (h2 : NI),
    loopN (trimSt ((E_i_Grid_component_l1 α N).ann 95 3).head ((E_i_Grid_component_l1 α N).ann 95 3).grow 4) (bodyK Try.prog (E_i_Grid_component_l1 α N) 1 0 95 Try.f95 3) m (buildS i_Grid_component_l0_p [.i many, .i t16, .i t17, .i h0_0, .f h0_1, .f h0_2, .f h1, .f h2, .f h3]) (leaveLoop ((E_i_Grid_component_l1 α N).ann 95 3) 4 K) = i_Grid_component_l0 none N t16 h0_0 h0_1 h0_2 h1 h3 m many t17 h2 (fun many_ h2_ => K (.exit 0) (buildS i_Grid_component_l0_o0 [.i many_, .i h0_0, .f h0_1, .f h0_2, .f h1, .f h2_, .f h3])) := by
  intro m
  induction m with
  | zero => intros; rfl
  | succ m ih =>
    intro many t17 h2
    rw [loopN_round]
    refine (i_Grid_component_l0_round N many t16 t17 h0_0 h0_1 h0_2 h1 h2 h3 _ K).trans ?_
    simp only [ih]
    rfl
def E_i_Grid_component_l0 (α : Type) (N : Nat) : Env α := (E_i_Grid_component_l1 α N).addLoop2 95 3 (loopSum2 ((E_i_Grid_component_l1 α N).ann 95 3) 0 i_Grid_component_l0_p (fun l K => match l with
    | [.i many, .i t16, .i t17, .i h0_0, .f h0_1, .f h0_2, .f h1, .f h2, .f h3] => i_Grid_component_l0 none N t16 h0_0 h0_1 h0_2 h1 h3 N many t17 h2 (fun many_ h2_ => K (.exit 0) (buildS i_Grid_component_l0_o0 [.i many_, .i h0_0, .f h0_1, .f h0_2, .f h1, .f h2_, .f h3]))
    | _ => none) ((E_i_Grid_component_l1 α N).ls 95 3))
theorem E_i_Grid_component_l0_ok {α : Type} (N : Nat) : EnvOk Try.prog (E_i_Grid_component_l0 α N) := (E_i_Grid_component_l1_ok N).addLoop2 Try.func95 (by kernel_rfl) (loopSum_ok prog_mixed prog_names (E_i_Grid_component_l1_ok N) Try.func95 (by kernel_rfl) (d := 1) (ro := 0) fun l K r h => by
  split at h
  · exact (i_Grid_component_l0_loop N _ _ _ _ _ _ K N _ _ _).trans h
  · cases h)
def A_i_Grid_component_l2 (α : Type) (N : Nat) : Env α := (E_i_Grid_component_l0 α N).addAnn 95 13 { head := [2, 4, 5, 42, 43], grow := [], out := [2, 4, 5], ret := [2, 3] }
theorem A_i_Grid_component_l2_ok {α : Type} (N : Nat) : EnvOk Try.prog (A_i_Grid_component_l2 α N) := (E_i_Grid_component_l0_ok N).addAnn
def i_Grid_component_l2_p : SPat := ⟨[.undef, .undef, .ptr ⟨⟨1, 0⟩, 0, 0, 8⟩, .undef, .ptr ⟨⟨2, 0⟩, 0, 0, 8⟩, .int .i64, .undef, .undef, .undef, .undef, .undef, .undef, .undef, .undef, .undef, .undef, .undef, .undef, .undef, .undef, .undef, .undef, .undef, .undef, .undef, .undef, .undef, .undef, .undef, .undef, .undef, .undef, .undef, .undef, .undef, .undef, .undef, .undef, .undef, .undef, .undef, .undef, .int .i64, .int .i64] ++ List.replicate 10 .undef, [[.vals [.int .i64], .ints .u8 8, .ints .u8 8], [.ints .i64 8], [.ints .i64 8], [.ints .i64 8]]⟩
def i_Grid_component_l2_o0 : SPat := ⟨[.undef, .undef, .ptr ⟨⟨1, 0⟩, 0, 0, 8⟩, .undef, .ptr ⟨⟨2, 0⟩, 0, 0, 8⟩, .int .i64] ++ List.replicate 48 .undef, [[.vals [.int .i64], .ints .u8 8, .ints .u8 8], [.ints .i64 8], [.ints .i64 8], [.ints .i64 8]]⟩
theorem i_Grid_component_l2_round {α : Type} (N : Nat) (many : Int) (t42 : Int) (t43 : Int) (h0_0 : Int) (h0_1 : NI) (h0_2 : NI) (h1 : NI) (h2 : NI) (h3 : NI) (kn : St -> Option α) (K : AExit -> St -> Option α) :
    roundK Try.prog (A_i_Grid_component_l2 α N) 1 0 95 Try.f95 13 4 (buildS i_Grid_component_l2_p [.i many, .i t42, .i t43, .i h0_0, .f h0_1, .f h0_2, .f h1, .f h2, .f h3]) kn K = i_Grid_component_l2_s none many t42 h0_0 h0_1 h0_2 h1 h3 t43 h2 (fun t43 h2 => kn (buildS i_Grid_component_l2_p [.i many, .i t42, .i t43, .i h0_0, .f h0_1, .f h0_2, .f h1, .f h2, .f h3])) (fun h2_ => K (.exit 4) (buildS i_Grid_component_l2_o0 [.i many, .i h0_0, .f h0_1, .f h0_2, .f h1, .f h2_, .f h3])) := by kernel_rfl
theorem i_Grid_component_l2_loop {α : Type} (N : Nat) (many : Int) (t42 : Int) (h0_0 : Int) (h0_1 : NI) (h0_2 : NI) (h1 : NI) (h3 : NI) (K : AExit -> St -> Option α) : ∀ (m : Nat) (t43 : Int) (h2 : NI),
    loopN (trimSt ((A_i_Grid_component_l2 α N).ann 95 13).head ((A_i_Grid_component_l2 α N).ann 95 13).grow 4) (bodyK Try.prog (A_i_Grid_component_l2 α N) 1 0 95 Try.f95 13) m (buildS i_Grid_component_l2_p [.i many, .i t42, .i t43, .i h0_0, .f h0_1, .f h0_2, .f h1, .f h2, .f h3]) (leaveLoop ((A_i_Grid_component_l2 α N).ann 95 13) 4 K) = i_Grid_component_l2 none many t42 h0_0 h0_1 h0_2 h1 h3 m t43 h2 (fun h2_ => K (.exit 4) (buildS i_Grid_component_l2_o0 [.i many, .i h0_0, .f h0_1, .f h0_2, .f h1, .f h2_, .f h3])) := by
  intro m
  induction m with
  | zero => intros; rfl
  | succ m ih =>
    intro t43 h2
    rw [loopN_round]
    refine (i_Grid_component_l2_round N many t42 t43 h0_0 h0_1 h0_2 h1 h2 h3 _ K).trans ?_
    simp only [ih]
    rfl
def E_i_Grid_component_l2 (α : Type) (N : Nat) : Env α := (A_i_Grid_component_l2 α N).addLoop2 95 13 (loopSum2 ((A_i_Grid_component_l2 α N).ann 95 13) 0 i_Grid_component_l2_p (fun l K => match l with
    | [.i many, .i t42, .i t43, .i h0_0, .f h0_1, .f h0_2, .f h1, .f h2, .f h3] => i_Grid_component_l2 none many t42 h0_0 h0_1 h0_2 h1 h3 N t43 h2 (fun h2_ => K (.exit 4) (buildS i_Grid_component_l2_o0 [.i many, .i h0_0, .f h0_1, .f h0_2, .f h1, .f h2_, .f h3]))
    | _ => none) ((A_i_Grid_component_l2 α N).ls 95 13))
theorem E_i_Grid_component_l2_ok {α : Type} (N : Nat) : EnvOk Try.prog (E_i_Grid_component_l2 α N) := (A_i_Grid_component_l2_ok N).addLoop2 Try.func95 (by kernel_rfl) (loopSum_ok prog_mixed prog_names (A_i_Grid_component_l2_ok N) Try.func95 (by kernel_rfl) (d := 1) (ro := 0) fun l K r h => by
  split at h
  · exact (i_Grid_component_l2_loop N _ _ _ _ _ _ _ K N _ _).trans h
  · cases h)
def i_Grid_component_a : SPat := ⟨[.agg [.vals [.int .i64], .ints .u8 8, .ints .u8 8]], []⟩
def i_Grid_component_r0 : SPat := ⟨[.tuple [.agg [.ints .i64 8], .int .i64]], []⟩
theorem i_Grid_component_run {α : Type} (N : Nat) (g_0 : Int) (g_1 : NI) (g_2 : NI) (K : AV -> Heap -> Option α) :
    callK Try.prog (E_i_Grid_component_l2 α N) 1 95 0 (buildS i_Grid_component_a [.i g_0, .f g_1, .f g_2]).t (buildS i_Grid_component_a [.i g_0, .f g_1, .f g_2]).h K = i_Grid_component none N g_0 g_1 g_2 (fun r_0_ r_1_ => retK (buildS i_Grid_component_r0 [.f r_0_, .i r_1_]) K) := by kernel_rfl
def E_i_Grid_component (α : Type) (N : Nat) : Env α := (E_i_Grid_component_l2 α N).addFun 95 true 0 i_Grid_component_a (fun l K => match l with
    | [.i g_0, .f g_1, .f g_2] => i_Grid_component none N g_0 g_1 g_2 (fun r_0_ r_1_ => retK (buildS i_Grid_component_r0 [.f r_0_, .i r_1_]) K)
    | _ => none)
theorem E_i_Grid_component_ok {α : Type} (N : Nat) : EnvOk Try.prog (E_i_Grid_component α N) := (E_i_Grid_component_l2_ok N).addFun prog_mixed prog_names (d := 1) fun l K r h => by
  split at h
  · exact (i_Grid_component_run N _ _ _ K).trans h
  · cases h
def A_i_Grid_corners_l0 (α : Type) (N : Nat) : Env α := (E_i_Grid_component α N).addAnn 96 3 { head := [1, 3, 4, 5, 19, 20], grow := [5], out := [5], ret := [2] }
theorem A_i_Grid_corners_l0_ok {α : Type} (N : Nat) : EnvOk Try.prog (A_i_Grid_corners_l0 α N) := (E_i_Grid_component_ok N).addAnn
def i_kind_a : SPat := ⟨[.int .i64, .int .i64, .int .i64, .int .i64], []⟩
def i_kind_r0 : SPat := ⟨[.int .i64], []⟩
theorem i_kind_run {α : Type} (N : Nat) (column : Int) (row : Int) (otherRow : Int) (otherColumn : Int) (K : AV -> Heap -> Option α) :
    callK Try.prog (A_i_Grid_corners_l0 α N) 1 190 0 (buildS i_kind_a [.i column, .i row, .i otherRow, .i otherColumn]).t (buildS i_kind_a [.i column, .i row, .i otherRow, .i otherColumn]).h K = i_kind none N column row otherRow otherColumn (fun r__ => retK (buildS i_kind_r0 [.i r__]) K) := by kernel_rfl
def E_i_kind (α : Type) (N : Nat) : Env α := (A_i_Grid_corners_l0 α N).addFun 190 true 0 i_kind_a (fun l K => match l with
    | [.i column, .i row, .i otherRow, .i otherColumn] => i_kind none N column row otherRow otherColumn (fun r__ => retK (buildS i_kind_r0 [.i r__]) K)
    | _ => none)
theorem E_i_kind_ok {α : Type} (N : Nat) : EnvOk Try.prog (E_i_kind α N) := (A_i_Grid_corners_l0_ok N).addFun prog_mixed prog_names (d := 1) fun l K r h => by
  split at h
  · exact (i_kind_run N _ _ _ _ K).trans h
  · cases h
def i_Grid_corners_l0_p : SPat := ⟨[.undef, .ptr ⟨⟨0, 0⟩, 0, 0, 1⟩, .undef, .ptr ⟨⟨2, 0⟩, 0, 0, 8⟩, .ptr ⟨⟨3, 0⟩, 0, 0, 8⟩, .sliceV 1 0 0 4 false, .undef, .undef, .undef, .undef, .undef, .undef, .undef, .undef, .undef, .undef, .undef, .undef, .undef, .int .i64, .int .i64] ++ List.replicate 40 .undef, [[.vals [.int .i64], .ints .u8 8, .ints .u8 8], [.recs [some IntKind.i64, some IntKind.i64, some IntKind.i64, none]], [.ints .i64 8], [.ints .i64 8]]⟩
def i_Grid_corners_l0_o0 : SPat := ⟨[.undef, .undef, .undef, .undef, .undef, .sliceV 1 0 0 4 false] ++ List.replicate 55 .undef, [[.vals [.int .i64], .ints .u8 8, .ints .u8 8], [.recs [some IntKind.i64, some IntKind.i64, some IntKind.i64, none]], [.ints .i64 8], [.ints .i64 8]]⟩
theorem i_Grid_corners_l0_round {α : Type} (N : Nat) (out_n : Nat) (out_l : Nat) (out_c : Nat) (t19 : Int) (t20 : Int) (h0_0 : Int) (h0_1 : NI) (h0_2 : NI) (h1 : List Int) (h2 : NI) (h3 : NI) (kn : St -> Option α) (K : AExit -> St -> Option α) :
    roundK Try.prog (E_i_kind α N) 1 0 96 Try.f96 3 4 (buildS i_Grid_corners_l0_p [.n out_n, .n out_l, .n out_c, .i t19, .i t20, .i h0_0, .f h0_1, .f h0_2, .l h1, .f h2, .f h3]) kn K = i_Grid_corners_l0_s none N t19 h0_0 h0_1 h0_2 h2 h3 out_n out_l out_c t20 h1 (fun out_n out_l out_c t20 h1 => kn (buildS i_Grid_corners_l0_p [.n out_n, .n out_l, .n out_c, .i t19, .i t20, .i h0_0, .f h0_1, .f h0_2, .l h1, .f h2, .f h3])) (fun out_n_ out_l_ out_c_ h1_ => K (.exit 0) (buildS i_Grid_corners_l0_o0 [.n out_n_, .n out_l_, .n out_c_, .i h0_0, .f h0_1, .f h0_2, .l h1_, .f h2, .f h3])) := by kernel_rfl
theorem i_Grid_corners_l0_loop {α : Type} (N : Nat) (t19 : Int) (h0_0 : Int) (h0_1 : NI) (h0_2 : NI) (h2 : NI) (h3 : NI) (K : AExit -> St -> Option α) : ∀ (m : Nat) (out_n : Nat) (out_l : Nat) (out_c : Nat) (t20 : Int) (h1 : List Int),
    loopN (trimSt ((E_i_kind α N).ann 96 3).head ((E_i_kind α N).ann 96 3).grow 4) (bodyK Try.prog (E_i_kind α N) 1 0 96 Try.f96 3) m (buildS i_Grid_corners_l0_p [.n out_n, .n out_l, .n out_c, .i t19, .i t20, .i h0_0, .f h0_1, .f h0_2, .l h1, .f h2, .f h3]) (leaveLoop ((E_i_kind α N).ann 96 3) 4 K) = i_Grid_corners_l0 none N t19 h0_0 h0_1 h0_2 h2 h3 m out_n out_l out_c t20 h1 (fun out_n_ out_l_ out_c_ h1_ => K (.exit 0) (buildS i_Grid_corners_l0_o0 [.n out_n_, .n out_l_, .n out_c_, .i h0_0, .f h0_1, .f h0_2, .l h1_, .f h2, .f h3])) := by
  intro m
  induction m with
  | zero => intros; rfl
  | succ m ih =>
    intro out_n out_l out_c t20 h1
    rw [loopN_round]
    refine (i_Grid_corners_l0_round N out_n out_l out_c t19 t20 h0_0 h0_1 h0_2 h1 h2 h3 _ K).trans ?_
    simp only [ih]
    rfl
def E_i_Grid_corners_l0 (α : Type) (N : Nat) : Env α := (E_i_kind α N).addLoop2 96 3 (loopSum2 ((E_i_kind α N).ann 96 3) 0 i_Grid_corners_l0_p (fun l K => match l with
    | [.n out_n, .n out_l, .n out_c, .i t19, .i t20, .i h0_0, .f h0_1, .f h0_2, .l h1, .f h2, .f h3] => i_Grid_corners_l0 none N t19 h0_0 h0_1 h0_2 h2 h3 N out_n out_l out_c t20 h1 (fun out_n_ out_l_ out_c_ h1_ => K (.exit 0) (buildS i_Grid_corners_l0_o0 [.n out_n_, .n out_l_, .n out_c_, .i h0_0, .f h0_1, .f h0_2, .l h1_, .f h2, .f h3]))
    | _ => none) ((E_i_kind α N).ls 96 3))
theorem E_i_Grid_corners_l0_ok {α : Type} (N : Nat) : EnvOk Try.prog (E_i_Grid_corners_l0 α N) := (E_i_kind_ok N).addLoop2 Try.func96 (by kernel_rfl) (loopSum_ok prog_mixed prog_names (E_i_kind_ok N) Try.func96 (by kernel_rfl) (d := 1) (ro := 0) fun l K r h => by
  split at h
  · exact (i_Grid_corners_l0_loop N _ _ _ _ _ _ K N _ _ _ _ _).trans h
  · cases h)
def i_Grid_corners_a : SPat := ⟨[.agg [.vals [.int .i64], .ints .u8 8, .ints .u8 8]], []⟩
def i_Grid_corners_r0 : SPat := ⟨[.sliceV 0 0 0 4 false], [[.recs [some IntKind.i64, some IntKind.i64, some IntKind.i64, none]]]⟩
theorem i_Grid_corners_run {α : Type} (N : Nat) (g_0 : Int) (g_1 : NI) (g_2 : NI) (K : AV -> Heap -> Option α) :
    callK Try.prog (E_i_Grid_corners_l0 α N) 1 96 0 (buildS i_Grid_corners_a [.i g_0, .f g_1, .f g_2]).t (buildS i_Grid_corners_a [.i g_0, .f g_1, .f g_2]).h K = i_Grid_corners none N g_0 g_1 g_2 (fun r_n_ r_l_ r_c_ h0_ => retK (buildS i_Grid_corners_r0 [.n r_n_, .n r_l_, .n r_c_, .l h0_]) K) := by kernel_rfl
def E_i_Grid_corners (α : Type) (N : Nat) : Env α := (E_i_Grid_corners_l0 α N).addFun 96 true 0 i_Grid_corners_a (fun l K => match l with
    | [.i g_0, .f g_1, .f g_2] => i_Grid_corners none N g_0 g_1 g_2 (fun r_n_ r_l_ r_c_ h0_ => retK (buildS i_Grid_corners_r0 [.n r_n_, .n r_l_, .n r_c_, .l h0_]) K)
    | _ => none)
theorem E_i_Grid_corners_ok {α : Type} (N : Nat) : EnvOk Try.prog (E_i_Grid_corners α N) := (E_i_Grid_corners_l0_ok N).addFun prog_mixed prog_names (d := 1) fun l K r h => by
  split at h
  · exact (i_Grid_corners_run N _ _ _ K).trans h
  · cases h
def A_i_ComponentNumbers_1_l0 (α : Type) (N : Nat) : Env α := (E_i_Grid_corners α N).addAnn 94 4 { head := [1, 3, 5, 20, 21, 22], grow := [], out := [1, 5], ret := [2] }
theorem A_i_ComponentNumbers_1_l0_ok {α : Type} (N : Nat) : EnvOk Try.prog (A_i_ComponentNumbers_1_l0 α N) := (E_i_Grid_corners_ok N).addAnn
def i_Corner_isCusp_a : SPat := ⟨[.agg [.vals [.int .i64, .int .i64, .int .i64, .bool]]], []⟩
def i_Corner_isCusp_r0 : SPat := ⟨[.bool], []⟩
theorem i_Corner_isCusp_run {α : Type} (N : Nat) (c_0 : Int) (c_1 : Int) (c_2 : Int) (c_3 : Bool) (K : AV -> Heap -> Option α) :
    callK Try.prog (A_i_ComponentNumbers_1_l0 α N) 1 191 0 (buildS i_Corner_isCusp_a [.i c_0, .i c_1, .i c_2, .b c_3]).t (buildS i_Corner_isCusp_a [.i c_0, .i c_1, .i c_2, .b c_3]).h K = i_Corner_isCusp none N c_0 c_1 c_2 c_3 (fun r__ => retK (buildS i_Corner_isCusp_r0 [.b r__]) K) := by kernel_rfl
def E_i_Corner_isCusp (α : Type) (N : Nat) : Env α := (A_i_ComponentNumbers_1_l0 α N).addFun 191 true 0 i_Corner_isCusp_a (fun l K => match l with
    | [.i c_0, .i c_1, .i c_2, .b c_3] => i_Corner_isCusp none N c_0 c_1 c_2 c_3 (fun r__ => retK (buildS i_Corner_isCusp_r0 [.b r__]) K)
    | _ => none)
theorem E_i_Corner_isCusp_ok {α : Type} (N : Nat) : EnvOk Try.prog (E_i_Corner_isCusp α N) := (A_i_ComponentNumbers_1_l0_ok N).addFun prog_mixed prog_names (d := 1) fun l K r h => by
  split at h
  · exact (i_Corner_isCusp_run N _ _ _ _ K).trans h
  · cases h
def i_Corner_letter_a : SPat := ⟨[.agg [.vals [.int .i64, .int .i64, .int .i64, .bool]]], []⟩
def i_Corner_letter_r0 : SPat := ⟨[.str], []⟩
theorem i_Corner_letter_run {α : Type} (N : Nat) (c_0 : Int) (c_1 : Int) (c_2 : Int) (c_3 : Bool) (K : AV -> Heap -> Option α) :
    callK Try.prog (E_i_Corner_isCusp α N) 1 169 0 (buildS i_Corner_letter_a [.i c_0, .i c_1, .i c_2, .b c_3]).t (buildS i_Corner_letter_a [.i c_0, .i c_1, .i c_2, .b c_3]).h K = i_Corner_letter none N c_0 c_1 c_2 c_3 (fun r__ => retK (buildS i_Corner_letter_r0 [.s r__]) K) := by kernel_rfl
def E_i_Corner_letter (α : Type) (N : Nat) : Env α := (E_i_Corner_isCusp α N).addFun 169 true 0 i_Corner_letter_a (fun l K => match l with
    | [.i c_0, .i c_1, .i c_2, .b c_3] => i_Corner_letter none N c_0 c_1 c_2 c_3 (fun r__ => retK (buildS i_Corner_letter_r0 [.s r__]) K)
    | _ => none)
theorem E_i_Corner_letter_ok {α : Type} (N : Nat) : EnvOk Try.prog (E_i_Corner_letter α N) := (E_i_Corner_isCusp_ok N).addFun prog_mixed prog_names (d := 1) fun l K r h => by
  split at h
  · exact (i_Corner_letter_run N _ _ _ _ K).trans h
  · cases h
def i_front_add_s2_a : SPat := ⟨[.ptrV 0 0, .agg [.vals [.int .i64, .int .i64, .int .i64, .bool]]], [[.intsV .i64]]⟩
def i_front_add_s2_r0 : SPat := ⟨[.tuple []], [[.intsV .i64]]⟩
theorem i_front_add_s2_run {α : Type} (N : Nat) (f_o : Nat) (f_n : Nat) (c_0 : Int) (c_1 : Int) (c_2 : Int) (c_3 : Bool) (h0_n : Nat) (h0 : NI) (K : AV -> Heap -> Option α) :
    callK Try.prog (E_i_Corner_letter α N) 1 97 0 (buildS i_front_add_s2_a [.n f_o, .n f_n, .i c_0, .i c_1, .i c_2, .b c_3, .n h0_n, .f h0]).t (buildS i_front_add_s2_a [.n f_o, .n f_n, .i c_0, .i c_1, .i c_2, .b c_3, .n h0_n, .f h0]).h K = i_front_add_s2 none N f_o f_n c_0 c_1 c_2 c_3 h0_n h0 (fun h0_ => retK (buildS i_front_add_s2_r0 [.n h0_n, .f h0_]) K) := by kernel_rfl
def E_i_front_add_s2 (α : Type) (N : Nat) : Env α := (E_i_Corner_letter α N).addFun 97 false 0 i_front_add_s2_a (fun l K => match l with
    | [.n f_o, .n f_n, .i c_0, .i c_1, .i c_2, .b c_3, .n h0_n, .f h0] => i_front_add_s2 none N f_o f_n c_0 c_1 c_2 c_3 h0_n h0 (fun h0_ => retK (buildS i_front_add_s2_r0 [.n h0_n, .f h0_]) K)
    | _ => none)
theorem E_i_front_add_s2_ok {α : Type} (N : Nat) : EnvOk Try.prog (E_i_front_add_s2 α N) := (E_i_Corner_letter_ok N).addFun prog_mixed prog_names (d := 1) fun l K r h => by
  split at h
  · exact (i_front_add_s2_run N _ _ _ _ _ _ _ _ K).trans h
  · cases h
def i_ComponentNumbers_1_l0_p : SPat := ⟨[.undef, .ptr ⟨⟨0, 0⟩, 0, 0, 1⟩, .undef, .ptr ⟨⟨1, 0⟩, 0, 0, 8⟩, .undef, .sliceV 2 0 0 3 true, .undef, .undef, .undef, .undef, .undef, .undef, .undef, .undef, .undef, .undef, .undef, .undef, .undef, .undef, .sliceV 3 0 0 4 false, .int .i64, .int .i64] ++ List.replicate 36 .undef, [[.vals [.int .i64], .ints .u8 8, .ints .u8 8], [.ints .i64 8], [.intsV .i64], [.recs [some IntKind.i64, some IntKind.i64, some IntKind.i64, none]]]⟩
def i_ComponentNumbers_1_l0_o0 : SPat := ⟨[.undef, .ptr ⟨⟨0, 0⟩, 0, 0, 1⟩, .undef, .undef, .undef, .sliceV 2 0 0 3 true] ++ List.replicate 53 .undef, [[.vals [.int .i64], .ints .u8 8, .ints .u8 8], [.ints .i64 8], [.intsV .i64], [.recs [some IntKind.i64, some IntKind.i64, some IntKind.i64, none]]]⟩
theorem i_ComponentNumbers_1_l0_round {α : Type} (N : Nat) (fronts_n : Nat) (fronts_l : Nat) (fronts_c : Nat) (t20_n : Nat) (t20_l : Nat) (t20_c : Nat) (t21 : Int) (t22 : Int) (h0_0 : Int) (h0_1 : NI) (h0_2 : NI) (h1 : NI) (h2_n : Nat) (h2 : NI) (h3 : List Int) (kn : St -> Option α) (K : AExit -> St -> Option α) :
    roundK Try.prog (E_i_front_add_s2 α N) 1 0 94 Try.f94 4 4 (buildS i_ComponentNumbers_1_l0_p [.n fronts_n, .n fronts_l, .n fronts_c, .n t20_n, .n t20_l, .n t20_c, .i t21, .i t22, .i h0_0, .f h0_1, .f h0_2, .f h1, .n h2_n, .f h2, .l h3]) kn K = i_ComponentNumbers_1_l0_s none N fronts_n fronts_l fronts_c t20_n t20_l t20_c t21 h0_0 h0_1 h0_2 h1 h2_n h3 t22 h2 (fun t22 h2 => kn (buildS i_ComponentNumbers_1_l0_p [.n fronts_n, .n fronts_l, .n fronts_c, .n t20_n, .n t20_l, .n t20_c, .i t21, .i t22, .i h0_0, .f h0_1, .f h0_2, .f h1, .n h2_n, .f h2, .l h3])) (fun h2_ => K (.exit 0) (buildS i_ComponentNumbers_1_l0_o0 [.n fronts_n, .n fronts_l, .n fronts_c, .i h0_0, .f h0_1, .f h0_2, .f h1, .n h2_n, .f h2_, .l h3])) := by kernel_rfl
theorem i_ComponentNumbers_1_l0_loop {α : Type} (N : Nat) (fronts_n : Nat) (fronts_l : Nat) (fronts_c : Nat) (t20_n : Nat) (t20_l : Nat) (t20_c : Nat) (t21 : Int) (h0_0 : Int) (h0_1 : NI) (h0_2 : NI) (h1 : NI) (h2_n : Nat) (h3 : List Int) (K : AExit -> St -> Option α) : ∀ (m : Nat) (t22 : Int) (h2 : NI),
    loopN (trimSt ((E_i_front_add_s2 α N).ann 94 4).head ((E_i_front_add_s2 α N).ann 94 4).grow 4) (bodyK Try.prog (E_i_front_add_s2 α N) 1 0 94 Try.f94 4) m (buildS i_ComponentNumbers_1_l0_p [.n fronts_n, .n fronts_l, .n fronts_c, .n t20_n, .n t20_l, .n t20_c, .i t21, .i t22, .i h0_0, .f h0_1, .f h0_2, .f h1, .n h2_n, .f h2, .l h3]) (leaveLoop ((E_i_front_add_s2 α N).ann 94 4) 4 K) = i_ComponentNumbers_1_l0 none N fronts_n fronts_l fronts_c t20_n t20_l t20_c t21 h0_0 h0_1 h0_2 h1 h2_n h3 m t22 h2 (fun h2_ => K (.exit 0) (buildS i_ComponentNumbers_1_l0_o0 [.n fronts_n, .n fronts_l, .n fronts_c, .i h0_0, .f h0_1, .f h0_2, .f h1, .n h2_n, .f h2_, .l h3])) := by
  intro m
  induction m with
  | zero => intros; rfl
  | succ m ih =>
    intro t22 h2
    rw [loopN_round]
    refine (i_ComponentNumbers_1_l0_round N fronts_n fronts_l fronts_c t20_n t20_l t20_c t21 t22 h0_0 h0_1 h0_2 h1 h2_n h2 h3 _ K).trans ?_
    simp only [ih]
    rfl
def E_i_ComponentNumbers_1_l0 (α : Type) (N : Nat) : Env α := (E_i_front_add_s2 α N).addLoop2 94 4 (loopSum2 ((E_i_front_add_s2 α N).ann 94 4) 0 i_ComponentNumbers_1_l0_p (fun l K => match l with
    | [.n fronts_n, .n fronts_l, .n fronts_c, .n t20_n, .n t20_l, .n t20_c, .i t21, .i t22, .i h0_0, .f h0_1, .f h0_2, .f h1, .n h2_n, .f h2, .l h3] => i_ComponentNumbers_1_l0 none N fronts_n fronts_l fronts_c t20_n t20_l t20_c t21 h0_0 h0_1 h0_2 h1 h2_n h3 N t22 h2 (fun h2_ => K (.exit 0) (buildS i_ComponentNumbers_1_l0_o0 [.n fronts_n, .n fronts_l, .n fronts_c, .i h0_0, .f h0_1, .f h0_2, .f h1, .n h2_n, .f h2_, .l h3]))
    | _ => none) ((E_i_front_add_s2 α N).ls 94 4))
theorem E_i_ComponentNumbers_1_l0_ok {α : Type} (N : Nat) : EnvOk Try.prog (E_i_ComponentNumbers_1_l0 α N) := (E_i_front_add_s2_ok N).addLoop2 Try.func94 (by kernel_rfl) (loopSum_ok prog_mixed prog_names (E_i_front_add_s2_ok N) Try.func94 (by kernel_rfl) (d := 1) (ro := 0) fun l K r h => by
  split at h
  · exact (i_ComponentNumbers_1_l0_loop N _ _ _ _ _ _ _ _ _ _ _ _ _ K N _ _).trans h
  · cases h)
def A_i_Grid_linking_l0 (α : Type) (N : Nat) : Env α := (E_i_ComponentNumbers_1_l0 α N).addAnn 98 5 { head := [1, 3, 4, 5, 6, 23, 24], grow := [6], out := [1, 3, 5, 6], ret := [2] }
theorem A_i_Grid_linking_l0_ok {α : Type} (N : Nat) : EnvOk Try.prog (A_i_Grid_linking_l0 α N) := (E_i_ComponentNumbers_1_l0_ok N).addAnn
def i_Grid_linking_l0_p : SPat := ⟨[.undef, .ptr ⟨⟨0, 0⟩, 0, 0, 1⟩, .undef, .ptr ⟨⟨1, 0⟩, 0, 0, 8⟩, .int .i64, .ptr ⟨⟨2, 0⟩, 0, 0, 8⟩, .sliceV 4 0 0 1 false, .undef, .undef, .undef, .undef, .undef, .undef, .undef, .undef, .undef, .undef, .undef, .undef, .undef, .undef, .undef, .undef, .int .i64, .int .i64] ++ List.replicate 78 .undef, [[.vals [.int .i64], .ints .u8 8, .ints .u8 8], [.ints .i64 8], [.ints .i64 8], [.pool .i64], [.hdr 3]]⟩
def i_Grid_linking_l0_o0 : SPat := ⟨[.undef, .ptr ⟨⟨0, 0⟩, 0, 0, 1⟩, .undef, .ptr ⟨⟨1, 0⟩, 0, 0, 8⟩, .undef, .ptr ⟨⟨2, 0⟩, 0, 0, 8⟩, .sliceV 4 0 0 1 false] ++ List.replicate 96 .undef, [[.vals [.int .i64], .ints .u8 8, .ints .u8 8], [.ints .i64 8], [.ints .i64 8], [.pool .i64], [.hdr 3]]⟩
theorem i_Grid_linking_l0_round {α : Type} (N : Nat) (t4 : Int) (t6_n : Nat) (t6_l : Nat) (t6_c : Nat) (t23 : Int) (t24 : Int) (h0_0 : Int) (h0_1 : NI) (h0_2 : NI) (h1 : NI) (h2 : NI) (h3 : List (List Int)) (h4 : List (Nat × Nat)) (kn : St -> Option α) (K : AExit -> St -> Option α) :
    roundK Try.prog (A_i_Grid_linking_l0 α N) 1 0 98 Try.f98 5 5 (buildS i_Grid_linking_l0_p [.i t4, .n t6_n, .n t6_l, .n t6_c, .i t23, .i t24, .i h0_0, .f h0_1, .f h0_2, .f h1, .f h2, .r h3, .p h4]) kn K = i_Grid_linking_l0_s none t4 t23 h0_0 h0_1 h0_2 h1 h2 t6_n t6_l t6_c t24 h3 h4 (fun t6_n t6_l t6_c t24 h3 h4 => kn (buildS i_Grid_linking_l0_p [.i t4, .n t6_n, .n t6_l, .n t6_c, .i t23, .i t24, .i h0_0, .f h0_1, .f h0_2, .f h1, .f h2, .r h3, .p h4])) (fun t6_n_ t6_l_ t6_c_ h3_ h4_ => K (.exit 0) (buildS i_Grid_linking_l0_o0 [.n t6_n_, .n t6_l_, .n t6_c_, .i h0_0, .f h0_1, .f h0_2, .f h1, .f h2, .r h3_, .p h4_])) := by kernel_rfl
theorem i_Grid_linking_l0_loop {α : Type} (N : Nat) (t4 : Int) (t23 : Int) (h0_0 : Int) (h0_1 : NI) (h0_2 : NI) (h1 : NI) (h2 : NI) (K : AExit -> St -> Option α) : ∀ (m : Nat) (t6_n : Nat) (t6_l : Nat) (t6_c : Nat) (t24 : Int) (h3 : List (List Int)) (h4 : List (Nat × Nat)),
    loopN (trimSt ((A_i_Grid_linking_l0 α N).ann 98 5).head ((A_i_Grid_linking_l0 α N).ann 98 5).grow 5) (bodyK Try.prog (A_i_Grid_linking_l0 α N) 1 0 98 Try.f98 5) m (buildS i_Grid_linking_l0_p [.i t4, .n t6_n, .n t6_l, .n t6_c, .i t23, .i t24, .i h0_0, .f h0_1, .f h0_2, .f h1, .f h2, .r h3, .p h4]) (leaveLoop ((A_i_Grid_linking_l0 α N).ann 98 5) 5 K) = i_Grid_linking_l0 none t4 t23 h0_0 h0_1 h0_2 h1 h2 m t6_n t6_l t6_c t24 h3 h4 (fun t6_n_ t6_l_ t6_c_ h3_ h4_ => K (.exit 0) (buildS i_Grid_linking_l0_o0 [.n t6_n_, .n t6_l_, .n t6_c_, .i h0_0, .f h0_1, .f h0_2, .f h1, .f h2, .r h3_, .p h4_])) := by
  intro m
  induction m with
  | zero => intros; rfl
  | succ m ih =>
    intro t6_n t6_l t6_c t24 h3 h4
    rw [loopN_round]
    refine (i_Grid_linking_l0_round N t4 t6_n t6_l t6_c t23 t24 h0_0 h0_1 h0_2 h1 h2 h3 h4 _ K).trans ?_
    simp only [ih]
    rfl
def E_i_Grid_linking_l0 (α : Type) (N : Nat) : Env α := (A_i_Grid_linking_l0 α N).addLoop2 98 5 (loopSum2 ((A_i_Grid_linking_l0 α N).ann 98 5) 0 i_Grid_linking_l0_p (fun l K => match l with
    | [.i t4, .n t6_n, .n t6_l, .n t6_c, .i t23, .i t24, .i h0_0, .f h0_1, .f h0_2, .f h1, .f h2, .r h3, .p h4] => i_Grid_linking_l0 none t4 t23 h0_0 h0_1 h0_2 h1 h2 N t6_n t6_l t6_c t24 h3 h4 (fun t6_n_ t6_l_ t6_c_ h3_ h4_ => K (.exit 0) (buildS i_Grid_linking_l0_o0 [.n t6_n_, .n t6_l_, .n t6_c_, .i h0_0, .f h0_1, .f h0_2, .f h1, .f h2, .r h3_, .p h4_]))
    | _ => none) ((A_i_Grid_linking_l0 α N).ls 98 5))
theorem E_i_Grid_linking_l0_ok {α : Type} (N : Nat) : EnvOk Try.prog (E_i_Grid_linking_l0 α N) := (A_i_Grid_linking_l0_ok N).addLoop2 Try.func98 (by kernel_rfl) (loopSum_ok prog_mixed prog_names (A_i_Grid_linking_l0_ok N) Try.func98 (by kernel_rfl) (d := 1) (ro := 0) fun l K r h => by
  split at h
  · exact (i_Grid_linking_l0_loop N _ _ _ _ _ _ _ K N _ _ _ _ _ _).trans h
  · cases h)
def A_i_Grid_crossings_l0 (α : Type) (N : Nat) : Env α := (E_i_Grid_linking_l0 α N).addAnn 154 3 { head := [1, 3, 4, 5, 21, 22], grow := [5], out := [5], ret := [2] }
theorem A_i_Grid_crossings_l0_ok {α : Type} (N : Nat) : EnvOk Try.prog (A_i_Grid_crossings_l0 α N) := (E_i_Grid_linking_l0_ok N).addAnn
def A_i_Grid_crossings_l1 (α : Type) (N : Nat) : Env α := (A_i_Grid_crossings_l0 α N).addAnn 154 6 { head := [1, 3, 4, 5, 6, 21, 22, 26, 27], grow := [5], out := [1, 3, 4, 5, 21, 22], ret := [2] }
theorem A_i_Grid_crossings_l1_ok {α : Type} (N : Nat) : EnvOk Try.prog (A_i_Grid_crossings_l1 α N) := (A_i_Grid_crossings_l0_ok N).addAnn
def i_isBetween_a : SPat := ⟨[.int .i64, .int .i64, .int .i64], []⟩
def i_isBetween_r0 : SPat := ⟨[.bool], []⟩
theorem i_isBetween_run {α : Type} (N : Nat) (x : Int) (a : Int) (b : Int) (K : AV -> Heap -> Option α) :
    callK Try.prog (A_i_Grid_crossings_l1 α N) 1 204 0 (buildS i_isBetween_a [.i x, .i a, .i b]).t (buildS i_isBetween_a [.i x, .i a, .i b]).h K = i_isBetween none N x a b (fun r__ => retK (buildS i_isBetween_r0 [.b r__]) K) := by kernel_rfl
def E_i_isBetween (α : Type) (N : Nat) : Env α := (A_i_Grid_crossings_l1 α N).addFun 204 true 0 i_isBetween_a (fun l K => match l with
    | [.i x, .i a, .i b] => i_isBetween none N x a b (fun r__ => retK (buildS i_isBetween_r0 [.b r__]) K)
    | _ => none)
theorem E_i_isBetween_ok {α : Type} (N : Nat) : EnvOk Try.prog (E_i_isBetween α N) := (A_i_Grid_crossings_l1_ok N).addFun prog_mixed prog_names (d := 1) fun l K r h => by
  split at h
  · exact (i_isBetween_run N _ _ _ K).trans h
  · cases h
def i_Grid_crossings_l1_p : SPat := ⟨[.undef, .ptr ⟨⟨0, 0⟩, 0, 0, 1⟩, .undef, .ptr ⟨⟨2, 0⟩, 0, 0, 8⟩, .ptr ⟨⟨3, 0⟩, 0, 0, 8⟩, .sliceV 1 0 0 3 false, .int .i64, .undef, .undef, .undef, .undef, .undef, .undef, .undef, .undef, .undef, .undef, .undef, .undef, .undef, .undef, .int .i64, .int .i64, .undef, .undef, .undef, .int .i64, .int .i64] ++ List.replicate 55 .undef, [[.vals [.int .i64], .ints .u8 8, .ints .u8 8], [.vec .i64], [.ints .i64 8], [.ints .i64 8]]⟩
def i_Grid_crossings_l1_o0 : SPat := ⟨[.undef, .ptr ⟨⟨0, 0⟩, 0, 0, 1⟩, .undef, .ptr ⟨⟨2, 0⟩, 0, 0, 8⟩, .ptr ⟨⟨3, 0⟩, 0, 0, 8⟩, .sliceV 1 0 0 3 false, .undef, .undef, .undef, .undef, .undef, .undef, .undef, .undef, .undef, .undef, .undef, .undef, .undef, .undef, .undef, .int .i64, .int .i64] ++ List.replicate 60 .undef, [[.vals [.int .i64], .ints .u8 8, .ints .u8 8], [.vec .i64], [.ints .i64 8], [.ints .i64 8]]⟩
theorem i_Grid_crossings_l1_round {α : Type} (N : Nat) (t5_n : Nat) (t5_l : Nat) (t5_c : Nat) (t6 : Int) (t21 : Int) (t22 : Int) (t26 : Int) (t27 : Int) (h0_0 : Int) (h0_1 : NI) (h0_2 : NI) (h1 : List Int) (h2 : NI) (h3 : NI) (kn : St -> Option α) (K : AExit -> St -> Option α) :
    roundK Try.prog (E_i_isBetween α N) 1 0 154 Try.f154 6 4 (buildS i_Grid_crossings_l1_p [.n t5_n, .n t5_l, .n t5_c, .i t6, .i t21, .i t22, .i t26, .i t27, .i h0_0, .f h0_1, .f h0_2, .l h1, .f h2, .f h3]) kn K = i_Grid_crossings_l1_s none N t6 t21 t22 t26 h0_0 h0_1 h0_2 h2 h3 t5_n t5_l t5_c t27 h1 (fun t5_n t5_l t5_c t27 h1 => kn (buildS i_Grid_crossings_l1_p [.n t5_n, .n t5_l, .n t5_c, .i t6, .i t21, .i t22, .i t26, .i t27, .i h0_0, .f h0_1, .f h0_2, .l h1, .f h2, .f h3])) (fun t5_n_ t5_l_ t5_c_ h1_ => K (.exit 2) (buildS i_Grid_crossings_l1_o0 [.n t5_n_, .n t5_l_, .n t5_c_, .i t21, .i t22, .i h0_0, .f h0_1, .f h0_2, .l h1_, .f h2, .f h3])) := by kernel_rfl
theorem i_Grid_crossings_l1_loop {α : Type} (N : Nat) (t6 : Int) (t21 : Int) (t22 : Int) (t26 : Int) (h0_0 : Int) (h0_1 : NI) (h0_2 : NI) (h2 : NI) (h3 : NI) (K : AExit -> St -> Option α) : ∀ (m : Nat) (t5_n : Nat) (t5_l : Nat) (t5_c : Nat) (t27 : Int) (h1 : List Int),
    loopN (trimSt ((E_i_isBetween α N).ann 154 6).head ((E_i_isBetween α N).ann 154 6).grow 4) (bodyK Try.prog (E_i_isBetween α N) 1 0 154 Try.f154 6) m (buildS i_Grid_crossings_l1_p [.n t5_n, .n t5_l, .n t5_c, .i t6, .i t21, .i t22, .i t26, .i t27, .i h0_0, .f h0_1, .f h0_2, .l h1, .f h2, .f h3]) (leaveLoop ((E_i_isBetween α N).ann 154 6) 4 K) = i_Grid_crossings_l1 none N t6 t21 t22 t26 h0_0 h0_1 h0_2 h2 h3 m t5_n t5_l t5_c t27 h1 (fun t5_n_ t5_l_ t5_c_ h1_ => K (.exit 2) (buildS i_Grid_crossings_l1_o0 [.n t5_n_, .n t5_l_, .n t5_c_, .i t21, .i t22, .i h0_0, .f h0_1, .f h0_2, .l h1_, .f h2, .f h3])) := by
  intro m
  induction m with
  | zero => intros; rfl
  | succ m ih =>
    intro t5_n t5_l t5_c t27 h1
    rw [loopN_round]
    refine (i_Grid_crossings_l1_round N t5_n t5_l t5_c t6 t21 t22 t26 t27 h0_0 h0_1 h0_2 h1 h2 h3 _ K).trans ?_
    simp only [ih]
    rfl
def E_i_Grid_crossings_l1 (α : Type) (N : Nat) : Env α := (E_i_isBetween α N).addLoop2 154 6 (loopSum2 ((E_i_isBetween α N).ann 154 6) 0 i_Grid_crossings_l1_p (fun l K => match l with
    | [.n t5_n, .n t5_l, .n t5_c, .i t6, .i t21, .i t22, .i t26, .i t27, .i h0_0, .f h0_1, .f h0_2, .l h1, .f h2, .f h3] => i_Grid_crossings_l1 none N t6 t21 t22 t26 h0_0 h0_1 h0_2 h2 h3 N t5_n t5_l t5_c t27 h1 (fun t5_n_ t5_l_ t5_c_ h1_ => K (.exit 2) (buildS i_Grid_crossings_l1_o0 [.n t5_n_, .n t5_l_, .n t5_c_, .i t21, .i t22, .i h0_0, .f h0_1, .f h0_2, .l h1_, .f h2, .f h3]))
    | _ => none) ((E_i_isBetween α N).ls 154 6))
theorem E_i_Grid_crossings_l1_ok {α : Type} (N : Nat) : EnvOk Try.prog (E_i_Grid_crossings_l1 α N) := (E_i_isBetween_ok N).addLoop2 Try.func154 (by kernel_rfl) (loopSum_ok prog_mixed prog_names (E_i_isBetween_ok N) Try.func154 (by kernel_rfl) (d := 1) (ro := 0) fun l K r h => by
  split at h
  · exact (i_Grid_crossings_l1_loop N _ _ _ _ _ _ _ _ _ K N _ _ _ _ _).trans h
  · cases h)
def i_Grid_crossings_l0_p : SPat := ⟨[.undef, .ptr ⟨⟨0, 0⟩, 0, 0, 1⟩, .undef, .ptr ⟨⟨2, 0⟩, 0, 0, 8⟩, .ptr ⟨⟨3, 0⟩, 0, 0, 8⟩, .sliceV 1 0 0 3 false, .undef, .undef, .undef, .undef, .undef, .undef, .undef, .undef, .undef, .undef, .undef, .undef, .undef, .undef, .undef, .int .i64, .int .i64] ++ List.replicate 60 .undef, [[.vals [.int .i64], .ints .u8 8, .ints .u8 8], [.vec .i64], [.ints .i64 8], [.ints .i64 8]]⟩
def i_Grid_crossings_l0_o0 : SPat := ⟨[.undef, .undef, .undef, .undef, .undef, .sliceV 1 0 0 3 false] ++ List.replicate 77 .undef, [[.vals [.int .i64], .ints .u8 8, .ints .u8 8], [.vec .i64], [.ints .i64 8], [.ints .i64 8]]⟩
theorem i_Grid_crossings_l0_round {α : Type} (N : Nat) (t5_n : Nat) (t5_l : Nat) (t5_c : Nat) (t21 : Int) (t22 : Int) (h0_0 : Int) (h0_1 : NI) (h0_2 : NI) (h1 : List Int) (h2 : NI) (h3 : NI) (kn : St -> Option α) (K : AExit -> St -> Option α) :
    roundK Try.prog (E_i_Grid_crossings_l1 α N) 1 0 154 Try.f154 3 4 (buildS i_Grid_crossings_l0_p [.n t5_n, .n t5_l, .n t5_c, .i t21, .i t22, .i h0_0, .f h0_1, .f h0_2, .l h1, .f h2, .f h3]) kn K = i_Grid_crossings_l0_s none N t21 h0_0 h0_1 h0_2 h2 h3 t5_n t5_l t5_c t22 h1 (fun t5_n t5_l t5_c t22 h1 => kn (buildS i_Grid_crossings_l0_p [.n t5_n, .n t5_l, .n t5_c, .i t21, .i t22, .i h0_0, .f h0_1, .f h0_2, .l h1, .f h2, .f h3])) (fun t5_n_ t5_l_ t5_c_ h1_ => K (.exit 0) (buildS i_Grid_crossings_l0_o0 [.n t5_n_, .n t5_l_, .n t5_c_, .i h0_0, .f h0_1, .f h0_2, .l h1_, .f h2, .f h3])) := by kernel_rfl
theorem i_Grid_crossings_l0_loop {α : Type} (N : Nat) (t21 : Int) (h0_0 : Int) (h0_1 : NI) (h0_2 : NI) (h2 : NI) (h3 : NI) (K : AExit -> St -> Option α) : ∀ (m : Nat) (t5_n : Nat) (t5_l : Nat) (t5_c : Nat) (t22 : Int) (h1 : List Int),
    loopN (trimSt ((E_i_Grid_crossings_l1 α N).ann 154 3).head ((E_i_Grid_crossings_l1 α N).ann 154 3).grow 4) (bodyK Try.prog (E_i_Grid_crossings_l1 α N) 1 0 154 Try.f154 3) m (buildS i_Grid_crossings_l0_p [.n t5_n, .n t5_l, .n t5_c, .i t21, .i t22, .i h0_0, .f h0_1, .f h0_2, .l h1, .f h2, .f h3]) (leaveLoop ((E_i_Grid_crossings_l1 α N).ann 154 3) 4 K) = i_Grid_crossings_l0 none N t21 h0_0 h0_1 h0_2 h2 h3 m t5_n t5_l t5_c t22 h1 (fun t5_n_ t5_l_ t5_c_ h1_ => K (.exit 0) (buildS i_Grid_crossings_l0_o0 [.n t5_n_, .n t5_l_, .n t5_c_, .i h0_0, .f h0_1, .f h0_2, .l h1_, .f h2, .f h3])) := by
  intro m
  induction m with
  | zero => intros; rfl
  | succ m ih =>
    intro t5_n t5_l t5_c t22 h1
    rw [loopN_round]
    refine (i_Grid_crossings_l0_round N t5_n t5_l t5_c t21 t22 h0_0 h0_1 h0_2 h1 h2 h3 _ K).trans ?_
    simp only [ih]
    rfl
def E_i_Grid_crossings_l0 (α : Type) (N : Nat) : Env α := (E_i_Grid_crossings_l1 α N).addLoop2 154 3 (loopSum2 ((E_i_Grid_crossings_l1 α N).ann 154 3) 0 i_Grid_crossings_l0_p (fun l K => match l with
    | [.n t5_n, .n t5_l, .n t5_c, .i t21, .i t22, .i h0_0, .f h0_1, .f h0_2, .l h1, .f h2, .f h3] => i_Grid_crossings_l0 none N t21 h0_0 h0_1 h0_2 h2 h3 N t5_n t5_l t5_c t22 h1 (fun t5_n_ t5_l_ t5_c_ h1_ => K (.exit 0) (buildS i_Grid_crossings_l0_o0 [.n t5_n_, .n t5_l_, .n t5_c_, .i h0_0, .f h0_1, .f h0_2, .l h1_, .f h2, .f h3]))
    | _ => none) ((E_i_Grid_crossings_l1 α N).ls 154 3))
theorem E_i_Grid_crossings_l0_ok {α : Type} (N : Nat) : EnvOk Try.prog (E_i_Grid_crossings_l0 α N) := (E_i_Grid_crossings_l1_ok N).addLoop2 Try.func154 (by kernel_rfl) (loopSum_ok prog_mixed prog_names (E_i_Grid_crossings_l1_ok N) Try.func154 (by kernel_rfl) (d := 1) (ro := 0) fun l K r h => by
  split at h
  · exact (i_Grid_crossings_l0_loop N _ _ _ _ _ _ K N _ _ _ _ _).trans h
  · cases h)
def i_Grid_crossings_a : SPat := ⟨[.agg [.vals [.int .i64], .ints .u8 8, .ints .u8 8]], []⟩
def i_Grid_crossings_r0 : SPat := ⟨[.sliceV 0 0 0 3 false], [[.vec .i64]]⟩
theorem i_Grid_crossings_run {α : Type} (N : Nat) (g_0 : Int) (g_1 : NI) (g_2 : NI) (K : AV -> Heap -> Option α) :
    callK Try.prog (E_i_Grid_crossings_l0 α N) 1 154 0 (buildS i_Grid_crossings_a [.i g_0, .f g_1, .f g_2]).t (buildS i_Grid_crossings_a [.i g_0, .f g_1, .f g_2]).h K = i_Grid_crossings none N g_0 g_1 g_2 (fun r_n_ r_l_ r_c_ h0_ => retK (buildS i_Grid_crossings_r0 [.n r_n_, .n r_l_, .n r_c_, .l h0_]) K) := by kernel_rfl
def E_i_Grid_crossings (α : Type) (N : Nat) : Env α := (E_i_Grid_crossings_l0 α N).addFun 154 true 0 i_Grid_crossings_a (fun l K => match l with
    | [.i g_0, .f g_1, .f g_2] => i_Grid_crossings none N g_0 g_1 g_2 (fun r_n_ r_l_ r_c_ h0_ => retK (buildS i_Grid_crossings_r0 [.n r_n_, .n r_l_, .n r_c_, .l h0_]) K)
    | _ => none)
theorem E_i_Grid_crossings_ok {α : Type} (N : Nat) : EnvOk Try.prog (E_i_Grid_crossings α N) := (E_i_Grid_crossings_l0_ok N).addFun prog_mixed prog_names (d := 1) fun l K r h => by
  split at h
  · exact (i_Grid_crossings_run N _ _ _ K).trans h
  · cases h
def A_i_Grid_linking_l1 (α : Type) (N : Nat) : Env α := (E_i_Grid_crossings α N).addAnn 98 9 { head := [3, 5, 6, 33, 34, 35], grow := [], out := [6], ret := [2] }
theorem A_i_Grid_linking_l1_ok {α : Type} (N : Nat) : EnvOk Try.prog (A_i_Grid_linking_l1 α N) := (E_i_Grid_crossings_ok N).addAnn
def i_Grid_linking_l1_p : SPat := ⟨[.undef, .undef, .undef, .ptr ⟨⟨1, 0⟩, 0, 0, 8⟩, .undef, .ptr ⟨⟨2, 0⟩, 0, 0, 8⟩, .sliceV 4 0 0 1 false, .undef, .undef, .undef, .undef, .undef, .undef, .undef, .undef, .undef, .undef, .undef, .undef, .undef, .undef, .undef, .undef, .undef, .undef, .undef, .undef, .undef, .undef, .undef, .undef, .undef, .undef, .sliceV 5 0 0 3 false, .int .i64, .int .i64] ++ List.replicate 67 .undef, [[.vals [.int .i64], .ints .u8 8, .ints .u8 8], [.ints .i64 8], [.ints .i64 8], [.pool .i64], [.hdr 3], [.vec .i64]]⟩
def i_Grid_linking_l1_o0 : SPat := ⟨[.undef, .undef, .undef, .undef, .undef, .undef, .sliceV 4 0 0 1 false] ++ List.replicate 96 .undef, [[.vals [.int .i64], .ints .u8 8, .ints .u8 8], [.ints .i64 8], [.ints .i64 8], [.pool .i64], [.hdr 3], [.vec .i64]]⟩
theorem i_Grid_linking_l1_round {α : Type} (N : Nat) (t6_n : Nat) (t6_l : Nat) (t6_c : Nat) (t33_n : Nat) (t33_l : Nat) (t33_c : Nat) (t34 : Int) (t35 : Int) (h0_0 : Int) (h0_1 : NI) (h0_2 : NI) (h1 : NI) (h2 : NI) (h3 : List (List Int)) (h4 : List (Nat × Nat)) (h5 : List Int) (kn : St -> Option α) (K : AExit -> St -> Option α) :
    roundK Try.prog (A_i_Grid_linking_l1 α N) 1 0 98 Try.f98 9 6 (buildS i_Grid_linking_l1_p [.n t6_n, .n t6_l, .n t6_c, .n t33_n, .n t33_l, .n t33_c, .i t34, .i t35, .i h0_0, .f h0_1, .f h0_2, .f h1, .f h2, .r h3, .p h4, .l h5]) kn K = i_Grid_linking_l1_s none t6_n t6_l t6_c t33_n t33_l t33_c t34 h0_0 h0_1 h0_2 h1 h2 h4 h5 t35 h3 (fun t35 h3 => kn (buildS i_Grid_linking_l1_p [.n t6_n, .n t6_l, .n t6_c, .n t33_n, .n t33_l, .n t33_c, .i t34, .i t35, .i h0_0, .f h0_1, .f h0_2, .f h1, .f h2, .r h3, .p h4, .l h5])) (fun h3_ => K (.exit 2) (buildS i_Grid_linking_l1_o0 [.n t6_n, .n t6_l, .n t6_c, .i h0_0, .f h0_1, .f h0_2, .f h1, .f h2, .r h3_, .p h4, .l h5])) := by kernel_rfl
theorem i_Grid_linking_l1_loop {α : Type} (N : Nat) (t6_n : Nat) (t6_l : Nat) (t6_c : Nat) (t33_n : Nat) (t33_l : Nat) (t33_c : Nat) (t34 : Int) (h0_0 : Int) (h0_1 : NI) (h0_2 : NI) (h1 : NI) (h2 : NI) (h4 : List (Nat × Nat)) (h5 : List Int) (K : AExit -> St -> Option α) : ∀ (m : Nat) (t35 : Int) (h3 : List (List Int)),
    loopN (trimSt ((A_i_Grid_linking_l1 α N).ann 98 9).head ((A_i_Grid_linking_l1 α N).ann 98 9).grow 6) (bodyK Try.prog (A_i_Grid_linking_l1 α N) 1 0 98 Try.f98 9) m (buildS i_Grid_linking_l1_p [.n t6_n, .n t6_l, .n t6_c, .n t33_n, .n t33_l, .n t33_c, .i t34, .i t35, .i h0_0, .f h0_1, .f h0_2, .f h1, .f h2, .r h3, .p h4, .l h5]) (leaveLoop ((A_i_Grid_linking_l1 α N).ann 98 9) 6 K) = i_Grid_linking_l1 none t6_n t6_l t6_c t33_n t33_l t33_c t34 h0_0 h0_1 h0_2 h1 h2 h4 h5 m t35 h3 (fun h3_ => K (.exit 2) (buildS i_Grid_linking_l1_o0 [.n t6_n, .n t6_l, .n t6_c, .i h0_0, .f h0_1, .f h0_2, .f h1, .f h2, .r h3_, .p h4, .l h5])) := by
  intro m
  induction m with
  | zero => intros; rfl
  | succ m ih =>
    intro t35 h3
    rw [loopN_round]
    refine (i_Grid_linking_l1_round N t6_n t6_l t6_c t33_n t33_l t33_c t34 t35 h0_0 h0_1 h0_2 h1 h2 h3 h4 h5 _ K).trans ?_
    simp only [ih]
    rfl
def E_i_Grid_linking_l1 (α : Type) (N : Nat) : Env α := (A_i_Grid_linking_l1 α N).addLoop2 98 9 (loopSum2 ((A_i_Grid_linking_l1 α N).ann 98 9) 0 i_Grid_linking_l1_p (fun l K => match l with
    | [.n t6_n, .n t6_l, .n t6_c, .n t33_n, .n t33_l, .n t33_c, .i t34, .i t35, .i h0_0, .f h0_1, .f h0_2, .f h1, .f h2, .r h3, .p h4, .l h5] => i_Grid_linking_l1 none t6_n t6_l t6_c t33_n t33_l t33_c t34 h0_0 h0_1 h0_2 h1 h2 h4 h5 N t35 h3 (fun h3_ => K (.exit 2) (buildS i_Grid_linking_l1_o0 [.n t6_n, .n t6_l, .n t6_c, .i h0_0, .f h0_1, .f h0_2, .f h1, .f h2, .r h3_, .p h4, .l h5]))
    | _ => none) ((A_i_Grid_linking_l1 α N).ls 98 9))
theorem E_i_Grid_linking_l1_ok {α : Type} (N : Nat) : EnvOk Try.prog (E_i_Grid_linking_l1 α N) := (A_i_Grid_linking_l1_ok N).addLoop2 Try.func98 (by kernel_rfl) (loopSum_ok prog_mixed prog_names (A_i_Grid_linking_l1_ok N) Try.func98 (by kernel_rfl) (d := 1) (ro := 0) fun l K r h => by
  split at h
  · exact (i_Grid_linking_l1_loop N _ _ _ _ _ _ _ _ _ _ _ _ _ _ K N _ _).trans h
  · cases h)
def A_i_Grid_linking_l2 (α : Type) (N : Nat) : Env α := (E_i_Grid_linking_l1 α N).addAnn 98 17 { head := [6, 76, 77], grow := [], out := [6], ret := [2] }
theorem A_i_Grid_linking_l2_ok {α : Type} (N : Nat) : EnvOk Try.prog (A_i_Grid_linking_l2 α N) := (E_i_Grid_linking_l1_ok N).addAnn
def A_i_Grid_linking_l3 (α : Type) (N : Nat) : Env α := (A_i_Grid_linking_l2 α N).addAnn 98 20 { head := [6, 11, 76, 77, 84, 85], grow := [], out := [6, 76, 77], ret := [2] }
theorem A_i_Grid_linking_l3_ok {α : Type} (N : Nat) : EnvOk Try.prog (A_i_Grid_linking_l3 α N) := (A_i_Grid_linking_l2_ok N).addAnn
def i_Grid_linking_l3_p : SPat := ⟨[.undef, .undef, .undef, .undef, .undef, .undef, .sliceV 4 0 0 1 false, .undef, .undef, .undef, .undef, .int .i64, .undef, .undef, .undef, .undef, .undef, .undef, .undef, .undef, .undef, .undef, .undef, .undef, .undef, .undef, .undef, .undef, .undef, .undef, .undef, .undef, .undef, .undef, .undef, .undef, .undef, .undef, .undef, .undef, .undef, .undef, .undef, .undef, .undef, .undef, .undef, .undef, .undef, .undef, .undef, .undef, .undef, .undef, .undef, .undef, .undef, .undef, .undef, .undef, .undef, .undef, .undef, .undef, .undef, .undef, .undef, .undef, .undef, .undef, .undef, .undef, .undef, .undef, .undef, .undef, .int .i64, .int .i64, .undef, .undef, .undef, .undef, .undef, .undef, .int .i64, .int .i64] ++ List.replicate 17 .undef, [[.vals [.int .i64], .ints .u8 8, .ints .u8 8], [.ints .i64 8], [.ints .i64 8], [.pool .i64], [.hdr 3], [.vec .i64]]⟩
def i_Grid_linking_l3_o0 : SPat := ⟨[.undef, .undef, .undef, .undef, .undef, .undef, .sliceV 4 0 0 1 false, .undef, .undef, .undef, .undef, .undef, .undef, .undef, .undef, .undef, .undef, .undef, .undef, .undef, .undef, .undef, .undef, .undef, .undef, .undef, .undef, .undef, .undef, .undef, .undef, .undef, .undef, .undef, .undef, .undef, .undef, .undef, .undef, .undef, .undef, .undef, .undef, .undef, .undef, .undef, .undef, .undef, .undef, .undef, .undef, .undef, .undef, .undef, .undef, .undef, .undef, .undef, .undef, .undef, .undef, .undef, .undef, .undef, .undef, .undef, .undef, .undef, .undef, .undef, .undef, .undef, .undef, .undef, .undef, .undef, .int .i64, .int .i64] ++ List.replicate 25 .undef, [[.vals [.int .i64], .ints .u8 8, .ints .u8 8], [.ints .i64 8], [.ints .i64 8], [.pool .i64], [.hdr 3], [.vec .i64]]⟩
theorem i_Grid_linking_l3_round {α : Type} (N : Nat) (t6_n : Nat) (t6_l : Nat) (t6_c : Nat) (t11 : Int) (t76 : Int) (t77 : Int) (t84 : Int) (t85 : Int) (h0_0 : Int) (h0_1 : NI) (h0_2 : NI) (h1 : NI) (h2 : NI) (h3 : List (List Int)) (h4 : List (Nat × Nat)) (h5 : List Int) (kn : St -> Option α) (K : AExit -> St -> Option α) :
    roundK Try.prog (A_i_Grid_linking_l3 α N) 1 0 98 Try.f98 20 6 (buildS i_Grid_linking_l3_p [.n t6_n, .n t6_l, .n t6_c, .i t11, .i t76, .i t77, .i t84, .i t85, .i h0_0, .f h0_1, .f h0_2, .f h1, .f h2, .r h3, .p h4, .l h5]) kn K = i_Grid_linking_l3_s none t6_n t6_l t6_c t11 t76 t77 t84 h0_0 h0_1 h0_2 h1 h2 h4 h5 t85 h3 (fun t85 h3 => kn (buildS i_Grid_linking_l3_p [.n t6_n, .n t6_l, .n t6_c, .i t11, .i t76, .i t77, .i t84, .i t85, .i h0_0, .f h0_1, .f h0_2, .f h1, .f h2, .r h3, .p h4, .l h5])) (fun h3_ => K (.exit 6) (buildS i_Grid_linking_l3_o0 [.n t6_n, .n t6_l, .n t6_c, .i t76, .i t77, .i h0_0, .f h0_1, .f h0_2, .f h1, .f h2, .r h3_, .p h4, .l h5])) := by kernel_rfl
theorem i_Grid_linking_l3_loop {α : Type} (N : Nat) (t6_n : Nat) (t6_l : Nat) (t6_c : Nat) (t11 : Int) (t76 : Int) (t77 : Int) (t84 : Int) (h0_0 : Int) (h0_1 : NI) (h0_2 : NI) (h1 : NI) (h2 : NI) (h4 : List (Nat × Nat)) (h5 : List Int) (K : AExit -> St -> Option α) : ∀ (m : Nat) (t85 : Int) (h3 : List (List Int)),
    loopN (trimSt ((A_i_Grid_linking_l3 α N).ann 98 20).head ((A_i_Grid_linking_l3 α N).ann 98 20).grow 6) (bodyK Try.prog (A_i_Grid_linking_l3 α N) 1 0 98 Try.f98 20) m (buildS i_Grid_linking_l3_p [.n t6_n, .n t6_l, .n t6_c, .i t11, .i t76, .i t77, .i t84, .i t85, .i h0_0, .f h0_1, .f h0_2, .f h1, .f h2, .r h3, .p h4, .l h5]) (leaveLoop ((A_i_Grid_linking_l3 α N).ann 98 20) 6 K) = i_Grid_linking_l3 none t6_n t6_l t6_c t11 t76 t77 t84 h0_0 h0_1 h0_2 h1 h2 h4 h5 m t85 h3 (fun h3_ => K (.exit 6) (buildS i_Grid_linking_l3_o0 [.n t6_n, .n t6_l, .n t6_c, .i t76, .i t77, .i h0_0, .f h0_1, .f h0_2, .f h1, .f h2, .r h3_, .p h4, .l h5])) := by
  intro m
  induction m with
  | zero => intros; rfl
  | succ m ih =>
    intro t85 h3
    rw [loopN_round]
    refine (i_Grid_linking_l3_round N t6_n t6_l t6_c t11 t76 t77 t84 t85 h0_0 h0_1 h0_2 h1 h2 h3 h4 h5 _ K).trans ?_
    simp only [ih]
    rfl
def E_i_Grid_linking_l3 (α : Type) (N : Nat) : Env α := (A_i_Grid_linking_l3 α N).addLoop2 98 20 (loopSum2 ((A_i_Grid_linking_l3 α N).ann 98 20) 0 i_Grid_linking_l3_p (fun l K => match l with
    | [.n t6_n, .n t6_l, .n t6_c, .i t11, .i t76, .i t77, .i t84, .i t85, .i h0_0, .f h0_1, .f h0_2, .f h1, .f h2, .r h3, .p h4, .l h5] => i_Grid_linking_l3 none t6_n t6_l t6_c t11 t76 t77 t84 h0_0 h0_1 h0_2 h1 h2 h4 h5 N t85 h3 (fun h3_ => K (.exit 6) (buildS i_Grid_linking_l3_o0 [.n t6_n, .n t6_l, .n t6_c, .i t76, .i t77, .i h0_0, .f h0_1, .f h0_2, .f h1, .f h2, .r h3_, .p h4, .l h5]))
    | _ => none) ((A_i_Grid_linking_l3 α N).ls 98 20))
theorem E_i_Grid_linking_l3_ok {α : Type} (N : Nat) : EnvOk Try.prog (E_i_Grid_linking_l3 α N) := (A_i_Grid_linking_l3_ok N).addLoop2 Try.func98 (by kernel_rfl) (loopSum_ok prog_mixed prog_names (A_i_Grid_linking_l3_ok N) Try.func98 (by kernel_rfl) (d := 1) (ro := 0) fun l K r h => by
  split at h
  · exact (i_Grid_linking_l3_loop N _ _ _ _ _ _ _ _ _ _ _ _ _ _ K N _ _).trans h
  · cases h)
def i_Grid_linking_l2_p : SPat := ⟨[.undef, .undef, .undef, .undef, .undef, .undef, .sliceV 4 0 0 1 false, .undef, .undef, .undef, .undef, .undef, .undef, .undef, .undef, .undef, .undef, .undef, .undef, .undef, .undef, .undef, .undef, .undef, .undef, .undef, .undef, .undef, .undef, .undef, .undef, .undef, .undef, .undef, .undef, .undef, .undef, .undef, .undef, .undef, .undef, .undef, .undef, .undef, .undef, .undef, .undef, .undef, .undef, .undef, .undef, .undef, .undef, .undef, .undef, .undef, .undef, .undef, .undef, .undef, .undef, .undef, .undef, .undef, .undef, .undef, .undef, .undef, .undef, .undef, .undef, .undef, .undef, .undef, .undef, .undef, .int .i64, .int .i64] ++ List.replicate 25 .undef, [[.vals [.int .i64], .ints .u8 8, .ints .u8 8], [.ints .i64 8], [.ints .i64 8], [.pool .i64], [.hdr 3], [.vec .i64]]⟩
def i_Grid_linking_l2_o0 : SPat := ⟨[.undef, .undef, .undef, .undef, .undef, .undef, .sliceV 4 0 0 1 false] ++ List.replicate 96 .undef, [[.vals [.int .i64], .ints .u8 8, .ints .u8 8], [.ints .i64 8], [.ints .i64 8], [.pool .i64], [.hdr 3], [.vec .i64]]⟩
theorem i_Grid_linking_l2_round {α : Type} (N : Nat) (t6_n : Nat) (t6_l : Nat) (t6_c : Nat) (t76 : Int) (t77 : Int) (h0_0 : Int) (h0_1 : NI) (h0_2 : NI) (h1 : NI) (h2 : NI) (h3 : List (List Int)) (h4 : List (Nat × Nat)) (h5 : List Int) (kn : St -> Option α) (K : AExit -> St -> Option α) :
    roundK Try.prog (E_i_Grid_linking_l3 α N) 1 0 98 Try.f98 17 6 (buildS i_Grid_linking_l2_p [.n t6_n, .n t6_l, .n t6_c, .i t76, .i t77, .i h0_0, .f h0_1, .f h0_2, .f h1, .f h2, .r h3, .p h4, .l h5]) kn K = i_Grid_linking_l2_s none N t6_n t6_l t6_c t76 h0_0 h0_1 h0_2 h1 h2 h4 h5 t77 h3 (fun t77 h3 => kn (buildS i_Grid_linking_l2_p [.n t6_n, .n t6_l, .n t6_c, .i t76, .i t77, .i h0_0, .f h0_1, .f h0_2, .f h1, .f h2, .r h3, .p h4, .l h5])) (fun h3_ => K (.exit 4) (buildS i_Grid_linking_l2_o0 [.n t6_n, .n t6_l, .n t6_c, .i h0_0, .f h0_1, .f h0_2, .f h1, .f h2, .r h3_, .p h4, .l h5])) := by kernel_rfl
theorem i_Grid_linking_l2_loop {α : Type} (N : Nat) (t6_n : Nat) (t6_l : Nat) (t6_c : Nat) (t76 : Int) (h0_0 : Int) (h0_1 : NI) (h0_2 : NI) (h1 : NI) (h2 : NI) (h4 : List (Nat × Nat)) (h5 : List Int) (K : AExit -> St -> Option α) : ∀ (m : Nat) (t77 : Int) (h3 : List (List Int)),
    loopN (trimSt ((E_i_Grid_linking_l3 α N).ann 98 17).head ((E_i_Grid_linking_l3 α N).ann 98 17).grow 6) (bodyK Try.prog (E_i_Grid_linking_l3 α N) 1 0 98 Try.f98 17) m (buildS i_Grid_linking_l2_p [.n t6_n, .n t6_l, .n t6_c, .i t76, .i t77, .i h0_0, .f h0_1, .f h0_2, .f h1, .f h2, .r h3, .p h4, .l h5]) (leaveLoop ((E_i_Grid_linking_l3 α N).ann 98 17) 6 K) = i_Grid_linking_l2 none N t6_n t6_l t6_c t76 h0_0 h0_1 h0_2 h1 h2 h4 h5 m t77 h3 (fun h3_ => K (.exit 4) (buildS i_Grid_linking_l2_o0 [.n t6_n, .n t6_l, .n t6_c, .i h0_0, .f h0_1, .f h0_2, .f h1, .f h2, .r h3_, .p h4, .l h5])) := by
  intro m
  induction m with
  | zero => intros; rfl
  | succ m ih =>
    intro t77 h3
    rw [loopN_round]
    refine (i_Grid_linking_l2_round N t6_n t6_l t6_c t76 t77 h0_0 h0_1 h0_2 h1 h2 h3 h4 h5 _ K).trans ?_
    simp only [ih]
    rfl
def E_i_Grid_linking_l2 (α : Type) (N : Nat) : Env α := (E_i_Grid_linking_l3 α N).addLoop2 98 17 (loopSum2 ((E_i_Grid_linking_l3 α N).ann 98 17) 0 i_Grid_linking_l2_p (fun l K => match l with
    | [.n t6_n, .n t6_l, .n t6_c, .i t76, .i t77, .i h0_0, .f h0_1, .f h0_2, .f h1, .f h2, .r h3, .p h4, .l h5] => i_Grid_linking_l2 none N t6_n t6_l t6_c t76 h0_0 h0_1 h0_2 h1 h2 h4 h5 N t77 h3 (fun h3_ => K (.exit 4) (buildS i_Grid_linking_l2_o0 [.n t6_n, .n t6_l, .n t6_c, .i h0_0, .f h0_1, .f h0_2, .f h1, .f h2, .r h3_, .p h4, .l h5]))
    | _ => none) ((E_i_Grid_linking_l3 α N).ls 98 17))
theorem E_i_Grid_linking_l2_ok {α : Type} (N : Nat) : EnvOk Try.prog (E_i_Grid_linking_l2 α N) := (E_i_Grid_linking_l3_ok N).addLoop2 Try.func98 (by kernel_rfl) (loopSum_ok prog_mixed prog_names (E_i_Grid_linking_l3_ok N) Try.func98 (by kernel_rfl) (d := 1) (ro := 0) fun l K r h => by
  split at h
  · exact (i_Grid_linking_l2_loop N _ _ _ _ _ _ _ _ _ _ _ K N _ _).trans h
  · cases h)
def i_Grid_linking_a : SPat := ⟨[.agg [.vals [.int .i64], .ints .u8 8, .ints .u8 8]], []⟩
def i_Grid_linking_r0 : SPat := ⟨[.sliceV 0 0 0 1 false], [[.hdr 1], [.pool .i64]]⟩
theorem i_Grid_linking_run {α : Type} (N : Nat) (g_0 : Int) (g_1 : NI) (g_2 : NI) (K : AV -> Heap -> Option α) :
    callK Try.prog (E_i_Grid_linking_l2 α N) 1 98 0 (buildS i_Grid_linking_a [.i g_0, .f g_1, .f g_2]).t (buildS i_Grid_linking_a [.i g_0, .f g_1, .f g_2]).h K = i_Grid_linking none N g_0 g_1 g_2 (fun r_n_ r_l_ r_c_ h0_ h1_ => retK (buildS i_Grid_linking_r0 [.n r_n_, .n r_l_, .n r_c_, .p h0_, .r h1_]) K) := by kernel_rfl
def E_i_Grid_linking (α : Type) (N : Nat) : Env α := (E_i_Grid_linking_l2 α N).addFun 98 true 0 i_Grid_linking_a (fun l K => match l with
    | [.i g_0, .f g_1, .f g_2] => i_Grid_linking none N g_0 g_1 g_2 (fun r_n_ r_l_ r_c_ h0_ h1_ => retK (buildS i_Grid_linking_r0 [.n r_n_, .n r_l_, .n r_c_, .p h0_, .r h1_]) K)
    | _ => none)
theorem E_i_Grid_linking_ok {α : Type} (N : Nat) : EnvOk Try.prog (E_i_Grid_linking α N) := (E_i_Grid_linking_l2_ok N).addFun prog_mixed prog_names (d := 1) fun l K r h => by
  split at h
  · exact (i_Grid_linking_run N _ _ _ K).trans h
  · cases h
def A_i_ComponentNumbers_1_l1 (α : Type) (N : Nat) : Env α := (E_i_Grid_linking α N).addAnn 94 10 { head := [8, 9, 38, 39, 40], grow := [8], out := [8], ret := [2] }
theorem A_i_ComponentNumbers_1_l1_ok {α : Type} (N : Nat) : EnvOk Try.prog (A_i_ComponentNumbers_1_l1 α N) := (E_i_Grid_linking_ok N).addAnn
def i_front_numbers_a : SPat := ⟨[.agg [.ints .i64 3], .int .i64], []⟩
def i_front_numbers_r0 : SPat := ⟨[.slice ⟨⟨0, 0⟩, 0, 0, 2⟩ 2 2 1 true], [[.vec .i64]]⟩
theorem i_front_numbers_run {α : Type} (N : Nat) (f : NI) (writhe : Int) (K : AV -> Heap -> Option α) :
    callK Try.prog (A_i_ComponentNumbers_1_l1 α N) 1 99 0 (buildS i_front_numbers_a [.f f, .i writhe]).t (buildS i_front_numbers_a [.f f, .i writhe]).h K = i_front_numbers none N f writhe (fun h0_ => retK (buildS i_front_numbers_r0 [.l h0_]) K) := by kernel_rfl
def E_i_front_numbers (α : Type) (N : Nat) : Env α := (A_i_ComponentNumbers_1_l1 α N).addFun 99 true 0 i_front_numbers_a (fun l K => match l with
    | [.f f, .i writhe] => i_front_numbers none N f writhe (fun h0_ => retK (buildS i_front_numbers_r0 [.l h0_]) K)
    | _ => none)
theorem E_i_front_numbers_ok {α : Type} (N : Nat) : EnvOk Try.prog (E_i_front_numbers α N) := (A_i_ComponentNumbers_1_l1_ok N).addFun prog_mixed prog_names (d := 1) fun l K r h => by
  split at h
  · exact (i_front_numbers_run N _ _ K).trans h
  · cases h
def i_ComponentNumbers_1_l1_p : SPat := ⟨[.undef, .undef, .undef, .undef, .undef, .undef, .undef, .undef, .sliceV 5 0 0 1 false, .sliceV 6 0 0 1 false, .undef, .undef, .undef, .undef, .undef, .undef, .undef, .undef, .undef, .undef, .undef, .undef, .undef, .undef, .undef, .undef, .undef, .undef, .undef, .undef, .undef, .undef, .undef, .undef, .undef, .undef, .undef, .undef, .sliceV 2 0 0 3 true, .int .i64, .int .i64] ++ List.replicate 18 .undef, [[.vals [.int .i64], .ints .u8 8, .ints .u8 8], [.ints .i64 8], [.intsV .i64], [.recs [some IntKind.i64, some IntKind.i64, some IntKind.i64, none]], [.pool .i64], [.hdr 4], [.hdr 7], [.pool .i64]]⟩
def i_ComponentNumbers_1_l1_o0 : SPat := ⟨[.undef, .undef, .undef, .undef, .undef, .undef, .undef, .undef, .sliceV 5 0 0 1 false] ++ List.replicate 50 .undef, [[.vals [.int .i64], .ints .u8 8, .ints .u8 8], [.ints .i64 8], [.intsV .i64], [.recs [some IntKind.i64, some IntKind.i64, some IntKind.i64, none]], [.pool .i64], [.hdr 4], [.hdr 7], [.pool .i64]]⟩
theorem i_ComponentNumbers_1_l1_round {α : Type} (N : Nat) (out_n : Nat) (out_l : Nat) (out_c : Nat) (linking_n : Nat) (linking_l : Nat) (linking_c : Nat) (t38_n : Nat) (t38_l : Nat) (t38_c : Nat) (t39 : Int) (t40 : Int) (h0_0 : Int) (h0_1 : NI) (h0_2 : NI) (h1 : NI) (h2_n : Nat) (h2 : NI) (h3 : List Int) (h4 : List (List Int)) (h5 : List (Nat × Nat)) (h6 : List (Nat × Nat)) (h7 : List (List Int)) (kn : St -> Option α) (K : AExit -> St -> Option α) :
    roundK Try.prog (E_i_front_numbers α N) 1 0 94 Try.f94 10 8 (buildS i_ComponentNumbers_1_l1_p [.n out_n, .n out_l, .n out_c, .n linking_n, .n linking_l, .n linking_c, .n t38_n, .n t38_l, .n t38_c, .i t39, .i t40, .i h0_0, .f h0_1, .f h0_2, .f h1, .n h2_n, .f h2, .l h3, .r h4, .p h5, .p h6, .r h7]) kn K = i_ComponentNumbers_1_l1_s none N linking_n linking_l linking_c t38_n t38_l t38_c t39 h0_0 h0_1 h0_2 h1 h2_n h2 h3 h6 h7 out_n out_l out_c t40 h4 h5 (fun out_n out_l out_c t40 h4 h5 => kn (buildS i_ComponentNumbers_1_l1_p [.n out_n, .n out_l, .n out_c, .n linking_n, .n linking_l, .n linking_c, .n t38_n, .n t38_l, .n t38_c, .i t39, .i t40, .i h0_0, .f h0_1, .f h0_2, .f h1, .n h2_n, .f h2, .l h3, .r h4, .p h5, .p h6, .r h7])) (fun out_n_ out_l_ out_c_ h4_ h5_ => K (.exit 2) (buildS i_ComponentNumbers_1_l1_o0 [.n out_n_, .n out_l_, .n out_c_, .i h0_0, .f h0_1, .f h0_2, .f h1, .n h2_n, .f h2, .l h3, .r h4_, .p h5_, .p h6, .r h7])) := by kernel_rfl
theorem i_ComponentNumbers_1_l1_loop {α : Type} (N : Nat) (linking_n : Nat) (linking_l : Nat) (linking_c : Nat) (t38_n : Nat) (t38_l : Nat) (t38_c : Nat) (t39 : Int) (h0_0 : Int) (h0_1 : NI) (h0_2 : NI) (h1 : NI) (h2_n : Nat) (h2 : NI) (h3 : List Int) (h6 : List (Nat × Nat)) (h7 : List (List Int)) (K : AExit -> St -> Option α) : ∀ (m : Nat) (out_n : Nat) (out_l : Nat) (out_c : Nat) (t40 : Int) (h4 : List (List Int)) (h5 : List (Nat × Nat)),
    loopN (trimSt ((E_i_front_numbers α N).ann 94 10).head ((E_i_front_numbers α N).ann 94 10).grow 8) (bodyK Try.prog (E_i_front_numbers α N) 1 0 94 Try.f94 10) m (buildS i_ComponentNumbers_1_l1_p [.n out_n, .n out_l, .n out_c, .n linking_n, .n linking_l, .n linking_c, .n t38_n, .n t38_l, .n t38_c, .i t39, .i t40, .i h0_0, .f h0_1, .f h0_2, .f h1, .n h2_n, .f h2, .l h3, .r h4, .p h5, .p h6, .r h7]) (leaveLoop ((E_i_front_numbers α N).ann 94 10) 8 K) = i_ComponentNumbers_1_l1 none N linking_n linking_l linking_c t38_n t38_l t38_c t39 h0_0 h0_1 h0_2 h1 h2_n h2 h3 h6 h7 m out_n out_l out_c t40 h4 h5 (fun out_n_ out_l_ out_c_ h4_ h5_ => K (.exit 2) (buildS i_ComponentNumbers_1_l1_o0 [.n out_n_, .n out_l_, .n out_c_, .i h0_0, .f h0_1, .f h0_2, .f h1, .n h2_n, .f h2, .l h3, .r h4_, .p h5_, .p h6, .r h7])) := by
  intro m
  induction m with
  | zero => intros; rfl
  | succ m ih =>
    intro out_n out_l out_c t40 h4 h5
    rw [loopN_round]
    refine (i_ComponentNumbers_1_l1_round N out_n out_l out_c linking_n linking_l linking_c t38_n t38_l t38_c t39 t40 h0_0 h0_1 h0_2 h1 h2_n h2 h3 h4 h5 h6 h7 _ K).trans ?_
    simp only [ih]
    rfl
def E_i_ComponentNumbers_1_l1 (α : Type) (N : Nat) : Env α := (E_i_front_numbers α N).addLoop2 94 10 (loopSum2 ((E_i_front_numbers α N).ann 94 10) 0 i_ComponentNumbers_1_l1_p (fun l K => match l with
    | [.n out_n, .n out_l, .n out_c, .n linking_n, .n linking_l, .n linking_c, .n t38_n, .n t38_l, .n t38_c, .i t39, .i t40, .i h0_0, .f h0_1, .f h0_2, .f h1, .n h2_n, .f h2, .l h3, .r h4, .p h5, .p h6, .r h7] => i_ComponentNumbers_1_l1 none N linking_n linking_l linking_c t38_n t38_l t38_c t39 h0_0 h0_1 h0_2 h1 h2_n h2 h3 h6 h7 N out_n out_l out_c t40 h4 h5 (fun out_n_ out_l_ out_c_ h4_ h5_ => K (.exit 2) (buildS i_ComponentNumbers_1_l1_o0 [.n out_n_, .n out_l_, .n out_c_, .i h0_0, .f h0_1, .f h0_2, .f h1, .n h2_n, .f h2, .l h3, .r h4_, .p h5_, .p h6, .r h7]))
    | _ => none) ((E_i_front_numbers α N).ls 94 10))
theorem E_i_ComponentNumbers_1_l1_ok {α : Type} (N : Nat) : EnvOk Try.prog (E_i_ComponentNumbers_1_l1 α N) := (E_i_front_numbers_ok N).addLoop2 Try.func94 (by kernel_rfl) (loopSum_ok prog_mixed prog_names (E_i_front_numbers_ok N) Try.func94 (by kernel_rfl) (d := 1) (ro := 0) fun l K r h => by
  split at h
  · exact (i_ComponentNumbers_1_l1_loop N _ _ _ _ _ _ _ _ _ _ _ _ _ _ _ _ K N _ _ _ _ _ _).trans h
  · cases h)
def i_ComponentNumbers_1_a : SPat := ⟨[.agg [.vals [.int .i64], .ints .u8 8, .ints .u8 8]], []⟩
def i_ComponentNumbers_1_r0 : SPat := ⟨[.sliceV 0 0 0 1 false], [[.hdr 1], [.pool .i64]]⟩
theorem i_ComponentNumbers_1_run {α : Type} (N : Nat) (g_0 : Int) (g_1 : NI) (g_2 : NI) (K : AV -> Heap -> Option α) :
    callK Try.prog (E_i_ComponentNumbers_1_l1 α N) 1 94 0 (buildS i_ComponentNumbers_1_a [.i g_0, .f g_1, .f g_2]).t (buildS i_ComponentNumbers_1_a [.i g_0, .f g_1, .f g_2]).h K = i_ComponentNumbers_1 none N g_0 g_1 g_2 (fun r_n_ r_l_ r_c_ h0_ h1_ => retK (buildS i_ComponentNumbers_1_r0 [.n r_n_, .n r_l_, .n r_c_, .p h0_, .r h1_]) K) := by kernel_rfl
def E_i_ComponentNumbers_1 (α : Type) (N : Nat) : Env α := (E_i_ComponentNumbers_1_l1 α N).addFun 94 true 0 i_ComponentNumbers_1_a (fun l K => match l with
    | [.i g_0, .f g_1, .f g_2] => i_ComponentNumbers_1 none N g_0 g_1 g_2 (fun r_n_ r_l_ r_c_ h0_ h1_ => retK (buildS i_ComponentNumbers_1_r0 [.n r_n_, .n r_l_, .n r_c_, .p h0_, .r h1_]) K)
    | _ => none)
theorem E_i_ComponentNumbers_1_ok {α : Type} (N : Nat) : EnvOk Try.prog (E_i_ComponentNumbers_1 α N) := (E_i_ComponentNumbers_1_l1_ok N).addFun prog_mixed prog_names (d := 1) fun l K r h => by
  split at h
  · exact (i_ComponentNumbers_1_run N _ _ _ K).trans h
  · cases h
def i_whole_int64_s5_a : SPat := ⟨[.agg [.vals [.int .i64], .ints .u8 8, .ints .u8 8], .func 94 []], []⟩
def i_whole_int64_s5_r0 : SPat := ⟨[.tuple [.nils, .int .i64]], []⟩
def i_whole_int64_s5_r1 : SPat := ⟨[.tuple [.sliceV 0 0 0 1 false, .int .i64]], [[.hdr 1], [.pool .i64]]⟩
theorem i_whole_int64_s5_run {α : Type} (N : Nat) (g_0 : Int) (g_1 : NI) (g_2 : NI) (K : AV -> Heap -> Option α) :
    callK Try.prog (E_i_ComponentNumbers_1 α N) 1 93 0 (buildS i_whole_int64_s5_a [.i g_0, .f g_1, .f g_2]).t (buildS i_whole_int64_s5_a [.i g_0, .f g_1, .f g_2]).h K = i_whole_int64_s5 none N g_0 g_1 g_2 (fun r_1_ => retK (buildS i_whole_int64_s5_r0 [.i r_1_]) K) (fun r_0_n_ r_0_l_ r_0_c_ r_1_ h0_ h1_ => retK (buildS i_whole_int64_s5_r1 [.n r_0_n_, .n r_0_l_, .n r_0_c_, .i r_1_, .p h0_, .r h1_]) K) := by kernel_rfl
def E_i_whole_int64_s5 (α : Type) (N : Nat) : Env α := (E_i_ComponentNumbers_1 α N).addFun 93 true 0 i_whole_int64_s5_a (fun l K => match l with
    | [.i g_0, .f g_1, .f g_2] => i_whole_int64_s5 none N g_0 g_1 g_2 (fun r_1_ => retK (buildS i_whole_int64_s5_r0 [.i r_1_]) K) (fun r_0_n_ r_0_l_ r_0_c_ r_1_ h0_ h1_ => retK (buildS i_whole_int64_s5_r1 [.n r_0_n_, .n r_0_l_, .n r_0_c_, .i r_1_, .p h0_, .r h1_]) K)
    | _ => none)
theorem E_i_whole_int64_s5_ok {α : Type} (N : Nat) : EnvOk Try.prog (E_i_whole_int64_s5 α N) := (E_i_ComponentNumbers_1_ok N).addFun prog_mixed prog_names (d := 1) fun l K r h => by
  split at h
  · exact (i_whole_int64_s5_run N _ _ _ K).trans h
  · cases h
def i_ComponentNumbers_a : SPat := ⟨[.agg [.vals [.int .i64], .ints .u8 8, .ints .u8 8]], []⟩
def i_ComponentNumbers_r0 : SPat := ⟨[.tuple [.nils, .int .i64]], []⟩
def i_ComponentNumbers_r1 : SPat := ⟨[.tuple [.sliceV 0 0 0 1 false, .int .i64]], [[.hdr 1], [.pool .i64]]⟩
theorem i_ComponentNumbers_run {α : Type} (N : Nat) (g_0 : Int) (g_1 : NI) (g_2 : NI) (K : AV -> Heap -> Option α) :
    callK Try.prog (E_i_whole_int64_s5 α N) 1 12 0 (buildS i_ComponentNumbers_a [.i g_0, .f g_1, .f g_2]).t (buildS i_ComponentNumbers_a [.i g_0, .f g_1, .f g_2]).h K = i_ComponentNumbers none N g_0 g_1 g_2 (fun r_1_ => retK (buildS i_ComponentNumbers_r0 [.i r_1_]) K) (fun r_0_n_ r_0_l_ r_0_c_ r_1_ h0_ h1_ => retK (buildS i_ComponentNumbers_r1 [.n r_0_n_, .n r_0_l_, .n r_0_c_, .i r_1_, .p h0_, .r h1_]) K) := by kernel_rfl
def E_i_ComponentNumbers (α : Type) (N : Nat) : Env α := (E_i_whole_int64_s5 α N).addFun 12 true 0 i_ComponentNumbers_a (fun l K => match l with
    | [.i g_0, .f g_1, .f g_2] => i_ComponentNumbers none N g_0 g_1 g_2 (fun r_1_ => retK (buildS i_ComponentNumbers_r0 [.i r_1_]) K) (fun r_0_n_ r_0_l_ r_0_c_ r_1_ h0_ h1_ => retK (buildS i_ComponentNumbers_r1 [.n r_0_n_, .n r_0_l_, .n r_0_c_, .i r_1_, .p h0_, .r h1_]) K)
    | _ => none)
theorem E_i_ComponentNumbers_ok {α : Type} (N : Nat) : EnvOk Try.prog (E_i_ComponentNumbers α N) := (E_i_whole_int64_s5_ok N).addFun prog_mixed prog_names (d := 1) fun l K r h => by
  split at h
  · exact (i_ComponentNumbers_run N _ _ _ K).trans h
  · cases h
def w_big_a : SPat := ⟨[.sliceV 0 0 0 1 false], [[.intsV .u8]]⟩
def w_big_r0 : SPat := ⟨[.bool], [[.intsV .u8]]⟩
theorem w_big_run {α : Type} (N : Nat) (code_n : Nat) (code_l : Nat) (code_c : Nat) (h0_n : Nat) (h0 : NI) (K : AV -> Heap -> Option α) :
    callK Try.prog (E_i_ComponentNumbers α N) 1 16 1 (buildS w_big_a [.n code_n, .n code_l, .n code_c, .n h0_n, .f h0]).t (buildS w_big_a [.n code_n, .n code_l, .n code_c, .n h0_n, .f h0]).h K = w_big none N code_n code_l code_c h0_n h0 (fun r__ => retK (buildS w_big_r0 [.b r__, .n h0_n, .f h0]) K) := by kernel_rfl
def E_w_big (α : Type) (N : Nat) : Env α := (E_i_ComponentNumbers α N).addFun 16 true 1 w_big_a (fun l K => match l with
    | [.n code_n, .n code_l, .n code_c, .n h0_n, .f h0] => w_big none N code_n code_l code_c h0_n h0 (fun r__ => retK (buildS w_big_r0 [.b r__, .n h0_n, .f h0]) K)
    | _ => none)
theorem E_w_big_ok {α : Type} (N : Nat) : EnvOk Try.prog (E_w_big α N) := (E_i_ComponentNumbers_ok N).addFun prog_mixed prog_names (d := 1) fun l K r h => by
  split at h
  · exact (w_big_run N _ _ _ _ _ K).trans h
  · cases h
def A_s_l01From_l0 (α : Type) (N : Nat) : Env α := (E_w_big α N).addAnn 104 3 { head := [0, 3, 4], grow := [], out := [3], ret := [2] }
theorem A_s_l01From_l0_ok {α : Type} (N : Nat) : EnvOk Try.prog (A_s_l01From_l0 α N) := (E_w_big_ok N).addAnn
def s_l01From_l0_p : SPat := ⟨[.sliceV 0 0 0 1 false, .undef, .undef, .ptr ⟨⟨1, 0⟩, 0, 0, 3⟩, .int .i64] ++ List.replicate 33 .undef, [[.intsV .u8], [.vals [.sliceV 0 0 0 1 false, .int .i64, .int .u64]]]⟩
def s_l01From_l0_o0 : SPat := ⟨[.undef, .undef, .undef, .ptr ⟨⟨1, 0⟩, 0, 0, 3⟩] ++ List.replicate 34 .undef, [[.intsV .u8], [.vals [.sliceV 0 0 0 1 false, .int .i64, .int .u64]]]⟩
theorem s_l01From_l0_round {α : Type} (N : Nat) (code_n : Nat) (code_l : Nat) (code_c : Nat) (i : Int) (h0_n : Nat) (h0 : NI) (h1_0_n : Nat) (h1_0_l : Nat) (h1_0_c : Nat) (h1_1 : Int) (h1_2 : Int) (kn : St -> Option α) (K : AExit -> St -> Option α) :
    roundK Try.prog (A_s_l01From_l0 α N) 1 1 104 Try.f104 3 2 (buildS s_l01From_l0_p [.n code_n, .n code_l, .n code_c, .i i, .n h0_n, .f h0, .n h1_0_n, .n h1_0_l, .n h1_0_c, .i h1_1, .i h1_2]) kn K = s_l01From_l0_s none code_n code_l code_c h0_n h0 h1_0_n h1_0_l h1_0_c h1_1 i h1_2 (fun i h1_2 => kn (buildS s_l01From_l0_p [.n code_n, .n code_l, .n code_c, .i i, .n h0_n, .f h0, .n h1_0_n, .n h1_0_l, .n h1_0_c, .i h1_1, .i h1_2])) (fun h1_2_ => K (.exit 0) (buildS s_l01From_l0_o0 [.n h0_n, .f h0, .n h1_0_n, .n h1_0_l, .n h1_0_c, .i h1_1, .i h1_2_])) := by kernel_rfl
theorem s_l01From_l0_loop {α : Type} (N : Nat) (code_n : Nat) (code_l : Nat) (code_c : Nat) (h0_n : Nat) (h0 : NI) (h1_0_n : Nat) (h1_0_l : Nat) (h1_0_c : Nat) (h1_1 : Int) (K : AExit -> St -> Option α) : ∀ (m : Nat) (i : Int) (h1_2 : Int),
    loopN (trimSt ((A_s_l01From_l0 α N).ann 104 3).head ((A_s_l01From_l0 α N).ann 104 3).grow 2) (bodyK Try.prog (A_s_l01From_l0 α N) 1 1 104 Try.f104 3) m (buildS s_l01From_l0_p [.n code_n, .n code_l, .n code_c, .i i, .n h0_n, .f h0, .n h1_0_n, .n h1_0_l, .n h1_0_c, .i h1_1, .i h1_2]) (leaveLoop ((A_s_l01From_l0 α N).ann 104 3) 2 K) = s_l01From_l0 none code_n code_l code_c h0_n h0 h1_0_n h1_0_l h1_0_c h1_1 m i h1_2 (fun h1_2_ => K (.exit 0) (buildS s_l01From_l0_o0 [.n h0_n, .f h0, .n h1_0_n, .n h1_0_l, .n h1_0_c, .i h1_1, .i h1_2_])) := by
  intro m
  induction m with
  | zero => intros; rfl
  | succ m ih =>
    intro i h1_2
    rw [loopN_round]
    refine (s_l01From_l0_round N code_n code_l code_c i h0_n h0 h1_0_n h1_0_l h1_0_c h1_1 h1_2 _ K).trans ?_
    simp only [ih]
    rfl
def E_s_l01From_l0 (α : Type) (N : Nat) : Env α := (A_s_l01From_l0 α N).addLoop2 104 3 (loopSum2 ((A_s_l01From_l0 α N).ann 104 3) 1 s_l01From_l0_p (fun l K => match l with
    | [.n code_n, .n code_l, .n code_c, .i i, .n h0_n, .f h0, .n h1_0_n, .n h1_0_l, .n h1_0_c, .i h1_1, .i h1_2] => s_l01From_l0 none code_n code_l code_c h0_n h0 h1_0_n h1_0_l h1_0_c h1_1 N i h1_2 (fun h1_2_ => K (.exit 0) (buildS s_l01From_l0_o0 [.n h0_n, .f h0, .n h1_0_n, .n h1_0_l, .n h1_0_c, .i h1_1, .i h1_2_]))
    | _ => none) ((A_s_l01From_l0 α N).ls 104 3))
theorem E_s_l01From_l0_ok {α : Type} (N : Nat) : EnvOk Try.prog (E_s_l01From_l0 α N) := (A_s_l01From_l0_ok N).addLoop2 Try.func104 (by kernel_rfl) (loopSum_ok prog_mixed prog_names (A_s_l01From_l0_ok N) Try.func104 (by kernel_rfl) (d := 1) (ro := 1) fun l K r h => by
  split at h
  · exact (s_l01From_l0_loop N _ _ _ _ _ _ _ _ _ K N _ _).trans h
  · cases h)
def s_l01From_a : SPat := ⟨[.sliceV 0 0 0 1 false], [[.intsV .u8]]⟩
def s_l01From_r0 : SPat := ⟨[.ptr ⟨⟨1, 0⟩, 0, 0, 3⟩], [[.intsV .u8], [.vals [.sliceV 0 0 0 1 false, .int .i64, .int .u64]]]⟩
theorem s_l01From_run {α : Type} (N : Nat) (code_n : Nat) (code_l : Nat) (code_c : Nat) (h0_n : Nat) (h0 : NI) (K : AV -> Heap -> Option α) :
    callK Try.prog (E_s_l01From_l0 α N) 1 104 1 (buildS s_l01From_a [.n code_n, .n code_l, .n code_c, .n h0_n, .f h0]).t (buildS s_l01From_a [.n code_n, .n code_l, .n code_c, .n h0_n, .f h0]).h K = s_l01From none N code_n code_l code_c h0_n h0 (fun h1_1_ h1_2_ => retK (buildS s_l01From_r0 [.n h0_n, .f h0, .n code_n, .n code_l, .n code_c, .i h1_1_, .i h1_2_]) K) := by kernel_rfl
def E_s_l01From (α : Type) (N : Nat) : Env α := (E_s_l01From_l0 α N).addFun 104 true 1 s_l01From_a (fun l K => match l with
    | [.n code_n, .n code_l, .n code_c, .n h0_n, .f h0] => s_l01From none N code_n code_l code_c h0_n h0 (fun h1_1_ h1_2_ => retK (buildS s_l01From_r0 [.n h0_n, .f h0, .n code_n, .n code_l, .n code_c, .i h1_1_, .i h1_2_]) K)
    | _ => none)
theorem E_s_l01From_ok {α : Type} (N : Nat) : EnvOk Try.prog (E_s_l01From α N) := (E_s_l01From_l0_ok N).addFun prog_mixed prog_names (d := 1) fun l K r h => by
  split at h
  · exact (s_l01From_run N _ _ _ _ _ K).trans h
  · cases h
def s_l01Next_s2_a : SPat := ⟨[.ptr ⟨⟨1, 0⟩, 0, 0, 3⟩, .int .i64], [[.intsV .u8], [.vals [.sliceV 0 0 0 1 false, .int .i64, .int .u64]]]⟩
def s_l01Next_s2_r0 : SPat := ⟨[.int .i64], [[.intsV .u8], [.vals [.sliceV 0 0 0 1 false, .int .i64, .int .u64]]]⟩
theorem s_l01Next_s2_run {α : Type} (N : Nat) (n : Int) (h0_n : Nat) (h0 : NI) (h1_0_n : Nat) (h1_0_l : Nat) (h1_0_c : Nat) (h1_1 : Int) (h1_2 : Int) (K : AV -> Heap -> Option α) :
    callK Try.prog (E_s_l01From α N) 1 114 1 (buildS s_l01Next_s2_a [.i n, .n h0_n, .f h0, .n h1_0_n, .n h1_0_l, .n h1_0_c, .i h1_1, .i h1_2]).t (buildS s_l01Next_s2_a [.i n, .n h0_n, .f h0, .n h1_0_n, .n h1_0_l, .n h1_0_c, .i h1_1, .i h1_2]).h K = s_l01Next_s2 none N n h0_n h0 h1_0_n h1_0_l h1_0_c h1_1 h1_2 (fun r__ h1_1_ h1_2_ => retK (buildS s_l01Next_s2_r0 [.i r__, .n h0_n, .f h0, .n h1_0_n, .n h1_0_l, .n h1_0_c, .i h1_1_, .i h1_2_]) K) := by kernel_rfl
def E_s_l01Next_s2 (α : Type) (N : Nat) : Env α := (E_s_l01From α N).addFun 114 false 1 s_l01Next_s2_a (fun l K => match l with
    | [.i n, .n h0_n, .f h0, .n h1_0_n, .n h1_0_l, .n h1_0_c, .i h1_1, .i h1_2] => s_l01Next_s2 none N n h0_n h0 h1_0_n h1_0_l h1_0_c h1_1 h1_2 (fun r__ h1_1_ h1_2_ => retK (buildS s_l01Next_s2_r0 [.i r__, .n h0_n, .f h0, .n h1_0_n, .n h1_0_l, .n h1_0_c, .i h1_1_, .i h1_2_]) K)
    | _ => none)
theorem E_s_l01Next_s2_ok {α : Type} (N : Nat) : EnvOk Try.prog (E_s_l01Next_s2 α N) := (E_s_l01From_ok N).addFun prog_mixed prog_names (d := 1) fun l K r h => by
  split at h
  · exact (s_l01Next_s2_run N _ _ _ _ _ _ _ _ K).trans h
  · cases h
def s_l01Pick_s3_a : SPat := ⟨[.ptr ⟨⟨1, 0⟩, 0, 0, 3⟩, .slice ⟨⟨2, 0⟩, 0, 0, 3⟩ 3 3 1 true], [[.intsV .u8], [.vals [.sliceV 0 0 0 1 false, .int .i64, .int .u64]], [.vec .i64]]⟩
def s_l01Pick_s3_r0 : SPat := ⟨[.int .i64], [[.intsV .u8], [.vals [.sliceV 0 0 0 1 false, .int .i64, .int .u64]], [.vec .i64]]⟩
theorem s_l01Pick_s3_run {α : Type} (N : Nat) (h0_n : Nat) (h0 : NI) (h1_0_n : Nat) (h1_0_l : Nat) (h1_0_c : Nat) (h1_1 : Int) (h1_2 : Int) (h2 : List Int) (K : AV -> Heap -> Option α) :
    callK Try.prog (E_s_l01Next_s2 α N) 1 115 1 (buildS s_l01Pick_s3_a [.n h0_n, .f h0, .n h1_0_n, .n h1_0_l, .n h1_0_c, .i h1_1, .i h1_2, .l h2]).t (buildS s_l01Pick_s3_a [.n h0_n, .f h0, .n h1_0_n, .n h1_0_l, .n h1_0_c, .i h1_1, .i h1_2, .l h2]).h K = s_l01Pick_s3 none N h0_n h0 h1_0_n h1_0_l h1_0_c h1_1 h1_2 h2 (fun r__ h1_1_ h1_2_ => retK (buildS s_l01Pick_s3_r0 [.i r__, .n h0_n, .f h0, .n h1_0_n, .n h1_0_l, .n h1_0_c, .i h1_1_, .i h1_2_, .l h2]) K) := by kernel_rfl
def E_s_l01Pick_s3 (α : Type) (N : Nat) : Env α := (E_s_l01Next_s2 α N).addFun 115 false 1 s_l01Pick_s3_a (fun l K => match l with
    | [.n h0_n, .f h0, .n h1_0_n, .n h1_0_l, .n h1_0_c, .i h1_1, .i h1_2, .l h2] => s_l01Pick_s3 none N h0_n h0 h1_0_n h1_0_l h1_0_c h1_1 h1_2 h2 (fun r__ h1_1_ h1_2_ => retK (buildS s_l01Pick_s3_r0 [.i r__, .n h0_n, .f h0, .n h1_0_n, .n h1_0_l, .n h1_0_c, .i h1_1_, .i h1_2_, .l h2]) K)
    | _ => none)
theorem E_s_l01Pick_s3_ok {α : Type} (N : Nat) : EnvOk Try.prog (E_s_l01Pick_s3 α N) := (E_s_l01Next_s2_ok N).addFun prog_mixed prog_names (d := 1) fun l K r h => by
  split at h
  · exact (s_l01Pick_s3_run N _ _ _ _ _ _ _ _ K).trans h
  · cases h
def A_s_l01Mixed_l0 (α : Type) (N : Nat) : Env α := (E_s_l01Pick_s3 α N).addAnn 197 3 { head := [0, 1, 4, 5, 6], grow := [], out := [0, 1, 4, 5], ret := [4] }
theorem A_s_l01Mixed_l0_ok {α : Type} (N : Nat) : EnvOk Try.prog (A_s_l01Mixed_l0 α N) := (E_s_l01Pick_s3_ok N).addAnn
def s_l01Mixed_l0_s2_p : SPat := ⟨[.ptr ⟨⟨1, 0⟩, 0, 0, 3⟩, .int .i64, .undef, .undef, .ptr ⟨⟨2, 0⟩, 0, 0, 8⟩, .ptr ⟨⟨3, 0⟩, 0, 0, 8⟩, .int .i64] ++ List.replicate 35 .undef, [[.intsV .u8], [.vals [.sliceV 0 0 0 1 false, .int .i64, .int .u64]], [.ints .u8 8], [.ints .u8 8]]⟩
def s_l01Mixed_l0_s2_o0 : SPat := ⟨[.ptr ⟨⟨1, 0⟩, 0, 0, 3⟩, .int .i64, .undef, .undef, .ptr ⟨⟨2, 0⟩, 0, 0, 8⟩, .ptr ⟨⟨3, 0⟩, 0, 0, 8⟩] ++ List.replicate 36 .undef, [[.intsV .u8], [.vals [.sliceV 0 0 0 1 false, .int .i64, .int .u64]], [.ints .u8 8], [.ints .u8 8]]⟩
theorem s_l01Mixed_l0_s2_round {α : Type} (N : Nat) (n : Int) (i : Int) (h0_n : Nat) (h0 : NI) (h1_0_n : Nat) (h1_0_l : Nat) (h1_0_c : Nat) (h1_1 : Int) (h1_2 : Int) (h2 : NI) (h3 : NI) (kn : St -> Option α) (K : AExit -> St -> Option α) :
    roundK Try.prog (A_s_l01Mixed_l0 α N) 1 1 197 Try.f197 3 4 (buildS s_l01Mixed_l0_s2_p [.i n, .i i, .n h0_n, .f h0, .n h1_0_n, .n h1_0_l, .n h1_0_c, .i h1_1, .i h1_2, .f h2, .f h3]) kn K = s_l01Mixed_l0_s2_s none n h0_n h0 h1_0_n h1_0_l h1_0_c h1_1 h1_2 h2 i h3 (fun i h3 => kn (buildS s_l01Mixed_l0_s2_p [.i n, .i i, .n h0_n, .f h0, .n h1_0_n, .n h1_0_l, .n h1_0_c, .i h1_1, .i h1_2, .f h2, .f h3])) (fun h3_ => K (.exit 0) (buildS s_l01Mixed_l0_s2_o0 [.i n, .n h0_n, .f h0, .n h1_0_n, .n h1_0_l, .n h1_0_c, .i h1_1, .i h1_2, .f h2, .f h3_])) := by kernel_rfl
theorem s_l01Mixed_l0_s2_loop {α : Type} (N : Nat) (n : Int) (h0_n : Nat) (h0 : NI) (h1_0_n : Nat) (h1_0_l : Nat) (h1_0_c : Nat) (h1_1 : Int) (h1_2 : Int) (h2 : NI) (K : AExit -> St -> Option α) : ∀ (m : Nat) (i : Int) (h3 : NI),
    loopN (trimSt ((A_s_l01Mixed_l0 α N).ann 197 3).head ((A_s_l01Mixed_l0 α N).ann 197 3).grow 4) (bodyK Try.prog (A_s_l01Mixed_l0 α N) 1 1 197 Try.f197 3) m (buildS s_l01Mixed_l0_s2_p [.i n, .i i, .n h0_n, .f h0, .n h1_0_n, .n h1_0_l, .n h1_0_c, .i h1_1, .i h1_2, .f h2, .f h3]) (leaveLoop ((A_s_l01Mixed_l0 α N).ann 197 3) 4 K) = s_l01Mixed_l0_s2 none n h0_n h0 h1_0_n h1_0_l h1_0_c h1_1 h1_2 h2 m i h3 (fun h3_ => K (.exit 0) (buildS s_l01Mixed_l0_s2_o0 [.i n, .n h0_n, .f h0, .n h1_0_n, .n h1_0_l, .n h1_0_c, .i h1_1, .i h1_2, .f h2, .f h3_])) := by
  intro m
  induction m with
  | zero => intros; rfl
  | succ m ih =>
    intro i h3
    rw [loopN_round]
    refine (s_l01Mixed_l0_s2_round N n i h0_n h0 h1_0_n h1_0_l h1_0_c h1_1 h1_2 h2 h3 _ K).trans ?_
    simp only [ih]
    rfl
def E_s_l01Mixed_l0_s2 (α : Type) (N : Nat) : Env α := (A_s_l01Mixed_l0 α N).addLoop2 197 3 (loopSum2 ((A_s_l01Mixed_l0 α N).ann 197 3) 1 s_l01Mixed_l0_s2_p (fun l K => match l with
    | [.i n, .i i, .n h0_n, .f h0, .n h1_0_n, .n h1_0_l, .n h1_0_c, .i h1_1, .i h1_2, .f h2, .f h3] => s_l01Mixed_l0_s2 none n h0_n h0 h1_0_n h1_0_l h1_0_c h1_1 h1_2 h2 N i h3 (fun h3_ => K (.exit 0) (buildS s_l01Mixed_l0_s2_o0 [.i n, .n h0_n, .f h0, .n h1_0_n, .n h1_0_l, .n h1_0_c, .i h1_1, .i h1_2, .f h2, .f h3_]))
    | _ => none) ((A_s_l01Mixed_l0 α N).ls 197 3))
theorem E_s_l01Mixed_l0_s2_ok {α : Type} (N : Nat) : EnvOk Try.prog (E_s_l01Mixed_l0_s2 α N) := (A_s_l01Mixed_l0_ok N).addLoop2 Try.func197 (by kernel_rfl) (loopSum_ok prog_mixed prog_names (A_s_l01Mixed_l0_ok N) Try.func197 (by kernel_rfl) (d := 1) (ro := 1) fun l K r h => by
  split at h
  · exact (s_l01Mixed_l0_s2_loop N _ _ _ _ _ _ _ _ _ K N _ _).trans h
  · cases h)
def A_s_l01Mixed_l1 (α : Type) (N : Nat) : Env α := (E_s_l01Mixed_l0_s2 α N).addAnn 197 7 { head := [0, 4, 5, 7], grow := [], out := [4, 5], ret := [4] }
theorem A_s_l01Mixed_l1_ok {α : Type} (N : Nat) : EnvOk Try.prog (A_s_l01Mixed_l1 α N) := (E_s_l01Mixed_l0_s2_ok N).addAnn
end Go.AM
