/- A part of a proof about the given program: an abstract machine, what the given functions come to, and plain laws. -/
import Derived.Test.YtoginabccpjeoaaMachG
import Derived.Test.YtoginabccpjeoaaDallLawExchanges1
import Derived.Test.YtoginabccpjeoaaProg
set_option linter.unusedVariables false
set_option linter.unusedSimpArgs false
set_option maxRecDepth 100000
namespace Go.AM
open Go.Proofs

def E0 (α : Type) (N : Nat) : Env α := Env.base (fun _ _ => {}) N
theorem E0_ok {α : Type} (N : Nat) : EnvOk Try.prog (E0 α N) := .base
theorem prog_mixed : Try.prog.follows .mixedOrders = true := by kernel_rfl
theorem prog_names : NamesOk Try.prog := .of_all (by kernel_rfl)
/-- spec.l01In -/
def s_l01In_a : SPat := ⟨[.int .i64, .int .i64, .int .i64], []⟩
def s_l01In_r0 : SPat := ⟨[.bool], []⟩
theorem s_l01In_run {α : Type} (N : Nat) (n : Int) (low : Int) (high : Int) (K : AV → Heap → Option α) :
    callK Try.prog (E0 α N) 1 119 0 (buildS s_l01In_a [.i n, .i low, .i high]).t (buildS s_l01In_a [.i n, .i low, .i high]).h K = s_l01In none N n low high (fun r__ => retK (buildS s_l01In_r0 [.b r__]) K) := by kernel_rfl
def E_s_l01In (α : Type) (N : Nat) : Env α := (E0 α N).addFun 119 true 0 s_l01In_a (fun l K => match l with
    | [.i n, .i low, .i high] => s_l01In none N n low high (fun r__ => retK (buildS s_l01In_r0 [.b r__]) K)
    | _ => none)
theorem E_s_l01In_ok {α : Type} (N : Nat) : EnvOk Try.prog (E_s_l01In α N) := (E0_ok N).addFun prog_mixed prog_names (d := 1) fun l K r h => by
  split at h
  · exact (s_l01In_run N _ _ _ K).trans h
  · cases h

def A_s_l01Perm_l0 (α : Type) (N : Nat) : Env α := (E_s_l01In α N).addAnn 193 3 { head := [1, 2, 5, 6], grow := [], out := [], ret := [4] }
theorem A_s_l01Perm_l0_ok {α : Type} (N : Nat) : EnvOk Try.prog (A_s_l01Perm_l0 α N) := (E_s_l01In_ok N).addAnn

/-- spec.l01Perm, loop -/
def s_l01Perm_l0_p : SPat := ⟨[.undef, .int .i64, .ptr ⟨⟨0, 0⟩, 0, 0, 8⟩, .undef, .undef, .ptr ⟨⟨1, 0⟩, 0, 0, 8⟩, .int .i64] ++ List.replicate 29 .undef, [[.ints .u8 8], [.bools 8]]⟩
def s_l01Perm_l0_o0 : SPat := ⟨[.undef, .undef, .undef, .undef, .boolC false] ++ List.replicate 31 .undef, [[.ints .u8 8], [.bools 8]]⟩
def s_l01Perm_l0_o1 : SPat := ⟨[] ++ List.replicate 36 .undef, [[.ints .u8 8], [.bools 8]]⟩
theorem s_l01Perm_l0_round {α : Type} (N : Nat) (n : Int) (i : Int) (h0 : Nat → Int) (h1 : Nat → Bool) (kn : St → Option α) (K : AExit → St → Option α) :
    roundK Try.prog (A_s_l01Perm_l0 α N) 1 0 193 Try.f193 3 2 (buildS s_l01Perm_l0_p [.i n, .i i, .f h0, .g h1]) kn K = s_l01Perm_l0_s none n h0 i h1 (fun i h1 => kn (buildS s_l01Perm_l0_p [.i n, .i i, .f h0, .g h1])) (fun h1_ => K .ret (buildS s_l01Perm_l0_o0 [.f h0, .g h1_])) (fun h1_ => K (.exit 0) (buildS s_l01Perm_l0_o1 [.f h0, .g h1_])) := by kernel_rfl
theorem s_l01Perm_l0_loop {α : Type} (N : Nat) (n : Int) (h0 : Nat → Int) (K : AExit → St → Option α) : ∀ (m : Nat) (i : Int) (h1 : Nat → Bool),
    loopN (trimSt ((A_s_l01Perm_l0 α N).ann 193 3).head ((A_s_l01Perm_l0 α N).ann 193 3).grow 2) (bodyK Try.prog (A_s_l01Perm_l0 α N) 1 0 193 Try.f193 3) m (buildS s_l01Perm_l0_p [.i n, .i i, .f h0, .g h1]) (leaveLoop ((A_s_l01Perm_l0 α N).ann 193 3) 2 K) = s_l01Perm_l0 none n h0 m i h1 (fun h1_ => K .ret (buildS s_l01Perm_l0_o0 [.f h0, .g h1_])) (fun h1_ => K (.exit 0) (buildS s_l01Perm_l0_o1 [.f h0, .g h1_])) := by
  intro m
  induction m with
  | zero => intros; rfl
  | succ m ih =>
    intro i h1
    rw [loopN_round]
    refine (s_l01Perm_l0_round N n i h0 h1 _ K).trans ?_
    simp only [ih]
    rfl
def E_s_l01Perm_l0 (α : Type) (N : Nat) : Env α := (A_s_l01Perm_l0 α N).addLoop2 193 3 (loopSum2 ((A_s_l01Perm_l0 α N).ann 193 3) 0 s_l01Perm_l0_p (fun l K => match l with
    | [.i n, .i i, .f h0, .g h1] => s_l01Perm_l0 none n h0 N i h1 (fun h1_ => K .ret (buildS s_l01Perm_l0_o0 [.f h0, .g h1_])) (fun h1_ => K (.exit 0) (buildS s_l01Perm_l0_o1 [.f h0, .g h1_]))
    | _ => none) ((A_s_l01Perm_l0 α N).ls 193 3))
theorem E_s_l01Perm_l0_ok {α : Type} (N : Nat) : EnvOk Try.prog (E_s_l01Perm_l0 α N) := (A_s_l01Perm_l0_ok N).addLoop2 Try.func193 (by kernel_rfl) (loopSum_ok prog_mixed prog_names (A_s_l01Perm_l0_ok N) Try.func193 (by kernel_rfl) (d := 1) (ro := 0) fun l K r h => by
  split at h
  · exact (s_l01Perm_l0_loop N _ _ K N _ _).trans h
  · cases h)

/-- spec.l01Perm -/
def s_l01Perm_a : SPat := ⟨[.agg [.ints .u8 8], .int .i64], []⟩
def s_l01Perm_r0 : SPat := ⟨[.bool], []⟩
theorem s_l01Perm_run {α : Type} (N : Nat) (list : Nat → Int) (n : Int) (K : AV → Heap → Option α) :
    callK Try.prog (E_s_l01Perm_l0 α N) 1 193 0 (buildS s_l01Perm_a [.f list, .i n]).t (buildS s_l01Perm_a [.f list, .i n]).h K = s_l01Perm none N list n (fun r__ => retK (buildS s_l01Perm_r0 [.b r__]) K) := by kernel_rfl
def E_s_l01Perm (α : Type) (N : Nat) : Env α := (E_s_l01Perm_l0 α N).addFun 193 true 0 s_l01Perm_a (fun l K => match l with
    | [.f list, .i n] => s_l01Perm none N list n (fun r__ => retK (buildS s_l01Perm_r0 [.b r__]) K)
    | _ => none)
theorem E_s_l01Perm_ok {α : Type} (N : Nat) : EnvOk Try.prog (E_s_l01Perm α N) := (E_s_l01Perm_l0_ok N).addFun prog_mixed prog_names (d := 1) fun l K r h => by
  split at h
  · exact (s_l01Perm_run N _ _ K).trans h
  · cases h

def A_s_l01Is_l0 (α : Type) (N : Nat) : Env α := (E_s_l01Perm α N).addAnn 107 4 { head := [1, 3], grow := [], out := [], ret := [2] }
theorem A_s_l01Is_l0_ok {α : Type} (N : Nat) : EnvOk Try.prog (A_s_l01Is_l0 α N) := (E_s_l01Perm_ok N).addAnn

/-- spec.l01Is, loop -/
def s_l01Is_l0_p : SPat := ⟨[.undef, .ptr ⟨⟨0, 0⟩, 0, 0, 1⟩, .undef, .int .i64] ++ List.replicate 35 .undef, [[.vals [.int .i64], .ints .u8 8, .ints .u8 8]]⟩
def s_l01Is_l0_o0 : SPat := ⟨[.undef, .undef, .boolC false] ++ List.replicate 36 .undef, [[.vals [.int .i64], .ints .u8 8, .ints .u8 8]]⟩
def s_l01Is_l0_o1 : SPat := ⟨[] ++ List.replicate 39 .undef, [[.vals [.int .i64], .ints .u8 8, .ints .u8 8]]⟩
theorem s_l01Is_l0_round {α : Type} (N : Nat) (i : Int) (h0_0 : Int) (h0_1 : Nat → Int) (h0_2 : Nat → Int) (kn : St → Option α) (K : AExit → St → Option α) :
    roundK Try.prog (A_s_l01Is_l0 α N) 1 0 107 Try.f107 4 1 (buildS s_l01Is_l0_p [.i i, .i h0_0, .f h0_1, .f h0_2]) kn K = s_l01Is_l0_s none h0_0 h0_1 h0_2 i (fun i => kn (buildS s_l01Is_l0_p [.i i, .i h0_0, .f h0_1, .f h0_2])) (K .ret (buildS s_l01Is_l0_o0 [.i h0_0, .f h0_1, .f h0_2])) (K (.exit 0) (buildS s_l01Is_l0_o1 [.i h0_0, .f h0_1, .f h0_2])) := by kernel_rfl
theorem s_l01Is_l0_loop {α : Type} (N : Nat) (h0_0 : Int) (h0_1 : Nat → Int) (h0_2 : Nat → Int) (K : AExit → St → Option α) : ∀ (m : Nat) (i : Int),
    loopN (trimSt ((A_s_l01Is_l0 α N).ann 107 4).head ((A_s_l01Is_l0 α N).ann 107 4).grow 1) (bodyK Try.prog (A_s_l01Is_l0 α N) 1 0 107 Try.f107 4) m (buildS s_l01Is_l0_p [.i i, .i h0_0, .f h0_1, .f h0_2]) (leaveLoop ((A_s_l01Is_l0 α N).ann 107 4) 1 K) = s_l01Is_l0 none h0_0 h0_1 h0_2 m i (K .ret (buildS s_l01Is_l0_o0 [.i h0_0, .f h0_1, .f h0_2])) (K (.exit 0) (buildS s_l01Is_l0_o1 [.i h0_0, .f h0_1, .f h0_2])) := by
  intro m
  induction m with
  | zero => intros; rfl
  | succ m ih =>
    intro i
    rw [loopN_round]
    refine (s_l01Is_l0_round N i h0_0 h0_1 h0_2 _ K).trans ?_
    simp only [ih]
    rfl
def E_s_l01Is_l0 (α : Type) (N : Nat) : Env α := (A_s_l01Is_l0 α N).addLoop2 107 4 (loopSum2 ((A_s_l01Is_l0 α N).ann 107 4) 0 s_l01Is_l0_p (fun l K => match l with
    | [.i i, .i h0_0, .f h0_1, .f h0_2] => s_l01Is_l0 none h0_0 h0_1 h0_2 N i (K .ret (buildS s_l01Is_l0_o0 [.i h0_0, .f h0_1, .f h0_2])) (K (.exit 0) (buildS s_l01Is_l0_o1 [.i h0_0, .f h0_1, .f h0_2]))
    | _ => none) ((A_s_l01Is_l0 α N).ls 107 4))
theorem E_s_l01Is_l0_ok {α : Type} (N : Nat) : EnvOk Try.prog (E_s_l01Is_l0 α N) := (A_s_l01Is_l0_ok N).addLoop2 Try.func107 (by kernel_rfl) (loopSum_ok prog_mixed prog_names (A_s_l01Is_l0_ok N) Try.func107 (by kernel_rfl) (d := 1) (ro := 0) fun l K r h => by
  split at h
  · exact (s_l01Is_l0_loop N _ _ _ K N _).trans h
  · cases h)

/-- spec.l01Is -/
def s_l01Is_a : SPat := ⟨[.agg [.vals [.int .i64], .ints .u8 8, .ints .u8 8]], []⟩
def s_l01Is_r0 : SPat := ⟨[.bool], []⟩
theorem s_l01Is_run {α : Type} (N : Nat) (g_0 : Int) (g_1 : Nat → Int) (g_2 : Nat → Int) (K : AV → Heap → Option α) :
    callK Try.prog (E_s_l01Is_l0 α N) 1 107 0 (buildS s_l01Is_a [.i g_0, .f g_1, .f g_2]).t (buildS s_l01Is_a [.i g_0, .f g_1, .f g_2]).h K = s_l01Is none N g_0 g_1 g_2 (fun r__ => retK (buildS s_l01Is_r0 [.b r__]) K) := by kernel_rfl
def E_s_l01Is (α : Type) (N : Nat) : Env α := (E_s_l01Is_l0 α N).addFun 107 true 0 s_l01Is_a (fun l K => match l with
    | [.i g_0, .f g_1, .f g_2] => s_l01Is none N g_0 g_1 g_2 (fun r__ => retK (buildS s_l01Is_r0 [.b r__]) K)
    | _ => none)
theorem E_s_l01Is_ok {α : Type} (N : Nat) : EnvOk Try.prog (E_s_l01Is α N) := (E_s_l01Is_l0_ok N).addFun prog_mixed prog_names (d := 1) fun l K r h => by
  split at h
  · exact (s_l01Is_run N _ _ _ K).trans h
  · cases h

def A_s_l01Row_l0 (α : Type) (N : Nat) : Env α := (E_s_l01Is α N).addAnn 157 2 { head := [1, 2, 3, 7], grow := [], out := [], ret := [6] }
theorem A_s_l01Row_l0_ok {α : Type} (N : Nat) : EnvOk Try.prog (A_s_l01Row_l0 α N) := (E_s_l01Is_ok N).addAnn

/-- spec.l01Row, loop -/
def s_l01Row_l0_p : SPat := ⟨[.undef, .int .i64, .int .i64, .ptr ⟨⟨0, 0⟩, 0, 0, 8⟩, .undef, .undef, .undef, .int .i64] ++ List.replicate 12 .undef, [[.ints .u8 8]]⟩
def s_l01Row_l0_o0 : SPat := ⟨[.undef, .undef, .undef, .undef, .undef, .undef, .int .i64] ++ List.replicate 13 .undef, [[.ints .u8 8]]⟩
def s_l01Row_l0_o1 : SPat := ⟨[] ++ List.replicate 20 .undef, [[.ints .u8 8]]⟩
theorem s_l01Row_l0_round {α : Type} (N : Nat) (n : Int) (r_ : Int) (i : Int) (h0 : Nat → Int) (kn : St → Option α) (K : AExit → St → Option α) :
    roundK Try.prog (A_s_l01Row_l0 α N) 1 0 157 Try.f157 2 1 (buildS s_l01Row_l0_p [.i n, .i r_, .i i, .f h0]) kn K = s_l01Row_l0_s none n r_ h0 i (fun i => kn (buildS s_l01Row_l0_p [.i n, .i r_, .i i, .f h0])) (fun t6_ => K .ret (buildS s_l01Row_l0_o0 [.i t6_, .f h0])) (K (.exit 0) (buildS s_l01Row_l0_o1 [.f h0])) := by kernel_rfl
theorem s_l01Row_l0_loop {α : Type} (N : Nat) (n : Int) (r_ : Int) (h0 : Nat → Int) (K : AExit → St → Option α) : ∀ (m : Nat) (i : Int),
    loopN (trimSt ((A_s_l01Row_l0 α N).ann 157 2).head ((A_s_l01Row_l0 α N).ann 157 2).grow 1) (bodyK Try.prog (A_s_l01Row_l0 α N) 1 0 157 Try.f157 2) m (buildS s_l01Row_l0_p [.i n, .i r_, .i i, .f h0]) (leaveLoop ((A_s_l01Row_l0 α N).ann 157 2) 1 K) = s_l01Row_l0 none n r_ h0 m i (fun t6_ => K .ret (buildS s_l01Row_l0_o0 [.i t6_, .f h0])) (K (.exit 0) (buildS s_l01Row_l0_o1 [.f h0])) := by
  intro m
  induction m with
  | zero => intros; rfl
  | succ m ih =>
    intro i
    rw [loopN_round]
    refine (s_l01Row_l0_round N n r_ i h0 _ K).trans ?_
    simp only [ih]
    rfl
def E_s_l01Row_l0 (α : Type) (N : Nat) : Env α := (A_s_l01Row_l0 α N).addLoop2 157 2 (loopSum2 ((A_s_l01Row_l0 α N).ann 157 2) 0 s_l01Row_l0_p (fun l K => match l with
    | [.i n, .i r_, .i i, .f h0] => s_l01Row_l0 none n r_ h0 N i (fun t6_ => K .ret (buildS s_l01Row_l0_o0 [.i t6_, .f h0])) (K (.exit 0) (buildS s_l01Row_l0_o1 [.f h0]))
    | _ => none) ((A_s_l01Row_l0 α N).ls 157 2))
theorem E_s_l01Row_l0_ok {α : Type} (N : Nat) : EnvOk Try.prog (E_s_l01Row_l0 α N) := (A_s_l01Row_l0_ok N).addLoop2 Try.func157 (by kernel_rfl) (loopSum_ok prog_mixed prog_names (A_s_l01Row_l0_ok N) Try.func157 (by kernel_rfl) (d := 1) (ro := 0) fun l K r h => by
  split at h
  · exact (s_l01Row_l0_loop N _ _ _ K N _).trans h
  · cases h)

/-- spec.l01Row -/
def s_l01Row_a : SPat := ⟨[.agg [.ints .u8 8], .int .i64, .int .i64], []⟩
def s_l01Row_r0 : SPat := ⟨[.int .i64], []⟩
theorem s_l01Row_run {α : Type} (N : Nat) (list : Nat → Int) (n : Int) (r_ : Int) (K : AV → Heap → Option α) :
    callK Try.prog (E_s_l01Row_l0 α N) 1 157 0 (buildS s_l01Row_a [.f list, .i n, .i r_]).t (buildS s_l01Row_a [.f list, .i n, .i r_]).h K = s_l01Row none N list n r_ (fun r__ => retK (buildS s_l01Row_r0 [.i r__]) K) := by kernel_rfl
def E_s_l01Row (α : Type) (N : Nat) : Env α := (E_s_l01Row_l0 α N).addFun 157 true 0 s_l01Row_a (fun l K => match l with
    | [.f list, .i n, .i r_] => s_l01Row none N list n r_ (fun r__ => retK (buildS s_l01Row_r0 [.i r__]) K)
    | _ => none)
theorem E_s_l01Row_ok {α : Type} (N : Nat) : EnvOk Try.prog (E_s_l01Row α N) := (E_s_l01Row_l0_ok N).addFun prog_mixed prog_names (d := 1) fun l K r h => by
  split at h
  · exact (s_l01Row_run N _ _ _ K).trans h
  · cases h

/-- impl.within -/
def i_within_a : SPat := ⟨[.int .i64, .int .i64, .int .i64], []⟩
def i_within_r0 : SPat := ⟨[.bool], []⟩
theorem i_within_run {α : Type} (N : Nat) (x : Int) (low : Int) (high : Int) (K : AV → Heap → Option α) :
    callK Try.prog (E_s_l01Row α N) 1 117 0 (buildS i_within_a [.i x, .i low, .i high]).t (buildS i_within_a [.i x, .i low, .i high]).h K = i_within none N x low high (fun r__ => retK (buildS i_within_r0 [.b r__]) K) := by kernel_rfl
def E_i_within (α : Type) (N : Nat) : Env α := (E_s_l01Row α N).addFun 117 true 0 i_within_a (fun l K => match l with
    | [.i x, .i low, .i high] => i_within none N x low high (fun r__ => retK (buildS i_within_r0 [.b r__]) K)
    | _ => none)
theorem E_i_within_ok {α : Type} (N : Nat) : EnvOk Try.prog (E_i_within α N) := (E_s_l01Row_ok N).addFun prog_mixed prog_names (d := 1) fun l K r h => by
  split at h
  · exact (i_within_run N _ _ _ K).trans h
  · cases h

/-- (impl.Grid).n -/
def i_Grid_n_a : SPat := ⟨[.agg [.vals [.int .i64], .ints .u8 8, .ints .u8 8]], []⟩
def i_Grid_n_r0 : SPat := ⟨[.int .i64], []⟩
theorem i_Grid_n_run {α : Type} (N : Nat) (g_0 : Int) (g_1 : Nat → Int) (g_2 : Nat → Int) (K : AV → Heap → Option α) :
    callK Try.prog (E_i_within α N) 1 106 0 (buildS i_Grid_n_a [.i g_0, .f g_1, .f g_2]).t (buildS i_Grid_n_a [.i g_0, .f g_1, .f g_2]).h K = i_Grid_n none N g_0 g_1 g_2 (retK (buildS i_Grid_n_r0 [.i g_0]) K) := by kernel_rfl
def E_i_Grid_n (α : Type) (N : Nat) : Env α := (E_i_within α N).addFun 106 true 0 i_Grid_n_a (fun l K => match l with
    | [.i g_0, .f g_1, .f g_2] => i_Grid_n none N g_0 g_1 g_2 (retK (buildS i_Grid_n_r0 [.i g_0]) K)
    | _ => none)
theorem E_i_Grid_n_ok {α : Type} (N : Nat) : EnvOk Try.prog (E_i_Grid_n α N) := (E_i_within_ok N).addFun prog_mixed prog_names (d := 1) fun l K r h => by
  split at h
  · exact (i_Grid_n_run N _ _ _ K).trans h
  · cases h

def A_i_isOrder_l0 (α : Type) (N : Nat) : Env α := (E_i_Grid_n α N).addAnn 195 3 { head := [1, 5, 8, 9, 10], grow := [], out := [1, 5], ret := [4] }
theorem A_i_isOrder_l0_ok {α : Type} (N : Nat) : EnvOk Try.prog (A_i_isOrder_l0 α N) := (E_i_Grid_n_ok N).addAnn

/-- impl.isOrder, loop -/
def i_isOrder_l0_s2_p : SPat := ⟨[.undef, .int .i64, .undef, .undef, .undef, .int .i64, .undef, .undef, .slice ⟨⟨0, 0⟩, 1, 0, 8⟩ 8 8 1 true, .intC .i64 8, .int .i64] ++ List.replicate 30 .undef, [[.vals [.int .i64], .ints .u8 8, .ints .u8 8]]⟩
def i_isOrder_l0_s2_o0 : SPat := ⟨[.undef, .undef, .undef, .undef, .boolC false] ++ List.replicate 36 .undef, [[.vals [.int .i64], .ints .u8 8, .ints .u8 8]]⟩
def i_isOrder_l0_s2_o1 : SPat := ⟨[.undef, .int .i64, .undef, .undef, .undef, .int .i64] ++ List.replicate 35 .undef, [[.vals [.int .i64], .ints .u8 8, .ints .u8 8]]⟩
theorem i_isOrder_l0_s2_round {α : Type} (N : Nat) (n : Int) (seen : Int) (t10 : Int) (h0_0 : Int) (h0_1 : Nat → Int) (h0_2 : Nat → Int) (kn : St → Option α) (K : AExit → St → Option α) :
    roundK Try.prog (A_i_isOrder_l0 α N) 1 1 195 Try.f195 3 1 (buildS i_isOrder_l0_s2_p [.i n, .i seen, .i t10, .i h0_0, .f h0_1, .f h0_2]) kn K = i_isOrder_l0_s2_s none n h0_0 h0_1 h0_2 seen t10 (fun seen t10 => kn (buildS i_isOrder_l0_s2_p [.i n, .i seen, .i t10, .i h0_0, .f h0_1, .f h0_2])) (K .ret (buildS i_isOrder_l0_s2_o0 [.i h0_0, .f h0_1, .f h0_2])) (fun seen_ => K (.exit 0) (buildS i_isOrder_l0_s2_o1 [.i n, .i seen_, .i h0_0, .f h0_1, .f h0_2])) := by kernel_rfl
theorem i_isOrder_l0_s2_loop {α : Type} (N : Nat) (n : Int) (h0_0 : Int) (h0_1 : Nat → Int) (h0_2 : Nat → Int) (K : AExit → St → Option α) : ∀ (m : Nat) (seen : Int) (t10 : Int),
    loopN (trimSt ((A_i_isOrder_l0 α N).ann 195 3).head ((A_i_isOrder_l0 α N).ann 195 3).grow 1) (bodyK Try.prog (A_i_isOrder_l0 α N) 1 1 195 Try.f195 3) m (buildS i_isOrder_l0_s2_p [.i n, .i seen, .i t10, .i h0_0, .f h0_1, .f h0_2]) (leaveLoop ((A_i_isOrder_l0 α N).ann 195 3) 1 K) = i_isOrder_l0_s2 none n h0_0 h0_1 h0_2 m seen t10 (K .ret (buildS i_isOrder_l0_s2_o0 [.i h0_0, .f h0_1, .f h0_2])) (fun seen_ => K (.exit 0) (buildS i_isOrder_l0_s2_o1 [.i n, .i seen_, .i h0_0, .f h0_1, .f h0_2])) := by
  intro m
  induction m with
  | zero => intros; rfl
  | succ m ih =>
    intro seen t10
    rw [loopN_round]
    refine (i_isOrder_l0_s2_round N n seen t10 h0_0 h0_1 h0_2 _ K).trans ?_
    simp only [ih]
    rfl
def E_i_isOrder_l0_s2 (α : Type) (N : Nat) : Env α := (A_i_isOrder_l0 α N).addLoop2 195 3 (loopSum2 ((A_i_isOrder_l0 α N).ann 195 3) 1 i_isOrder_l0_s2_p (fun l K => match l with
    | [.i n, .i seen, .i t10, .i h0_0, .f h0_1, .f h0_2] => i_isOrder_l0_s2 none n h0_0 h0_1 h0_2 N seen t10 (K .ret (buildS i_isOrder_l0_s2_o0 [.i h0_0, .f h0_1, .f h0_2])) (fun seen_ => K (.exit 0) (buildS i_isOrder_l0_s2_o1 [.i n, .i seen_, .i h0_0, .f h0_1, .f h0_2]))
    | _ => none) ((A_i_isOrder_l0 α N).ls 195 3))
theorem E_i_isOrder_l0_s2_ok {α : Type} (N : Nat) : EnvOk Try.prog (E_i_isOrder_l0_s2 α N) := (A_i_isOrder_l0_ok N).addLoop2 Try.func195 (by kernel_rfl) (loopSum_ok prog_mixed prog_names (A_i_isOrder_l0_ok N) Try.func195 (by kernel_rfl) (d := 1) (ro := 1) fun l K r h => by
  split at h
  · exact (i_isOrder_l0_s2_loop N _ _ _ _ K N _ _).trans h
  · cases h)

/-- impl.isOrder -/
def i_isOrder_s2_a : SPat := ⟨[.slice ⟨⟨0, 0⟩, 1, 0, 8⟩ 8 8 1 true, .int .i64], [[.vals [.int .i64], .ints .u8 8, .ints .u8 8]]⟩
def i_isOrder_s2_r0 : SPat := ⟨[.bool], [[.vals [.int .i64], .ints .u8 8, .ints .u8 8]]⟩
theorem i_isOrder_s2_run {α : Type} (N : Nat) (n : Int) (h0_0 : Int) (h0_1 : Nat → Int) (h0_2 : Nat → Int) (K : AV → Heap → Option α) :
    callK Try.prog (E_i_isOrder_l0_s2 α N) 1 195 1 (buildS i_isOrder_s2_a [.i n, .i h0_0, .f h0_1, .f h0_2]).t (buildS i_isOrder_s2_a [.i n, .i h0_0, .f h0_1, .f h0_2]).h K = i_isOrder_s2 none N n h0_0 h0_1 h0_2 (fun r__ => retK (buildS i_isOrder_s2_r0 [.b r__, .i h0_0, .f h0_1, .f h0_2]) K) := by kernel_rfl
def E_i_isOrder_s2 (α : Type) (N : Nat) : Env α := (E_i_isOrder_l0_s2 α N).addFun 195 true 1 i_isOrder_s2_a (fun l K => match l with
    | [.i n, .i h0_0, .f h0_1, .f h0_2] => i_isOrder_s2 none N n h0_0 h0_1 h0_2 (fun r__ => retK (buildS i_isOrder_s2_r0 [.b r__, .i h0_0, .f h0_1, .f h0_2]) K)
    | _ => none)
theorem E_i_isOrder_s2_ok {α : Type} (N : Nat) : EnvOk Try.prog (E_i_isOrder_s2 α N) := (E_i_isOrder_l0_s2_ok N).addFun prog_mixed prog_names (d := 1) fun l K r h => by
  split at h
  · exact (i_isOrder_s2_run N _ _ _ _ K).trans h
  · cases h

/-- impl.isOrder, loop -/
def i_isOrder_l0_s3_p : SPat := ⟨[.undef, .int .i64, .undef, .undef, .undef, .int .i64, .undef, .undef, .slice ⟨⟨0, 0⟩, 2, 0, 8⟩ 8 8 1 true, .intC .i64 8, .int .i64] ++ List.replicate 30 .undef, [[.vals [.int .i64], .ints .u8 8, .ints .u8 8]]⟩
def i_isOrder_l0_s3_o0 : SPat := ⟨[.undef, .undef, .undef, .undef, .boolC false] ++ List.replicate 36 .undef, [[.vals [.int .i64], .ints .u8 8, .ints .u8 8]]⟩
def i_isOrder_l0_s3_o1 : SPat := ⟨[.undef, .int .i64, .undef, .undef, .undef, .int .i64] ++ List.replicate 35 .undef, [[.vals [.int .i64], .ints .u8 8, .ints .u8 8]]⟩
theorem i_isOrder_l0_s3_round {α : Type} (N : Nat) (n : Int) (seen : Int) (t10 : Int) (h0_0 : Int) (h0_1 : Nat → Int) (h0_2 : Nat → Int) (kn : St → Option α) (K : AExit → St → Option α) :
    roundK Try.prog (E_i_isOrder_s2 α N) 1 1 195 Try.f195 3 1 (buildS i_isOrder_l0_s3_p [.i n, .i seen, .i t10, .i h0_0, .f h0_1, .f h0_2]) kn K = i_isOrder_l0_s3_s none n h0_0 h0_1 h0_2 seen t10 (fun seen t10 => kn (buildS i_isOrder_l0_s3_p [.i n, .i seen, .i t10, .i h0_0, .f h0_1, .f h0_2])) (K .ret (buildS i_isOrder_l0_s3_o0 [.i h0_0, .f h0_1, .f h0_2])) (fun seen_ => K (.exit 0) (buildS i_isOrder_l0_s3_o1 [.i n, .i seen_, .i h0_0, .f h0_1, .f h0_2])) := by kernel_rfl
theorem i_isOrder_l0_s3_loop {α : Type} (N : Nat) (n : Int) (h0_0 : Int) (h0_1 : Nat → Int) (h0_2 : Nat → Int) (K : AExit → St → Option α) : ∀ (m : Nat) (seen : Int) (t10 : Int),
    loopN (trimSt ((E_i_isOrder_s2 α N).ann 195 3).head ((E_i_isOrder_s2 α N).ann 195 3).grow 1) (bodyK Try.prog (E_i_isOrder_s2 α N) 1 1 195 Try.f195 3) m (buildS i_isOrder_l0_s3_p [.i n, .i seen, .i t10, .i h0_0, .f h0_1, .f h0_2]) (leaveLoop ((E_i_isOrder_s2 α N).ann 195 3) 1 K) = i_isOrder_l0_s3 none n h0_0 h0_1 h0_2 m seen t10 (K .ret (buildS i_isOrder_l0_s3_o0 [.i h0_0, .f h0_1, .f h0_2])) (fun seen_ => K (.exit 0) (buildS i_isOrder_l0_s3_o1 [.i n, .i seen_, .i h0_0, .f h0_1, .f h0_2])) := by
  intro m
  induction m with
  | zero => intros; rfl
  | succ m ih =>
    intro seen t10
    rw [loopN_round]
    refine (i_isOrder_l0_s3_round N n seen t10 h0_0 h0_1 h0_2 _ K).trans ?_
    simp only [ih]
    rfl
def E_i_isOrder_l0_s3 (α : Type) (N : Nat) : Env α := (E_i_isOrder_s2 α N).addLoop2 195 3 (loopSum2 ((E_i_isOrder_s2 α N).ann 195 3) 1 i_isOrder_l0_s3_p (fun l K => match l with
    | [.i n, .i seen, .i t10, .i h0_0, .f h0_1, .f h0_2] => i_isOrder_l0_s3 none n h0_0 h0_1 h0_2 N seen t10 (K .ret (buildS i_isOrder_l0_s3_o0 [.i h0_0, .f h0_1, .f h0_2])) (fun seen_ => K (.exit 0) (buildS i_isOrder_l0_s3_o1 [.i n, .i seen_, .i h0_0, .f h0_1, .f h0_2]))
    | _ => none) ((E_i_isOrder_s2 α N).ls 195 3))
theorem E_i_isOrder_l0_s3_ok {α : Type} (N : Nat) : EnvOk Try.prog (E_i_isOrder_l0_s3 α N) := (E_i_isOrder_s2_ok N).addLoop2 Try.func195 (by kernel_rfl) (loopSum_ok prog_mixed prog_names (E_i_isOrder_s2_ok N) Try.func195 (by kernel_rfl) (d := 1) (ro := 1) fun l K r h => by
  split at h
  · exact (i_isOrder_l0_s3_loop N _ _ _ _ K N _ _).trans h
  · cases h)

/-- impl.isOrder -/
def i_isOrder_s3_a : SPat := ⟨[.slice ⟨⟨0, 0⟩, 2, 0, 8⟩ 8 8 1 true, .int .i64], [[.vals [.int .i64], .ints .u8 8, .ints .u8 8]]⟩
def i_isOrder_s3_r0 : SPat := ⟨[.bool], [[.vals [.int .i64], .ints .u8 8, .ints .u8 8]]⟩
theorem i_isOrder_s3_run {α : Type} (N : Nat) (n : Int) (h0_0 : Int) (h0_1 : Nat → Int) (h0_2 : Nat → Int) (K : AV → Heap → Option α) :
    callK Try.prog (E_i_isOrder_l0_s3 α N) 1 195 1 (buildS i_isOrder_s3_a [.i n, .i h0_0, .f h0_1, .f h0_2]).t (buildS i_isOrder_s3_a [.i n, .i h0_0, .f h0_1, .f h0_2]).h K = i_isOrder_s3 none N n h0_0 h0_1 h0_2 (fun r__ => retK (buildS i_isOrder_s3_r0 [.b r__, .i h0_0, .f h0_1, .f h0_2]) K) := by kernel_rfl
def E_i_isOrder_s3 (α : Type) (N : Nat) : Env α := (E_i_isOrder_l0_s3 α N).addFun 195 true 1 i_isOrder_s3_a (fun l K => match l with
    | [.i n, .i h0_0, .f h0_1, .f h0_2] => i_isOrder_s3 none N n h0_0 h0_1 h0_2 (fun r__ => retK (buildS i_isOrder_s3_r0 [.b r__, .i h0_0, .f h0_1, .f h0_2]) K)
    | _ => none)
theorem E_i_isOrder_s3_ok {α : Type} (N : Nat) : EnvOk Try.prog (E_i_isOrder_s3 α N) := (E_i_isOrder_l0_s3_ok N).addFun prog_mixed prog_names (d := 1) fun l K r h => by
  split at h
  · exact (i_isOrder_s3_run N _ _ _ _ K).trans h
  · cases h

def A_i_IsGrid_l0 (α : Type) (N : Nat) : Env α := (E_i_isOrder_s3 α N).addAnn 116 4 { head := [1, 25, 26], grow := [], out := [], ret := [2] }
theorem A_i_IsGrid_l0_ok {α : Type} (N : Nat) : EnvOk Try.prog (A_i_IsGrid_l0 α N) := (E_i_isOrder_s3_ok N).addAnn

/-- impl.IsGrid, loop -/
def i_IsGrid_l0_p : SPat := ⟨[.undef, .ptr ⟨⟨0, 0⟩, 0, 0, 1⟩, .undef, .undef, .undef, .undef, .undef, .undef, .undef, .undef, .undef, .undef, .undef, .undef, .undef, .undef, .undef, .undef, .undef, .undef, .undef, .undef, .undef, .undef, .undef, .int .i64, .int .i64] ++ List.replicate 12 .undef, [[.vals [.int .i64], .ints .u8 8, .ints .u8 8]]⟩
def i_IsGrid_l0_o0 : SPat := ⟨[.undef, .undef, .boolC false] ++ List.replicate 36 .undef, [[.vals [.int .i64], .ints .u8 8, .ints .u8 8]]⟩
def i_IsGrid_l0_o1 : SPat := ⟨[] ++ List.replicate 39 .undef, [[.vals [.int .i64], .ints .u8 8, .ints .u8 8]]⟩
theorem i_IsGrid_l0_round {α : Type} (N : Nat) (t25 : Int) (t26 : Int) (h0_0 : Int) (h0_1 : Nat → Int) (h0_2 : Nat → Int) (kn : St → Option α) (K : AExit → St → Option α) :
    roundK Try.prog (A_i_IsGrid_l0 α N) 1 0 116 Try.f116 4 1 (buildS i_IsGrid_l0_p [.i t25, .i t26, .i h0_0, .f h0_1, .f h0_2]) kn K = i_IsGrid_l0_s none t25 h0_0 h0_1 h0_2 t26 (fun t26 => kn (buildS i_IsGrid_l0_p [.i t25, .i t26, .i h0_0, .f h0_1, .f h0_2])) (K .ret (buildS i_IsGrid_l0_o0 [.i h0_0, .f h0_1, .f h0_2])) (K (.exit 0) (buildS i_IsGrid_l0_o1 [.i h0_0, .f h0_1, .f h0_2])) := by kernel_rfl
theorem i_IsGrid_l0_loop {α : Type} (N : Nat) (t25 : Int) (h0_0 : Int) (h0_1 : Nat → Int) (h0_2 : Nat → Int) (K : AExit → St → Option α) : ∀ (m : Nat) (t26 : Int),
    loopN (trimSt ((A_i_IsGrid_l0 α N).ann 116 4).head ((A_i_IsGrid_l0 α N).ann 116 4).grow 1) (bodyK Try.prog (A_i_IsGrid_l0 α N) 1 0 116 Try.f116 4) m (buildS i_IsGrid_l0_p [.i t25, .i t26, .i h0_0, .f h0_1, .f h0_2]) (leaveLoop ((A_i_IsGrid_l0 α N).ann 116 4) 1 K) = i_IsGrid_l0 none t25 h0_0 h0_1 h0_2 m t26 (K .ret (buildS i_IsGrid_l0_o0 [.i h0_0, .f h0_1, .f h0_2])) (K (.exit 0) (buildS i_IsGrid_l0_o1 [.i h0_0, .f h0_1, .f h0_2])) := by
  intro m
  induction m with
  | zero => intros; rfl
  | succ m ih =>
    intro t26
    rw [loopN_round]
    refine (i_IsGrid_l0_round N t25 t26 h0_0 h0_1 h0_2 _ K).trans ?_
    simp only [ih]
    rfl
def E_i_IsGrid_l0 (α : Type) (N : Nat) : Env α := (A_i_IsGrid_l0 α N).addLoop2 116 4 (loopSum2 ((A_i_IsGrid_l0 α N).ann 116 4) 0 i_IsGrid_l0_p (fun l K => match l with
    | [.i t25, .i t26, .i h0_0, .f h0_1, .f h0_2] => i_IsGrid_l0 none t25 h0_0 h0_1 h0_2 N t26 (K .ret (buildS i_IsGrid_l0_o0 [.i h0_0, .f h0_1, .f h0_2])) (K (.exit 0) (buildS i_IsGrid_l0_o1 [.i h0_0, .f h0_1, .f h0_2]))
    | _ => none) ((A_i_IsGrid_l0 α N).ls 116 4))
theorem E_i_IsGrid_l0_ok {α : Type} (N : Nat) : EnvOk Try.prog (E_i_IsGrid_l0 α N) := (A_i_IsGrid_l0_ok N).addLoop2 Try.func116 (by kernel_rfl) (loopSum_ok prog_mixed prog_names (A_i_IsGrid_l0_ok N) Try.func116 (by kernel_rfl) (d := 1) (ro := 0) fun l K r h => by
  split at h
  · exact (i_IsGrid_l0_loop N _ _ _ _ K N _).trans h
  · cases h)

/-- impl.IsGrid -/
def i_IsGrid_a : SPat := ⟨[.agg [.vals [.int .i64], .ints .u8 8, .ints .u8 8]], []⟩
def i_IsGrid_r0 : SPat := ⟨[.bool], []⟩
theorem i_IsGrid_run {α : Type} (N : Nat) (g_0 : Int) (g_1 : Nat → Int) (g_2 : Nat → Int) (K : AV → Heap → Option α) :
    callK Try.prog (E_i_IsGrid_l0 α N) 1 116 0 (buildS i_IsGrid_a [.i g_0, .f g_1, .f g_2]).t (buildS i_IsGrid_a [.i g_0, .f g_1, .f g_2]).h K = i_IsGrid none N g_0 g_1 g_2 (fun r__ => retK (buildS i_IsGrid_r0 [.b r__]) K) := by kernel_rfl
def E_i_IsGrid (α : Type) (N : Nat) : Env α := (E_i_IsGrid_l0 α N).addFun 116 true 0 i_IsGrid_a (fun l K => match l with
    | [.i g_0, .f g_1, .f g_2] => i_IsGrid none N g_0 g_1 g_2 (fun r__ => retK (buildS i_IsGrid_r0 [.b r__]) K)
    | _ => none)
theorem E_i_IsGrid_ok {α : Type} (N : Nat) : EnvOk Try.prog (E_i_IsGrid α N) := (E_i_IsGrid_l0_ok N).addFun prog_mixed prog_names (d := 1) fun l K r h => by
  split at h
  · exact (i_IsGrid_run N _ _ _ K).trans h
  · cases h

def A_i_Grid_places_l0 (α : Type) (N : Nat) : Env α := (E_i_IsGrid α N).addAnn 189 3 { head := [3, 4, 5, 9, 10], grow := [], out := [4, 5], ret := [4] }
theorem A_i_Grid_places_l0_ok {α : Type} (N : Nat) : EnvOk Try.prog (A_i_Grid_places_l0 α N) := (E_i_IsGrid_ok N).addAnn

/-- (impl.Grid).places, loop -/
def i_Grid_places_l0_p : SPat := ⟨[.undef, .undef, .undef, .ptr ⟨⟨1, 0⟩, 0, 0, 8⟩, .ptr ⟨⟨2, 0⟩, 0, 0, 8⟩, .ptr ⟨⟨3, 0⟩, 0, 0, 8⟩, .undef, .undef, .undef, .int .i64, .int .i64] ++ List.replicate 9 .undef, [[.vals [.int .i64], .ints .u8 8, .ints .u8 8], [.ints .u8 8], [.ints .i64 8], [.ints .i64 8]]⟩
def i_Grid_places_l0_o0 : SPat := ⟨[.undef, .undef, .undef, .undef, .ptr ⟨⟨2, 0⟩, 0, 0, 8⟩, .ptr ⟨⟨3, 0⟩, 0, 0, 8⟩] ++ List.replicate 14 .undef, [[.vals [.int .i64], .ints .u8 8, .ints .u8 8], [.ints .u8 8], [.ints .i64 8], [.ints .i64 8]]⟩
theorem i_Grid_places_l0_round {α : Type} (N : Nat) (t9 : Int) (t10 : Int) (h0_0 : Int) (h0_1 : Nat → Int) (h0_2 : Nat → Int) (h1 : Nat → Int) (h2 : Nat → Int) (h3 : Nat → Int) (kn : St → Option α) (K : AExit → St → Option α) :
    roundK Try.prog (A_i_Grid_places_l0 α N) 1 0 189 Try.f189 3 4 (buildS i_Grid_places_l0_p [.i t9, .i t10, .i h0_0, .f h0_1, .f h0_2, .f h1, .f h2, .f h3]) kn K = i_Grid_places_l0_s none t9 h0_0 h0_1 h0_2 h1 h2 t10 h3 (fun t10 h3 => kn (buildS i_Grid_places_l0_p [.i t9, .i t10, .i h0_0, .f h0_1, .f h0_2, .f h1, .f h2, .f h3])) (fun h3_ => K (.exit 0) (buildS i_Grid_places_l0_o0 [.i h0_0, .f h0_1, .f h0_2, .f h1, .f h2, .f h3_])) := by kernel_rfl
theorem i_Grid_places_l0_loop {α : Type} (N : Nat) (t9 : Int) (h0_0 : Int) (h0_1 : Nat → Int) (h0_2 : Nat → Int) (h1 : Nat → Int) (h2 : Nat → Int) (K : AExit → St → Option α) : ∀ (m : Nat) (t10 : Int) (h3 : Nat → Int),
    loopN (trimSt ((A_i_Grid_places_l0 α N).ann 189 3).head ((A_i_Grid_places_l0 α N).ann 189 3).grow 4) (bodyK Try.prog (A_i_Grid_places_l0 α N) 1 0 189 Try.f189 3) m (buildS i_Grid_places_l0_p [.i t9, .i t10, .i h0_0, .f h0_1, .f h0_2, .f h1, .f h2, .f h3]) (leaveLoop ((A_i_Grid_places_l0 α N).ann 189 3) 4 K) = i_Grid_places_l0 none t9 h0_0 h0_1 h0_2 h1 h2 m t10 h3 (fun h3_ => K (.exit 0) (buildS i_Grid_places_l0_o0 [.i h0_0, .f h0_1, .f h0_2, .f h1, .f h2, .f h3_])) := by
  intro m
  induction m with
  | zero => intros; rfl
  | succ m ih =>
    intro t10 h3
    rw [loopN_round]
    refine (i_Grid_places_l0_round N t9 t10 h0_0 h0_1 h0_2 h1 h2 h3 _ K).trans ?_
    simp only [ih]
    rfl
def E_i_Grid_places_l0 (α : Type) (N : Nat) : Env α := (A_i_Grid_places_l0 α N).addLoop2 189 3 (loopSum2 ((A_i_Grid_places_l0 α N).ann 189 3) 0 i_Grid_places_l0_p (fun l K => match l with
    | [.i t9, .i t10, .i h0_0, .f h0_1, .f h0_2, .f h1, .f h2, .f h3] => i_Grid_places_l0 none t9 h0_0 h0_1 h0_2 h1 h2 N t10 h3 (fun h3_ => K (.exit 0) (buildS i_Grid_places_l0_o0 [.i h0_0, .f h0_1, .f h0_2, .f h1, .f h2, .f h3_]))
    | _ => none) ((A_i_Grid_places_l0 α N).ls 189 3))
theorem E_i_Grid_places_l0_ok {α : Type} (N : Nat) : EnvOk Try.prog (E_i_Grid_places_l0 α N) := (A_i_Grid_places_l0_ok N).addLoop2 Try.func189 (by kernel_rfl) (loopSum_ok prog_mixed prog_names (A_i_Grid_places_l0_ok N) Try.func189 (by kernel_rfl) (d := 1) (ro := 0) fun l K r h => by
  split at h
  · exact (i_Grid_places_l0_loop N _ _ _ _ _ _ K N _ _).trans h
  · cases h)

/-- (impl.Grid).places -/
def i_Grid_places_a : SPat := ⟨[.agg [.vals [.int .i64], .ints .u8 8, .ints .u8 8], .agg [.ints .u8 8]], []⟩
def i_Grid_places_r0 : SPat := ⟨[.agg [.ints .i64 8]], []⟩
theorem i_Grid_places_run {α : Type} (N : Nat) (g_0 : Int) (g_1 : Nat → Int) (g_2 : Nat → Int) (rows : Nat → Int) (K : AV → Heap → Option α) :
    callK Try.prog (E_i_Grid_places_l0 α N) 1 189 0 (buildS i_Grid_places_a [.i g_0, .f g_1, .f g_2, .f rows]).t (buildS i_Grid_places_a [.i g_0, .f g_1, .f g_2, .f rows]).h K = i_Grid_places none N g_0 g_1 g_2 rows (fun r__ => retK (buildS i_Grid_places_r0 [.f r__]) K) := by kernel_rfl
def E_i_Grid_places (α : Type) (N : Nat) : Env α := (E_i_Grid_places_l0 α N).addFun 189 true 0 i_Grid_places_a (fun l K => match l with
    | [.i g_0, .f g_1, .f g_2, .f rows] => i_Grid_places none N g_0 g_1 g_2 rows (fun r__ => retK (buildS i_Grid_places_r0 [.f r__]) K)
    | _ => none)
theorem E_i_Grid_places_ok {α : Type} (N : Nat) : EnvOk Try.prog (E_i_Grid_places α N) := (E_i_Grid_places_l0_ok N).addFun prog_mixed prog_names (d := 1) fun l K r h => by
  split at h
  · exact (i_Grid_places_run N _ _ _ _ K).trans h
  · cases h

/-- laws.big -/
def w_big_a : SPat := ⟨[.sliceV 0 0 0 1 false], [[.intsV .u8]]⟩
def w_big_r0 : SPat := ⟨[.bool], [[.intsV .u8]]⟩
theorem w_big_run {α : Type} (N : Nat) (code_n : Nat) (code_l : Nat) (code_c : Nat) (h0_n : Nat) (h0 : Nat → Int) (K : AV → Heap → Option α) :
    callK Try.prog (E_i_Grid_places α N) 1 16 1 (buildS w_big_a [.n code_n, .n code_l, .n code_c, .n h0_n, .f h0]).t (buildS w_big_a [.n code_n, .n code_l, .n code_c, .n h0_n, .f h0]).h K = w_big none N code_n code_l code_c h0_n h0 (fun r__ => retK (buildS w_big_r0 [.b r__, .n h0_n, .f h0]) K) := by kernel_rfl
def E_w_big (α : Type) (N : Nat) : Env α := (E_i_Grid_places α N).addFun 16 true 1 w_big_a (fun l K => match l with
    | [.n code_n, .n code_l, .n code_c, .n h0_n, .f h0] => w_big none N code_n code_l code_c h0_n h0 (fun r__ => retK (buildS w_big_r0 [.b r__, .n h0_n, .f h0]) K)
    | _ => none)
theorem E_w_big_ok {α : Type} (N : Nat) : EnvOk Try.prog (E_w_big α N) := (E_i_Grid_places_ok N).addFun prog_mixed prog_names (d := 1) fun l K r h => by
  split at h
  · exact (w_big_run N _ _ _ _ _ K).trans h
  · cases h

def A_s_l01From_l0 (α : Type) (N : Nat) : Env α := (E_w_big α N).addAnn 104 3 { head := [0, 3, 4], grow := [], out := [3], ret := [2] }
theorem A_s_l01From_l0_ok {α : Type} (N : Nat) : EnvOk Try.prog (A_s_l01From_l0 α N) := (E_w_big_ok N).addAnn

/-- spec.l01From, loop -/
def s_l01From_l0_p : SPat := ⟨[.sliceV 0 0 0 1 false, .undef, .undef, .ptr ⟨⟨1, 0⟩, 0, 0, 3⟩, .int .i64] ++ List.replicate 33 .undef, [[.intsV .u8], [.vals [.sliceV 0 0 0 1 false, .int .i64, .int .u64]]]⟩
def s_l01From_l0_o0 : SPat := ⟨[.undef, .undef, .undef, .ptr ⟨⟨1, 0⟩, 0, 0, 3⟩] ++ List.replicate 34 .undef, [[.intsV .u8], [.vals [.sliceV 0 0 0 1 false, .int .i64, .int .u64]]]⟩
theorem s_l01From_l0_round {α : Type} (N : Nat) (code_n : Nat) (code_l : Nat) (code_c : Nat) (i : Int) (h0_n : Nat) (h0 : Nat → Int) (h1_0_n : Nat) (h1_0_l : Nat) (h1_0_c : Nat) (h1_1 : Int) (h1_2 : Int) (kn : St → Option α) (K : AExit → St → Option α) :
    roundK Try.prog (A_s_l01From_l0 α N) 1 1 104 Try.f104 3 2 (buildS s_l01From_l0_p [.n code_n, .n code_l, .n code_c, .i i, .n h0_n, .f h0, .n h1_0_n, .n h1_0_l, .n h1_0_c, .i h1_1, .i h1_2]) kn K = s_l01From_l0_s none code_n code_l code_c h0_n h0 h1_0_n h1_0_l h1_0_c h1_1 i h1_2 (fun i h1_2 => kn (buildS s_l01From_l0_p [.n code_n, .n code_l, .n code_c, .i i, .n h0_n, .f h0, .n h1_0_n, .n h1_0_l, .n h1_0_c, .i h1_1, .i h1_2])) (fun h1_2_ => K (.exit 0) (buildS s_l01From_l0_o0 [.n h0_n, .f h0, .n h1_0_n, .n h1_0_l, .n h1_0_c, .i h1_1, .i h1_2_])) := by kernel_rfl
theorem s_l01From_l0_loop {α : Type} (N : Nat) (code_n : Nat) (code_l : Nat) (code_c : Nat) (h0_n : Nat) (h0 : Nat → Int) (h1_0_n : Nat) (h1_0_l : Nat) (h1_0_c : Nat) (h1_1 : Int) (K : AExit → St → Option α) : ∀ (m : Nat) (i : Int) (h1_2 : Int),
    loopN (trimSt ((A_s_l01From_l0 α N).ann 104 3).head ((A_s_l01From_l0 α N).ann 104 3).grow 2) (bodyK Try.prog (A_s_l01From_l0 α N) 1 1 104 Try.f104 3) m (buildS s_l01From_l0_p [.n code_n, .n code_l, .n code_c, .i i, .n h0_n, .f h0, .n h1_0_n, .n h1_0_l, .n h1_0_c, .i h1_1, .i h1_2]) (leaveLoop ((A_s_l01From_l0 α N).ann 104 3) 2 K) = s_l01From_l0 none code_n code_l code_c h0_n h0 h1_0_n h1_0_l h1_0_c h1_1 m i h1_2 (fun h1_2_ => K (.exit 0) (buildS s_l01From_l0_o0 [.n h0_n, .f h0, .n h1_0_n, .n h1_0_l, .n h1_0_c, .i h1_1, .i h1_2_])) := by
  intro m
  induction m with
  | zero => intros; rfl
  | succ m ih =>
    intro i h1_2
    rw [loopN_round]
    refine (s_l01From_l0_round N code_n code_l code_c i h0_n h0 h1_0_n h1_0_l h1_0_c h1_1 h1_2 _ K).trans ?_
    simp only [ih]
    rfl
def E_s_l01From_l0 (α : Type) (N : Nat) : Env α := (A_s_l01From_l0 α N).addLoop2 104 3 (loopSum2 ((A_s_l01From_l0 α N).ann 104 3) 1 s_l01From_l0_p (fun l K => match l with
    | [.n code_n, .n code_l, .n code_c, .i i, .n h0_n, .f h0, .n h1_0_n, .n h1_0_l, .n h1_0_c, .i h1_1, .i h1_2] => s_l01From_l0 none code_n code_l code_c h0_n h0 h1_0_n h1_0_l h1_0_c h1_1 N i h1_2 (fun h1_2_ => K (.exit 0) (buildS s_l01From_l0_o0 [.n h0_n, .f h0, .n h1_0_n, .n h1_0_l, .n h1_0_c, .i h1_1, .i h1_2_]))
    | _ => none) ((A_s_l01From_l0 α N).ls 104 3))
theorem E_s_l01From_l0_ok {α : Type} (N : Nat) : EnvOk Try.prog (E_s_l01From_l0 α N) := (A_s_l01From_l0_ok N).addLoop2 Try.func104 (by kernel_rfl) (loopSum_ok prog_mixed prog_names (A_s_l01From_l0_ok N) Try.func104 (by kernel_rfl) (d := 1) (ro := 1) fun l K r h => by
  split at h
  · exact (s_l01From_l0_loop N _ _ _ _ _ _ _ _ _ K N _ _).trans h
  · cases h)

/-- spec.l01From -/
def s_l01From_a : SPat := ⟨[.sliceV 0 0 0 1 false], [[.intsV .u8]]⟩
def s_l01From_r0 : SPat := ⟨[.ptr ⟨⟨1, 0⟩, 0, 0, 3⟩], [[.intsV .u8], [.vals [.sliceV 0 0 0 1 false, .int .i64, .int .u64]]]⟩
theorem s_l01From_run {α : Type} (N : Nat) (code_n : Nat) (code_l : Nat) (code_c : Nat) (h0_n : Nat) (h0 : Nat → Int) (K : AV → Heap → Option α) :
    callK Try.prog (E_s_l01From_l0 α N) 1 104 1 (buildS s_l01From_a [.n code_n, .n code_l, .n code_c, .n h0_n, .f h0]).t (buildS s_l01From_a [.n code_n, .n code_l, .n code_c, .n h0_n, .f h0]).h K = s_l01From none N code_n code_l code_c h0_n h0 (fun h1_1_ h1_2_ => retK (buildS s_l01From_r0 [.n h0_n, .f h0, .n code_n, .n code_l, .n code_c, .i h1_1_, .i h1_2_]) K) := by kernel_rfl
def E_s_l01From (α : Type) (N : Nat) : Env α := (E_s_l01From_l0 α N).addFun 104 true 1 s_l01From_a (fun l K => match l with
    | [.n code_n, .n code_l, .n code_c, .n h0_n, .f h0] => s_l01From none N code_n code_l code_c h0_n h0 (fun h1_1_ h1_2_ => retK (buildS s_l01From_r0 [.n h0_n, .f h0, .n code_n, .n code_l, .n code_c, .i h1_1_, .i h1_2_]) K)
    | _ => none)
theorem E_s_l01From_ok {α : Type} (N : Nat) : EnvOk Try.prog (E_s_l01From α N) := (E_s_l01From_l0_ok N).addFun prog_mixed prog_names (d := 1) fun l K r h => by
  split at h
  · exact (s_l01From_run N _ _ _ _ _ K).trans h
  · cases h

/-- spec.l01Next -/
def s_l01Next_s2_a : SPat := ⟨[.ptr ⟨⟨1, 0⟩, 0, 0, 3⟩, .int .i64], [[.intsV .u8], [.vals [.sliceV 0 0 0 1 false, .int .i64, .int .u64]]]⟩
def s_l01Next_s2_r0 : SPat := ⟨[.int .i64], [[.intsV .u8], [.vals [.sliceV 0 0 0 1 false, .int .i64, .int .u64]]]⟩
theorem s_l01Next_s2_run {α : Type} (N : Nat) (n : Int) (h0_n : Nat) (h0 : Nat → Int) (h1_0_n : Nat) (h1_0_l : Nat) (h1_0_c : Nat) (h1_1 : Int) (h1_2 : Int) (K : AV → Heap → Option α) :
    callK Try.prog (E_s_l01From α N) 1 114 1 (buildS s_l01Next_s2_a [.i n, .n h0_n, .f h0, .n h1_0_n, .n h1_0_l, .n h1_0_c, .i h1_1, .i h1_2]).t (buildS s_l01Next_s2_a [.i n, .n h0_n, .f h0, .n h1_0_n, .n h1_0_l, .n h1_0_c, .i h1_1, .i h1_2]).h K = s_l01Next_s2 none N n h0_n h0 h1_0_n h1_0_l h1_0_c h1_1 h1_2 (fun r__ h1_1_ h1_2_ => retK (buildS s_l01Next_s2_r0 [.i r__, .n h0_n, .f h0, .n h1_0_n, .n h1_0_l, .n h1_0_c, .i h1_1_, .i h1_2_]) K) := by kernel_rfl
def E_s_l01Next_s2 (α : Type) (N : Nat) : Env α := (E_s_l01From α N).addFun 114 false 1 s_l01Next_s2_a (fun l K => match l with
    | [.i n, .n h0_n, .f h0, .n h1_0_n, .n h1_0_l, .n h1_0_c, .i h1_1, .i h1_2] => s_l01Next_s2 none N n h0_n h0 h1_0_n h1_0_l h1_0_c h1_1 h1_2 (fun r__ h1_1_ h1_2_ => retK (buildS s_l01Next_s2_r0 [.i r__, .n h0_n, .f h0, .n h1_0_n, .n h1_0_l, .n h1_0_c, .i h1_1_, .i h1_2_]) K)
    | _ => none)
theorem E_s_l01Next_s2_ok {α : Type} (N : Nat) : EnvOk Try.prog (E_s_l01Next_s2 α N) := (E_s_l01From_ok N).addFun prog_mixed prog_names (d := 1) fun l K r h => by
  split at h
  · exact (s_l01Next_s2_run N _ _ _ _ _ _ _ _ K).trans h
  · cases h

/-- spec.l01Pick -/
def s_l01Pick_s3_a : SPat := ⟨[.ptr ⟨⟨1, 0⟩, 0, 0, 3⟩, .slice ⟨⟨2, 0⟩, 0, 0, 3⟩ 3 3 1 true], [[.intsV .u8], [.vals [.sliceV 0 0 0 1 false, .int .i64, .int .u64]], [.vec .i64]]⟩
def s_l01Pick_s3_r0 : SPat := ⟨[.int .i64], [[.intsV .u8], [.vals [.sliceV 0 0 0 1 false, .int .i64, .int .u64]], [.vec .i64]]⟩
theorem s_l01Pick_s3_run {α : Type} (N : Nat) (h0_n : Nat) (h0 : Nat → Int) (h1_0_n : Nat) (h1_0_l : Nat) (h1_0_c : Nat) (h1_1 : Int) (h1_2 : Int) (h2 : List Int) (K : AV → Heap → Option α) :
    callK Try.prog (E_s_l01Next_s2 α N) 1 115 1 (buildS s_l01Pick_s3_a [.n h0_n, .f h0, .n h1_0_n, .n h1_0_l, .n h1_0_c, .i h1_1, .i h1_2, .l h2]).t (buildS s_l01Pick_s3_a [.n h0_n, .f h0, .n h1_0_n, .n h1_0_l, .n h1_0_c, .i h1_1, .i h1_2, .l h2]).h K = s_l01Pick_s3 none N h0_n h0 h1_0_n h1_0_l h1_0_c h1_1 h1_2 h2 (fun r__ h1_1_ h1_2_ => retK (buildS s_l01Pick_s3_r0 [.i r__, .n h0_n, .f h0, .n h1_0_n, .n h1_0_l, .n h1_0_c, .i h1_1_, .i h1_2_, .l h2]) K) := by kernel_rfl
def E_s_l01Pick_s3 (α : Type) (N : Nat) : Env α := (E_s_l01Next_s2 α N).addFun 115 false 1 s_l01Pick_s3_a (fun l K => match l with
    | [.n h0_n, .f h0, .n h1_0_n, .n h1_0_l, .n h1_0_c, .i h1_1, .i h1_2, .l h2] => s_l01Pick_s3 none N h0_n h0 h1_0_n h1_0_l h1_0_c h1_1 h1_2 h2 (fun r__ h1_1_ h1_2_ => retK (buildS s_l01Pick_s3_r0 [.i r__, .n h0_n, .f h0, .n h1_0_n, .n h1_0_l, .n h1_0_c, .i h1_1_, .i h1_2_, .l h2]) K)
    | _ => none)
theorem E_s_l01Pick_s3_ok {α : Type} (N : Nat) : EnvOk Try.prog (E_s_l01Pick_s3 α N) := (E_s_l01Next_s2_ok N).addFun prog_mixed prog_names (d := 1) fun l K r h => by
  split at h
  · exact (s_l01Pick_s3_run N _ _ _ _ _ _ _ _ K).trans h
  · cases h

def A_s_l01Mixed_l0 (α : Type) (N : Nat) : Env α := (E_s_l01Pick_s3 α N).addAnn 197 3 { head := [0, 1, 4, 5, 6], grow := [], out := [0, 1, 4, 5], ret := [4] }
theorem A_s_l01Mixed_l0_ok {α : Type} (N : Nat) : EnvOk Try.prog (A_s_l01Mixed_l0 α N) := (E_s_l01Pick_s3_ok N).addAnn

/-- spec.l01Mixed, loop -/
def s_l01Mixed_l0_s2_p : SPat := ⟨[.ptr ⟨⟨1, 0⟩, 0, 0, 3⟩, .int .i64, .undef, .undef, .ptr ⟨⟨2, 0⟩, 0, 0, 8⟩, .ptr ⟨⟨3, 0⟩, 0, 0, 8⟩, .int .i64] ++ List.replicate 35 .undef, [[.intsV .u8], [.vals [.sliceV 0 0 0 1 false, .int .i64, .int .u64]], [.ints .u8 8], [.ints .u8 8]]⟩
def s_l01Mixed_l0_s2_o0 : SPat := ⟨[.ptr ⟨⟨1, 0⟩, 0, 0, 3⟩, .int .i64, .undef, .undef, .ptr ⟨⟨2, 0⟩, 0, 0, 8⟩, .ptr ⟨⟨3, 0⟩, 0, 0, 8⟩] ++ List.replicate 36 .undef, [[.intsV .u8], [.vals [.sliceV 0 0 0 1 false, .int .i64, .int .u64]], [.ints .u8 8], [.ints .u8 8]]⟩
theorem s_l01Mixed_l0_s2_round {α : Type} (N : Nat) (n : Int) (i : Int) (h0_n : Nat) (h0 : Nat → Int) (h1_0_n : Nat) (h1_0_l : Nat) (h1_0_c : Nat) (h1_1 : Int) (h1_2 : Int) (h2 : Nat → Int) (h3 : Nat → Int) (kn : St → Option α) (K : AExit → St → Option α) :
    roundK Try.prog (A_s_l01Mixed_l0 α N) 1 1 197 Try.f197 3 4 (buildS s_l01Mixed_l0_s2_p [.i n, .i i, .n h0_n, .f h0, .n h1_0_n, .n h1_0_l, .n h1_0_c, .i h1_1, .i h1_2, .f h2, .f h3]) kn K = s_l01Mixed_l0_s2_s none n h0_n h0 h1_0_n h1_0_l h1_0_c h1_1 h1_2 h2 i h3 (fun i h3 => kn (buildS s_l01Mixed_l0_s2_p [.i n, .i i, .n h0_n, .f h0, .n h1_0_n, .n h1_0_l, .n h1_0_c, .i h1_1, .i h1_2, .f h2, .f h3])) (fun h3_ => K (.exit 0) (buildS s_l01Mixed_l0_s2_o0 [.i n, .n h0_n, .f h0, .n h1_0_n, .n h1_0_l, .n h1_0_c, .i h1_1, .i h1_2, .f h2, .f h3_])) := by kernel_rfl
theorem s_l01Mixed_l0_s2_loop {α : Type} (N : Nat) (n : Int) (h0_n : Nat) (h0 : Nat → Int) (h1_0_n : Nat) (h1_0_l : Nat) (h1_0_c : Nat) (h1_1 : Int) (h1_2 : Int) (h2 : Nat → Int) (K : AExit → St → Option α) : ∀ (m : Nat) (i : Int) (h3 : Nat → Int),
    loopN (trimSt ((A_s_l01Mixed_l0 α N).ann 197 3).head ((A_s_l01Mixed_l0 α N).ann 197 3).grow 4) (bodyK Try.prog (A_s_l01Mixed_l0 α N) 1 1 197 Try.f197 3) m (buildS s_l01Mixed_l0_s2_p [.i n, .i i, .n h0_n, .f h0, .n h1_0_n, .n h1_0_l, .n h1_0_c, .i h1_1, .i h1_2, .f h2, .f h3]) (leaveLoop ((A_s_l01Mixed_l0 α N).ann 197 3) 4 K) = s_l01Mixed_l0_s2 none n h0_n h0 h1_0_n h1_0_l h1_0_c h1_1 h1_2 h2 m i h3 (fun h3_ => K (.exit 0) (buildS s_l01Mixed_l0_s2_o0 [.i n, .n h0_n, .f h0, .n h1_0_n, .n h1_0_l, .n h1_0_c, .i h1_1, .i h1_2, .f h2, .f h3_])) := by
  intro m
  induction m with
  | zero => intros; rfl
  | succ m ih =>
    intro i h3
    rw [loopN_round]
    refine (s_l01Mixed_l0_s2_round N n i h0_n h0 h1_0_n h1_0_l h1_0_c h1_1 h1_2 h2 h3 _ K).trans ?_
    simp only [ih]
    rfl
def E_s_l01Mixed_l0_s2 (α : Type) (N : Nat) : Env α := (A_s_l01Mixed_l0 α N).addLoop2 197 3 (loopSum2 ((A_s_l01Mixed_l0 α N).ann 197 3) 1 s_l01Mixed_l0_s2_p (fun l K => match l with
    | [.i n, .i i, .n h0_n, .f h0, .n h1_0_n, .n h1_0_l, .n h1_0_c, .i h1_1, .i h1_2, .f h2, .f h3] => s_l01Mixed_l0_s2 none n h0_n h0 h1_0_n h1_0_l h1_0_c h1_1 h1_2 h2 N i h3 (fun h3_ => K (.exit 0) (buildS s_l01Mixed_l0_s2_o0 [.i n, .n h0_n, .f h0, .n h1_0_n, .n h1_0_l, .n h1_0_c, .i h1_1, .i h1_2, .f h2, .f h3_]))
    | _ => none) ((A_s_l01Mixed_l0 α N).ls 197 3))
theorem E_s_l01Mixed_l0_s2_ok {α : Type} (N : Nat) : EnvOk Try.prog (E_s_l01Mixed_l0_s2 α N) := (A_s_l01Mixed_l0_ok N).addLoop2 Try.func197 (by kernel_rfl) (loopSum_ok prog_mixed prog_names (A_s_l01Mixed_l0_ok N) Try.func197 (by kernel_rfl) (d := 1) (ro := 1) fun l K r h => by
  split at h
  · exact (s_l01Mixed_l0_s2_loop N _ _ _ _ _ _ _ _ _ K N _ _).trans h
  · cases h)

def A_s_l01Mixed_l1 (α : Type) (N : Nat) : Env α := (E_s_l01Mixed_l0_s2 α N).addAnn 197 7 { head := [0, 4, 5, 7], grow := [], out := [4, 5], ret := [4] }
theorem A_s_l01Mixed_l1_ok {α : Type} (N : Nat) : EnvOk Try.prog (A_s_l01Mixed_l1 α N) := (E_s_l01Mixed_l0_s2_ok N).addAnn

/-- spec.l01Mixed, loop -/
def s_l01Mixed_l1_s2_p : SPat := ⟨[.ptr ⟨⟨1, 0⟩, 0, 0, 3⟩, .undef, .undef, .undef, .ptr ⟨⟨2, 0⟩, 0, 0, 8⟩, .ptr ⟨⟨3, 0⟩, 0, 0, 8⟩, .undef, .int .i64] ++ List.replicate 34 .undef, [[.intsV .u8], [.vals [.sliceV 0 0 0 1 false, .int .i64, .int .u64]], [.ints .u8 8], [.ints .u8 8]]⟩
def s_l01Mixed_l1_s2_o0 : SPat := ⟨[.undef, .undef, .undef, .undef, .ptr ⟨⟨2, 0⟩, 0, 0, 8⟩, .ptr ⟨⟨3, 0⟩, 0, 0, 8⟩] ++ List.replicate 36 .undef, [[.intsV .u8], [.vals [.sliceV 0 0 0 1 false, .int .i64, .int .u64]], [.ints .u8 8], [.ints .u8 8]]⟩
theorem s_l01Mixed_l1_s2_round {α : Type} (N : Nat) (i : Int) (h0_n : Nat) (h0 : Nat → Int) (h1_0_n : Nat) (h1_0_l : Nat) (h1_0_c : Nat) (h1_1 : Int) (h1_2 : Int) (h2 : Nat → Int) (h3 : Nat → Int) (kn : St → Option α) (K : AExit → St → Option α) :
    roundK Try.prog (A_s_l01Mixed_l1 α N) 1 1 197 Try.f197 7 4 (buildS s_l01Mixed_l1_s2_p [.i i, .n h0_n, .f h0, .n h1_0_n, .n h1_0_l, .n h1_0_c, .i h1_1, .i h1_2, .f h2, .f h3]) kn K = s_l01Mixed_l1_s2_s none N h0_n h0 h1_0_n h1_0_l h1_0_c h2 i h1_1 h1_2 h3 (fun i h1_1 h1_2 h3 => kn (buildS s_l01Mixed_l1_s2_p [.i i, .n h0_n, .f h0, .n h1_0_n, .n h1_0_l, .n h1_0_c, .i h1_1, .i h1_2, .f h2, .f h3])) (fun h1_1_ h1_2_ h3_ => K (.exit 2) (buildS s_l01Mixed_l1_s2_o0 [.n h0_n, .f h0, .n h1_0_n, .n h1_0_l, .n h1_0_c, .i h1_1_, .i h1_2_, .f h2, .f h3_])) := by kernel_rfl
theorem s_l01Mixed_l1_s2_loop {α : Type} (N : Nat) (h0_n : Nat) (h0 : Nat → Int) (h1_0_n : Nat) (h1_0_l : Nat) (h1_0_c : Nat) (h2 : Nat → Int) (K : AExit → St → Option α) : ∀ (m : Nat) (i : Int) (h1_1 : Int) (h1_2 : Int) (h3 : Nat → Int),
    loopN (trimSt ((A_s_l01Mixed_l1 α N).ann 197 7).head ((A_s_l01Mixed_l1 α N).ann 197 7).grow 4) (bodyK Try.prog (A_s_l01Mixed_l1 α N) 1 1 197 Try.f197 7) m (buildS s_l01Mixed_l1_s2_p [.i i, .n h0_n, .f h0, .n h1_0_n, .n h1_0_l, .n h1_0_c, .i h1_1, .i h1_2, .f h2, .f h3]) (leaveLoop ((A_s_l01Mixed_l1 α N).ann 197 7) 4 K) = s_l01Mixed_l1_s2 none N h0_n h0 h1_0_n h1_0_l h1_0_c h2 m i h1_1 h1_2 h3 (fun h1_1_ h1_2_ h3_ => K (.exit 2) (buildS s_l01Mixed_l1_s2_o0 [.n h0_n, .f h0, .n h1_0_n, .n h1_0_l, .n h1_0_c, .i h1_1_, .i h1_2_, .f h2, .f h3_])) := by
  intro m
  induction m with
  | zero => intros; rfl
  | succ m ih =>
    intro i h1_1 h1_2 h3
    rw [loopN_round]
    refine (s_l01Mixed_l1_s2_round N i h0_n h0 h1_0_n h1_0_l h1_0_c h1_1 h1_2 h2 h3 _ K).trans ?_
    simp only [ih]
    rfl
def E_s_l01Mixed_l1_s2 (α : Type) (N : Nat) : Env α := (A_s_l01Mixed_l1 α N).addLoop2 197 7 (loopSum2 ((A_s_l01Mixed_l1 α N).ann 197 7) 1 s_l01Mixed_l1_s2_p (fun l K => match l with
    | [.i i, .n h0_n, .f h0, .n h1_0_n, .n h1_0_l, .n h1_0_c, .i h1_1, .i h1_2, .f h2, .f h3] => s_l01Mixed_l1_s2 none N h0_n h0 h1_0_n h1_0_l h1_0_c h2 N i h1_1 h1_2 h3 (fun h1_1_ h1_2_ h3_ => K (.exit 2) (buildS s_l01Mixed_l1_s2_o0 [.n h0_n, .f h0, .n h1_0_n, .n h1_0_l, .n h1_0_c, .i h1_1_, .i h1_2_, .f h2, .f h3_]))
    | _ => none) ((A_s_l01Mixed_l1 α N).ls 197 7))
theorem E_s_l01Mixed_l1_s2_ok {α : Type} (N : Nat) : EnvOk Try.prog (E_s_l01Mixed_l1_s2 α N) := (A_s_l01Mixed_l1_ok N).addLoop2 Try.func197 (by kernel_rfl) (loopSum_ok prog_mixed prog_names (A_s_l01Mixed_l1_ok N) Try.func197 (by kernel_rfl) (d := 1) (ro := 1) fun l K r h => by
  split at h
  · exact (s_l01Mixed_l1_s2_loop N _ _ _ _ _ _ K N _ _ _ _).trans h
  · cases h)

/-- spec.l01Mixed -/
def s_l01Mixed_s2_a : SPat := ⟨[.ptr ⟨⟨1, 0⟩, 0, 0, 3⟩, .int .i64], [[.intsV .u8], [.vals [.sliceV 0 0 0 1 false, .int .i64, .int .u64]]]⟩
def s_l01Mixed_s2_r0 : SPat := ⟨[.agg [.ints .u8 8]], [[.intsV .u8], [.vals [.sliceV 0 0 0 1 false, .int .i64, .int .u64]]]⟩
theorem s_l01Mixed_s2_run {α : Type} (N : Nat) (n : Int) (h0_n : Nat) (h0 : Nat → Int) (h1_0_n : Nat) (h1_0_l : Nat) (h1_0_c : Nat) (h1_1 : Int) (h1_2 : Int) (K : AV → Heap → Option α) :
    callK Try.prog (E_s_l01Mixed_l1_s2 α N) 1 197 1 (buildS s_l01Mixed_s2_a [.i n, .n h0_n, .f h0, .n h1_0_n, .n h1_0_l, .n h1_0_c, .i h1_1, .i h1_2]).t (buildS s_l01Mixed_s2_a [.i n, .n h0_n, .f h0, .n h1_0_n, .n h1_0_l, .n h1_0_c, .i h1_1, .i h1_2]).h K = s_l01Mixed_s2 none N n h0_n h0 h1_0_n h1_0_l h1_0_c h1_1 h1_2 (fun r__ h1_1_ h1_2_ => retK (buildS s_l01Mixed_s2_r0 [.f r__, .n h0_n, .f h0, .n h1_0_n, .n h1_0_l, .n h1_0_c, .i h1_1_, .i h1_2_]) K) := by kernel_rfl
def E_s_l01Mixed_s2 (α : Type) (N : Nat) : Env α := (E_s_l01Mixed_l1_s2 α N).addFun 197 false 1 s_l01Mixed_s2_a (fun l K => match l with
    | [.i n, .n h0_n, .f h0, .n h1_0_n, .n h1_0_l, .n h1_0_c, .i h1_1, .i h1_2] => s_l01Mixed_s2 none N n h0_n h0 h1_0_n h1_0_l h1_0_c h1_1 h1_2 (fun r__ h1_1_ h1_2_ => retK (buildS s_l01Mixed_s2_r0 [.f r__, .n h0_n, .f h0, .n h1_0_n, .n h1_0_l, .n h1_0_c, .i h1_1_, .i h1_2_]) K)
    | _ => none)
theorem E_s_l01Mixed_s2_ok {α : Type} (N : Nat) : EnvOk Try.prog (E_s_l01Mixed_s2 α N) := (E_s_l01Mixed_l1_s2_ok N).addFun prog_mixed prog_names (d := 1) fun l K r h => by
  split at h
  · exact (s_l01Mixed_s2_run N _ _ _ _ _ _ _ _ K).trans h
  · cases h

def A_s_l01DrawSize_l0 (α : Type) (N : Nat) : Env α := (E_s_l01Mixed_s2 α N).addAnn 122 3 { head := [1, 4, 5, 6, 7], grow := [], out := [1, 4, 5, 6], ret := [4] }
theorem A_s_l01DrawSize_l0_ok {α : Type} (N : Nat) : EnvOk Try.prog (A_s_l01DrawSize_l0 α N) := (E_s_l01Mixed_s2_ok N).addAnn

/-- spec.l01DrawSize, loop -/
def s_l01DrawSize_l0_s2_p : SPat := ⟨[.undef, .int .i64, .undef, .undef, .ptr ⟨⟨2, 0⟩, 0, 0, 1⟩, .ptr ⟨⟨3, 0⟩, 0, 0, 8⟩, .ptr ⟨⟨4, 0⟩, 0, 0, 8⟩, .int .i64] ++ List.replicate 66 .undef, [[.intsV .u8], [.vals [.sliceV 0 0 0 1 false, .int .i64, .int .u64]], [.vals [.int .i64], .ints .u8 8, .ints .u8 8], [.ints .u8 8], [.ints .u8 8]]⟩
def s_l01DrawSize_l0_s2_o0 : SPat := ⟨[.undef, .int .i64, .undef, .undef, .ptr ⟨⟨2, 0⟩, 0, 0, 1⟩, .ptr ⟨⟨3, 0⟩, 0, 0, 8⟩, .ptr ⟨⟨4, 0⟩, 0, 0, 8⟩] ++ List.replicate 67 .undef, [[.intsV .u8], [.vals [.sliceV 0 0 0 1 false, .int .i64, .int .u64]], [.vals [.int .i64], .ints .u8 8, .ints .u8 8], [.ints .u8 8], [.ints .u8 8]]⟩
theorem s_l01DrawSize_l0_s2_round {α : Type} (N : Nat) (t1 : Int) (t7 : Int) (h0_n : Nat) (h0 : Nat → Int) (h1_0_n : Nat) (h1_0_l : Nat) (h1_0_c : Nat) (h1_1 : Int) (h1_2 : Int) (h2_0 : Int) (h2_1 : Nat → Int) (h2_2 : Nat → Int) (h3 : Nat → Int) (h4 : Nat → Int) (kn : St → Option α) (K : AExit → St → Option α) :
    roundK Try.prog (A_s_l01DrawSize_l0 α N) 1 1 122 Try.f122 3 5 (buildS s_l01DrawSize_l0_s2_p [.i t1, .i t7, .n h0_n, .f h0, .n h1_0_n, .n h1_0_l, .n h1_0_c, .i h1_1, .i h1_2, .i h2_0, .f h2_1, .f h2_2, .f h3, .f h4]) kn K = s_l01DrawSize_l0_s2_s none t1 h0_n h0 h1_0_n h1_0_l h1_0_c h1_1 h1_2 h2_0 h2_1 h2_2 h3 t7 h4 (fun t7 h4 => kn (buildS s_l01DrawSize_l0_s2_p [.i t1, .i t7, .n h0_n, .f h0, .n h1_0_n, .n h1_0_l, .n h1_0_c, .i h1_1, .i h1_2, .i h2_0, .f h2_1, .f h2_2, .f h3, .f h4])) (fun h4_ => K (.exit 0) (buildS s_l01DrawSize_l0_s2_o0 [.i t1, .n h0_n, .f h0, .n h1_0_n, .n h1_0_l, .n h1_0_c, .i h1_1, .i h1_2, .i h2_0, .f h2_1, .f h2_2, .f h3, .f h4_])) := by kernel_rfl
theorem s_l01DrawSize_l0_s2_loop {α : Type} (N : Nat) (t1 : Int) (h0_n : Nat) (h0 : Nat → Int) (h1_0_n : Nat) (h1_0_l : Nat) (h1_0_c : Nat) (h1_1 : Int) (h1_2 : Int) (h2_0 : Int) (h2_1 : Nat → Int) (h2_2 : Nat → Int) (h3 : Nat → Int) (K : AExit → St → Option α) : ∀ (m : Nat) (t7 : Int) (h4 : Nat → Int),
    loopN (trimSt ((A_s_l01DrawSize_l0 α N).ann 122 3).head ((A_s_l01DrawSize_l0 α N).ann 122 3).grow 5) (bodyK Try.prog (A_s_l01DrawSize_l0 α N) 1 1 122 Try.f122 3) m (buildS s_l01DrawSize_l0_s2_p [.i t1, .i t7, .n h0_n, .f h0, .n h1_0_n, .n h1_0_l, .n h1_0_c, .i h1_1, .i h1_2, .i h2_0, .f h2_1, .f h2_2, .f h3, .f h4]) (leaveLoop ((A_s_l01DrawSize_l0 α N).ann 122 3) 5 K) = s_l01DrawSize_l0_s2 none t1 h0_n h0 h1_0_n h1_0_l h1_0_c h1_1 h1_2 h2_0 h2_1 h2_2 h3 m t7 h4 (fun h4_ => K (.exit 0) (buildS s_l01DrawSize_l0_s2_o0 [.i t1, .n h0_n, .f h0, .n h1_0_n, .n h1_0_l, .n h1_0_c, .i h1_1, .i h1_2, .i h2_0, .f h2_1, .f h2_2, .f h3, .f h4_])) := by
  intro m
  induction m with
  | zero => intros; rfl
  | succ m ih =>
    intro t7 h4
    rw [loopN_round]
    refine (s_l01DrawSize_l0_s2_round N t1 t7 h0_n h0 h1_0_n h1_0_l h1_0_c h1_1 h1_2 h2_0 h2_1 h2_2 h3 h4 _ K).trans ?_
    simp only [ih]
    rfl
def E_s_l01DrawSize_l0_s2 (α : Type) (N : Nat) : Env α := (A_s_l01DrawSize_l0 α N).addLoop2 122 3 (loopSum2 ((A_s_l01DrawSize_l0 α N).ann 122 3) 1 s_l01DrawSize_l0_s2_p (fun l K => match l with
    | [.i t1, .i t7, .n h0_n, .f h0, .n h1_0_n, .n h1_0_l, .n h1_0_c, .i h1_1, .i h1_2, .i h2_0, .f h2_1, .f h2_2, .f h3, .f h4] => s_l01DrawSize_l0_s2 none t1 h0_n h0 h1_0_n h1_0_l h1_0_c h1_1 h1_2 h2_0 h2_1 h2_2 h3 N t7 h4 (fun h4_ => K (.exit 0) (buildS s_l01DrawSize_l0_s2_o0 [.i t1, .n h0_n, .f h0, .n h1_0_n, .n h1_0_l, .n h1_0_c, .i h1_1, .i h1_2, .i h2_0, .f h2_1, .f h2_2, .f h3, .f h4_]))
    | _ => none) ((A_s_l01DrawSize_l0 α N).ls 122 3))
theorem E_s_l01DrawSize_l0_s2_ok {α : Type} (N : Nat) : EnvOk Try.prog (E_s_l01DrawSize_l0_s2 α N) := (A_s_l01DrawSize_l0_ok N).addLoop2 Try.func122 (by kernel_rfl) (loopSum_ok prog_mixed prog_names (A_s_l01DrawSize_l0_ok N) Try.func122 (by kernel_rfl) (d := 1) (ro := 1) fun l K r h => by
  split at h
  · exact (s_l01DrawSize_l0_s2_loop N _ _ _ _ _ _ _ _ _ _ _ _ K N _ _).trans h
  · cases h)

def A_s_l01DrawSize_l1 (α : Type) (N : Nat) : Env α := (E_s_l01DrawSize_l0_s2 α N).addAnn 122 14 { head := [1, 4, 5, 11, 12], grow := [], out := [4, 11], ret := [4] }
theorem A_s_l01DrawSize_l1_ok {α : Type} (N : Nat) : EnvOk Try.prog (A_s_l01DrawSize_l1 α N) := (E_s_l01DrawSize_l0_s2_ok N).addAnn

/-- spec.l01DrawSize, loop -/
def s_l01DrawSize_l1_s2_p : SPat := ⟨[.undef, .int .i64, .undef, .undef, .ptr ⟨⟨2, 0⟩, 0, 0, 1⟩, .ptr ⟨⟨3, 0⟩, 0, 0, 8⟩, .undef, .undef, .undef, .undef, .undef, .ptr ⟨⟨5, 0⟩, 0, 0, 1⟩, .int .i64] ++ List.replicate 61 .undef, [[.intsV .u8], [.vals [.sliceV 0 0 0 1 false, .int .i64, .int .u64]], [.vals [.int .i64], .ints .u8 8, .ints .u8 8], [.ints .u8 8], [.ints .u8 8], [.vals [.int .i64], .ints .u8 8, .ints .u8 8]]⟩
def s_l01DrawSize_l1_s2_o0 : SPat := ⟨[.undef, .undef, .undef, .undef, .ptr ⟨⟨2, 0⟩, 0, 0, 1⟩, .undef, .undef, .undef, .undef, .undef, .undef, .ptr ⟨⟨5, 0⟩, 0, 0, 1⟩] ++ List.replicate 62 .undef, [[.intsV .u8], [.vals [.sliceV 0 0 0 1 false, .int .i64, .int .u64]], [.vals [.int .i64], .ints .u8 8, .ints .u8 8], [.ints .u8 8], [.ints .u8 8], [.vals [.int .i64], .ints .u8 8, .ints .u8 8]]⟩
theorem s_l01DrawSize_l1_s2_round {α : Type} (N : Nat) (t1 : Int) (t12 : Int) (h0_n : Nat) (h0 : Nat → Int) (h1_0_n : Nat) (h1_0_l : Nat) (h1_0_c : Nat) (h1_1 : Int) (h1_2 : Int) (h2_0 : Int) (h2_1 : Nat → Int) (h2_2 : Nat → Int) (h3 : Nat → Int) (h4 : Nat → Int) (h5_0 : Int) (h5_1 : Nat → Int) (h5_2 : Nat → Int) (kn : St → Option α) (K : AExit → St → Option α) :
    roundK Try.prog (A_s_l01DrawSize_l1 α N) 1 1 122 Try.f122 14 6 (buildS s_l01DrawSize_l1_s2_p [.i t1, .i t12, .n h0_n, .f h0, .n h1_0_n, .n h1_0_l, .n h1_0_c, .i h1_1, .i h1_2, .i h2_0, .f h2_1, .f h2_2, .f h3, .f h4, .i h5_0, .f h5_1, .f h5_2]) kn K = s_l01DrawSize_l1_s2_s none t1 h0_n h0 h1_0_n h1_0_l h1_0_c h1_1 h1_2 h2_0 h2_1 h2_2 h3 h4 h5_0 h5_1 t12 h5_2 (fun t12 h5_2 => kn (buildS s_l01DrawSize_l1_s2_p [.i t1, .i t12, .n h0_n, .f h0, .n h1_0_n, .n h1_0_l, .n h1_0_c, .i h1_1, .i h1_2, .i h2_0, .f h2_1, .f h2_2, .f h3, .f h4, .i h5_0, .f h5_1, .f h5_2])) (fun h5_2_ => K (.exit 2) (buildS s_l01DrawSize_l1_s2_o0 [.n h0_n, .f h0, .n h1_0_n, .n h1_0_l, .n h1_0_c, .i h1_1, .i h1_2, .i h2_0, .f h2_1, .f h2_2, .f h3, .f h4, .i h5_0, .f h5_1, .f h5_2_])) := by kernel_rfl
theorem s_l01DrawSize_l1_s2_loop {α : Type} (N : Nat) (t1 : Int) (h0_n : Nat) (h0 : Nat → Int) (h1_0_n : Nat) (h1_0_l : Nat) (h1_0_c : Nat) (h1_1 : Int) (h1_2 : Int) (h2_0 : Int) (h2_1 : Nat → Int) (h2_2 : Nat → Int) (h3 : Nat → Int) (h4 : Nat → Int) (h5_0 : Int) (h5_1 : Nat → Int) (K : AExit → St → Option α) : ∀ (m : Nat) (t12 : Int) (h5_2 : Nat → Int),
    loopN (trimSt ((A_s_l01DrawSize_l1 α N).ann 122 14).head ((A_s_l01DrawSize_l1 α N).ann 122 14).grow 6) (bodyK Try.prog (A_s_l01DrawSize_l1 α N) 1 1 122 Try.f122 14) m (buildS s_l01DrawSize_l1_s2_p [.i t1, .i t12, .n h0_n, .f h0, .n h1_0_n, .n h1_0_l, .n h1_0_c, .i h1_1, .i h1_2, .i h2_0, .f h2_1, .f h2_2, .f h3, .f h4, .i h5_0, .f h5_1, .f h5_2]) (leaveLoop ((A_s_l01DrawSize_l1 α N).ann 122 14) 6 K) = s_l01DrawSize_l1_s2 none t1 h0_n h0 h1_0_n h1_0_l h1_0_c h1_1 h1_2 h2_0 h2_1 h2_2 h3 h4 h5_0 h5_1 m t12 h5_2 (fun h5_2_ => K (.exit 2) (buildS s_l01DrawSize_l1_s2_o0 [.n h0_n, .f h0, .n h1_0_n, .n h1_0_l, .n h1_0_c, .i h1_1, .i h1_2, .i h2_0, .f h2_1, .f h2_2, .f h3, .f h4, .i h5_0, .f h5_1, .f h5_2_])) := by
  intro m
  induction m with
  | zero => intros; rfl
  | succ m ih =>
    intro t12 h5_2
    rw [loopN_round]
    refine (s_l01DrawSize_l1_s2_round N t1 t12 h0_n h0 h1_0_n h1_0_l h1_0_c h1_1 h1_2 h2_0 h2_1 h2_2 h3 h4 h5_0 h5_1 h5_2 _ K).trans ?_
    simp only [ih]
    rfl
def E_s_l01DrawSize_l1_s2 (α : Type) (N : Nat) : Env α := (A_s_l01DrawSize_l1 α N).addLoop2 122 14 (loopSum2 ((A_s_l01DrawSize_l1 α N).ann 122 14) 1 s_l01DrawSize_l1_s2_p (fun l K => match l with
    | [.i t1, .i t12, .n h0_n, .f h0, .n h1_0_n, .n h1_0_l, .n h1_0_c, .i h1_1, .i h1_2, .i h2_0, .f h2_1, .f h2_2, .f h3, .f h4, .i h5_0, .f h5_1, .f h5_2] => s_l01DrawSize_l1_s2 none t1 h0_n h0 h1_0_n h1_0_l h1_0_c h1_1 h1_2 h2_0 h2_1 h2_2 h3 h4 h5_0 h5_1 N t12 h5_2 (fun h5_2_ => K (.exit 2) (buildS s_l01DrawSize_l1_s2_o0 [.n h0_n, .f h0, .n h1_0_n, .n h1_0_l, .n h1_0_c, .i h1_1, .i h1_2, .i h2_0, .f h2_1, .f h2_2, .f h3, .f h4, .i h5_0, .f h5_1, .f h5_2_]))
    | _ => none) ((A_s_l01DrawSize_l1 α N).ls 122 14))
theorem E_s_l01DrawSize_l1_s2_ok {α : Type} (N : Nat) : EnvOk Try.prog (E_s_l01DrawSize_l1_s2 α N) := (A_s_l01DrawSize_l1_ok N).addLoop2 Try.func122 (by kernel_rfl) (loopSum_ok prog_mixed prog_names (A_s_l01DrawSize_l1_ok N) Try.func122 (by kernel_rfl) (d := 1) (ro := 1) fun l K r h => by
  split at h
  · exact (s_l01DrawSize_l1_s2_loop N _ _ _ _ _ _ _ _ _ _ _ _ _ _ _ K N _ _).trans h
  · cases h)

/-- spec.l01DrawSize -/
def s_l01DrawSize_s2_a : SPat := ⟨[.ptr ⟨⟨1, 0⟩, 0, 0, 3⟩, .int .i64], [[.intsV .u8], [.vals [.sliceV 0 0 0 1 false, .int .i64, .int .u64]]]⟩
def s_l01DrawSize_s2_r0 : SPat := ⟨[.agg [.vals [.int .i64], .ints .u8 8, .ints .u8 8]], [[.intsV .u8], [.vals [.sliceV 0 0 0 1 false, .int .i64, .int .u64]]]⟩
theorem s_l01DrawSize_s2_run {α : Type} (N : Nat) (a1 : Int) (h0_n : Nat) (h0 : Nat → Int) (h1_0_n : Nat) (h1_0_l : Nat) (h1_0_c : Nat) (h1_1 : Int) (h1_2 : Int) (K : AV → Heap → Option α) :
    callK Try.prog (E_s_l01DrawSize_l1_s2 α N) 1 122 1 (buildS s_l01DrawSize_s2_a [.i a1, .n h0_n, .f h0, .n h1_0_n, .n h1_0_l, .n h1_0_c, .i h1_1, .i h1_2]).t (buildS s_l01DrawSize_s2_a [.i a1, .n h0_n, .f h0, .n h1_0_n, .n h1_0_l, .n h1_0_c, .i h1_1, .i h1_2]).h K = s_l01DrawSize_s2 none N a1 h0_n h0 h1_0_n h1_0_l h1_0_c h1_1 h1_2 (fun r_1_ r_2_ h1_1_ h1_2_ => retK (buildS s_l01DrawSize_s2_r0 [.i a1, .f r_1_, .f r_2_, .n h0_n, .f h0, .n h1_0_n, .n h1_0_l, .n h1_0_c, .i h1_1_, .i h1_2_]) K) := by kernel_rfl
def E_s_l01DrawSize_s2 (α : Type) (N : Nat) : Env α := (E_s_l01DrawSize_l1_s2 α N).addFun 122 false 1 s_l01DrawSize_s2_a (fun l K => match l with
    | [.i a1, .n h0_n, .f h0, .n h1_0_n, .n h1_0_l, .n h1_0_c, .i h1_1, .i h1_2] => s_l01DrawSize_s2 none N a1 h0_n h0 h1_0_n h1_0_l h1_0_c h1_1 h1_2 (fun r_1_ r_2_ h1_1_ h1_2_ => retK (buildS s_l01DrawSize_s2_r0 [.i a1, .f r_1_, .f r_2_, .n h0_n, .f h0, .n h1_0_n, .n h1_0_l, .n h1_0_c, .i h1_1_, .i h1_2_]) K)
    | _ => none)
theorem E_s_l01DrawSize_s2_ok {α : Type} (N : Nat) : EnvOk Try.prog (E_s_l01DrawSize_s2 α N) := (E_s_l01DrawSize_l1_s2_ok N).addFun prog_mixed prog_names (d := 1) fun l K r h => by
  split at h
  · exact (s_l01DrawSize_s2_run N _ _ _ _ _ _ _ _ K).trans h
  · cases h

/-- spec.l01Pick -/
def s_l01Pick_s4_a : SPat := ⟨[.ptr ⟨⟨1, 0⟩, 0, 0, 3⟩, .slice ⟨⟨2, 0⟩, 0, 0, 5⟩ 5 5 1 true], [[.intsV .u8], [.vals [.sliceV 0 0 0 1 false, .int .i64, .int .u64]], [.vec .i64]]⟩
def s_l01Pick_s4_r0 : SPat := ⟨[.int .i64], [[.intsV .u8], [.vals [.sliceV 0 0 0 1 false, .int .i64, .int .u64]], [.vec .i64]]⟩
theorem s_l01Pick_s4_run {α : Type} (N : Nat) (h0_n : Nat) (h0 : Nat → Int) (h1_0_n : Nat) (h1_0_l : Nat) (h1_0_c : Nat) (h1_1 : Int) (h1_2 : Int) (h2 : List Int) (K : AV → Heap → Option α) :
    callK Try.prog (E_s_l01DrawSize_s2 α N) 1 115 1 (buildS s_l01Pick_s4_a [.n h0_n, .f h0, .n h1_0_n, .n h1_0_l, .n h1_0_c, .i h1_1, .i h1_2, .l h2]).t (buildS s_l01Pick_s4_a [.n h0_n, .f h0, .n h1_0_n, .n h1_0_l, .n h1_0_c, .i h1_1, .i h1_2, .l h2]).h K = s_l01Pick_s4 none N h0_n h0 h1_0_n h1_0_l h1_0_c h1_1 h1_2 h2 (fun r__ h1_1_ h1_2_ => retK (buildS s_l01Pick_s4_r0 [.i r__, .n h0_n, .f h0, .n h1_0_n, .n h1_0_l, .n h1_0_c, .i h1_1_, .i h1_2_, .l h2]) K) := by kernel_rfl
def E_s_l01Pick_s4 (α : Type) (N : Nat) : Env α := (E_s_l01DrawSize_s2 α N).addFun 115 false 1 s_l01Pick_s4_a (fun l K => match l with
    | [.n h0_n, .f h0, .n h1_0_n, .n h1_0_l, .n h1_0_c, .i h1_1, .i h1_2, .l h2] => s_l01Pick_s4 none N h0_n h0 h1_0_n h1_0_l h1_0_c h1_1 h1_2 h2 (fun r__ h1_1_ h1_2_ => retK (buildS s_l01Pick_s4_r0 [.i r__, .n h0_n, .f h0, .n h1_0_n, .n h1_0_l, .n h1_0_c, .i h1_1_, .i h1_2_, .l h2]) K)
    | _ => none)
theorem E_s_l01Pick_s4_ok {α : Type} (N : Nat) : EnvOk Try.prog (E_s_l01Pick_s4 α N) := (E_s_l01DrawSize_s2_ok N).addFun prog_mixed prog_names (d := 1) fun l K r h => by
  split at h
  · exact (s_l01Pick_s4_run N _ _ _ _ _ _ _ _ K).trans h
  · cases h

def A_s_l01Draw_l0 (α : Type) (N : Nat) : Env α := (E_s_l01Pick_s4 α N).addAnn 192 7 { head := [0, 2, 3, 4, 5, 6], grow := [], out := [0, 2, 4, 5], ret := [2] }
theorem A_s_l01Draw_l0_ok {α : Type} (N : Nat) : EnvOk Try.prog (A_s_l01Draw_l0 α N) := (E_s_l01Pick_s4_ok N).addAnn

/-- spec.l01Draw, loop -/
def s_l01Draw_l0_s2_p : SPat := ⟨[.ptr ⟨⟨1, 0⟩, 0, 0, 3⟩, .undef, .ptr ⟨⟨2, 0⟩, 0, 0, 1⟩, .int .i64, .int .i64, .ptr ⟨⟨3, 0⟩, 0, 0, 1⟩, .int .i64] ++ List.replicate 55 .undef, [[.intsV .u8], [.vals [.sliceV 0 0 0 1 false, .int .i64, .int .u64]], [.vals [.int .i64], .ints .u8 8, .ints .u8 8], [.vals [.int .i64], .ints .u8 8, .ints .u8 8]]⟩
def s_l01Draw_l0_s2_o0 : SPat := ⟨[.ptr ⟨⟨1, 0⟩, 0, 0, 3⟩, .undef, .ptr ⟨⟨2, 0⟩, 0, 0, 1⟩, .undef, .int .i64, .ptr ⟨⟨3, 0⟩, 0, 0, 1⟩] ++ List.replicate 56 .undef, [[.intsV .u8], [.vals [.sliceV 0 0 0 1 false, .int .i64, .int .u64]], [.vals [.int .i64], .ints .u8 8, .ints .u8 8], [.vals [.int .i64], .ints .u8 8, .ints .u8 8]]⟩
theorem s_l01Draw_l0_s2_round {α : Type} (N : Nat) (p : Int) (n : Int) (i : Int) (h0_n : Nat) (h0 : Nat → Int) (h1_0_n : Nat) (h1_0_l : Nat) (h1_0_c : Nat) (h1_1 : Int) (h1_2 : Int) (h2_0 : Int) (h2_1 : Nat → Int) (h2_2 : Nat → Int) (h3_0 : Int) (h3_1 : Nat → Int) (h3_2 : Nat → Int) (kn : St → Option α) (K : AExit → St → Option α) :
    roundK Try.prog (A_s_l01Draw_l0 α N) 1 1 192 Try.f192 7 4 (buildS s_l01Draw_l0_s2_p [.i p, .i n, .i i, .n h0_n, .f h0, .n h1_0_n, .n h1_0_l, .n h1_0_c, .i h1_1, .i h1_2, .i h2_0, .f h2_1, .f h2_2, .i h3_0, .f h3_1, .f h3_2]) kn K = s_l01Draw_l0_s2_s none p n h0_n h0 h1_0_n h1_0_l h1_0_c h1_1 h1_2 h2_0 h2_1 h2_2 h3_0 i h3_1 h3_2 (fun i h3_1 h3_2 => kn (buildS s_l01Draw_l0_s2_p [.i p, .i n, .i i, .n h0_n, .f h0, .n h1_0_n, .n h1_0_l, .n h1_0_c, .i h1_1, .i h1_2, .i h2_0, .f h2_1, .f h2_2, .i h3_0, .f h3_1, .f h3_2])) (fun h3_1_ h3_2_ => K (.exit 1) (buildS s_l01Draw_l0_s2_o0 [.i n, .n h0_n, .f h0, .n h1_0_n, .n h1_0_l, .n h1_0_c, .i h1_1, .i h1_2, .i h2_0, .f h2_1, .f h2_2, .i h3_0, .f h3_1_, .f h3_2_])) := by kernel_rfl
theorem s_l01Draw_l0_s2_loop {α : Type} (N : Nat) (p : Int) (n : Int) (h0_n : Nat) (h0 : Nat → Int) (h1_0_n : Nat) (h1_0_l : Nat) (h1_0_c : Nat) (h1_1 : Int) (h1_2 : Int) (h2_0 : Int) (h2_1 : Nat → Int) (h2_2 : Nat → Int) (h3_0 : Int) (K : AExit → St → Option α) : ∀ (m : Nat) (i : Int) (h3_1 : Nat → Int) (h3_2 : Nat → Int),
    loopN (trimSt ((A_s_l01Draw_l0 α N).ann 192 7).head ((A_s_l01Draw_l0 α N).ann 192 7).grow 4) (bodyK Try.prog (A_s_l01Draw_l0 α N) 1 1 192 Try.f192 7) m (buildS s_l01Draw_l0_s2_p [.i p, .i n, .i i, .n h0_n, .f h0, .n h1_0_n, .n h1_0_l, .n h1_0_c, .i h1_1, .i h1_2, .i h2_0, .f h2_1, .f h2_2, .i h3_0, .f h3_1, .f h3_2]) (leaveLoop ((A_s_l01Draw_l0 α N).ann 192 7) 4 K) = s_l01Draw_l0_s2 none p n h0_n h0 h1_0_n h1_0_l h1_0_c h1_1 h1_2 h2_0 h2_1 h2_2 h3_0 m i h3_1 h3_2 (fun h3_1_ h3_2_ => K (.exit 1) (buildS s_l01Draw_l0_s2_o0 [.i n, .n h0_n, .f h0, .n h1_0_n, .n h1_0_l, .n h1_0_c, .i h1_1, .i h1_2, .i h2_0, .f h2_1, .f h2_2, .i h3_0, .f h3_1_, .f h3_2_])) := by
  intro m
  induction m with
  | zero => intros; rfl
  | succ m ih =>
    intro i h3_1 h3_2
    rw [loopN_round]
    refine (s_l01Draw_l0_s2_round N p n i h0_n h0 h1_0_n h1_0_l h1_0_c h1_1 h1_2 h2_0 h2_1 h2_2 h3_0 h3_1 h3_2 _ K).trans ?_
    simp only [ih]
    rfl
def E_s_l01Draw_l0_s2 (α : Type) (N : Nat) : Env α := (A_s_l01Draw_l0 α N).addLoop2 192 7 (loopSum2 ((A_s_l01Draw_l0 α N).ann 192 7) 1 s_l01Draw_l0_s2_p (fun l K => match l with
    | [.i p, .i n, .i i, .n h0_n, .f h0, .n h1_0_n, .n h1_0_l, .n h1_0_c, .i h1_1, .i h1_2, .i h2_0, .f h2_1, .f h2_2, .i h3_0, .f h3_1, .f h3_2] => s_l01Draw_l0_s2 none p n h0_n h0 h1_0_n h1_0_l h1_0_c h1_1 h1_2 h2_0 h2_1 h2_2 h3_0 N i h3_1 h3_2 (fun h3_1_ h3_2_ => K (.exit 1) (buildS s_l01Draw_l0_s2_o0 [.i n, .n h0_n, .f h0, .n h1_0_n, .n h1_0_l, .n h1_0_c, .i h1_1, .i h1_2, .i h2_0, .f h2_1, .f h2_2, .i h3_0, .f h3_1_, .f h3_2_]))
    | _ => none) ((A_s_l01Draw_l0 α N).ls 192 7))
theorem E_s_l01Draw_l0_s2_ok {α : Type} (N : Nat) : EnvOk Try.prog (E_s_l01Draw_l0_s2 α N) := (A_s_l01Draw_l0_ok N).addLoop2 Try.func192 (by kernel_rfl) (loopSum_ok prog_mixed prog_names (A_s_l01Draw_l0_ok N) Try.func192 (by kernel_rfl) (d := 1) (ro := 1) fun l K r h => by
  split at h
  · exact (s_l01Draw_l0_s2_loop N _ _ _ _ _ _ _ _ _ _ _ _ _ K N _ _ _).trans h
  · cases h)

def A_s_l01Rolled_l0 (α : Type) (N : Nat) : Env α := (E_s_l01Draw_l0_s2 α N).addAnn 120 3 { head := [1, 2, 3, 6, 7, 8, 9], grow := [], out := [6, 8], ret := [6] }
theorem A_s_l01Rolled_l0_ok {α : Type} (N : Nat) : EnvOk Try.prog (A_s_l01Rolled_l0 α N) := (E_s_l01Draw_l0_s2_ok N).addAnn

/-- spec.l01Rolled, loop -/
def s_l01Rolled_l0_p : SPat := ⟨[.undef, .int .i64, .int .i64, .ptr ⟨⟨0, 0⟩, 0, 0, 1⟩, .undef, .undef, .ptr ⟨⟨1, 0⟩, 0, 0, 1⟩, .int .i64, .ptr ⟨⟨2, 0⟩, 0, 0, 1⟩, .int .i64] ++ List.replicate 55 .undef, [[.vals [.int .i64], .ints .u8 8, .ints .u8 8], [.vals [.int .i64], .ints .u8 8, .ints .u8 8], [.vals [.int .i64], .ints .u8 8, .ints .u8 8]]⟩
def s_l01Rolled_l0_o0 : SPat := ⟨[.undef, .undef, .undef, .undef, .undef, .undef, .ptr ⟨⟨1, 0⟩, 0, 0, 1⟩, .undef, .ptr ⟨⟨2, 0⟩, 0, 0, 1⟩] ++ List.replicate 56 .undef, [[.vals [.int .i64], .ints .u8 8, .ints .u8 8], [.vals [.int .i64], .ints .u8 8, .ints .u8 8], [.vals [.int .i64], .ints .u8 8, .ints .u8 8]]⟩
theorem s_l01Rolled_l0_round {α : Type} (N : Nat) (t1 : Int) (t2 : Int) (t7 : Int) (t9 : Int) (h0_0 : Int) (h0_1 : Nat → Int) (h0_2 : Nat → Int) (h1_0 : Int) (h1_1 : Nat → Int) (h1_2 : Nat → Int) (h2_0 : Int) (h2_1 : Nat → Int) (h2_2 : Nat → Int) (kn : St → Option α) (K : AExit → St → Option α) :
    roundK Try.prog (A_s_l01Rolled_l0 α N) 1 0 120 Try.f120 3 3 (buildS s_l01Rolled_l0_p [.i t1, .i t2, .i t7, .i t9, .i h0_0, .f h0_1, .f h0_2, .i h1_0, .f h1_1, .f h1_2, .i h2_0, .f h2_1, .f h2_2]) kn K = s_l01Rolled_l0_s none t1 t2 t7 h0_0 h0_1 h0_2 h1_0 h1_1 h1_2 h2_0 t9 h2_1 h2_2 (fun t9 h2_1 h2_2 => kn (buildS s_l01Rolled_l0_p [.i t1, .i t2, .i t7, .i t9, .i h0_0, .f h0_1, .f h0_2, .i h1_0, .f h1_1, .f h1_2, .i h2_0, .f h2_1, .f h2_2])) (fun h2_1_ h2_2_ => K (.exit 0) (buildS s_l01Rolled_l0_o0 [.i h0_0, .f h0_1, .f h0_2, .i h1_0, .f h1_1, .f h1_2, .i h2_0, .f h2_1_, .f h2_2_])) := by kernel_rfl
theorem s_l01Rolled_l0_loop {α : Type} (N : Nat) (t1 : Int) (t2 : Int) (t7 : Int) (h0_0 : Int) (h0_1 : Nat → Int) (h0_2 : Nat → Int) (h1_0 : Int) (h1_1 : Nat → Int) (h1_2 : Nat → Int) (h2_0 : Int) (K : AExit → St → Option α) : ∀ (m : Nat) (t9 : Int) (h2_1 : Nat → Int) (h2_2 : Nat → Int),
    loopN (trimSt ((A_s_l01Rolled_l0 α N).ann 120 3).head ((A_s_l01Rolled_l0 α N).ann 120 3).grow 3) (bodyK Try.prog (A_s_l01Rolled_l0 α N) 1 0 120 Try.f120 3) m (buildS s_l01Rolled_l0_p [.i t1, .i t2, .i t7, .i t9, .i h0_0, .f h0_1, .f h0_2, .i h1_0, .f h1_1, .f h1_2, .i h2_0, .f h2_1, .f h2_2]) (leaveLoop ((A_s_l01Rolled_l0 α N).ann 120 3) 3 K) = s_l01Rolled_l0 none t1 t2 t7 h0_0 h0_1 h0_2 h1_0 h1_1 h1_2 h2_0 m t9 h2_1 h2_2 (fun h2_1_ h2_2_ => K (.exit 0) (buildS s_l01Rolled_l0_o0 [.i h0_0, .f h0_1, .f h0_2, .i h1_0, .f h1_1, .f h1_2, .i h2_0, .f h2_1_, .f h2_2_])) := by
  intro m
  induction m with
  | zero => intros; rfl
  | succ m ih =>
    intro t9 h2_1 h2_2
    rw [loopN_round]
    refine (s_l01Rolled_l0_round N t1 t2 t7 t9 h0_0 h0_1 h0_2 h1_0 h1_1 h1_2 h2_0 h2_1 h2_2 _ K).trans ?_
    simp only [ih]
    rfl
def E_s_l01Rolled_l0 (α : Type) (N : Nat) : Env α := (A_s_l01Rolled_l0 α N).addLoop2 120 3 (loopSum2 ((A_s_l01Rolled_l0 α N).ann 120 3) 0 s_l01Rolled_l0_p (fun l K => match l with
    | [.i t1, .i t2, .i t7, .i t9, .i h0_0, .f h0_1, .f h0_2, .i h1_0, .f h1_1, .f h1_2, .i h2_0, .f h2_1, .f h2_2] => s_l01Rolled_l0 none t1 t2 t7 h0_0 h0_1 h0_2 h1_0 h1_1 h1_2 h2_0 N t9 h2_1 h2_2 (fun h2_1_ h2_2_ => K (.exit 0) (buildS s_l01Rolled_l0_o0 [.i h0_0, .f h0_1, .f h0_2, .i h1_0, .f h1_1, .f h1_2, .i h2_0, .f h2_1_, .f h2_2_]))
    | _ => none) ((A_s_l01Rolled_l0 α N).ls 120 3))
theorem E_s_l01Rolled_l0_ok {α : Type} (N : Nat) : EnvOk Try.prog (E_s_l01Rolled_l0 α N) := (A_s_l01Rolled_l0_ok N).addLoop2 Try.func120 (by kernel_rfl) (loopSum_ok prog_mixed prog_names (A_s_l01Rolled_l0_ok N) Try.func120 (by kernel_rfl) (d := 1) (ro := 0) fun l K r h => by
  split at h
  · exact (s_l01Rolled_l0_loop N _ _ _ _ _ _ _ _ _ _ K N _ _ _).trans h
  · cases h)

/-- spec.l01Rolled -/
def s_l01Rolled_a : SPat := ⟨[.agg [.vals [.int .i64], .ints .u8 8, .ints .u8 8], .int .i64, .int .i64], []⟩
def s_l01Rolled_r0 : SPat := ⟨[.agg [.vals [.int .i64], .ints .u8 8, .ints .u8 8]], []⟩
theorem s_l01Rolled_run {α : Type} (N : Nat) (g_0 : Int) (g_1 : Nat → Int) (g_2 : Nat → Int) (a1 : Int) (a2 : Int) (K : AV → Heap → Option α) :
    callK Try.prog (E_s_l01Rolled_l0 α N) 1 120 0 (buildS s_l01Rolled_a [.i g_0, .f g_1, .f g_2, .i a1, .i a2]).t (buildS s_l01Rolled_a [.i g_0, .f g_1, .f g_2, .i a1, .i a2]).h K = s_l01Rolled none N g_0 g_1 g_2 a1 a2 (fun r_1_ r_2_ => retK (buildS s_l01Rolled_r0 [.i g_0, .f r_1_, .f r_2_]) K) := by kernel_rfl
def E_s_l01Rolled (α : Type) (N : Nat) : Env α := (E_s_l01Rolled_l0 α N).addFun 120 true 0 s_l01Rolled_a (fun l K => match l with
    | [.i g_0, .f g_1, .f g_2, .i a1, .i a2] => s_l01Rolled none N g_0 g_1 g_2 a1 a2 (fun r_1_ r_2_ => retK (buildS s_l01Rolled_r0 [.i g_0, .f r_1_, .f r_2_]) K)
    | _ => none)
theorem E_s_l01Rolled_ok {α : Type} (N : Nat) : EnvOk Try.prog (E_s_l01Rolled α N) := (E_s_l01Rolled_l0_ok N).addFun prog_mixed prog_names (d := 1) fun l K r h => by
  split at h
  · exact (s_l01Rolled_run N _ _ _ _ _ K).trans h
  · cases h

/-- spec.l01Draw -/
def s_l01Draw_s2_a : SPat := ⟨[.ptr ⟨⟨1, 0⟩, 0, 0, 3⟩], [[.intsV .u8], [.vals [.sliceV 0 0 0 1 false, .int .i64, .int .u64]]]⟩
def s_l01Draw_s2_r0 : SPat := ⟨[.agg [.vals [.int .i64], .ints .u8 8, .ints .u8 8]], [[.intsV .u8], [.vals [.sliceV 0 0 0 1 false, .int .i64, .int .u64]]]⟩
theorem s_l01Draw_s2_run {α : Type} (N : Nat) (h0_n : Nat) (h0 : Nat → Int) (h1_0_n : Nat) (h1_0_l : Nat) (h1_0_c : Nat) (h1_1 : Int) (h1_2 : Int) (K : AV → Heap → Option α) :
    callK Try.prog (E_s_l01Rolled α N) 1 192 1 (buildS s_l01Draw_s2_a [.n h0_n, .f h0, .n h1_0_n, .n h1_0_l, .n h1_0_c, .i h1_1, .i h1_2]).t (buildS s_l01Draw_s2_a [.n h0_n, .f h0, .n h1_0_n, .n h1_0_l, .n h1_0_c, .i h1_1, .i h1_2]).h K = s_l01Draw_s2 none N h0_n h0 h1_0_n h1_0_l h1_0_c h1_1 h1_2 (fun r_0_ r_1_ r_2_ h1_1_ h1_2_ => retK (buildS s_l01Draw_s2_r0 [.i r_0_, .f r_1_, .f r_2_, .n h0_n, .f h0, .n h1_0_n, .n h1_0_l, .n h1_0_c, .i h1_1_, .i h1_2_]) K) := by kernel_rfl
def E_s_l01Draw_s2 (α : Type) (N : Nat) : Env α := (E_s_l01Rolled α N).addFun 192 false 1 s_l01Draw_s2_a (fun l K => match l with
    | [.n h0_n, .f h0, .n h1_0_n, .n h1_0_l, .n h1_0_c, .i h1_1, .i h1_2] => s_l01Draw_s2 none N h0_n h0 h1_0_n h1_0_l h1_0_c h1_1 h1_2 (fun r_0_ r_1_ r_2_ h1_1_ h1_2_ => retK (buildS s_l01Draw_s2_r0 [.i r_0_, .f r_1_, .f r_2_, .n h0_n, .f h0, .n h1_0_n, .n h1_0_l, .n h1_0_c, .i h1_1_, .i h1_2_]) K)
    | _ => none)
theorem E_s_l01Draw_s2_ok {α : Type} (N : Nat) : EnvOk Try.prog (E_s_l01Draw_s2 α N) := (E_s_l01Rolled_ok N).addFun prog_mixed prog_names (d := 1) fun l K r h => by
  split at h
  · exact (s_l01Draw_s2_run N _ _ _ _ _ _ _ K).trans h
  · cases h

def A_s_l02Draw_l0 (α : Type) (N : Nat) : Env α := (E_s_l01Draw_s2 α N).addAnn 214 3 { head := [0, 2, 3, 4], grow := [], out := [2, 3], ret := [2] }
theorem A_s_l02Draw_l0_ok {α : Type} (N : Nat) : EnvOk Try.prog (A_s_l02Draw_l0 α N) := (E_s_l01Draw_s2_ok N).addAnn

def A_s_l02Stabilize_l0 (α : Type) (N : Nat) : Env α := (A_s_l02Draw_l0 α N).addAnn 211 8 { head := [1, 2, 3, 4, 5, 10, 11, 12, 13, 14, 15, 16], grow := [], out := [1, 2, 3, 4, 5, 10, 12, 13, 14, 15], ret := [10] }
theorem A_s_l02Stabilize_l0_ok {α : Type} (N : Nat) : EnvOk Try.prog (A_s_l02Stabilize_l0 α N) := (A_s_l02Draw_l0_ok N).addAnn

/-- spec.l02Lifted -/
def s_l02Lifted_a : SPat := ⟨[.int .u8, .int .i64, .int .i64], []⟩
def s_l02Lifted_r0 : SPat := ⟨[.int .u8], []⟩
theorem s_l02Lifted_run {α : Type} (N : Nat) (row : Int) (r_ : Int) (upper : Int) (K : AV → Heap → Option α) :
    callK Try.prog (A_s_l02Stabilize_l0 α N) 1 221 0 (buildS s_l02Lifted_a [.i row, .i r_, .i upper]).t (buildS s_l02Lifted_a [.i row, .i r_, .i upper]).h K = s_l02Lifted none N row r_ upper (fun r__ => retK (buildS s_l02Lifted_r0 [.i r__]) K) := by kernel_rfl
def E_s_l02Lifted (α : Type) (N : Nat) : Env α := (A_s_l02Stabilize_l0 α N).addFun 221 true 0 s_l02Lifted_a (fun l K => match l with
    | [.i row, .i r_, .i upper] => s_l02Lifted none N row r_ upper (fun r__ => retK (buildS s_l02Lifted_r0 [.i r__]) K)
    | _ => none)
theorem E_s_l02Lifted_ok {α : Type} (N : Nat) : EnvOk Try.prog (E_s_l02Lifted α N) := (A_s_l02Stabilize_l0_ok N).addFun prog_mixed prog_names (d := 1) fun l K r h => by
  split at h
  · exact (s_l02Lifted_run N _ _ _ K).trans h
  · cases h

/-- spec.l02Stabilize, loop -/
def s_l02Stabilize_l0_p : SPat := ⟨[.undef, .int .i64, .int .i64, .int .i64, .int .i64, .ptr ⟨⟨0, 0⟩, 0, 0, 1⟩, .undef, .undef, .undef, .undef, .ptr ⟨⟨1, 0⟩, 0, 0, 1⟩, .ptr ⟨⟨2, 0⟩, 0, 0, 8⟩, .ptr ⟨⟨3, 0⟩, 0, 0, 8⟩, .int .i64, .ptr ⟨⟨4, 0⟩, 0, 0, 8⟩, .ptr ⟨⟨5, 0⟩, 0, 0, 8⟩, .int .i64] ++ List.replicate 100 .undef, [[.vals [.int .i64], .ints .u8 8, .ints .u8 8], [.vals [.int .i64], .ints .u8 8, .ints .u8 8], [.ints .u8 8], [.ints .u8 8], [.ints .u8 8], [.ints .u8 8]]⟩
def s_l02Stabilize_l0_o0 : SPat := ⟨[.undef, .int .i64, .int .i64, .int .i64, .int .i64, .ptr ⟨⟨0, 0⟩, 0, 0, 1⟩, .undef, .undef, .undef, .undef, .ptr ⟨⟨1, 0⟩, 0, 0, 1⟩, .undef, .ptr ⟨⟨3, 0⟩, 0, 0, 8⟩, .int .i64, .ptr ⟨⟨4, 0⟩, 0, 0, 8⟩, .ptr ⟨⟨5, 0⟩, 0, 0, 8⟩] ++ List.replicate 101 .undef, [[.vals [.int .i64], .ints .u8 8, .ints .u8 8], [.vals [.int .i64], .ints .u8 8, .ints .u8 8], [.ints .u8 8], [.ints .u8 8], [.ints .u8 8], [.ints .u8 8]]⟩
theorem s_l02Stabilize_l0_round {α : Type} (N : Nat) (t1 : Int) (t2 : Int) (t3 : Int) (t4 : Int) (t13 : Int) (t16 : Int) (h0_0 : Int) (h0_1 : Nat → Int) (h0_2 : Nat → Int) (h1_0 : Int) (h1_1 : Nat → Int) (h1_2 : Nat → Int) (h2 : Nat → Int) (h3 : Nat → Int) (h4 : Nat → Int) (h5 : Nat → Int) (kn : St → Option α) (K : AExit → St → Option α) :
    roundK Try.prog (E_s_l02Lifted α N) 1 0 211 Try.f211 8 6 (buildS s_l02Stabilize_l0_p [.i t1, .i t2, .i t3, .i t4, .i t13, .i t16, .i h0_0, .f h0_1, .f h0_2, .i h1_0, .f h1_1, .f h1_2, .f h2, .f h3, .f h4, .f h5]) kn K = s_l02Stabilize_l0_s none N t1 t2 t3 t4 t13 h0_0 h0_1 h0_2 h1_0 h1_1 h1_2 h2 h3 t16 h4 h5 (fun t16 h4 h5 => kn (buildS s_l02Stabilize_l0_p [.i t1, .i t2, .i t3, .i t4, .i t13, .i t16, .i h0_0, .f h0_1, .f h0_2, .i h1_0, .f h1_1, .f h1_2, .f h2, .f h3, .f h4, .f h5])) (fun h4_ h5_ => K (.exit 0) (buildS s_l02Stabilize_l0_o0 [.i t1, .i t2, .i t3, .i t4, .i t13, .i h0_0, .f h0_1, .f h0_2, .i h1_0, .f h1_1, .f h1_2, .f h2, .f h3, .f h4_, .f h5_])) := by kernel_rfl
theorem s_l02Stabilize_l0_loop {α : Type} (N : Nat) (t1 : Int) (t2 : Int) (t3 : Int) (t4 : Int) (t13 : Int) (h0_0 : Int) (h0_1 : Nat → Int) (h0_2 : Nat → Int) (h1_0 : Int) (h1_1 : Nat → Int) (h1_2 : Nat → Int) (h2 : Nat → Int) (h3 : Nat → Int) (K : AExit → St → Option α) : ∀ (m : Nat) (t16 : Int) (h4 : Nat → Int) (h5 : Nat → Int),
    loopN (trimSt ((E_s_l02Lifted α N).ann 211 8).head ((E_s_l02Lifted α N).ann 211 8).grow 6) (bodyK Try.prog (E_s_l02Lifted α N) 1 0 211 Try.f211 8) m (buildS s_l02Stabilize_l0_p [.i t1, .i t2, .i t3, .i t4, .i t13, .i t16, .i h0_0, .f h0_1, .f h0_2, .i h1_0, .f h1_1, .f h1_2, .f h2, .f h3, .f h4, .f h5]) (leaveLoop ((E_s_l02Lifted α N).ann 211 8) 6 K) = s_l02Stabilize_l0 none N t1 t2 t3 t4 t13 h0_0 h0_1 h0_2 h1_0 h1_1 h1_2 h2 h3 m t16 h4 h5 (fun h4_ h5_ => K (.exit 0) (buildS s_l02Stabilize_l0_o0 [.i t1, .i t2, .i t3, .i t4, .i t13, .i h0_0, .f h0_1, .f h0_2, .i h1_0, .f h1_1, .f h1_2, .f h2, .f h3, .f h4_, .f h5_])) := by
  intro m
  induction m with
  | zero => intros; rfl
  | succ m ih =>
    intro t16 h4 h5
    rw [loopN_round]
    refine (s_l02Stabilize_l0_round N t1 t2 t3 t4 t13 t16 h0_0 h0_1 h0_2 h1_0 h1_1 h1_2 h2 h3 h4 h5 _ K).trans ?_
    simp only [ih]
    rfl
def E_s_l02Stabilize_l0 (α : Type) (N : Nat) : Env α := (E_s_l02Lifted α N).addLoop2 211 8 (loopSum2 ((E_s_l02Lifted α N).ann 211 8) 0 s_l02Stabilize_l0_p (fun l K => match l with
    | [.i t1, .i t2, .i t3, .i t4, .i t13, .i t16, .i h0_0, .f h0_1, .f h0_2, .i h1_0, .f h1_1, .f h1_2, .f h2, .f h3, .f h4, .f h5] => s_l02Stabilize_l0 none N t1 t2 t3 t4 t13 h0_0 h0_1 h0_2 h1_0 h1_1 h1_2 h2 h3 N t16 h4 h5 (fun h4_ h5_ => K (.exit 0) (buildS s_l02Stabilize_l0_o0 [.i t1, .i t2, .i t3, .i t4, .i t13, .i h0_0, .f h0_1, .f h0_2, .i h1_0, .f h1_1, .f h1_2, .f h2, .f h3, .f h4_, .f h5_]))
    | _ => none) ((E_s_l02Lifted α N).ls 211 8))
theorem E_s_l02Stabilize_l0_ok {α : Type} (N : Nat) : EnvOk Try.prog (E_s_l02Stabilize_l0 α N) := (E_s_l02Lifted_ok N).addLoop2 Try.func211 (by kernel_rfl) (loopSum_ok prog_mixed prog_names (E_s_l02Lifted_ok N) Try.func211 (by kernel_rfl) (d := 1) (ro := 0) fun l K r h => by
  split at h
  · exact (s_l02Stabilize_l0_loop N _ _ _ _ _ _ _ _ _ _ _ _ _ K N _ _ _).trans h
  · cases h)

/-- spec.l02Stabilize -/
def s_l02Stabilize_a : SPat := ⟨[.agg [.vals [.int .i64], .ints .u8 8, .ints .u8 8], .int .i64, .int .i64, .int .i64, .int .i64], []⟩
def s_l02Stabilize_r0 : SPat := ⟨[.agg [.vals [.int .i64], .ints .u8 8, .ints .u8 8]], []⟩
theorem s_l02Stabilize_run {α : Type} (N : Nat) (g_0 : Int) (g_1 : Nat → Int) (g_2 : Nat → Int) (a1 : Int) (a2 : Int) (a3 : Int) (a4 : Int) (K : AV → Heap → Option α) :
    callK Try.prog (E_s_l02Stabilize_l0 α N) 1 211 0 (buildS s_l02Stabilize_a [.i g_0, .f g_1, .f g_2, .i a1, .i a2, .i a3, .i a4]).t (buildS s_l02Stabilize_a [.i g_0, .f g_1, .f g_2, .i a1, .i a2, .i a3, .i a4]).h K = s_l02Stabilize none N g_0 g_1 g_2 a1 a2 a3 a4 (fun r_0_ r_1_ r_2_ => retK (buildS s_l02Stabilize_r0 [.i r_0_, .f r_1_, .f r_2_]) K) := by kernel_rfl
def E_s_l02Stabilize (α : Type) (N : Nat) : Env α := (E_s_l02Stabilize_l0 α N).addFun 211 true 0 s_l02Stabilize_a (fun l K => match l with
    | [.i g_0, .f g_1, .f g_2, .i a1, .i a2, .i a3, .i a4] => s_l02Stabilize none N g_0 g_1 g_2 a1 a2 a3 a4 (fun r_0_ r_1_ r_2_ => retK (buildS s_l02Stabilize_r0 [.i r_0_, .f r_1_, .f r_2_]) K)
    | _ => none)
theorem E_s_l02Stabilize_ok {α : Type} (N : Nat) : EnvOk Try.prog (E_s_l02Stabilize α N) := (E_s_l02Stabilize_l0_ok N).addFun prog_mixed prog_names (d := 1) fun l K r h => by
  split at h
  · exact (s_l02Stabilize_run N _ _ _ _ _ _ _ K).trans h
  · cases h

/-- spec.l02Draw, loop -/
def s_l02Draw_l0_s2_p : SPat := ⟨[.ptr ⟨⟨1, 0⟩, 0, 0, 3⟩, .undef, .ptr ⟨⟨2, 0⟩, 0, 0, 1⟩, .ptr ⟨⟨3, 0⟩, 0, 0, 1⟩, .int .i64] ++ List.replicate 26 .undef, [[.intsV .u8], [.vals [.sliceV 0 0 0 1 false, .int .i64, .int .u64]], [.vals [.int .i64], .ints .u8 8, .ints .u8 8], [.vals [.int .i64], .ints .u8 8, .ints .u8 8]]⟩
def s_l02Draw_l0_s2_o0 : SPat := ⟨[.undef, .undef, .ptr ⟨⟨2, 0⟩, 0, 0, 1⟩, .ptr ⟨⟨3, 0⟩, 0, 0, 1⟩] ++ List.replicate 27 .undef, [[.intsV .u8], [.vals [.sliceV 0 0 0 1 false, .int .i64, .int .u64]], [.vals [.int .i64], .ints .u8 8, .ints .u8 8], [.vals [.int .i64], .ints .u8 8, .ints .u8 8]]⟩
theorem s_l02Draw_l0_s2_round {α : Type} (N : Nat) (k : Int) (h0_n : Nat) (h0 : Nat → Int) (h1_0_n : Nat) (h1_0_l : Nat) (h1_0_c : Nat) (h1_1 : Int) (h1_2 : Int) (h2_0 : Int) (h2_1 : Nat → Int) (h2_2 : Nat → Int) (h3_0 : Int) (h3_1 : Nat → Int) (h3_2 : Nat → Int) (kn : St → Option α) (K : AExit → St → Option α) :
    roundK Try.prog (E_s_l02Stabilize α N) 1 1 214 Try.f214 3 4 (buildS s_l02Draw_l0_s2_p [.i k, .n h0_n, .f h0, .n h1_0_n, .n h1_0_l, .n h1_0_c, .i h1_1, .i h1_2, .i h2_0, .f h2_1, .f h2_2, .i h3_0, .f h3_1, .f h3_2]) kn K = s_l02Draw_l0_s2_s none N h0_n h0 h1_0_n h1_0_l h1_0_c h2_0 h2_1 h2_2 k h1_1 h1_2 h3_0 h3_1 h3_2 (fun k h1_1 h1_2 h3_0 h3_1 h3_2 => kn (buildS s_l02Draw_l0_s2_p [.i k, .n h0_n, .f h0, .n h1_0_n, .n h1_0_l, .n h1_0_c, .i h1_1, .i h1_2, .i h2_0, .f h2_1, .f h2_2, .i h3_0, .f h3_1, .f h3_2])) (fun h1_1_ h1_2_ h3_0_ h3_1_ h3_2_ => K (.exit 0) (buildS s_l02Draw_l0_s2_o0 [.n h0_n, .f h0, .n h1_0_n, .n h1_0_l, .n h1_0_c, .i h1_1_, .i h1_2_, .i h2_0, .f h2_1, .f h2_2, .i h3_0_, .f h3_1_, .f h3_2_])) := by kernel_rfl
theorem s_l02Draw_l0_s2_loop {α : Type} (N : Nat) (h0_n : Nat) (h0 : Nat → Int) (h1_0_n : Nat) (h1_0_l : Nat) (h1_0_c : Nat) (h2_0 : Int) (h2_1 : Nat → Int) (h2_2 : Nat → Int) (K : AExit → St → Option α) : ∀ (m : Nat) (k : Int) (h1_1 : Int) (h1_2 : Int) (h3_0 : Int) (h3_1 : Nat → Int) (h3_2 : Nat → Int),
    loopN (trimSt ((E_s_l02Stabilize α N).ann 214 3).head ((E_s_l02Stabilize α N).ann 214 3).grow 4) (bodyK Try.prog (E_s_l02Stabilize α N) 1 1 214 Try.f214 3) m (buildS s_l02Draw_l0_s2_p [.i k, .n h0_n, .f h0, .n h1_0_n, .n h1_0_l, .n h1_0_c, .i h1_1, .i h1_2, .i h2_0, .f h2_1, .f h2_2, .i h3_0, .f h3_1, .f h3_2]) (leaveLoop ((E_s_l02Stabilize α N).ann 214 3) 4 K) = s_l02Draw_l0_s2 none N h0_n h0 h1_0_n h1_0_l h1_0_c h2_0 h2_1 h2_2 m k h1_1 h1_2 h3_0 h3_1 h3_2 (fun h1_1_ h1_2_ h3_0_ h3_1_ h3_2_ => K (.exit 0) (buildS s_l02Draw_l0_s2_o0 [.n h0_n, .f h0, .n h1_0_n, .n h1_0_l, .n h1_0_c, .i h1_1_, .i h1_2_, .i h2_0, .f h2_1, .f h2_2, .i h3_0_, .f h3_1_, .f h3_2_])) := by
  intro m
  induction m with
  | zero => intros; rfl
  | succ m ih =>
    intro k h1_1 h1_2 h3_0 h3_1 h3_2
    rw [loopN_round]
    refine (s_l02Draw_l0_s2_round N k h0_n h0 h1_0_n h1_0_l h1_0_c h1_1 h1_2 h2_0 h2_1 h2_2 h3_0 h3_1 h3_2 _ K).trans ?_
    simp only [ih]
    rfl
def E_s_l02Draw_l0_s2 (α : Type) (N : Nat) : Env α := (E_s_l02Stabilize α N).addLoop2 214 3 (loopSum2 ((E_s_l02Stabilize α N).ann 214 3) 1 s_l02Draw_l0_s2_p (fun l K => match l with
    | [.i k, .n h0_n, .f h0, .n h1_0_n, .n h1_0_l, .n h1_0_c, .i h1_1, .i h1_2, .i h2_0, .f h2_1, .f h2_2, .i h3_0, .f h3_1, .f h3_2] => s_l02Draw_l0_s2 none N h0_n h0 h1_0_n h1_0_l h1_0_c h2_0 h2_1 h2_2 N k h1_1 h1_2 h3_0 h3_1 h3_2 (fun h1_1_ h1_2_ h3_0_ h3_1_ h3_2_ => K (.exit 0) (buildS s_l02Draw_l0_s2_o0 [.n h0_n, .f h0, .n h1_0_n, .n h1_0_l, .n h1_0_c, .i h1_1_, .i h1_2_, .i h2_0, .f h2_1, .f h2_2, .i h3_0_, .f h3_1_, .f h3_2_]))
    | _ => none) ((E_s_l02Stabilize α N).ls 214 3))
theorem E_s_l02Draw_l0_s2_ok {α : Type} (N : Nat) : EnvOk Try.prog (E_s_l02Draw_l0_s2 α N) := (E_s_l02Stabilize_ok N).addLoop2 Try.func214 (by kernel_rfl) (loopSum_ok prog_mixed prog_names (E_s_l02Stabilize_ok N) Try.func214 (by kernel_rfl) (d := 1) (ro := 1) fun l K r h => by
  split at h
  · exact (s_l02Draw_l0_s2_loop N _ _ _ _ _ _ _ _ K N _ _ _ _ _ _).trans h
  · cases h)

/-- spec.l02Draw -/
def s_l02Draw_s2_a : SPat := ⟨[.ptr ⟨⟨1, 0⟩, 0, 0, 3⟩], [[.intsV .u8], [.vals [.sliceV 0 0 0 1 false, .int .i64, .int .u64]]]⟩
def s_l02Draw_s2_r0 : SPat := ⟨[.agg [.vals [.int .i64], .ints .u8 8, .ints .u8 8]], [[.intsV .u8], [.vals [.sliceV 0 0 0 1 false, .int .i64, .int .u64]]]⟩
theorem s_l02Draw_s2_run {α : Type} (N : Nat) (h0_n : Nat) (h0 : Nat → Int) (h1_0_n : Nat) (h1_0_l : Nat) (h1_0_c : Nat) (h1_1 : Int) (h1_2 : Int) (K : AV → Heap → Option α) :
    callK Try.prog (E_s_l02Draw_l0_s2 α N) 1 214 1 (buildS s_l02Draw_s2_a [.n h0_n, .f h0, .n h1_0_n, .n h1_0_l, .n h1_0_c, .i h1_1, .i h1_2]).t (buildS s_l02Draw_s2_a [.n h0_n, .f h0, .n h1_0_n, .n h1_0_l, .n h1_0_c, .i h1_1, .i h1_2]).h K = s_l02Draw_s2 none N h0_n h0 h1_0_n h1_0_l h1_0_c h1_1 h1_2 (fun r_0_ r_1_ r_2_ h1_1_ h1_2_ => retK (buildS s_l02Draw_s2_r0 [.i r_0_, .f r_1_, .f r_2_, .n h0_n, .f h0, .n h1_0_n, .n h1_0_l, .n h1_0_c, .i h1_1_, .i h1_2_]) K) := by kernel_rfl
def E_s_l02Draw_s2 (α : Type) (N : Nat) : Env α := (E_s_l02Draw_l0_s2 α N).addFun 214 false 1 s_l02Draw_s2_a (fun l K => match l with
    | [.n h0_n, .f h0, .n h1_0_n, .n h1_0_l, .n h1_0_c, .i h1_1, .i h1_2] => s_l02Draw_s2 none N h0_n h0 h1_0_n h1_0_l h1_0_c h1_1 h1_2 (fun r_0_ r_1_ r_2_ h1_1_ h1_2_ => retK (buildS s_l02Draw_s2_r0 [.i r_0_, .f r_1_, .f r_2_, .n h0_n, .f h0, .n h1_0_n, .n h1_0_l, .n h1_0_c, .i h1_1_, .i h1_2_]) K)
    | _ => none)
theorem E_s_l02Draw_s2_ok {α : Type} (N : Nat) : EnvOk Try.prog (E_s_l02Draw_s2 α N) := (E_s_l02Draw_l0_s2_ok N).addFun prog_mixed prog_names (d := 1) fun l K r h => by
  split at h
  · exact (s_l02Draw_s2_run N _ _ _ _ _ _ _ K).trans h
  · cases h

/-- spec.l01Broken -/
def s_l01Broken_s2_a : SPat := ⟨[.ptr ⟨⟨1, 0⟩, 0, 0, 3⟩, .agg [.vals [.int .i64], .ints .u8 8, .ints .u8 8]], [[.intsV .u8], [.vals [.sliceV 0 0 0 1 false, .int .i64, .int .u64]]]⟩
def s_l01Broken_s2_r0 : SPat := ⟨[.agg [.vals [.int .i64], .ints .u8 8, .ints .u8 8]], [[.intsV .u8], [.vals [.sliceV 0 0 0 1 false, .int .i64, .int .u64]]]⟩
theorem s_l01Broken_s2_run {α : Type} (N : Nat) (g_0 : Int) (g_1 : Nat → Int) (g_2 : Nat → Int) (h0_n : Nat) (h0 : Nat → Int) (h1_0_n : Nat) (h1_0_l : Nat) (h1_0_c : Nat) (h1_1 : Int) (h1_2 : Int) (K : AV → Heap → Option α) :
    callK Try.prog (E_s_l02Draw_s2 α N) 1 121 1 (buildS s_l01Broken_s2_a [.i g_0, .f g_1, .f g_2, .n h0_n, .f h0, .n h1_0_n, .n h1_0_l, .n h1_0_c, .i h1_1, .i h1_2]).t (buildS s_l01Broken_s2_a [.i g_0, .f g_1, .f g_2, .n h0_n, .f h0, .n h1_0_n, .n h1_0_l, .n h1_0_c, .i h1_1, .i h1_2]).h K = s_l01Broken_s2 none N g_0 g_1 g_2 h0_n h0 h1_0_n h1_0_l h1_0_c h1_1 h1_2 (fun r_0_ r_1_ r_2_ h1_1_ h1_2_ => retK (buildS s_l01Broken_s2_r0 [.i r_0_, .f r_1_, .f r_2_, .n h0_n, .f h0, .n h1_0_n, .n h1_0_l, .n h1_0_c, .i h1_1_, .i h1_2_]) K) := by kernel_rfl
def E_s_l01Broken_s2 (α : Type) (N : Nat) : Env α := (E_s_l02Draw_s2 α N).addFun 121 false 1 s_l01Broken_s2_a (fun l K => match l with
    | [.i g_0, .f g_1, .f g_2, .n h0_n, .f h0, .n h1_0_n, .n h1_0_l, .n h1_0_c, .i h1_1, .i h1_2] => s_l01Broken_s2 none N g_0 g_1 g_2 h0_n h0 h1_0_n h1_0_l h1_0_c h1_1 h1_2 (fun r_0_ r_1_ r_2_ h1_1_ h1_2_ => retK (buildS s_l01Broken_s2_r0 [.i r_0_, .f r_1_, .f r_2_, .n h0_n, .f h0, .n h1_0_n, .n h1_0_l, .n h1_0_c, .i h1_1_, .i h1_2_]) K)
    | _ => none)
theorem E_s_l01Broken_s2_ok {α : Type} (N : Nat) : EnvOk Try.prog (E_s_l01Broken_s2 α N) := (E_s_l02Draw_s2_ok N).addFun prog_mixed prog_names (d := 1) fun l K r h => by
  split at h
  · exact (s_l01Broken_s2_run N _ _ _ _ _ _ _ _ _ _ K).trans h
  · cases h

/-- spec.l02Spoil -/
def s_l02Spoil_a : SPat := ⟨[.ptr ⟨⟨1, 0⟩, 0, 0, 3⟩], [[.intsV .u8], [.vals [.sliceV 0 0 0 1 false, .int .i64, .int .u64]]]⟩
def s_l02Spoil_r0 : SPat := ⟨[.agg [.vals [.int .i64], .ints .u8 8, .ints .u8 8]], [[.intsV .u8], [.vals [.sliceV 0 0 0 1 false, .int .i64, .int .u64]]]⟩
theorem s_l02Spoil_run {α : Type} (N : Nat) (h0_n : Nat) (h0 : Nat → Int) (h1_0_n : Nat) (h1_0_l : Nat) (h1_0_c : Nat) (h1_1 : Int) (h1_2 : Int) (K : AV → Heap → Option α) :
    callK Try.prog (E_s_l01Broken_s2 α N) 1 182 1 (buildS s_l02Spoil_a [.n h0_n, .f h0, .n h1_0_n, .n h1_0_l, .n h1_0_c, .i h1_1, .i h1_2]).t (buildS s_l02Spoil_a [.n h0_n, .f h0, .n h1_0_n, .n h1_0_l, .n h1_0_c, .i h1_1, .i h1_2]).h K = s_l02Spoil none N h0_n h0 h1_0_n h1_0_l h1_0_c h1_1 h1_2 (fun r_0_ r_1_ r_2_ h1_1_ h1_2_ => retK (buildS s_l02Spoil_r0 [.i r_0_, .f r_1_, .f r_2_, .n h0_n, .f h0, .n h1_0_n, .n h1_0_l, .n h1_0_c, .i h1_1_, .i h1_2_]) K) := by kernel_rfl
def E_s_l02Spoil (α : Type) (N : Nat) : Env α := (E_s_l01Broken_s2 α N).addFun 182 false 1 s_l02Spoil_a (fun l K => match l with
    | [.n h0_n, .f h0, .n h1_0_n, .n h1_0_l, .n h1_0_c, .i h1_1, .i h1_2] => s_l02Spoil none N h0_n h0 h1_0_n h1_0_l h1_0_c h1_1 h1_2 (fun r_0_ r_1_ r_2_ h1_1_ h1_2_ => retK (buildS s_l02Spoil_r0 [.i r_0_, .f r_1_, .f r_2_, .n h0_n, .f h0, .n h1_0_n, .n h1_0_l, .n h1_0_c, .i h1_1_, .i h1_2_]) K)
    | _ => none)
theorem E_s_l02Spoil_ok {α : Type} (N : Nat) : EnvOk Try.prog (E_s_l02Spoil α N) := (E_s_l01Broken_s2_ok N).addFun prog_mixed prog_names (d := 1) fun l K r h => by
  split at h
  · exact (s_l02Spoil_run N _ _ _ _ _ _ _ K).trans h
  · cases h

/-- spec.l02Two -/
def s_l02Two_a : SPat := ⟨[.sliceV 0 0 0 1 false], [[.intsV .u8]]⟩
def s_l02Two_r0 : SPat := ⟨[.tuple [.agg [.vals [.int .i64], .ints .u8 8, .ints .u8 8], .int .i64]], [[.intsV .u8]]⟩
theorem s_l02Two_run {α : Type} (N : Nat) (code_n : Nat) (code_l : Nat) (code_c : Nat) (h0_n : Nat) (h0 : Nat → Int) (K : AV → Heap → Option α) :
    callK Try.prog (E_s_l02Spoil α N) 1 124 1 (buildS s_l02Two_a [.n code_n, .n code_l, .n code_c, .n h0_n, .f h0]).t (buildS s_l02Two_a [.n code_n, .n code_l, .n code_c, .n h0_n, .f h0]).h K = s_l02Two none N code_n code_l code_c h0_n h0 (fun r_0_0_ r_0_1_ r_0_2_ r_1_ => retK (buildS s_l02Two_r0 [.i r_0_0_, .f r_0_1_, .f r_0_2_, .i r_1_, .n h0_n, .f h0]) K) := by kernel_rfl
def E_s_l02Two (α : Type) (N : Nat) : Env α := (E_s_l02Spoil α N).addFun 124 true 1 s_l02Two_a (fun l K => match l with
    | [.n code_n, .n code_l, .n code_c, .n h0_n, .f h0] => s_l02Two none N code_n code_l code_c h0_n h0 (fun r_0_0_ r_0_1_ r_0_2_ r_1_ => retK (buildS s_l02Two_r0 [.i r_0_0_, .f r_0_1_, .f r_0_2_, .i r_1_, .n h0_n, .f h0]) K)
    | _ => none)
theorem E_s_l02Two_ok {α : Type} (N : Nat) : EnvOk Try.prog (E_s_l02Two α N) := (E_s_l02Spoil_ok N).addFun prog_mixed prog_names (d := 1) fun l K r h => by
  split at h
  · exact (s_l02Two_run N _ _ _ _ _ K).trans h
  · cases h

/-- spec.DrawExchangeColumns -/
def s_DrawExchangeColumns_a : SPat := ⟨[.sliceV 0 0 0 1 false], [[.intsV .u8]]⟩
def s_DrawExchangeColumns_r0 : SPat := ⟨[.tuple [.agg [.vals [.int .i64], .ints .u8 8, .ints .u8 8], .int .i64]], [[.intsV .u8]]⟩
theorem s_DrawExchangeColumns_run {α : Type} (N : Nat) (code_n : Nat) (code_l : Nat) (code_c : Nat) (h0_n : Nat) (h0 : Nat → Int) (K : AV → Heap → Option α) :
    callK Try.prog (E_s_l02Two α N) 1 34 1 (buildS s_DrawExchangeColumns_a [.n code_n, .n code_l, .n code_c, .n h0_n, .f h0]).t (buildS s_DrawExchangeColumns_a [.n code_n, .n code_l, .n code_c, .n h0_n, .f h0]).h K = s_DrawExchangeColumns none N code_n code_l code_c h0_n h0 (fun r_0_0_ r_0_1_ r_0_2_ r_1_ => retK (buildS s_DrawExchangeColumns_r0 [.i r_0_0_, .f r_0_1_, .f r_0_2_, .i r_1_, .n h0_n, .f h0]) K) := by kernel_rfl
def E_s_DrawExchangeColumns (α : Type) (N : Nat) : Env α := (E_s_l02Two α N).addFun 34 true 1 s_DrawExchangeColumns_a (fun l K => match l with
    | [.n code_n, .n code_l, .n code_c, .n h0_n, .f h0] => s_DrawExchangeColumns none N code_n code_l code_c h0_n h0 (fun r_0_0_ r_0_1_ r_0_2_ r_1_ => retK (buildS s_DrawExchangeColumns_r0 [.i r_0_0_, .f r_0_1_, .f r_0_2_, .i r_1_, .n h0_n, .f h0]) K)
    | _ => none)
theorem E_s_DrawExchangeColumns_ok {α : Type} (N : Nat) : EnvOk Try.prog (E_s_DrawExchangeColumns α N) := (E_s_l02Two_ok N).addFun prog_mixed prog_names (d := 1) fun l K r h => by
  split at h
  · exact (s_DrawExchangeColumns_run N _ _ _ _ _ K).trans h
  · cases h

def A_i_isPair_l0 (α : Type) (N : Nat) : Env α := (E_s_DrawExchangeColumns α N).addAnn 129 4 { head := [2, 10, 11, 12], grow := [], out := [], ret := [4] }
theorem A_i_isPair_l0_ok {α : Type} (N : Nat) : EnvOk Try.prog (A_i_isPair_l0 α N) := (E_s_DrawExchangeColumns_ok N).addAnn

/-- impl.isPair, loop -/
def i_isPair_l0_p : SPat := ⟨[.undef, .undef, .ptr ⟨⟨1, 0⟩, 0, 0, 1⟩, .undef, .undef, .undef, .undef, .undef, .undef, .undef, .slice ⟨⟨0, 0⟩, 0, 0, 1⟩ 1 1 1 true, .intC .i64 1, .int .i64] ++ List.replicate 10 .undef, [[.vec .i64], [.vals [.int .i64], .ints .u8 8, .ints .u8 8]]⟩
def i_isPair_l0_o0 : SPat := ⟨[.undef, .undef, .undef, .undef, .intC .i64 2] ++ List.replicate 18 .undef, [[.vec .i64], [.vals [.int .i64], .ints .u8 8, .ints .u8 8]]⟩
def i_isPair_l0_o1 : SPat := ⟨[] ++ List.replicate 23 .undef, [[.vec .i64], [.vals [.int .i64], .ints .u8 8, .ints .u8 8]]⟩
theorem i_isPair_l0_round {α : Type} (N : Nat) (t12 : Int) (h0 : List Int) (h1_0 : Int) (h1_1 : Nat → Int) (h1_2 : Nat → Int) (kn : St → Option α) (K : AExit → St → Option α) :
    roundK Try.prog (A_i_isPair_l0 α N) 1 1 129 Try.f129 4 2 (buildS i_isPair_l0_p [.i t12, .l h0, .i h1_0, .f h1_1, .f h1_2]) kn K = i_isPair_l0_s none N h0 h1_0 h1_1 h1_2 t12 (fun t12 => kn (buildS i_isPair_l0_p [.i t12, .l h0, .i h1_0, .f h1_1, .f h1_2])) (K .ret (buildS i_isPair_l0_o0 [.l h0, .i h1_0, .f h1_1, .f h1_2])) (K (.exit 0) (buildS i_isPair_l0_o1 [.l h0, .i h1_0, .f h1_1, .f h1_2])) := by kernel_rfl
theorem i_isPair_l0_loop {α : Type} (N : Nat) (h0 : List Int) (h1_0 : Int) (h1_1 : Nat → Int) (h1_2 : Nat → Int) (K : AExit → St → Option α) : ∀ (m : Nat) (t12 : Int),
    loopN (trimSt ((A_i_isPair_l0 α N).ann 129 4).head ((A_i_isPair_l0 α N).ann 129 4).grow 2) (bodyK Try.prog (A_i_isPair_l0 α N) 1 1 129 Try.f129 4) m (buildS i_isPair_l0_p [.i t12, .l h0, .i h1_0, .f h1_1, .f h1_2]) (leaveLoop ((A_i_isPair_l0 α N).ann 129 4) 2 K) = i_isPair_l0 none N h0 h1_0 h1_1 h1_2 m t12 (K .ret (buildS i_isPair_l0_o0 [.l h0, .i h1_0, .f h1_1, .f h1_2])) (K (.exit 0) (buildS i_isPair_l0_o1 [.l h0, .i h1_0, .f h1_1, .f h1_2])) := by
  intro m
  induction m with
  | zero => intros; rfl
  | succ m ih =>
    intro t12
    rw [loopN_round]
    refine (i_isPair_l0_round N t12 h0 h1_0 h1_1 h1_2 _ K).trans ?_
    simp only [ih]
    rfl
def E_i_isPair_l0 (α : Type) (N : Nat) : Env α := (A_i_isPair_l0 α N).addLoop2 129 4 (loopSum2 ((A_i_isPair_l0 α N).ann 129 4) 1 i_isPair_l0_p (fun l K => match l with
    | [.i t12, .l h0, .i h1_0, .f h1_1, .f h1_2] => i_isPair_l0 none N h0 h1_0 h1_1 h1_2 N t12 (K .ret (buildS i_isPair_l0_o0 [.l h0, .i h1_0, .f h1_1, .f h1_2])) (K (.exit 0) (buildS i_isPair_l0_o1 [.l h0, .i h1_0, .f h1_1, .f h1_2]))
    | _ => none) ((A_i_isPair_l0 α N).ls 129 4))
theorem E_i_isPair_l0_ok {α : Type} (N : Nat) : EnvOk Try.prog (E_i_isPair_l0 α N) := (A_i_isPair_l0_ok N).addLoop2 Try.func129 (by kernel_rfl) (loopSum_ok prog_mixed prog_names (A_i_isPair_l0_ok N) Try.func129 (by kernel_rfl) (d := 1) (ro := 1) fun l K r h => by
  split at h
  · exact (i_isPair_l0_loop N _ _ _ _ K N _).trans h
  · cases h)

/-- impl.isPair -/
def i_isPair_a : SPat := ⟨[.agg [.vals [.int .i64], .ints .u8 8, .ints .u8 8], .slice ⟨⟨0, 0⟩, 0, 0, 1⟩ 1 1 1 true], [[.vec .i64]]⟩
def i_isPair_r0 : SPat := ⟨[.int .i64], [[.vec .i64]]⟩
theorem i_isPair_run {α : Type} (N : Nat) (g_0 : Int) (g_1 : Nat → Int) (g_2 : Nat → Int) (h0 : List Int) (K : AV → Heap → Option α) :
    callK Try.prog (E_i_isPair_l0 α N) 1 129 1 (buildS i_isPair_a [.i g_0, .f g_1, .f g_2, .l h0]).t (buildS i_isPair_a [.i g_0, .f g_1, .f g_2, .l h0]).h K = i_isPair none N g_0 g_1 g_2 h0 (fun r__ => retK (buildS i_isPair_r0 [.i r__, .l h0]) K) := by kernel_rfl
def E_i_isPair (α : Type) (N : Nat) : Env α := (E_i_isPair_l0 α N).addFun 129 true 1 i_isPair_a (fun l K => match l with
    | [.i g_0, .f g_1, .f g_2, .l h0] => i_isPair none N g_0 g_1 g_2 h0 (fun r__ => retK (buildS i_isPair_r0 [.i r__, .l h0]) K)
    | _ => none)
theorem E_i_isPair_ok {α : Type} (N : Nat) : EnvOk Try.prog (E_i_isPair α N) := (E_i_isPair_l0_ok N).addFun prog_mixed prog_names (d := 1) fun l K r h => by
  split at h
  · exact (i_isPair_run N _ _ _ _ K).trans h
  · cases h

/-- impl.areApart -/
def i_areApart_a : SPat := ⟨[.int .i64, .int .i64, .int .i64, .int .i64], []⟩
def i_areApart_r0 : SPat := ⟨[.bool], []⟩
theorem i_areApart_run {α : Type} (N : Nat) (a : Int) (b : Int) (c : Int) (d : Int) (K : AV → Heap → Option α) :
    callK Try.prog (E_i_isPair α N) 1 199 0 (buildS i_areApart_a [.i a, .i b, .i c, .i d]).t (buildS i_areApart_a [.i a, .i b, .i c, .i d]).h K = i_areApart none N a b c d (fun r__ => retK (buildS i_areApart_r0 [.b r__]) K) := by kernel_rfl
def E_i_areApart (α : Type) (N : Nat) : Env α := (E_i_isPair α N).addFun 199 true 0 i_areApart_a (fun l K => match l with
    | [.i a, .i b, .i c, .i d] => i_areApart none N a b c d (fun r__ => retK (buildS i_areApart_r0 [.b r__]) K)
    | _ => none)
theorem E_i_areApart_ok {α : Type} (N : Nat) : EnvOk Try.prog (E_i_areApart α N) := (E_i_isPair_ok N).addFun prog_mixed prog_names (d := 1) fun l K r h => by
  split at h
  · exact (i_areApart_run N _ _ _ _ K).trans h
  · cases h

/-- (impl.Grid).canColumns -/
def i_Grid_canColumns_a : SPat := ⟨[.agg [.vals [.int .i64], .ints .u8 8, .ints .u8 8], .int .i64], []⟩
def i_Grid_canColumns_r0 : SPat := ⟨[.bool], []⟩
theorem i_Grid_canColumns_run {α : Type} (N : Nat) (g_0 : Int) (g_1 : Nat → Int) (g_2 : Nat → Int) (i : Int) (K : AV → Heap → Option α) :
    callK Try.prog (E_i_areApart α N) 1 130 0 (buildS i_Grid_canColumns_a [.i g_0, .f g_1, .f g_2, .i i]).t (buildS i_Grid_canColumns_a [.i g_0, .f g_1, .f g_2, .i i]).h K = i_Grid_canColumns none N g_0 g_1 g_2 i (fun r__ => retK (buildS i_Grid_canColumns_r0 [.b r__]) K) := by kernel_rfl
def E_i_Grid_canColumns (α : Type) (N : Nat) : Env α := (E_i_areApart α N).addFun 130 true 0 i_Grid_canColumns_a (fun l K => match l with
    | [.i g_0, .f g_1, .f g_2, .i i] => i_Grid_canColumns none N g_0 g_1 g_2 i (fun r__ => retK (buildS i_Grid_canColumns_r0 [.b r__]) K)
    | _ => none)
theorem E_i_Grid_canColumns_ok {α : Type} (N : Nat) : EnvOk Try.prog (E_i_Grid_canColumns α N) := (E_i_areApart_ok N).addFun prog_mixed prog_names (d := 1) fun l K r h => by
  split at h
  · exact (i_Grid_canColumns_run N _ _ _ _ K).trans h
  · cases h

/-- impl.CanExchangeColumns -/
def i_CanExchangeColumns_a : SPat := ⟨[.agg [.vals [.int .i64], .ints .u8 8, .ints .u8 8], .int .i64], []⟩
def i_CanExchangeColumns_r0 : SPat := ⟨[.tuple [.bool, .int .i64]], []⟩
theorem i_CanExchangeColumns_run {α : Type} (N : Nat) (g_0 : Int) (g_1 : Nat → Int) (g_2 : Nat → Int) (i : Int) (K : AV → Heap → Option α) :
    callK Try.prog (E_i_Grid_canColumns α N) 1 37 0 (buildS i_CanExchangeColumns_a [.i g_0, .f g_1, .f g_2, .i i]).t (buildS i_CanExchangeColumns_a [.i g_0, .f g_1, .f g_2, .i i]).h K = i_CanExchangeColumns none N g_0 g_1 g_2 i (fun r_0_ r_1_ => retK (buildS i_CanExchangeColumns_r0 [.b r_0_, .i r_1_]) K) := by kernel_rfl
def E_i_CanExchangeColumns (α : Type) (N : Nat) : Env α := (E_i_Grid_canColumns α N).addFun 37 true 0 i_CanExchangeColumns_a (fun l K => match l with
    | [.i g_0, .f g_1, .f g_2, .i i] => i_CanExchangeColumns none N g_0 g_1 g_2 i (fun r_0_ r_1_ => retK (buildS i_CanExchangeColumns_r0 [.b r_0_, .i r_1_]) K)
    | _ => none)
theorem E_i_CanExchangeColumns_ok {α : Type} (N : Nat) : EnvOk Try.prog (E_i_CanExchangeColumns α N) := (E_i_Grid_canColumns_ok N).addFun prog_mixed prog_names (d := 1) fun l K r h => by
  split at h
  · exact (i_CanExchangeColumns_run N _ _ _ _ K).trans h
  · cases h

/-- (impl.Grid).swapColumns -/
def i_Grid_swapColumns_a : SPat := ⟨[.agg [.vals [.int .i64], .ints .u8 8, .ints .u8 8], .int .i64], []⟩
def i_Grid_swapColumns_r0 : SPat := ⟨[.agg [.vals [.int .i64], .ints .u8 8, .ints .u8 8]], []⟩
theorem i_Grid_swapColumns_run {α : Type} (N : Nat) (g_0 : Int) (g_1 : Nat → Int) (g_2 : Nat → Int) (i : Int) (K : AV → Heap → Option α) :
    callK Try.prog (E_i_CanExchangeColumns α N) 1 125 0 (buildS i_Grid_swapColumns_a [.i g_0, .f g_1, .f g_2, .i i]).t (buildS i_Grid_swapColumns_a [.i g_0, .f g_1, .f g_2, .i i]).h K = i_Grid_swapColumns none N g_0 g_1 g_2 i (fun r_1_ r_2_ => retK (buildS i_Grid_swapColumns_r0 [.i g_0, .f r_1_, .f r_2_]) K) := by kernel_rfl
def E_i_Grid_swapColumns (α : Type) (N : Nat) : Env α := (E_i_CanExchangeColumns α N).addFun 125 true 0 i_Grid_swapColumns_a (fun l K => match l with
    | [.i g_0, .f g_1, .f g_2, .i i] => i_Grid_swapColumns none N g_0 g_1 g_2 i (fun r_1_ r_2_ => retK (buildS i_Grid_swapColumns_r0 [.i g_0, .f r_1_, .f r_2_]) K)
    | _ => none)
theorem E_i_Grid_swapColumns_ok {α : Type} (N : Nat) : EnvOk Try.prog (E_i_Grid_swapColumns α N) := (E_i_CanExchangeColumns_ok N).addFun prog_mixed prog_names (d := 1) fun l K r h => by
  split at h
  · exact (i_Grid_swapColumns_run N _ _ _ _ K).trans h
  · cases h

/-- impl.ExchangeColumns -/
def i_ExchangeColumns_a : SPat := ⟨[.agg [.vals [.int .i64], .ints .u8 8, .ints .u8 8], .int .i64], []⟩
def i_ExchangeColumns_r0 : SPat := ⟨[.tuple [.agg [.vals [.int .i64], .ints .u8 8, .ints .u8 8], .int .i64]], []⟩
theorem i_ExchangeColumns_run {α : Type} (N : Nat) (g_0 : Int) (g_1 : Nat → Int) (g_2 : Nat → Int) (i : Int) (K : AV → Heap → Option α) :
    callK Try.prog (E_i_Grid_swapColumns α N) 1 35 0 (buildS i_ExchangeColumns_a [.i g_0, .f g_1, .f g_2, .i i]).t (buildS i_ExchangeColumns_a [.i g_0, .f g_1, .f g_2, .i i]).h K = i_ExchangeColumns none N g_0 g_1 g_2 i (fun r_0_0_ r_0_1_ r_0_2_ r_1_ => retK (buildS i_ExchangeColumns_r0 [.i r_0_0_, .f r_0_1_, .f r_0_2_, .i r_1_]) K) := by kernel_rfl
def E_i_ExchangeColumns (α : Type) (N : Nat) : Env α := (E_i_Grid_swapColumns α N).addFun 35 true 0 i_ExchangeColumns_a (fun l K => match l with
    | [.i g_0, .f g_1, .f g_2, .i i] => i_ExchangeColumns none N g_0 g_1 g_2 i (fun r_0_0_ r_0_1_ r_0_2_ r_1_ => retK (buildS i_ExchangeColumns_r0 [.i r_0_0_, .f r_0_1_, .f r_0_2_, .i r_1_]) K)
    | _ => none)
theorem E_i_ExchangeColumns_ok {α : Type} (N : Nat) : EnvOk Try.prog (E_i_ExchangeColumns α N) := (E_i_Grid_swapColumns_ok N).addFun prog_mixed prog_names (d := 1) fun l K r h => by
  split at h
  · exact (i_ExchangeColumns_run N _ _ _ _ K).trans h
  · cases h

def A_s_l02Place_l0 (α : Type) (N : Nat) : Env α := (E_i_ExchangeColumns α N).addAnn 126 4 { head := [1, 2, 5], grow := [], out := [], ret := [4] }
theorem A_s_l02Place_l0_ok {α : Type} (N : Nat) : EnvOk Try.prog (A_s_l02Place_l0 α N) := (E_i_ExchangeColumns_ok N).addAnn

/-- spec.l02Place, loop -/
def s_l02Place_l0_p : SPat := ⟨[.undef, .slice ⟨⟨0, 0⟩, 0, 0, 1⟩ 1 1 1 true, .ptr ⟨⟨1, 0⟩, 0, 0, 1⟩, .undef, .undef, .int .i64] ++ List.replicate 18 .undef, [[.vec .i64], [.vals [.int .i64], .ints .u8 8, .ints .u8 8]]⟩
def s_l02Place_l0_o0 : SPat := ⟨[.undef, .undef, .undef, .undef, .intC .i64 2] ++ List.replicate 19 .undef, [[.vec .i64], [.vals [.int .i64], .ints .u8 8, .ints .u8 8]]⟩
def s_l02Place_l0_o1 : SPat := ⟨[] ++ List.replicate 24 .undef, [[.vec .i64], [.vals [.int .i64], .ints .u8 8, .ints .u8 8]]⟩
theorem s_l02Place_l0_round {α : Type} (N : Nat) (i : Int) (h0 : List Int) (h1_0 : Int) (h1_1 : Nat → Int) (h1_2 : Nat → Int) (kn : St → Option α) (K : AExit → St → Option α) :
    roundK Try.prog (A_s_l02Place_l0 α N) 1 1 126 Try.f126 4 2 (buildS s_l02Place_l0_p [.i i, .l h0, .i h1_0, .f h1_1, .f h1_2]) kn K = s_l02Place_l0_s none N h0 h1_0 h1_1 h1_2 i (fun i => kn (buildS s_l02Place_l0_p [.i i, .l h0, .i h1_0, .f h1_1, .f h1_2])) (K .ret (buildS s_l02Place_l0_o0 [.l h0, .i h1_0, .f h1_1, .f h1_2])) (K (.exit 0) (buildS s_l02Place_l0_o1 [.l h0, .i h1_0, .f h1_1, .f h1_2])) := by kernel_rfl
theorem s_l02Place_l0_loop {α : Type} (N : Nat) (h0 : List Int) (h1_0 : Int) (h1_1 : Nat → Int) (h1_2 : Nat → Int) (K : AExit → St → Option α) : ∀ (m : Nat) (i : Int),
    loopN (trimSt ((A_s_l02Place_l0 α N).ann 126 4).head ((A_s_l02Place_l0 α N).ann 126 4).grow 2) (bodyK Try.prog (A_s_l02Place_l0 α N) 1 1 126 Try.f126 4) m (buildS s_l02Place_l0_p [.i i, .l h0, .i h1_0, .f h1_1, .f h1_2]) (leaveLoop ((A_s_l02Place_l0 α N).ann 126 4) 2 K) = s_l02Place_l0 none N h0 h1_0 h1_1 h1_2 m i (K .ret (buildS s_l02Place_l0_o0 [.l h0, .i h1_0, .f h1_1, .f h1_2])) (K (.exit 0) (buildS s_l02Place_l0_o1 [.l h0, .i h1_0, .f h1_1, .f h1_2])) := by
  intro m
  induction m with
  | zero => intros; rfl
  | succ m ih =>
    intro i
    rw [loopN_round]
    refine (s_l02Place_l0_round N i h0 h1_0 h1_1 h1_2 _ K).trans ?_
    simp only [ih]
    rfl
def E_s_l02Place_l0 (α : Type) (N : Nat) : Env α := (A_s_l02Place_l0 α N).addLoop2 126 4 (loopSum2 ((A_s_l02Place_l0 α N).ann 126 4) 1 s_l02Place_l0_p (fun l K => match l with
    | [.i i, .l h0, .i h1_0, .f h1_1, .f h1_2] => s_l02Place_l0 none N h0 h1_0 h1_1 h1_2 N i (K .ret (buildS s_l02Place_l0_o0 [.l h0, .i h1_0, .f h1_1, .f h1_2])) (K (.exit 0) (buildS s_l02Place_l0_o1 [.l h0, .i h1_0, .f h1_1, .f h1_2]))
    | _ => none) ((A_s_l02Place_l0 α N).ls 126 4))
theorem E_s_l02Place_l0_ok {α : Type} (N : Nat) : EnvOk Try.prog (E_s_l02Place_l0 α N) := (A_s_l02Place_l0_ok N).addLoop2 Try.func126 (by kernel_rfl) (loopSum_ok prog_mixed prog_names (A_s_l02Place_l0_ok N) Try.func126 (by kernel_rfl) (d := 1) (ro := 1) fun l K r h => by
  split at h
  · exact (s_l02Place_l0_loop N _ _ _ _ K N _).trans h
  · cases h)

/-- spec.l02Place -/
def s_l02Place_a : SPat := ⟨[.agg [.vals [.int .i64], .ints .u8 8, .ints .u8 8], .slice ⟨⟨0, 0⟩, 0, 0, 1⟩ 1 1 1 true], [[.vec .i64]]⟩
def s_l02Place_r0 : SPat := ⟨[.int .i64], [[.vec .i64]]⟩
theorem s_l02Place_run {α : Type} (N : Nat) (g_0 : Int) (g_1 : Nat → Int) (g_2 : Nat → Int) (h0 : List Int) (K : AV → Heap → Option α) :
    callK Try.prog (E_s_l02Place_l0 α N) 1 126 1 (buildS s_l02Place_a [.i g_0, .f g_1, .f g_2, .l h0]).t (buildS s_l02Place_a [.i g_0, .f g_1, .f g_2, .l h0]).h K = s_l02Place none N g_0 g_1 g_2 h0 (fun r__ => retK (buildS s_l02Place_r0 [.i r__, .l h0]) K) := by kernel_rfl
def E_s_l02Place (α : Type) (N : Nat) : Env α := (E_s_l02Place_l0 α N).addFun 126 true 1 s_l02Place_a (fun l K => match l with
    | [.i g_0, .f g_1, .f g_2, .l h0] => s_l02Place none N g_0 g_1 g_2 h0 (fun r__ => retK (buildS s_l02Place_r0 [.i r__, .l h0]) K)
    | _ => none)
theorem E_s_l02Place_ok {α : Type} (N : Nat) : EnvOk Try.prog (E_s_l02Place α N) := (E_s_l02Place_l0_ok N).addFun prog_mixed prog_names (d := 1) fun l K r h => by
  split at h
  · exact (s_l02Place_run N _ _ _ _ K).trans h
  · cases h

/-- spec.l02Free -/
def s_l02Free_a : SPat := ⟨[.int .i64, .int .i64, .int .i64, .int .i64], []⟩
def s_l02Free_r0 : SPat := ⟨[.bool], []⟩
theorem s_l02Free_run {α : Type} (N : Nat) (a : Int) (a1 : Int) (a2 : Int) (a3 : Int) (K : AV → Heap → Option α) :
    callK Try.prog (E_s_l02Place α N) 1 198 0 (buildS s_l02Free_a [.i a, .i a1, .i a2, .i a3]).t (buildS s_l02Free_a [.i a, .i a1, .i a2, .i a3]).h K = s_l02Free none N a a1 a2 a3 (fun r__ => retK (buildS s_l02Free_r0 [.b r__]) K) := by kernel_rfl
def E_s_l02Free (α : Type) (N : Nat) : Env α := (E_s_l02Place α N).addFun 198 true 0 s_l02Free_a (fun l K => match l with
    | [.i a, .i a1, .i a2, .i a3] => s_l02Free none N a a1 a2 a3 (fun r__ => retK (buildS s_l02Free_r0 [.b r__]) K)
    | _ => none)
theorem E_s_l02Free_ok {α : Type} (N : Nat) : EnvOk Try.prog (E_s_l02Free α N) := (E_s_l02Place_ok N).addFun prog_mixed prog_names (d := 1) fun l K r h => by
  split at h
  · exact (s_l02Free_run N _ _ _ _ K).trans h
  · cases h

/-- spec.l02Columns -/
def s_l02Columns_a : SPat := ⟨[.agg [.vals [.int .i64], .ints .u8 8, .ints .u8 8], .int .i64], []⟩
def s_l02Columns_r0 : SPat := ⟨[.bool], []⟩
theorem s_l02Columns_run {α : Type} (N : Nat) (g_0 : Int) (g_1 : Nat → Int) (g_2 : Nat → Int) (i : Int) (K : AV → Heap → Option α) :
    callK Try.prog (E_s_l02Free α N) 1 127 0 (buildS s_l02Columns_a [.i g_0, .f g_1, .f g_2, .i i]).t (buildS s_l02Columns_a [.i g_0, .f g_1, .f g_2, .i i]).h K = s_l02Columns none N g_0 g_1 g_2 i (fun r__ => retK (buildS s_l02Columns_r0 [.b r__]) K) := by kernel_rfl
def E_s_l02Columns (α : Type) (N : Nat) : Env α := (E_s_l02Free α N).addFun 127 true 0 s_l02Columns_a (fun l K => match l with
    | [.i g_0, .f g_1, .f g_2, .i i] => s_l02Columns none N g_0 g_1 g_2 i (fun r__ => retK (buildS s_l02Columns_r0 [.b r__]) K)
    | _ => none)
theorem E_s_l02Columns_ok {α : Type} (N : Nat) : EnvOk Try.prog (E_s_l02Columns α N) := (E_s_l02Free_ok N).addFun prog_mixed prog_names (d := 1) fun l K r h => by
  split at h
  · exact (s_l02Columns_run N _ _ _ _ K).trans h
  · cases h

/-- spec.l02SwapColumns -/
def s_l02SwapColumns_a : SPat := ⟨[.agg [.vals [.int .i64], .ints .u8 8, .ints .u8 8], .int .i64], []⟩
def s_l02SwapColumns_r0 : SPat := ⟨[.agg [.vals [.int .i64], .ints .u8 8, .ints .u8 8]], []⟩
theorem s_l02SwapColumns_run {α : Type} (N : Nat) (g_0 : Int) (g_1 : Nat → Int) (g_2 : Nat → Int) (i : Int) (K : AV → Heap → Option α) :
    callK Try.prog (E_s_l02Columns α N) 1 128 0 (buildS s_l02SwapColumns_a [.i g_0, .f g_1, .f g_2, .i i]).t (buildS s_l02SwapColumns_a [.i g_0, .f g_1, .f g_2, .i i]).h K = s_l02SwapColumns none N g_0 g_1 g_2 i (fun r_1_ r_2_ => retK (buildS s_l02SwapColumns_r0 [.i g_0, .f r_1_, .f r_2_]) K) := by kernel_rfl
def E_s_l02SwapColumns (α : Type) (N : Nat) : Env α := (E_s_l02Columns α N).addFun 128 true 0 s_l02SwapColumns_a (fun l K => match l with
    | [.i g_0, .f g_1, .f g_2, .i i] => s_l02SwapColumns none N g_0 g_1 g_2 i (fun r_1_ r_2_ => retK (buildS s_l02SwapColumns_r0 [.i g_0, .f r_1_, .f r_2_]) K)
    | _ => none)
theorem E_s_l02SwapColumns_ok {α : Type} (N : Nat) : EnvOk Try.prog (E_s_l02SwapColumns α N) := (E_s_l02Columns_ok N).addFun prog_mixed prog_names (d := 1) fun l K r h => by
  split at h
  · exact (s_l02SwapColumns_run N _ _ _ _ K).trans h
  · cases h

/-- spec.ExchangeColumns -/
def s_ExchangeColumns_a : SPat := ⟨[.agg [.vals [.int .i64], .ints .u8 8, .ints .u8 8], .int .i64], []⟩
def s_ExchangeColumns_r0 : SPat := ⟨[.tuple [.agg [.vals [.int .i64], .ints .u8 8, .ints .u8 8], .int .i64]], []⟩
theorem s_ExchangeColumns_run {α : Type} (N : Nat) (g_0 : Int) (g_1 : Nat → Int) (g_2 : Nat → Int) (i : Int) (K : AV → Heap → Option α) :
    callK Try.prog (E_s_l02SwapColumns α N) 1 36 0 (buildS s_ExchangeColumns_a [.i g_0, .f g_1, .f g_2, .i i]).t (buildS s_ExchangeColumns_a [.i g_0, .f g_1, .f g_2, .i i]).h K = s_ExchangeColumns none N g_0 g_1 g_2 i (fun r_0_0_ r_0_1_ r_0_2_ r_1_ => retK (buildS s_ExchangeColumns_r0 [.i r_0_0_, .f r_0_1_, .f r_0_2_, .i r_1_]) K) := by kernel_rfl
def E_s_ExchangeColumns (α : Type) (N : Nat) : Env α := (E_s_l02SwapColumns α N).addFun 36 true 0 s_ExchangeColumns_a (fun l K => match l with
    | [.i g_0, .f g_1, .f g_2, .i i] => s_ExchangeColumns none N g_0 g_1 g_2 i (fun r_0_0_ r_0_1_ r_0_2_ r_1_ => retK (buildS s_ExchangeColumns_r0 [.i r_0_0_, .f r_0_1_, .f r_0_2_, .i r_1_]) K)
    | _ => none)
theorem E_s_ExchangeColumns_ok {α : Type} (N : Nat) : EnvOk Try.prog (E_s_ExchangeColumns α N) := (E_s_l02SwapColumns_ok N).addFun prog_mixed prog_names (d := 1) fun l K r h => by
  split at h
  · exact (s_ExchangeColumns_run N _ _ _ _ K).trans h
  · cases h

/-- spec.CanExchangeColumns -/
def s_CanExchangeColumns_a : SPat := ⟨[.agg [.vals [.int .i64], .ints .u8 8, .ints .u8 8], .int .i64], []⟩
def s_CanExchangeColumns_r0 : SPat := ⟨[.tuple [.bool, .int .i64]], []⟩
theorem s_CanExchangeColumns_run {α : Type} (N : Nat) (g_0 : Int) (g_1 : Nat → Int) (g_2 : Nat → Int) (i : Int) (K : AV → Heap → Option α) :
    callK Try.prog (E_s_ExchangeColumns α N) 1 38 0 (buildS s_CanExchangeColumns_a [.i g_0, .f g_1, .f g_2, .i i]).t (buildS s_CanExchangeColumns_a [.i g_0, .f g_1, .f g_2, .i i]).h K = s_CanExchangeColumns none N g_0 g_1 g_2 i (fun r_0_ r_1_ => retK (buildS s_CanExchangeColumns_r0 [.b r_0_, .i r_1_]) K) := by kernel_rfl
def E_s_CanExchangeColumns (α : Type) (N : Nat) : Env α := (E_s_ExchangeColumns α N).addFun 38 true 0 s_CanExchangeColumns_a (fun l K => match l with
    | [.i g_0, .f g_1, .f g_2, .i i] => s_CanExchangeColumns none N g_0 g_1 g_2 i (fun r_0_ r_1_ => retK (buildS s_CanExchangeColumns_r0 [.b r_0_, .i r_1_]) K)
    | _ => none)
theorem E_s_CanExchangeColumns_ok {α : Type} (N : Nat) : EnvOk Try.prog (E_s_CanExchangeColumns α N) := (E_s_ExchangeColumns_ok N).addFun prog_mixed prog_names (d := 1) fun l K r h => by
  split at h
  · exact (s_CanExchangeColumns_run N _ _ _ _ K).trans h
  · cases h

/-- spec.DrawExchangeRows -/
def s_DrawExchangeRows_a : SPat := ⟨[.sliceV 0 0 0 1 false], [[.intsV .u8]]⟩
def s_DrawExchangeRows_r0 : SPat := ⟨[.tuple [.agg [.vals [.int .i64], .ints .u8 8, .ints .u8 8], .int .i64]], [[.intsV .u8]]⟩
theorem s_DrawExchangeRows_run {α : Type} (N : Nat) (code_n : Nat) (code_l : Nat) (code_c : Nat) (h0_n : Nat) (h0 : Nat → Int) (K : AV → Heap → Option α) :
    callK Try.prog (E_s_CanExchangeColumns α N) 1 39 1 (buildS s_DrawExchangeRows_a [.n code_n, .n code_l, .n code_c, .n h0_n, .f h0]).t (buildS s_DrawExchangeRows_a [.n code_n, .n code_l, .n code_c, .n h0_n, .f h0]).h K = s_DrawExchangeRows none N code_n code_l code_c h0_n h0 (fun r_0_0_ r_0_1_ r_0_2_ r_1_ => retK (buildS s_DrawExchangeRows_r0 [.i r_0_0_, .f r_0_1_, .f r_0_2_, .i r_1_, .n h0_n, .f h0]) K) := by kernel_rfl
def E_s_DrawExchangeRows (α : Type) (N : Nat) : Env α := (E_s_CanExchangeColumns α N).addFun 39 true 1 s_DrawExchangeRows_a (fun l K => match l with
    | [.n code_n, .n code_l, .n code_c, .n h0_n, .f h0] => s_DrawExchangeRows none N code_n code_l code_c h0_n h0 (fun r_0_0_ r_0_1_ r_0_2_ r_1_ => retK (buildS s_DrawExchangeRows_r0 [.i r_0_0_, .f r_0_1_, .f r_0_2_, .i r_1_, .n h0_n, .f h0]) K)
    | _ => none)
theorem E_s_DrawExchangeRows_ok {α : Type} (N : Nat) : EnvOk Try.prog (E_s_DrawExchangeRows α N) := (E_s_CanExchangeColumns_ok N).addFun prog_mixed prog_names (d := 1) fun l K r h => by
  split at h
  · exact (s_DrawExchangeRows_run N _ _ _ _ _ K).trans h
  · cases h

/-- (impl.Grid).canRows -/
def i_Grid_canRows_a : SPat := ⟨[.agg [.vals [.int .i64], .ints .u8 8, .ints .u8 8], .int .i64], []⟩
def i_Grid_canRows_r0 : SPat := ⟨[.bool], []⟩
theorem i_Grid_canRows_run {α : Type} (N : Nat) (g_0 : Int) (g_1 : Nat → Int) (g_2 : Nat → Int) (r_ : Int) (K : AV → Heap → Option α) :
    callK Try.prog (E_s_DrawExchangeRows α N) 1 134 0 (buildS i_Grid_canRows_a [.i g_0, .f g_1, .f g_2, .i r_]).t (buildS i_Grid_canRows_a [.i g_0, .f g_1, .f g_2, .i r_]).h K = i_Grid_canRows none N g_0 g_1 g_2 r_ (fun r__ => retK (buildS i_Grid_canRows_r0 [.b r__]) K) := by kernel_rfl
def E_i_Grid_canRows (α : Type) (N : Nat) : Env α := (E_s_DrawExchangeRows α N).addFun 134 true 0 i_Grid_canRows_a (fun l K => match l with
    | [.i g_0, .f g_1, .f g_2, .i r_] => i_Grid_canRows none N g_0 g_1 g_2 r_ (fun r__ => retK (buildS i_Grid_canRows_r0 [.b r__]) K)
    | _ => none)
theorem E_i_Grid_canRows_ok {α : Type} (N : Nat) : EnvOk Try.prog (E_i_Grid_canRows α N) := (E_s_DrawExchangeRows_ok N).addFun prog_mixed prog_names (d := 1) fun l K r h => by
  split at h
  · exact (i_Grid_canRows_run N _ _ _ _ K).trans h
  · cases h

/-- impl.CanExchangeRows -/
def i_CanExchangeRows_a : SPat := ⟨[.agg [.vals [.int .i64], .ints .u8 8, .ints .u8 8], .int .i64], []⟩
def i_CanExchangeRows_r0 : SPat := ⟨[.tuple [.bool, .int .i64]], []⟩
theorem i_CanExchangeRows_run {α : Type} (N : Nat) (g_0 : Int) (g_1 : Nat → Int) (g_2 : Nat → Int) (r_ : Int) (K : AV → Heap → Option α) :
    callK Try.prog (E_i_Grid_canRows α N) 1 42 0 (buildS i_CanExchangeRows_a [.i g_0, .f g_1, .f g_2, .i r_]).t (buildS i_CanExchangeRows_a [.i g_0, .f g_1, .f g_2, .i r_]).h K = i_CanExchangeRows none N g_0 g_1 g_2 r_ (fun r_0_ r_1_ => retK (buildS i_CanExchangeRows_r0 [.b r_0_, .i r_1_]) K) := by kernel_rfl
def E_i_CanExchangeRows (α : Type) (N : Nat) : Env α := (E_i_Grid_canRows α N).addFun 42 true 0 i_CanExchangeRows_a (fun l K => match l with
    | [.i g_0, .f g_1, .f g_2, .i r_] => i_CanExchangeRows none N g_0 g_1 g_2 r_ (fun r_0_ r_1_ => retK (buildS i_CanExchangeRows_r0 [.b r_0_, .i r_1_]) K)
    | _ => none)
theorem E_i_CanExchangeRows_ok {α : Type} (N : Nat) : EnvOk Try.prog (E_i_CanExchangeRows α N) := (E_i_Grid_canRows_ok N).addFun prog_mixed prog_names (d := 1) fun l K r h => by
  split at h
  · exact (i_CanExchangeRows_run N _ _ _ _ K).trans h
  · cases h

def A_i_Grid_led_l0 (α : Type) (N : Nat) : Env α := (E_i_CanExchangeRows α N).addAnn 162 6 { head := [1, 3, 6, 7, 8, 9, 22, 23], grow := [], out := [6, 7], ret := [6] }
theorem A_i_Grid_led_l0_ok {α : Type} (N : Nat) : EnvOk Try.prog (A_i_Grid_led_l0 α N) := (E_i_CanExchangeRows_ok N).addAnn

/-- (impl.Grid).swapRows$1 -/
def i_Grid_swapRows_1_a : SPat := ⟨[.int .i64, .int .i64, .ptr ⟨⟨0, 0⟩, 0, 0, 1⟩], [[.vals [.int .i64]]]⟩
def i_Grid_swapRows_1_r0 : SPat := ⟨[.tuple [.int .i64, .int .i64]], [[.vals [.int .i64]]]⟩
theorem i_Grid_swapRows_1_run {α : Type} (N : Nat) (i : Int) (row : Int) (h0 : Int) (K : AV → Heap → Option α) :
    callK Try.prog (A_i_Grid_led_l0 α N) 1 200 1 (buildS i_Grid_swapRows_1_a [.i i, .i row, .i h0]).t (buildS i_Grid_swapRows_1_a [.i i, .i row, .i h0]).h K = i_Grid_swapRows_1 none N i row h0 (fun r_1_ => retK (buildS i_Grid_swapRows_1_r0 [.i i, .i r_1_, .i h0]) K) := by kernel_rfl
def E_i_Grid_swapRows_1 (α : Type) (N : Nat) : Env α := (A_i_Grid_led_l0 α N).addFun 200 true 1 i_Grid_swapRows_1_a (fun l K => match l with
    | [.i i, .i row, .i h0] => i_Grid_swapRows_1 none N i row h0 (fun r_1_ => retK (buildS i_Grid_swapRows_1_r0 [.i i, .i r_1_, .i h0]) K)
    | _ => none)
theorem E_i_Grid_swapRows_1_ok {α : Type} (N : Nat) : EnvOk Try.prog (E_i_Grid_swapRows_1 α N) := (A_i_Grid_led_l0_ok N).addFun prog_mixed prog_names (d := 1) fun l K r h => by
  split at h
  · exact (i_Grid_swapRows_1_run N _ _ _ K).trans h
  · cases h

/-- (impl.Grid).led, loop -/
def i_Grid_led_l0_s5_p : SPat := ⟨[.undef, .func 200 [.ptr ⟨⟨0, 0⟩, 0, 0, 1⟩], .undef, .ptr ⟨⟨1, 0⟩, 0, 0, 1⟩, .undef, .undef, .ptr ⟨⟨2, 0⟩, 0, 0, 1⟩, .ptr ⟨⟨3, 0⟩, 0, 0, 1⟩, .ptr ⟨⟨3, 0⟩, 2, 0, 8⟩, .ptr ⟨⟨3, 0⟩, 1, 0, 8⟩, .undef, .undef, .undef, .undef, .undef, .undef, .undef, .undef, .undef, .undef, .undef, .undef, .int .i64, .int .i64] ++ List.replicate 38 .undef, [[.vals [.int .i64]], [.vals [.int .i64], .ints .u8 8, .ints .u8 8], [.vals [.int .i64], .ints .u8 8, .ints .u8 8], [.vals [.int .i64], .ints .u8 8, .ints .u8 8]]⟩
def i_Grid_led_l0_s5_o0 : SPat := ⟨[.undef, .undef, .undef, .undef, .undef, .undef, .ptr ⟨⟨2, 0⟩, 0, 0, 1⟩, .ptr ⟨⟨3, 0⟩, 0, 0, 1⟩] ++ List.replicate 54 .undef, [[.vals [.int .i64]], [.vals [.int .i64], .ints .u8 8, .ints .u8 8], [.vals [.int .i64], .ints .u8 8, .ints .u8 8], [.vals [.int .i64], .ints .u8 8, .ints .u8 8]]⟩
theorem i_Grid_led_l0_s5_round {α : Type} (N : Nat) (t22 : Int) (t23 : Int) (h0 : Int) (h1_0 : Int) (h1_1 : Nat → Int) (h1_2 : Nat → Int) (h2_0 : Int) (h2_1 : Nat → Int) (h2_2 : Nat → Int) (h3_0 : Int) (h3_1 : Nat → Int) (h3_2 : Nat → Int) (kn : St → Option α) (K : AExit → St → Option α) :
    roundK Try.prog (E_i_Grid_swapRows_1 α N) 1 1 162 Try.f162 6 4 (buildS i_Grid_led_l0_s5_p [.i t22, .i t23, .i h0, .i h1_0, .f h1_1, .f h1_2, .i h2_0, .f h2_1, .f h2_2, .i h3_0, .f h3_1, .f h3_2]) kn K = i_Grid_led_l0_s5_s none N t22 h0 h1_0 h1_1 h1_2 h2_0 h2_1 h2_2 h3_0 t23 h3_1 h3_2 (fun t23 h3_1 h3_2 => kn (buildS i_Grid_led_l0_s5_p [.i t22, .i t23, .i h0, .i h1_0, .f h1_1, .f h1_2, .i h2_0, .f h2_1, .f h2_2, .i h3_0, .f h3_1, .f h3_2])) (fun h3_1_ h3_2_ => K (.exit 0) (buildS i_Grid_led_l0_s5_o0 [.i h0, .i h1_0, .f h1_1, .f h1_2, .i h2_0, .f h2_1, .f h2_2, .i h3_0, .f h3_1_, .f h3_2_])) := by kernel_rfl
theorem i_Grid_led_l0_s5_loop {α : Type} (N : Nat) (t22 : Int) (h0 : Int) (h1_0 : Int) (h1_1 : Nat → Int) (h1_2 : Nat → Int) (h2_0 : Int) (h2_1 : Nat → Int) (h2_2 : Nat → Int) (h3_0 : Int) (K : AExit → St → Option α) : ∀ (m : Nat) (t23 : Int) (h3_1 : Nat → Int) (h3_2 : Nat → Int),
    loopN (trimSt ((E_i_Grid_swapRows_1 α N).ann 162 6).head ((E_i_Grid_swapRows_1 α N).ann 162 6).grow 4) (bodyK Try.prog (E_i_Grid_swapRows_1 α N) 1 1 162 Try.f162 6) m (buildS i_Grid_led_l0_s5_p [.i t22, .i t23, .i h0, .i h1_0, .f h1_1, .f h1_2, .i h2_0, .f h2_1, .f h2_2, .i h3_0, .f h3_1, .f h3_2]) (leaveLoop ((E_i_Grid_swapRows_1 α N).ann 162 6) 4 K) = i_Grid_led_l0_s5 none N t22 h0 h1_0 h1_1 h1_2 h2_0 h2_1 h2_2 h3_0 m t23 h3_1 h3_2 (fun h3_1_ h3_2_ => K (.exit 0) (buildS i_Grid_led_l0_s5_o0 [.i h0, .i h1_0, .f h1_1, .f h1_2, .i h2_0, .f h2_1, .f h2_2, .i h3_0, .f h3_1_, .f h3_2_])) := by
  intro m
  induction m with
  | zero => intros; rfl
  | succ m ih =>
    intro t23 h3_1 h3_2
    rw [loopN_round]
    refine (i_Grid_led_l0_s5_round N t22 t23 h0 h1_0 h1_1 h1_2 h2_0 h2_1 h2_2 h3_0 h3_1 h3_2 _ K).trans ?_
    simp only [ih]
    rfl
def E_i_Grid_led_l0_s5 (α : Type) (N : Nat) : Env α := (E_i_Grid_swapRows_1 α N).addLoop2 162 6 (loopSum2 ((E_i_Grid_swapRows_1 α N).ann 162 6) 1 i_Grid_led_l0_s5_p (fun l K => match l with
    | [.i t22, .i t23, .i h0, .i h1_0, .f h1_1, .f h1_2, .i h2_0, .f h2_1, .f h2_2, .i h3_0, .f h3_1, .f h3_2] => i_Grid_led_l0_s5 none N t22 h0 h1_0 h1_1 h1_2 h2_0 h2_1 h2_2 h3_0 N t23 h3_1 h3_2 (fun h3_1_ h3_2_ => K (.exit 0) (buildS i_Grid_led_l0_s5_o0 [.i h0, .i h1_0, .f h1_1, .f h1_2, .i h2_0, .f h2_1, .f h2_2, .i h3_0, .f h3_1_, .f h3_2_]))
    | _ => none) ((E_i_Grid_swapRows_1 α N).ls 162 6))
theorem E_i_Grid_led_l0_s5_ok {α : Type} (N : Nat) : EnvOk Try.prog (E_i_Grid_led_l0_s5 α N) := (E_i_Grid_swapRows_1_ok N).addLoop2 Try.func162 (by kernel_rfl) (loopSum_ok prog_mixed prog_names (E_i_Grid_swapRows_1_ok N) Try.func162 (by kernel_rfl) (d := 1) (ro := 1) fun l K r h => by
  split at h
  · exact (i_Grid_led_l0_s5_loop N _ _ _ _ _ _ _ _ _ K N _ _ _).trans h
  · cases h)

/-- (impl.Grid).led, loop -/
def i_Grid_led_l0_s6_p : SPat := ⟨[.undef, .func 200 [.ptr ⟨⟨0, 0⟩, 0, 0, 1⟩], .undef, .ptr ⟨⟨1, 0⟩, 0, 0, 1⟩, .undef, .undef, .ptr ⟨⟨2, 0⟩, 0, 0, 1⟩, .ptr ⟨⟨3, 0⟩, 0, 0, 1⟩, .ptr ⟨⟨3, 0⟩, 1, 0, 8⟩, .ptr ⟨⟨3, 0⟩, 2, 0, 8⟩, .undef, .undef, .undef, .undef, .undef, .undef, .undef, .undef, .undef, .undef, .undef, .undef, .int .i64, .int .i64] ++ List.replicate 38 .undef, [[.vals [.int .i64]], [.vals [.int .i64], .ints .u8 8, .ints .u8 8], [.vals [.int .i64], .ints .u8 8, .ints .u8 8], [.vals [.int .i64], .ints .u8 8, .ints .u8 8]]⟩
def i_Grid_led_l0_s6_o0 : SPat := ⟨[.undef, .undef, .undef, .undef, .undef, .undef, .ptr ⟨⟨2, 0⟩, 0, 0, 1⟩, .ptr ⟨⟨3, 0⟩, 0, 0, 1⟩] ++ List.replicate 54 .undef, [[.vals [.int .i64]], [.vals [.int .i64], .ints .u8 8, .ints .u8 8], [.vals [.int .i64], .ints .u8 8, .ints .u8 8], [.vals [.int .i64], .ints .u8 8, .ints .u8 8]]⟩
theorem i_Grid_led_l0_s6_round {α : Type} (N : Nat) (t22 : Int) (t23 : Int) (h0 : Int) (h1_0 : Int) (h1_1 : Nat → Int) (h1_2 : Nat → Int) (h2_0 : Int) (h2_1 : Nat → Int) (h2_2 : Nat → Int) (h3_0 : Int) (h3_1 : Nat → Int) (h3_2 : Nat → Int) (kn : St → Option α) (K : AExit → St → Option α) :
    roundK Try.prog (E_i_Grid_led_l0_s5 α N) 1 1 162 Try.f162 6 4 (buildS i_Grid_led_l0_s6_p [.i t22, .i t23, .i h0, .i h1_0, .f h1_1, .f h1_2, .i h2_0, .f h2_1, .f h2_2, .i h3_0, .f h3_1, .f h3_2]) kn K = i_Grid_led_l0_s6_s none N t22 h0 h1_0 h1_1 h1_2 h2_0 h2_1 h2_2 h3_0 t23 h3_1 h3_2 (fun t23 h3_1 h3_2 => kn (buildS i_Grid_led_l0_s6_p [.i t22, .i t23, .i h0, .i h1_0, .f h1_1, .f h1_2, .i h2_0, .f h2_1, .f h2_2, .i h3_0, .f h3_1, .f h3_2])) (fun h3_1_ h3_2_ => K (.exit 0) (buildS i_Grid_led_l0_s6_o0 [.i h0, .i h1_0, .f h1_1, .f h1_2, .i h2_0, .f h2_1, .f h2_2, .i h3_0, .f h3_1_, .f h3_2_])) := by kernel_rfl
theorem i_Grid_led_l0_s6_loop {α : Type} (N : Nat) (t22 : Int) (h0 : Int) (h1_0 : Int) (h1_1 : Nat → Int) (h1_2 : Nat → Int) (h2_0 : Int) (h2_1 : Nat → Int) (h2_2 : Nat → Int) (h3_0 : Int) (K : AExit → St → Option α) : ∀ (m : Nat) (t23 : Int) (h3_1 : Nat → Int) (h3_2 : Nat → Int),
    loopN (trimSt ((E_i_Grid_led_l0_s5 α N).ann 162 6).head ((E_i_Grid_led_l0_s5 α N).ann 162 6).grow 4) (bodyK Try.prog (E_i_Grid_led_l0_s5 α N) 1 1 162 Try.f162 6) m (buildS i_Grid_led_l0_s6_p [.i t22, .i t23, .i h0, .i h1_0, .f h1_1, .f h1_2, .i h2_0, .f h2_1, .f h2_2, .i h3_0, .f h3_1, .f h3_2]) (leaveLoop ((E_i_Grid_led_l0_s5 α N).ann 162 6) 4 K) = i_Grid_led_l0_s6 none N t22 h0 h1_0 h1_1 h1_2 h2_0 h2_1 h2_2 h3_0 m t23 h3_1 h3_2 (fun h3_1_ h3_2_ => K (.exit 0) (buildS i_Grid_led_l0_s6_o0 [.i h0, .i h1_0, .f h1_1, .f h1_2, .i h2_0, .f h2_1, .f h2_2, .i h3_0, .f h3_1_, .f h3_2_])) := by
  intro m
  induction m with
  | zero => intros; rfl
  | succ m ih =>
    intro t23 h3_1 h3_2
    rw [loopN_round]
    refine (i_Grid_led_l0_s6_round N t22 t23 h0 h1_0 h1_1 h1_2 h2_0 h2_1 h2_2 h3_0 h3_1 h3_2 _ K).trans ?_
    simp only [ih]
    rfl
def E_i_Grid_led_l0_s6 (α : Type) (N : Nat) : Env α := (E_i_Grid_led_l0_s5 α N).addLoop2 162 6 (loopSum2 ((E_i_Grid_led_l0_s5 α N).ann 162 6) 1 i_Grid_led_l0_s6_p (fun l K => match l with
    | [.i t22, .i t23, .i h0, .i h1_0, .f h1_1, .f h1_2, .i h2_0, .f h2_1, .f h2_2, .i h3_0, .f h3_1, .f h3_2] => i_Grid_led_l0_s6 none N t22 h0 h1_0 h1_1 h1_2 h2_0 h2_1 h2_2 h3_0 N t23 h3_1 h3_2 (fun h3_1_ h3_2_ => K (.exit 0) (buildS i_Grid_led_l0_s6_o0 [.i h0, .i h1_0, .f h1_1, .f h1_2, .i h2_0, .f h2_1, .f h2_2, .i h3_0, .f h3_1_, .f h3_2_]))
    | _ => none) ((E_i_Grid_led_l0_s5 α N).ls 162 6))
theorem E_i_Grid_led_l0_s6_ok {α : Type} (N : Nat) : EnvOk Try.prog (E_i_Grid_led_l0_s6 α N) := (E_i_Grid_led_l0_s5_ok N).addLoop2 Try.func162 (by kernel_rfl) (loopSum_ok prog_mixed prog_names (E_i_Grid_led_l0_s5_ok N) Try.func162 (by kernel_rfl) (d := 1) (ro := 1) fun l K r h => by
  split at h
  · exact (i_Grid_led_l0_s6_loop N _ _ _ _ _ _ _ _ _ K N _ _ _).trans h
  · cases h)

/-- (impl.Grid).led -/
def i_Grid_led_s3_a : SPat := ⟨[.agg [.vals [.int .i64], .ints .u8 8, .ints .u8 8], .func 200 [.ptr ⟨⟨0, 0⟩, 0, 0, 1⟩], .bool], [[.vals [.int .i64]]]⟩
def i_Grid_led_s3_r0 : SPat := ⟨[.agg [.vals [.int .i64], .ints .u8 8, .ints .u8 8]], [[.vals [.int .i64]]]⟩
theorem i_Grid_led_s3_run {α : Type} (N : Nat) (g_0 : Int) (g_1 : Nat → Int) (g_2 : Nat → Int) (exchanged : Bool) (h0 : Int) (K : AV → Heap → Option α) :
    callK Try.prog (E_i_Grid_led_l0_s6 α N) 1 162 1 (buildS i_Grid_led_s3_a [.i g_0, .f g_1, .f g_2, .b exchanged, .i h0]).t (buildS i_Grid_led_s3_a [.i g_0, .f g_1, .f g_2, .b exchanged, .i h0]).h K = i_Grid_led_s3 none N g_0 g_1 g_2 exchanged h0 (fun r_1_ r_2_ => retK (buildS i_Grid_led_s3_r0 [.i g_0, .f r_1_, .f r_2_, .i h0]) K) := by kernel_rfl
def E_i_Grid_led_s3 (α : Type) (N : Nat) : Env α := (E_i_Grid_led_l0_s6 α N).addFun 162 true 1 i_Grid_led_s3_a (fun l K => match l with
    | [.i g_0, .f g_1, .f g_2, .b exchanged, .i h0] => i_Grid_led_s3 none N g_0 g_1 g_2 exchanged h0 (fun r_1_ r_2_ => retK (buildS i_Grid_led_s3_r0 [.i g_0, .f r_1_, .f r_2_, .i h0]) K)
    | _ => none)
theorem E_i_Grid_led_s3_ok {α : Type} (N : Nat) : EnvOk Try.prog (E_i_Grid_led_s3 α N) := (E_i_Grid_led_l0_s6_ok N).addFun prog_mixed prog_names (d := 1) fun l K r h => by
  split at h
  · exact (i_Grid_led_s3_run N _ _ _ _ _ K).trans h
  · cases h

/-- (impl.Grid).swapRows -/
def i_Grid_swapRows_a : SPat := ⟨[.agg [.vals [.int .i64], .ints .u8 8, .ints .u8 8], .int .i64], []⟩
def i_Grid_swapRows_r0 : SPat := ⟨[.agg [.vals [.int .i64], .ints .u8 8, .ints .u8 8]], []⟩
theorem i_Grid_swapRows_run {α : Type} (N : Nat) (g_0 : Int) (g_1 : Nat → Int) (g_2 : Nat → Int) (r_ : Int) (K : AV → Heap → Option α) :
    callK Try.prog (E_i_Grid_led_s3 α N) 1 131 0 (buildS i_Grid_swapRows_a [.i g_0, .f g_1, .f g_2, .i r_]).t (buildS i_Grid_swapRows_a [.i g_0, .f g_1, .f g_2, .i r_]).h K = i_Grid_swapRows none N g_0 g_1 g_2 r_ (fun r_1_ r_2_ => retK (buildS i_Grid_swapRows_r0 [.i g_0, .f r_1_, .f r_2_]) K) := by kernel_rfl
def E_i_Grid_swapRows (α : Type) (N : Nat) : Env α := (E_i_Grid_led_s3 α N).addFun 131 true 0 i_Grid_swapRows_a (fun l K => match l with
    | [.i g_0, .f g_1, .f g_2, .i r_] => i_Grid_swapRows none N g_0 g_1 g_2 r_ (fun r_1_ r_2_ => retK (buildS i_Grid_swapRows_r0 [.i g_0, .f r_1_, .f r_2_]) K)
    | _ => none)
theorem E_i_Grid_swapRows_ok {α : Type} (N : Nat) : EnvOk Try.prog (E_i_Grid_swapRows α N) := (E_i_Grid_led_s3_ok N).addFun prog_mixed prog_names (d := 1) fun l K r h => by
  split at h
  · exact (i_Grid_swapRows_run N _ _ _ _ K).trans h
  · cases h

/-- impl.ExchangeRows -/
def i_ExchangeRows_a : SPat := ⟨[.agg [.vals [.int .i64], .ints .u8 8, .ints .u8 8], .int .i64], []⟩
def i_ExchangeRows_r0 : SPat := ⟨[.tuple [.agg [.vals [.int .i64], .ints .u8 8, .ints .u8 8], .int .i64]], []⟩
theorem i_ExchangeRows_run {α : Type} (N : Nat) (g_0 : Int) (g_1 : Nat → Int) (g_2 : Nat → Int) (r_ : Int) (K : AV → Heap → Option α) :
    callK Try.prog (E_i_Grid_swapRows α N) 1 40 0 (buildS i_ExchangeRows_a [.i g_0, .f g_1, .f g_2, .i r_]).t (buildS i_ExchangeRows_a [.i g_0, .f g_1, .f g_2, .i r_]).h K = i_ExchangeRows none N g_0 g_1 g_2 r_ (fun r_0_0_ r_0_1_ r_0_2_ r_1_ => retK (buildS i_ExchangeRows_r0 [.i r_0_0_, .f r_0_1_, .f r_0_2_, .i r_1_]) K) := by kernel_rfl
def E_i_ExchangeRows (α : Type) (N : Nat) : Env α := (E_i_Grid_swapRows α N).addFun 40 true 0 i_ExchangeRows_a (fun l K => match l with
    | [.i g_0, .f g_1, .f g_2, .i r_] => i_ExchangeRows none N g_0 g_1 g_2 r_ (fun r_0_0_ r_0_1_ r_0_2_ r_1_ => retK (buildS i_ExchangeRows_r0 [.i r_0_0_, .f r_0_1_, .f r_0_2_, .i r_1_]) K)
    | _ => none)
theorem E_i_ExchangeRows_ok {α : Type} (N : Nat) : EnvOk Try.prog (E_i_ExchangeRows α N) := (E_i_Grid_swapRows_ok N).addFun prog_mixed prog_names (d := 1) fun l K r h => by
  split at h
  · exact (i_ExchangeRows_run N _ _ _ _ K).trans h
  · cases h

/-- spec.l02Rows -/
def s_l02Rows_a : SPat := ⟨[.agg [.vals [.int .i64], .ints .u8 8, .ints .u8 8], .int .i64], []⟩
def s_l02Rows_r0 : SPat := ⟨[.bool], []⟩
theorem s_l02Rows_run {α : Type} (N : Nat) (g_0 : Int) (g_1 : Nat → Int) (g_2 : Nat → Int) (r_ : Int) (K : AV → Heap → Option α) :
    callK Try.prog (E_i_ExchangeRows α N) 1 132 0 (buildS s_l02Rows_a [.i g_0, .f g_1, .f g_2, .i r_]).t (buildS s_l02Rows_a [.i g_0, .f g_1, .f g_2, .i r_]).h K = s_l02Rows none N g_0 g_1 g_2 r_ (fun r__ => retK (buildS s_l02Rows_r0 [.b r__]) K) := by kernel_rfl
def E_s_l02Rows (α : Type) (N : Nat) : Env α := (E_i_ExchangeRows α N).addFun 132 true 0 s_l02Rows_a (fun l K => match l with
    | [.i g_0, .f g_1, .f g_2, .i r_] => s_l02Rows none N g_0 g_1 g_2 r_ (fun r__ => retK (buildS s_l02Rows_r0 [.b r__]) K)
    | _ => none)
theorem E_s_l02Rows_ok {α : Type} (N : Nat) : EnvOk Try.prog (E_s_l02Rows α N) := (E_i_ExchangeRows_ok N).addFun prog_mixed prog_names (d := 1) fun l K r h => by
  split at h
  · exact (s_l02Rows_run N _ _ _ _ K).trans h
  · cases h

def A_s_l02SwapRows_l0 (α : Type) (N : Nat) : Env α := (E_s_l02Rows α N).addAnn 133 3 { head := [2, 4, 5, 6, 7], grow := [], out := [2, 4], ret := [4] }
theorem A_s_l02SwapRows_l0_ok {α : Type} (N : Nat) : EnvOk Try.prog (A_s_l02SwapRows_l0 α N) := (E_s_l02Rows_ok N).addAnn

/-- spec.l02SwapRows, loop -/
def s_l02SwapRows_l0_p : SPat := ⟨[.undef, .undef, .ptr ⟨⟨0, 0⟩, 0, 0, 1⟩, .undef, .ptr ⟨⟨1, 0⟩, 0, 0, 1⟩, .int .u8, .int .u8, .int .i64] ++ List.replicate 48 .undef, [[.vals [.int .i64], .ints .u8 8, .ints .u8 8], [.vals [.int .i64], .ints .u8 8, .ints .u8 8]]⟩
def s_l02SwapRows_l0_o0 : SPat := ⟨[.undef, .undef, .ptr ⟨⟨0, 0⟩, 0, 0, 1⟩, .undef, .ptr ⟨⟨1, 0⟩, 0, 0, 1⟩] ++ List.replicate 51 .undef, [[.vals [.int .i64], .ints .u8 8, .ints .u8 8], [.vals [.int .i64], .ints .u8 8, .ints .u8 8]]⟩
theorem s_l02SwapRows_l0_round {α : Type} (N : Nat) (a : Int) (b : Int) (i : Int) (h0_0 : Int) (h0_1 : Nat → Int) (h0_2 : Nat → Int) (h1_0 : Int) (h1_1 : Nat → Int) (h1_2 : Nat → Int) (kn : St → Option α) (K : AExit → St → Option α) :
    roundK Try.prog (A_s_l02SwapRows_l0 α N) 1 0 133 Try.f133 3 2 (buildS s_l02SwapRows_l0_p [.i a, .i b, .i i, .i h0_0, .f h0_1, .f h0_2, .i h1_0, .f h1_1, .f h1_2]) kn K = s_l02SwapRows_l0_s none a b h0_0 h1_0 h1_1 h1_2 i h0_1 h0_2 (fun i h0_1 h0_2 => kn (buildS s_l02SwapRows_l0_p [.i a, .i b, .i i, .i h0_0, .f h0_1, .f h0_2, .i h1_0, .f h1_1, .f h1_2])) (fun h0_1_ h0_2_ => K (.exit 0) (buildS s_l02SwapRows_l0_o0 [.i h0_0, .f h0_1_, .f h0_2_, .i h1_0, .f h1_1, .f h1_2])) := by kernel_rfl
theorem s_l02SwapRows_l0_loop {α : Type} (N : Nat) (a : Int) (b : Int) (h0_0 : Int) (h1_0 : Int) (h1_1 : Nat → Int) (h1_2 : Nat → Int) (K : AExit → St → Option α) : ∀ (m : Nat) (i : Int) (h0_1 : Nat → Int) (h0_2 : Nat → Int),
    loopN (trimSt ((A_s_l02SwapRows_l0 α N).ann 133 3).head ((A_s_l02SwapRows_l0 α N).ann 133 3).grow 2) (bodyK Try.prog (A_s_l02SwapRows_l0 α N) 1 0 133 Try.f133 3) m (buildS s_l02SwapRows_l0_p [.i a, .i b, .i i, .i h0_0, .f h0_1, .f h0_2, .i h1_0, .f h1_1, .f h1_2]) (leaveLoop ((A_s_l02SwapRows_l0 α N).ann 133 3) 2 K) = s_l02SwapRows_l0 none a b h0_0 h1_0 h1_1 h1_2 m i h0_1 h0_2 (fun h0_1_ h0_2_ => K (.exit 0) (buildS s_l02SwapRows_l0_o0 [.i h0_0, .f h0_1_, .f h0_2_, .i h1_0, .f h1_1, .f h1_2])) := by
  intro m
  induction m with
  | zero => intros; rfl
  | succ m ih =>
    intro i h0_1 h0_2
    rw [loopN_round]
    refine (s_l02SwapRows_l0_round N a b i h0_0 h0_1 h0_2 h1_0 h1_1 h1_2 _ K).trans ?_
    simp only [ih]
    rfl
def E_s_l02SwapRows_l0 (α : Type) (N : Nat) : Env α := (A_s_l02SwapRows_l0 α N).addLoop2 133 3 (loopSum2 ((A_s_l02SwapRows_l0 α N).ann 133 3) 0 s_l02SwapRows_l0_p (fun l K => match l with
    | [.i a, .i b, .i i, .i h0_0, .f h0_1, .f h0_2, .i h1_0, .f h1_1, .f h1_2] => s_l02SwapRows_l0 none a b h0_0 h1_0 h1_1 h1_2 N i h0_1 h0_2 (fun h0_1_ h0_2_ => K (.exit 0) (buildS s_l02SwapRows_l0_o0 [.i h0_0, .f h0_1_, .f h0_2_, .i h1_0, .f h1_1, .f h1_2]))
    | _ => none) ((A_s_l02SwapRows_l0 α N).ls 133 3))
theorem E_s_l02SwapRows_l0_ok {α : Type} (N : Nat) : EnvOk Try.prog (E_s_l02SwapRows_l0 α N) := (A_s_l02SwapRows_l0_ok N).addLoop2 Try.func133 (by kernel_rfl) (loopSum_ok prog_mixed prog_names (A_s_l02SwapRows_l0_ok N) Try.func133 (by kernel_rfl) (d := 1) (ro := 0) fun l K r h => by
  split at h
  · exact (s_l02SwapRows_l0_loop N _ _ _ _ _ _ K N _ _ _).trans h
  · cases h)

/-- spec.l02SwapRows -/
def s_l02SwapRows_a : SPat := ⟨[.agg [.vals [.int .i64], .ints .u8 8, .ints .u8 8], .int .i64], []⟩
def s_l02SwapRows_r0 : SPat := ⟨[.agg [.vals [.int .i64], .ints .u8 8, .ints .u8 8]], []⟩
theorem s_l02SwapRows_run {α : Type} (N : Nat) (g_0 : Int) (g_1 : Nat → Int) (g_2 : Nat → Int) (r_ : Int) (K : AV → Heap → Option α) :
    callK Try.prog (E_s_l02SwapRows_l0 α N) 1 133 0 (buildS s_l02SwapRows_a [.i g_0, .f g_1, .f g_2, .i r_]).t (buildS s_l02SwapRows_a [.i g_0, .f g_1, .f g_2, .i r_]).h K = s_l02SwapRows none N g_0 g_1 g_2 r_ (fun r_1_ r_2_ => retK (buildS s_l02SwapRows_r0 [.i g_0, .f r_1_, .f r_2_]) K) := by kernel_rfl
def E_s_l02SwapRows (α : Type) (N : Nat) : Env α := (E_s_l02SwapRows_l0 α N).addFun 133 true 0 s_l02SwapRows_a (fun l K => match l with
    | [.i g_0, .f g_1, .f g_2, .i r_] => s_l02SwapRows none N g_0 g_1 g_2 r_ (fun r_1_ r_2_ => retK (buildS s_l02SwapRows_r0 [.i g_0, .f r_1_, .f r_2_]) K)
    | _ => none)
theorem E_s_l02SwapRows_ok {α : Type} (N : Nat) : EnvOk Try.prog (E_s_l02SwapRows α N) := (E_s_l02SwapRows_l0_ok N).addFun prog_mixed prog_names (d := 1) fun l K r h => by
  split at h
  · exact (s_l02SwapRows_run N _ _ _ _ K).trans h
  · cases h

/-- spec.ExchangeRows -/
def s_ExchangeRows_a : SPat := ⟨[.agg [.vals [.int .i64], .ints .u8 8, .ints .u8 8], .int .i64], []⟩
def s_ExchangeRows_r0 : SPat := ⟨[.tuple [.agg [.vals [.int .i64], .ints .u8 8, .ints .u8 8], .int .i64]], []⟩
theorem s_ExchangeRows_run {α : Type} (N : Nat) (g_0 : Int) (g_1 : Nat → Int) (g_2 : Nat → Int) (r_ : Int) (K : AV → Heap → Option α) :
    callK Try.prog (E_s_l02SwapRows α N) 1 41 0 (buildS s_ExchangeRows_a [.i g_0, .f g_1, .f g_2, .i r_]).t (buildS s_ExchangeRows_a [.i g_0, .f g_1, .f g_2, .i r_]).h K = s_ExchangeRows none N g_0 g_1 g_2 r_ (fun r_0_0_ r_0_1_ r_0_2_ r_1_ => retK (buildS s_ExchangeRows_r0 [.i r_0_0_, .f r_0_1_, .f r_0_2_, .i r_1_]) K) := by kernel_rfl
def E_s_ExchangeRows (α : Type) (N : Nat) : Env α := (E_s_l02SwapRows α N).addFun 41 true 0 s_ExchangeRows_a (fun l K => match l with
    | [.i g_0, .f g_1, .f g_2, .i r_] => s_ExchangeRows none N g_0 g_1 g_2 r_ (fun r_0_0_ r_0_1_ r_0_2_ r_1_ => retK (buildS s_ExchangeRows_r0 [.i r_0_0_, .f r_0_1_, .f r_0_2_, .i r_1_]) K)
    | _ => none)
theorem E_s_ExchangeRows_ok {α : Type} (N : Nat) : EnvOk Try.prog (E_s_ExchangeRows α N) := (E_s_l02SwapRows_ok N).addFun prog_mixed prog_names (d := 1) fun l K r h => by
  split at h
  · exact (s_ExchangeRows_run N _ _ _ _ K).trans h
  · cases h

/-- spec.CanExchangeRows -/
def s_CanExchangeRows_a : SPat := ⟨[.agg [.vals [.int .i64], .ints .u8 8, .ints .u8 8], .int .i64], []⟩
def s_CanExchangeRows_r0 : SPat := ⟨[.tuple [.bool, .int .i64]], []⟩
theorem s_CanExchangeRows_run {α : Type} (N : Nat) (g_0 : Int) (g_1 : Nat → Int) (g_2 : Nat → Int) (r_ : Int) (K : AV → Heap → Option α) :
    callK Try.prog (E_s_ExchangeRows α N) 1 43 0 (buildS s_CanExchangeRows_a [.i g_0, .f g_1, .f g_2, .i r_]).t (buildS s_CanExchangeRows_a [.i g_0, .f g_1, .f g_2, .i r_]).h K = s_CanExchangeRows none N g_0 g_1 g_2 r_ (fun r_0_ r_1_ => retK (buildS s_CanExchangeRows_r0 [.b r_0_, .i r_1_]) K) := by kernel_rfl
def E_s_CanExchangeRows (α : Type) (N : Nat) : Env α := (E_s_ExchangeRows α N).addFun 43 true 0 s_CanExchangeRows_a (fun l K => match l with
    | [.i g_0, .f g_1, .f g_2, .i r_] => s_CanExchangeRows none N g_0 g_1 g_2 r_ (fun r_0_ r_1_ => retK (buildS s_CanExchangeRows_r0 [.b r_0_, .i r_1_]) K)
    | _ => none)
theorem E_s_CanExchangeRows_ok {α : Type} (N : Nat) : EnvOk Try.prog (E_s_CanExchangeRows α N) := (E_s_ExchangeRows_ok N).addFun prog_mixed prog_names (d := 1) fun l K r h => by
  split at h
  · exact (s_CanExchangeRows_run N _ _ _ _ K).trans h
  · cases h

/-- (impl.Grid).transpose$1 -/
def i_Grid_transpose_1_a : SPat := ⟨[.int .i64, .int .i64], []⟩
def i_Grid_transpose_1_r0 : SPat := ⟨[.tuple [.int .i64, .int .i64]], []⟩
theorem i_Grid_transpose_1_run {α : Type} (N : Nat) (i : Int) (r_ : Int) (K : AV → Heap → Option α) :
    callK Try.prog (E_s_CanExchangeRows α N) 1 201 0 (buildS i_Grid_transpose_1_a [.i i, .i r_]).t (buildS i_Grid_transpose_1_a [.i i, .i r_]).h K = i_Grid_transpose_1 none N i r_ (retK (buildS i_Grid_transpose_1_r0 [.i r_, .i i]) K) := by kernel_rfl
def E_i_Grid_transpose_1 (α : Type) (N : Nat) : Env α := (E_s_CanExchangeRows α N).addFun 201 true 0 i_Grid_transpose_1_a (fun l K => match l with
    | [.i i, .i r_] => i_Grid_transpose_1 none N i r_ (retK (buildS i_Grid_transpose_1_r0 [.i r_, .i i]) K)
    | _ => none)
theorem E_i_Grid_transpose_1_ok {α : Type} (N : Nat) : EnvOk Try.prog (E_i_Grid_transpose_1 α N) := (E_s_CanExchangeRows_ok N).addFun prog_mixed prog_names (d := 1) fun l K r h => by
  split at h
  · exact (i_Grid_transpose_1_run N _ _ K).trans h
  · cases h

/-- (impl.Grid).led, loop -/
def i_Grid_led_l0_p : SPat := ⟨[.undef, .func 201 [], .undef, .ptr ⟨⟨0, 0⟩, 0, 0, 1⟩, .undef, .undef, .ptr ⟨⟨1, 0⟩, 0, 0, 1⟩, .ptr ⟨⟨2, 0⟩, 0, 0, 1⟩, .ptr ⟨⟨2, 0⟩, 2, 0, 8⟩, .ptr ⟨⟨2, 0⟩, 1, 0, 8⟩, .undef, .undef, .undef, .undef, .undef, .undef, .undef, .undef, .undef, .undef, .undef, .undef, .int .i64, .int .i64] ++ List.replicate 38 .undef, [[.vals [.int .i64], .ints .u8 8, .ints .u8 8], [.vals [.int .i64], .ints .u8 8, .ints .u8 8], [.vals [.int .i64], .ints .u8 8, .ints .u8 8]]⟩
def i_Grid_led_l0_o0 : SPat := ⟨[.undef, .undef, .undef, .undef, .undef, .undef, .ptr ⟨⟨1, 0⟩, 0, 0, 1⟩, .ptr ⟨⟨2, 0⟩, 0, 0, 1⟩] ++ List.replicate 54 .undef, [[.vals [.int .i64], .ints .u8 8, .ints .u8 8], [.vals [.int .i64], .ints .u8 8, .ints .u8 8], [.vals [.int .i64], .ints .u8 8, .ints .u8 8]]⟩
theorem i_Grid_led_l0_round {α : Type} (N : Nat) (t22 : Int) (t23 : Int) (h0_0 : Int) (h0_1 : Nat → Int) (h0_2 : Nat → Int) (h1_0 : Int) (h1_1 : Nat → Int) (h1_2 : Nat → Int) (h2_0 : Int) (h2_1 : Nat → Int) (h2_2 : Nat → Int) (kn : St → Option α) (K : AExit → St → Option α) :
    roundK Try.prog (E_i_Grid_transpose_1 α N) 1 0 162 Try.f162 6 3 (buildS i_Grid_led_l0_p [.i t22, .i t23, .i h0_0, .f h0_1, .f h0_2, .i h1_0, .f h1_1, .f h1_2, .i h2_0, .f h2_1, .f h2_2]) kn K = i_Grid_led_l0_s none N t22 h0_0 h0_1 h0_2 h1_0 h1_1 h1_2 h2_0 t23 h2_1 h2_2 (fun t23 h2_1 h2_2 => kn (buildS i_Grid_led_l0_p [.i t22, .i t23, .i h0_0, .f h0_1, .f h0_2, .i h1_0, .f h1_1, .f h1_2, .i h2_0, .f h2_1, .f h2_2])) (fun h2_1_ h2_2_ => K (.exit 0) (buildS i_Grid_led_l0_o0 [.i h0_0, .f h0_1, .f h0_2, .i h1_0, .f h1_1, .f h1_2, .i h2_0, .f h2_1_, .f h2_2_])) := by kernel_rfl
theorem i_Grid_led_l0_loop {α : Type} (N : Nat) (t22 : Int) (h0_0 : Int) (h0_1 : Nat → Int) (h0_2 : Nat → Int) (h1_0 : Int) (h1_1 : Nat → Int) (h1_2 : Nat → Int) (h2_0 : Int) (K : AExit → St → Option α) : ∀ (m : Nat) (t23 : Int) (h2_1 : Nat → Int) (h2_2 : Nat → Int),
    loopN (trimSt ((E_i_Grid_transpose_1 α N).ann 162 6).head ((E_i_Grid_transpose_1 α N).ann 162 6).grow 3) (bodyK Try.prog (E_i_Grid_transpose_1 α N) 1 0 162 Try.f162 6) m (buildS i_Grid_led_l0_p [.i t22, .i t23, .i h0_0, .f h0_1, .f h0_2, .i h1_0, .f h1_1, .f h1_2, .i h2_0, .f h2_1, .f h2_2]) (leaveLoop ((E_i_Grid_transpose_1 α N).ann 162 6) 3 K) = i_Grid_led_l0 none N t22 h0_0 h0_1 h0_2 h1_0 h1_1 h1_2 h2_0 m t23 h2_1 h2_2 (fun h2_1_ h2_2_ => K (.exit 0) (buildS i_Grid_led_l0_o0 [.i h0_0, .f h0_1, .f h0_2, .i h1_0, .f h1_1, .f h1_2, .i h2_0, .f h2_1_, .f h2_2_])) := by
  intro m
  induction m with
  | zero => intros; rfl
  | succ m ih =>
    intro t23 h2_1 h2_2
    rw [loopN_round]
    refine (i_Grid_led_l0_round N t22 t23 h0_0 h0_1 h0_2 h1_0 h1_1 h1_2 h2_0 h2_1 h2_2 _ K).trans ?_
    simp only [ih]
    rfl
def E_i_Grid_led_l0 (α : Type) (N : Nat) : Env α := (E_i_Grid_transpose_1 α N).addLoop2 162 6 (loopSum2 ((E_i_Grid_transpose_1 α N).ann 162 6) 0 i_Grid_led_l0_p (fun l K => match l with
    | [.i t22, .i t23, .i h0_0, .f h0_1, .f h0_2, .i h1_0, .f h1_1, .f h1_2, .i h2_0, .f h2_1, .f h2_2] => i_Grid_led_l0 none N t22 h0_0 h0_1 h0_2 h1_0 h1_1 h1_2 h2_0 N t23 h2_1 h2_2 (fun h2_1_ h2_2_ => K (.exit 0) (buildS i_Grid_led_l0_o0 [.i h0_0, .f h0_1, .f h0_2, .i h1_0, .f h1_1, .f h1_2, .i h2_0, .f h2_1_, .f h2_2_]))
    | _ => none) ((E_i_Grid_transpose_1 α N).ls 162 6))
theorem E_i_Grid_led_l0_ok {α : Type} (N : Nat) : EnvOk Try.prog (E_i_Grid_led_l0 α N) := (E_i_Grid_transpose_1_ok N).addLoop2 Try.func162 (by kernel_rfl) (loopSum_ok prog_mixed prog_names (E_i_Grid_transpose_1_ok N) Try.func162 (by kernel_rfl) (d := 1) (ro := 0) fun l K r h => by
  split at h
  · exact (i_Grid_led_l0_loop N _ _ _ _ _ _ _ _ K N _ _ _).trans h
  · cases h)

/-- (impl.Grid).led, loop -/
def i_Grid_led_l0_s2_p : SPat := ⟨[.undef, .func 201 [], .undef, .ptr ⟨⟨0, 0⟩, 0, 0, 1⟩, .undef, .undef, .ptr ⟨⟨1, 0⟩, 0, 0, 1⟩, .ptr ⟨⟨2, 0⟩, 0, 0, 1⟩, .ptr ⟨⟨2, 0⟩, 1, 0, 8⟩, .ptr ⟨⟨2, 0⟩, 2, 0, 8⟩, .undef, .undef, .undef, .undef, .undef, .undef, .undef, .undef, .undef, .undef, .undef, .undef, .int .i64, .int .i64] ++ List.replicate 38 .undef, [[.vals [.int .i64], .ints .u8 8, .ints .u8 8], [.vals [.int .i64], .ints .u8 8, .ints .u8 8], [.vals [.int .i64], .ints .u8 8, .ints .u8 8]]⟩
def i_Grid_led_l0_s2_o0 : SPat := ⟨[.undef, .undef, .undef, .undef, .undef, .undef, .ptr ⟨⟨1, 0⟩, 0, 0, 1⟩, .ptr ⟨⟨2, 0⟩, 0, 0, 1⟩] ++ List.replicate 54 .undef, [[.vals [.int .i64], .ints .u8 8, .ints .u8 8], [.vals [.int .i64], .ints .u8 8, .ints .u8 8], [.vals [.int .i64], .ints .u8 8, .ints .u8 8]]⟩
theorem i_Grid_led_l0_s2_round {α : Type} (N : Nat) (t22 : Int) (t23 : Int) (h0_0 : Int) (h0_1 : Nat → Int) (h0_2 : Nat → Int) (h1_0 : Int) (h1_1 : Nat → Int) (h1_2 : Nat → Int) (h2_0 : Int) (h2_1 : Nat → Int) (h2_2 : Nat → Int) (kn : St → Option α) (K : AExit → St → Option α) :
    roundK Try.prog (E_i_Grid_led_l0 α N) 1 0 162 Try.f162 6 3 (buildS i_Grid_led_l0_s2_p [.i t22, .i t23, .i h0_0, .f h0_1, .f h0_2, .i h1_0, .f h1_1, .f h1_2, .i h2_0, .f h2_1, .f h2_2]) kn K = i_Grid_led_l0_s2_s none N t22 h0_0 h0_1 h0_2 h1_0 h1_1 h1_2 h2_0 t23 h2_1 h2_2 (fun t23 h2_1 h2_2 => kn (buildS i_Grid_led_l0_s2_p [.i t22, .i t23, .i h0_0, .f h0_1, .f h0_2, .i h1_0, .f h1_1, .f h1_2, .i h2_0, .f h2_1, .f h2_2])) (fun h2_1_ h2_2_ => K (.exit 0) (buildS i_Grid_led_l0_s2_o0 [.i h0_0, .f h0_1, .f h0_2, .i h1_0, .f h1_1, .f h1_2, .i h2_0, .f h2_1_, .f h2_2_])) := by kernel_rfl
theorem i_Grid_led_l0_s2_loop {α : Type} (N : Nat) (t22 : Int) (h0_0 : Int) (h0_1 : Nat → Int) (h0_2 : Nat → Int) (h1_0 : Int) (h1_1 : Nat → Int) (h1_2 : Nat → Int) (h2_0 : Int) (K : AExit → St → Option α) : ∀ (m : Nat) (t23 : Int) (h2_1 : Nat → Int) (h2_2 : Nat → Int),
    loopN (trimSt ((E_i_Grid_led_l0 α N).ann 162 6).head ((E_i_Grid_led_l0 α N).ann 162 6).grow 3) (bodyK Try.prog (E_i_Grid_led_l0 α N) 1 0 162 Try.f162 6) m (buildS i_Grid_led_l0_s2_p [.i t22, .i t23, .i h0_0, .f h0_1, .f h0_2, .i h1_0, .f h1_1, .f h1_2, .i h2_0, .f h2_1, .f h2_2]) (leaveLoop ((E_i_Grid_led_l0 α N).ann 162 6) 3 K) = i_Grid_led_l0_s2 none N t22 h0_0 h0_1 h0_2 h1_0 h1_1 h1_2 h2_0 m t23 h2_1 h2_2 (fun h2_1_ h2_2_ => K (.exit 0) (buildS i_Grid_led_l0_s2_o0 [.i h0_0, .f h0_1, .f h0_2, .i h1_0, .f h1_1, .f h1_2, .i h2_0, .f h2_1_, .f h2_2_])) := by
  intro m
  induction m with
  | zero => intros; rfl
  | succ m ih =>
    intro t23 h2_1 h2_2
    rw [loopN_round]
    refine (i_Grid_led_l0_s2_round N t22 t23 h0_0 h0_1 h0_2 h1_0 h1_1 h1_2 h2_0 h2_1 h2_2 _ K).trans ?_
    simp only [ih]
    rfl
def E_i_Grid_led_l0_s2 (α : Type) (N : Nat) : Env α := (E_i_Grid_led_l0 α N).addLoop2 162 6 (loopSum2 ((E_i_Grid_led_l0 α N).ann 162 6) 0 i_Grid_led_l0_s2_p (fun l K => match l with
    | [.i t22, .i t23, .i h0_0, .f h0_1, .f h0_2, .i h1_0, .f h1_1, .f h1_2, .i h2_0, .f h2_1, .f h2_2] => i_Grid_led_l0_s2 none N t22 h0_0 h0_1 h0_2 h1_0 h1_1 h1_2 h2_0 N t23 h2_1 h2_2 (fun h2_1_ h2_2_ => K (.exit 0) (buildS i_Grid_led_l0_s2_o0 [.i h0_0, .f h0_1, .f h0_2, .i h1_0, .f h1_1, .f h1_2, .i h2_0, .f h2_1_, .f h2_2_]))
    | _ => none) ((E_i_Grid_led_l0 α N).ls 162 6))
theorem E_i_Grid_led_l0_s2_ok {α : Type} (N : Nat) : EnvOk Try.prog (E_i_Grid_led_l0_s2 α N) := (E_i_Grid_led_l0_ok N).addLoop2 Try.func162 (by kernel_rfl) (loopSum_ok prog_mixed prog_names (E_i_Grid_led_l0_ok N) Try.func162 (by kernel_rfl) (d := 1) (ro := 0) fun l K r h => by
  split at h
  · exact (i_Grid_led_l0_s2_loop N _ _ _ _ _ _ _ _ K N _ _ _).trans h
  · cases h)

/-- (impl.Grid).led -/
def i_Grid_led_a : SPat := ⟨[.agg [.vals [.int .i64], .ints .u8 8, .ints .u8 8], .func 201 [], .bool], []⟩
def i_Grid_led_r0 : SPat := ⟨[.agg [.vals [.int .i64], .ints .u8 8, .ints .u8 8]], []⟩
theorem i_Grid_led_run {α : Type} (N : Nat) (g_0 : Int) (g_1 : Nat → Int) (g_2 : Nat → Int) (exchanged : Bool) (K : AV → Heap → Option α) :
    callK Try.prog (E_i_Grid_led_l0_s2 α N) 1 162 0 (buildS i_Grid_led_a [.i g_0, .f g_1, .f g_2, .b exchanged]).t (buildS i_Grid_led_a [.i g_0, .f g_1, .f g_2, .b exchanged]).h K = i_Grid_led none N g_0 g_1 g_2 exchanged (fun r_1_ r_2_ => retK (buildS i_Grid_led_r0 [.i g_0, .f r_1_, .f r_2_]) K) := by kernel_rfl
def E_i_Grid_led (α : Type) (N : Nat) : Env α := (E_i_Grid_led_l0_s2 α N).addFun 162 true 0 i_Grid_led_a (fun l K => match l with
    | [.i g_0, .f g_1, .f g_2, .b exchanged] => i_Grid_led none N g_0 g_1 g_2 exchanged (fun r_1_ r_2_ => retK (buildS i_Grid_led_r0 [.i g_0, .f r_1_, .f r_2_]) K)
    | _ => none)
theorem E_i_Grid_led_ok {α : Type} (N : Nat) : EnvOk Try.prog (E_i_Grid_led α N) := (E_i_Grid_led_l0_s2_ok N).addFun prog_mixed prog_names (d := 1) fun l K r h => by
  split at h
  · exact (i_Grid_led_run N _ _ _ _ K).trans h
  · cases h

/-- (impl.Grid).transpose -/
def i_Grid_transpose_a : SPat := ⟨[.agg [.vals [.int .i64], .ints .u8 8, .ints .u8 8]], []⟩
def i_Grid_transpose_r0 : SPat := ⟨[.agg [.vals [.int .i64], .ints .u8 8, .ints .u8 8]], []⟩
theorem i_Grid_transpose_run {α : Type} (N : Nat) (g_0 : Int) (g_1 : Nat → Int) (g_2 : Nat → Int) (K : AV → Heap → Option α) :
    callK Try.prog (E_i_Grid_led α N) 1 135 0 (buildS i_Grid_transpose_a [.i g_0, .f g_1, .f g_2]).t (buildS i_Grid_transpose_a [.i g_0, .f g_1, .f g_2]).h K = i_Grid_transpose none N g_0 g_1 g_2 (fun r_1_ r_2_ => retK (buildS i_Grid_transpose_r0 [.i g_0, .f r_1_, .f r_2_]) K) := by kernel_rfl
def E_i_Grid_transpose (α : Type) (N : Nat) : Env α := (E_i_Grid_led α N).addFun 135 true 0 i_Grid_transpose_a (fun l K => match l with
    | [.i g_0, .f g_1, .f g_2] => i_Grid_transpose none N g_0 g_1 g_2 (fun r_1_ r_2_ => retK (buildS i_Grid_transpose_r0 [.i g_0, .f r_1_, .f r_2_]) K)
    | _ => none)
theorem E_i_Grid_transpose_ok {α : Type} (N : Nat) : EnvOk Try.prog (E_i_Grid_transpose α N) := (E_i_Grid_led_ok N).addFun prog_mixed prog_names (d := 1) fun l K r h => by
  split at h
  · exact (i_Grid_transpose_run N _ _ _ K).trans h
  · cases h

/-- impl.whole[impl.Grid] -/
def i_whole_i_Grid_a : SPat := ⟨[.agg [.vals [.int .i64], .ints .u8 8, .ints .u8 8], .func 135 []], []⟩
def i_whole_i_Grid_r0 : SPat := ⟨[.tuple [.agg [.vals [.int .i64], .ints .u8 8, .ints .u8 8], .int .i64]], []⟩
theorem i_whole_i_Grid_run {α : Type} (N : Nat) (g_0 : Int) (g_1 : Nat → Int) (g_2 : Nat → Int) (K : AV → Heap → Option α) :
    callK Try.prog (E_i_Grid_transpose α N) 1 111 0 (buildS i_whole_i_Grid_a [.i g_0, .f g_1, .f g_2]).t (buildS i_whole_i_Grid_a [.i g_0, .f g_1, .f g_2]).h K = i_whole_i_Grid none N g_0 g_1 g_2 (fun r_0_0_ r_0_1_ r_0_2_ r_1_ => retK (buildS i_whole_i_Grid_r0 [.i r_0_0_, .f r_0_1_, .f r_0_2_, .i r_1_]) K) := by kernel_rfl
def E_i_whole_i_Grid (α : Type) (N : Nat) : Env α := (E_i_Grid_transpose α N).addFun 111 true 0 i_whole_i_Grid_a (fun l K => match l with
    | [.i g_0, .f g_1, .f g_2] => i_whole_i_Grid none N g_0 g_1 g_2 (fun r_0_0_ r_0_1_ r_0_2_ r_1_ => retK (buildS i_whole_i_Grid_r0 [.i r_0_0_, .f r_0_1_, .f r_0_2_, .i r_1_]) K)
    | _ => none)
theorem E_i_whole_i_Grid_ok {α : Type} (N : Nat) : EnvOk Try.prog (E_i_whole_i_Grid α N) := (E_i_Grid_transpose_ok N).addFun prog_mixed prog_names (d := 1) fun l K r h => by
  split at h
  · exact (i_whole_i_Grid_run N _ _ _ K).trans h
  · cases h

/-- impl.TransposeOf -/
def i_TransposeOf_a : SPat := ⟨[.agg [.vals [.int .i64], .ints .u8 8, .ints .u8 8]], []⟩
def i_TransposeOf_r0 : SPat := ⟨[.tuple [.agg [.vals [.int .i64], .ints .u8 8, .ints .u8 8], .int .i64]], []⟩
theorem i_TransposeOf_run {α : Type} (N : Nat) (g_0 : Int) (g_1 : Nat → Int) (g_2 : Nat → Int) (K : AV → Heap → Option α) :
    callK Try.prog (E_i_whole_i_Grid α N) 1 44 0 (buildS i_TransposeOf_a [.i g_0, .f g_1, .f g_2]).t (buildS i_TransposeOf_a [.i g_0, .f g_1, .f g_2]).h K = i_TransposeOf none N g_0 g_1 g_2 (fun r_0_0_ r_0_1_ r_0_2_ r_1_ => retK (buildS i_TransposeOf_r0 [.i r_0_0_, .f r_0_1_, .f r_0_2_, .i r_1_]) K) := by kernel_rfl
def E_i_TransposeOf (α : Type) (N : Nat) : Env α := (E_i_whole_i_Grid α N).addFun 44 true 0 i_TransposeOf_a (fun l K => match l with
    | [.i g_0, .f g_1, .f g_2] => i_TransposeOf none N g_0 g_1 g_2 (fun r_0_0_ r_0_1_ r_0_2_ r_1_ => retK (buildS i_TransposeOf_r0 [.i r_0_0_, .f r_0_1_, .f r_0_2_, .i r_1_]) K)
    | _ => none)
theorem E_i_TransposeOf_ok {α : Type} (N : Nat) : EnvOk Try.prog (E_i_TransposeOf α N) := (E_i_whole_i_Grid_ok N).addFun prog_mixed prog_names (d := 1) fun l K r h => by
  split at h
  · exact (i_TransposeOf_run N _ _ _ K).trans h
  · cases h
end Go.AM
