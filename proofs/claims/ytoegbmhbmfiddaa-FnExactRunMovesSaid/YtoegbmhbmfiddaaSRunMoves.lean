/- A part of a proof about the given program: an abstract machine, what the given functions come to, and plain laws. -/
import Derived.Test.YtoegbmhbmfiddaaMachG
import Derived.Test.YtoegbmhbmfiddaaDallRunMoves1
import Derived.Test.YtoegbmhbmfiddaaProg
set_option linter.unusedVariables false
set_option linter.unusedSimpArgs false
set_option maxRecDepth 100000
namespace Go.AM
open Go.Proofs

def E0 (α : Type) (N : Nat) : Env α := Env.base (fun _ _ => {}) N
theorem E0_ok {α : Type} (N : Nat) : EnvOk Try.prog (E0 α N) := .base
theorem prog_mixed : Try.prog.follows .mixedOrders = true := by kernel_rfl
theorem prog_names : NamesOk Try.prog := .of_all (by kernel_rfl)
/-- laws.szMoveS -/
def w_szMoveS_a : SPat := ⟨[.sliceV 0 0 0 6 false, .int .i64], [[.intsV .i64]]⟩
def w_szMoveS_r0 : SPat := ⟨[.int .i64], [[.intsV .i64]]⟩
theorem w_szMoveS_run {α : Type} (N : Nat) (a_n : Nat) (a_l : Nat) (a_c : Nat) (left : Int) (h0_n : Nat) (h0 : Nat → Int) (K : AV → Heap → Option α) :
    callK Try.prog (E0 α N) 1 23 1 (buildS w_szMoveS_a [.n a_n, .n a_l, .n a_c, .i left, .n h0_n, .f h0]).t (buildS w_szMoveS_a [.n a_n, .n a_l, .n a_c, .i left, .n h0_n, .f h0]).h K = w_szMoveS none N a_n a_l a_c left h0_n h0 (fun r__ => retK (buildS w_szMoveS_r0 [.i r__, .n h0_n, .f h0]) K) := by kernel_rfl
def E_w_szMoveS (α : Type) (N : Nat) : Env α := (E0 α N).addFun 23 true 1 w_szMoveS_a (fun l K => match l with
    | [.n a_n, .n a_l, .n a_c, .i left, .n h0_n, .f h0] => w_szMoveS none N a_n a_l a_c left h0_n h0 (fun r__ => retK (buildS w_szMoveS_r0 [.i r__, .n h0_n, .f h0]) K)
    | _ => none)
theorem E_w_szMoveS_ok {α : Type} (N : Nat) : EnvOk Try.prog (E_w_szMoveS α N) := (E0_ok N).addFun prog_mixed prog_names (d := 1) fun l K r h => by
  split at h
  · exact (w_szMoveS_run N _ _ _ _ _ _ K).trans h
  · cases h

def A_w_toByteA8_l0 (α : Type) (N : Nat) : Env α := (E_w_szMoveS α N).addAnn 43 3 { head := [1, 2, 3, 4], grow := [], out := [2, 3], ret := [2] }
theorem A_w_toByteA8_l0_ok {α : Type} (N : Nat) : EnvOk Try.prog (A_w_toByteA8_l0 α N) := (E_w_szMoveS_ok N).addAnn

/-- laws.toByteA8, loop -/
def w_toByteA8_l0_p : SPat := ⟨[.undef, .ptr ⟨⟨0, 0⟩, 0, 0, 8⟩, .ptr ⟨⟨1, 0⟩, 0, 0, 8⟩, .ptr ⟨⟨2, 0⟩, 0, 0, 8⟩, .int .i64] ++ List.replicate 10 .undef, [[.ints .u8 8], [.ints .u8 8], [.ints .u8 8]]⟩
def w_toByteA8_l0_o0 : SPat := ⟨[.undef, .undef, .ptr ⟨⟨1, 0⟩, 0, 0, 8⟩, .ptr ⟨⟨2, 0⟩, 0, 0, 8⟩] ++ List.replicate 11 .undef, [[.ints .u8 8], [.ints .u8 8], [.ints .u8 8]]⟩
theorem w_toByteA8_l0_round {α : Type} (N : Nat) (i : Int) (h0 : Nat → Int) (h1 : Nat → Int) (h2 : Nat → Int) (kn : St → Option α) (K : AExit → St → Option α) :
    roundK Try.prog (A_w_toByteA8_l0 α N) 1 0 43 Try.f43 3 3 (buildS w_toByteA8_l0_p [.i i, .f h0, .f h1, .f h2]) kn K = w_toByteA8_l0_s none h0 h1 i h2 (fun i h2 => kn (buildS w_toByteA8_l0_p [.i i, .f h0, .f h1, .f h2])) (fun h2_ => K (.exit 0) (buildS w_toByteA8_l0_o0 [.f h0, .f h1, .f h2_])) := by kernel_rfl
theorem w_toByteA8_l0_loop {α : Type} (N : Nat) (h0 : Nat → Int) (h1 : Nat → Int) (K : AExit → St → Option α) : ∀ (m : Nat) (i : Int) (h2 : Nat → Int),
    loopN (trimSt ((A_w_toByteA8_l0 α N).ann 43 3).head ((A_w_toByteA8_l0 α N).ann 43 3).grow 3) (bodyK Try.prog (A_w_toByteA8_l0 α N) 1 0 43 Try.f43 3) m (buildS w_toByteA8_l0_p [.i i, .f h0, .f h1, .f h2]) (leaveLoop ((A_w_toByteA8_l0 α N).ann 43 3) 3 K) = w_toByteA8_l0 none h0 h1 m i h2 (fun h2_ => K (.exit 0) (buildS w_toByteA8_l0_o0 [.f h0, .f h1, .f h2_])) := by
  intro m
  induction m with
  | zero => intros; rfl
  | succ m ih =>
    intro i h2
    rw [loopN_round]
    refine (w_toByteA8_l0_round N i h0 h1 h2 _ K).trans ?_
    simp only [ih]
    rfl
def E_w_toByteA8_l0 (α : Type) (N : Nat) : Env α := (A_w_toByteA8_l0 α N).addLoop2 43 3 (loopSum2 ((A_w_toByteA8_l0 α N).ann 43 3) 0 w_toByteA8_l0_p (fun l K => match l with
    | [.i i, .f h0, .f h1, .f h2] => w_toByteA8_l0 none h0 h1 N i h2 (fun h2_ => K (.exit 0) (buildS w_toByteA8_l0_o0 [.f h0, .f h1, .f h2_]))
    | _ => none) ((A_w_toByteA8_l0 α N).ls 43 3))
theorem E_w_toByteA8_l0_ok {α : Type} (N : Nat) : EnvOk Try.prog (E_w_toByteA8_l0 α N) := (A_w_toByteA8_l0_ok N).addLoop2 Try.func43 (by kernel_rfl) (loopSum_ok prog_mixed prog_names (A_w_toByteA8_l0_ok N) Try.func43 (by kernel_rfl) (d := 1) (ro := 0) fun l K r h => by
  split at h
  · exact (w_toByteA8_l0_loop N _ _ K N _ _).trans h
  · cases h)

/-- laws.toByteA8 -/
def w_toByteA8_a : SPat := ⟨[.agg [.ints .u8 8]], []⟩
def w_toByteA8_r0 : SPat := ⟨[.agg [.ints .u8 8]], []⟩
theorem w_toByteA8_run {α : Type} (N : Nat) (a : Nat → Int) (K : AV → Heap → Option α) :
    callK Try.prog (E_w_toByteA8_l0 α N) 1 43 0 (buildS w_toByteA8_a [.f a]).t (buildS w_toByteA8_a [.f a]).h K = w_toByteA8 none N a (fun r__ => retK (buildS w_toByteA8_r0 [.f r__]) K) := by kernel_rfl
def E_w_toByteA8 (α : Type) (N : Nat) : Env α := (E_w_toByteA8_l0 α N).addFun 43 true 0 w_toByteA8_a (fun l K => match l with
    | [.f a] => w_toByteA8 none N a (fun r__ => retK (buildS w_toByteA8_r0 [.f r__]) K)
    | _ => none)
theorem E_w_toByteA8_ok {α : Type} (N : Nat) : EnvOk Try.prog (E_w_toByteA8 α N) := (E_w_toByteA8_l0_ok N).addFun prog_mixed prog_names (d := 1) fun l K r h => by
  split at h
  · exact (w_toByteA8_run N _ K).trans h
  · cases h

/-- laws.toGrid -/
def w_toGrid_a : SPat := ⟨[.agg [.vals [.int .i64], .ints .u8 8, .ints .u8 8]], []⟩
def w_toGrid_r0 : SPat := ⟨[.agg [.vals [.int .i64], .ints .u8 8, .ints .u8 8]], []⟩
theorem w_toGrid_run {α : Type} (N : Nat) (a_0 : Int) (a_1 : Nat → Int) (a_2 : Nat → Int) (K : AV → Heap → Option α) :
    callK Try.prog (E_w_toByteA8 α N) 1 19 0 (buildS w_toGrid_a [.i a_0, .f a_1, .f a_2]).t (buildS w_toGrid_a [.i a_0, .f a_1, .f a_2]).h K = w_toGrid none N a_0 a_1 a_2 (fun r_1_ r_2_ => retK (buildS w_toGrid_r0 [.i a_0, .f r_1_, .f r_2_]) K) := by kernel_rfl
def E_w_toGrid (α : Type) (N : Nat) : Env α := (E_w_toByteA8 α N).addFun 19 true 0 w_toGrid_a (fun l K => match l with
    | [.i a_0, .f a_1, .f a_2] => w_toGrid none N a_0 a_1 a_2 (fun r_1_ r_2_ => retK (buildS w_toGrid_r0 [.i a_0, .f r_1_, .f r_2_]) K)
    | _ => none)
theorem E_w_toGrid_ok {α : Type} (N : Nat) : EnvOk Try.prog (E_w_toGrid α N) := (E_w_toByteA8_ok N).addFun prog_mixed prog_names (d := 1) fun l K r h => by
  split at h
  · exact (w_toGrid_run N _ _ _ K).trans h
  · cases h

def A_w_toMoveS_l0 (α : Type) (N : Nat) : Env α := (E_w_toGrid α N).addAnn 25 3 { head := [0, 3, 4], grow := [], out := [3], ret := [2] }
theorem A_w_toMoveS_l0_ok {α : Type} (N : Nat) : EnvOk Try.prog (A_w_toMoveS_l0 α N) := (E_w_toGrid_ok N).addAnn

/-- laws.toMove -/
def w_toMove_a : SPat := ⟨[.agg [.ints .i64 6]], []⟩
def w_toMove_r0 : SPat := ⟨[.agg [.ints .i64 6]], []⟩
theorem w_toMove_run {α : Type} (N : Nat) (a : Nat → Int) (K : AV → Heap → Option α) :
    callK Try.prog (A_w_toMoveS_l0 α N) 1 20 0 (buildS w_toMove_a [.f a]).t (buildS w_toMove_a [.f a]).h K = w_toMove none N a (fun r__ => retK (buildS w_toMove_r0 [.f r__]) K) := by kernel_rfl
def E_w_toMove (α : Type) (N : Nat) : Env α := (A_w_toMoveS_l0 α N).addFun 20 true 0 w_toMove_a (fun l K => match l with
    | [.f a] => w_toMove none N a (fun r__ => retK (buildS w_toMove_r0 [.f r__]) K)
    | _ => none)
theorem E_w_toMove_ok {α : Type} (N : Nat) : EnvOk Try.prog (E_w_toMove α N) := (A_w_toMoveS_l0_ok N).addFun prog_mixed prog_names (d := 1) fun l K r h => by
  split at h
  · exact (w_toMove_run N _ K).trans h
  · cases h

/-- laws.toMoveS, loop -/
def w_toMoveS_l0_p : SPat := ⟨[.sliceV 0 0 0 6 false, .undef, .undef, .sliceV 1 0 0 6 true, .int .i64] ++ List.replicate 18 .undef, [[.intsV .i64], [.intsV .i64]]⟩
def w_toMoveS_l0_o0 : SPat := ⟨[.undef, .undef, .undef, .sliceV 1 0 0 6 true] ++ List.replicate 19 .undef, [[.intsV .i64], [.intsV .i64]]⟩
theorem w_toMoveS_l0_round {α : Type} (N : Nat) (a_n : Nat) (a_l : Nat) (a_c : Nat) (out_n : Nat) (out_l : Nat) (out_c : Nat) (i : Int) (h0_n : Nat) (h0 : Nat → Int) (h1_n : Nat) (h1 : Nat → Int) (kn : St → Option α) (K : AExit → St → Option α) :
    roundK Try.prog (E_w_toMove α N) 1 1 25 Try.f25 3 2 (buildS w_toMoveS_l0_p [.n a_n, .n a_l, .n a_c, .n out_n, .n out_l, .n out_c, .i i, .n h0_n, .f h0, .n h1_n, .f h1]) kn K = w_toMoveS_l0_s none N a_n a_l a_c out_n out_l out_c h0_n h0 h1_n i h1 (fun i h1 => kn (buildS w_toMoveS_l0_p [.n a_n, .n a_l, .n a_c, .n out_n, .n out_l, .n out_c, .i i, .n h0_n, .f h0, .n h1_n, .f h1])) (fun h1_ => K (.exit 0) (buildS w_toMoveS_l0_o0 [.n out_n, .n out_l, .n out_c, .n h0_n, .f h0, .n h1_n, .f h1_])) := by kernel_rfl
theorem w_toMoveS_l0_loop {α : Type} (N : Nat) (a_n : Nat) (a_l : Nat) (a_c : Nat) (out_n : Nat) (out_l : Nat) (out_c : Nat) (h0_n : Nat) (h0 : Nat → Int) (h1_n : Nat) (K : AExit → St → Option α) : ∀ (m : Nat) (i : Int) (h1 : Nat → Int),
    loopN (trimSt ((E_w_toMove α N).ann 25 3).head ((E_w_toMove α N).ann 25 3).grow 2) (bodyK Try.prog (E_w_toMove α N) 1 1 25 Try.f25 3) m (buildS w_toMoveS_l0_p [.n a_n, .n a_l, .n a_c, .n out_n, .n out_l, .n out_c, .i i, .n h0_n, .f h0, .n h1_n, .f h1]) (leaveLoop ((E_w_toMove α N).ann 25 3) 2 K) = w_toMoveS_l0 none N a_n a_l a_c out_n out_l out_c h0_n h0 h1_n m i h1 (fun h1_ => K (.exit 0) (buildS w_toMoveS_l0_o0 [.n out_n, .n out_l, .n out_c, .n h0_n, .f h0, .n h1_n, .f h1_])) := by
  intro m
  induction m with
  | zero => intros; rfl
  | succ m ih =>
    intro i h1
    rw [loopN_round]
    refine (w_toMoveS_l0_round N a_n a_l a_c out_n out_l out_c i h0_n h0 h1_n h1 _ K).trans ?_
    simp only [ih]
    rfl
def E_w_toMoveS_l0 (α : Type) (N : Nat) : Env α := (E_w_toMove α N).addLoop2 25 3 (loopSum2 ((E_w_toMove α N).ann 25 3) 1 w_toMoveS_l0_p (fun l K => match l with
    | [.n a_n, .n a_l, .n a_c, .n out_n, .n out_l, .n out_c, .i i, .n h0_n, .f h0, .n h1_n, .f h1] => w_toMoveS_l0 none N a_n a_l a_c out_n out_l out_c h0_n h0 h1_n N i h1 (fun h1_ => K (.exit 0) (buildS w_toMoveS_l0_o0 [.n out_n, .n out_l, .n out_c, .n h0_n, .f h0, .n h1_n, .f h1_]))
    | _ => none) ((E_w_toMove α N).ls 25 3))
theorem E_w_toMoveS_l0_ok {α : Type} (N : Nat) : EnvOk Try.prog (E_w_toMoveS_l0 α N) := (E_w_toMove_ok N).addLoop2 Try.func25 (by kernel_rfl) (loopSum_ok prog_mixed prog_names (E_w_toMove_ok N) Try.func25 (by kernel_rfl) (d := 1) (ro := 1) fun l K r h => by
  split at h
  · exact (w_toMoveS_l0_loop N _ _ _ _ _ _ _ _ _ K N _ _).trans h
  · cases h)

/-- laws.toMoveS -/
def w_toMoveS_a : SPat := ⟨[.sliceV 0 0 0 6 false], [[.intsV .i64]]⟩
def w_toMoveS_r0 : SPat := ⟨[.sliceV 1 0 0 6 true], [[.intsV .i64], [.intsV .i64]]⟩
theorem w_toMoveS_run {α : Type} (N : Nat) (a_n : Nat) (a_l : Nat) (a_c : Nat) (h0_n : Nat) (h0 : Nat → Int) (K : AV → Heap → Option α) :
    callK Try.prog (E_w_toMoveS_l0 α N) 1 25 1 (buildS w_toMoveS_a [.n a_n, .n a_l, .n a_c, .n h0_n, .f h0]).t (buildS w_toMoveS_a [.n a_n, .n a_l, .n a_c, .n h0_n, .f h0]).h K = w_toMoveS none N a_n a_l a_c h0_n h0 (fun r_n_ r_l_ r_c_ h1_n_ h1_ => retK (buildS w_toMoveS_r0 [.n r_n_, .n r_l_, .n r_c_, .n h0_n, .f h0, .n h1_n_, .f h1_]) K) := by kernel_rfl
def E_w_toMoveS (α : Type) (N : Nat) : Env α := (E_w_toMoveS_l0 α N).addFun 25 true 1 w_toMoveS_a (fun l K => match l with
    | [.n a_n, .n a_l, .n a_c, .n h0_n, .f h0] => w_toMoveS none N a_n a_l a_c h0_n h0 (fun r_n_ r_l_ r_c_ h1_n_ h1_ => retK (buildS w_toMoveS_r0 [.n r_n_, .n r_l_, .n r_c_, .n h0_n, .f h0, .n h1_n_, .f h1_]) K)
    | _ => none)
theorem E_w_toMoveS_ok {α : Type} (N : Nat) : EnvOk Try.prog (E_w_toMoveS α N) := (E_w_toMoveS_l0_ok N).addFun prog_mixed prog_names (d := 1) fun l K r h => by
  split at h
  · exact (w_toMoveS_run N _ _ _ _ _ K).trans h
  · cases h

/-- spec.l01In -/
def s_l01In_a : SPat := ⟨[.int .i64, .int .i64, .int .i64], []⟩
def s_l01In_r0 : SPat := ⟨[.bool], []⟩
theorem s_l01In_run {α : Type} (N : Nat) (n : Int) (low : Int) (high : Int) (K : AV → Heap → Option α) :
    callK Try.prog (E_w_toMoveS α N) 1 54 0 (buildS s_l01In_a [.i n, .i low, .i high]).t (buildS s_l01In_a [.i n, .i low, .i high]).h K = s_l01In none N n low high (fun r__ => retK (buildS s_l01In_r0 [.b r__]) K) := by kernel_rfl
def E_s_l01In (α : Type) (N : Nat) : Env α := (E_w_toMoveS α N).addFun 54 true 0 s_l01In_a (fun l K => match l with
    | [.i n, .i low, .i high] => s_l01In none N n low high (fun r__ => retK (buildS s_l01In_r0 [.b r__]) K)
    | _ => none)
theorem E_s_l01In_ok {α : Type} (N : Nat) : EnvOk Try.prog (E_s_l01In α N) := (E_w_toMoveS_ok N).addFun prog_mixed prog_names (d := 1) fun l K r h => by
  split at h
  · exact (s_l01In_run N _ _ _ K).trans h
  · cases h

def A_s_l01Perm_l0 (α : Type) (N : Nat) : Env α := (E_s_l01In α N).addAnn 65 3 { head := [1, 2, 5, 6], grow := [], out := [], ret := [4] }
theorem A_s_l01Perm_l0_ok {α : Type} (N : Nat) : EnvOk Try.prog (A_s_l01Perm_l0 α N) := (E_s_l01In_ok N).addAnn

/-- spec.l01Perm, loop -/
def s_l01Perm_l0_p : SPat := ⟨[.undef, .int .i64, .ptr ⟨⟨0, 0⟩, 0, 0, 8⟩, .undef, .undef, .ptr ⟨⟨1, 0⟩, 0, 0, 8⟩, .int .i64] ++ List.replicate 29 .undef, [[.ints .u8 8], [.bools 8]]⟩
def s_l01Perm_l0_o0 : SPat := ⟨[.undef, .undef, .undef, .undef, .boolC false] ++ List.replicate 31 .undef, [[.ints .u8 8], [.bools 8]]⟩
def s_l01Perm_l0_o1 : SPat := ⟨[] ++ List.replicate 36 .undef, [[.ints .u8 8], [.bools 8]]⟩
theorem s_l01Perm_l0_round {α : Type} (N : Nat) (n : Int) (i : Int) (h0 : Nat → Int) (h1 : Nat → Bool) (kn : St → Option α) (K : AExit → St → Option α) :
    roundK Try.prog (A_s_l01Perm_l0 α N) 1 0 65 Try.f65 3 2 (buildS s_l01Perm_l0_p [.i n, .i i, .f h0, .g h1]) kn K = s_l01Perm_l0_s none n h0 i h1 (fun i h1 => kn (buildS s_l01Perm_l0_p [.i n, .i i, .f h0, .g h1])) (fun h1_ => K .ret (buildS s_l01Perm_l0_o0 [.f h0, .g h1_])) (fun h1_ => K (.exit 0) (buildS s_l01Perm_l0_o1 [.f h0, .g h1_])) := by kernel_rfl
theorem s_l01Perm_l0_loop {α : Type} (N : Nat) (n : Int) (h0 : Nat → Int) (K : AExit → St → Option α) : ∀ (m : Nat) (i : Int) (h1 : Nat → Bool),
    loopN (trimSt ((A_s_l01Perm_l0 α N).ann 65 3).head ((A_s_l01Perm_l0 α N).ann 65 3).grow 2) (bodyK Try.prog (A_s_l01Perm_l0 α N) 1 0 65 Try.f65 3) m (buildS s_l01Perm_l0_p [.i n, .i i, .f h0, .g h1]) (leaveLoop ((A_s_l01Perm_l0 α N).ann 65 3) 2 K) = s_l01Perm_l0 none n h0 m i h1 (fun h1_ => K .ret (buildS s_l01Perm_l0_o0 [.f h0, .g h1_])) (fun h1_ => K (.exit 0) (buildS s_l01Perm_l0_o1 [.f h0, .g h1_])) := by
  intro m
  induction m with
  | zero => intros; rfl
  | succ m ih =>
    intro i h1
    rw [loopN_round]
    refine (s_l01Perm_l0_round N n i h0 h1 _ K).trans ?_
    simp only [ih]
    rfl
def E_s_l01Perm_l0 (α : Type) (N : Nat) : Env α := (A_s_l01Perm_l0 α N).addLoop2 65 3 (loopSum2 ((A_s_l01Perm_l0 α N).ann 65 3) 0 s_l01Perm_l0_p (fun l K => match l with
    | [.i n, .i i, .f h0, .g h1] => s_l01Perm_l0 none n h0 N i h1 (fun h1_ => K .ret (buildS s_l01Perm_l0_o0 [.f h0, .g h1_])) (fun h1_ => K (.exit 0) (buildS s_l01Perm_l0_o1 [.f h0, .g h1_]))
    | _ => none) ((A_s_l01Perm_l0 α N).ls 65 3))
theorem E_s_l01Perm_l0_ok {α : Type} (N : Nat) : EnvOk Try.prog (E_s_l01Perm_l0 α N) := (A_s_l01Perm_l0_ok N).addLoop2 Try.func65 (by kernel_rfl) (loopSum_ok prog_mixed prog_names (A_s_l01Perm_l0_ok N) Try.func65 (by kernel_rfl) (d := 1) (ro := 0) fun l K r h => by
  split at h
  · exact (s_l01Perm_l0_loop N _ _ K N _ _).trans h
  · cases h)

/-- spec.l01Perm -/
def s_l01Perm_a : SPat := ⟨[.agg [.ints .u8 8], .int .i64], []⟩
def s_l01Perm_r0 : SPat := ⟨[.bool], []⟩
theorem s_l01Perm_run {α : Type} (N : Nat) (list : Nat → Int) (n : Int) (K : AV → Heap → Option α) :
    callK Try.prog (E_s_l01Perm_l0 α N) 1 65 0 (buildS s_l01Perm_a [.f list, .i n]).t (buildS s_l01Perm_a [.f list, .i n]).h K = s_l01Perm none N list n (fun r__ => retK (buildS s_l01Perm_r0 [.b r__]) K) := by kernel_rfl
def E_s_l01Perm (α : Type) (N : Nat) : Env α := (E_s_l01Perm_l0 α N).addFun 65 true 0 s_l01Perm_a (fun l K => match l with
    | [.f list, .i n] => s_l01Perm none N list n (fun r__ => retK (buildS s_l01Perm_r0 [.b r__]) K)
    | _ => none)
theorem E_s_l01Perm_ok {α : Type} (N : Nat) : EnvOk Try.prog (E_s_l01Perm α N) := (E_s_l01Perm_l0_ok N).addFun prog_mixed prog_names (d := 1) fun l K r h => by
  split at h
  · exact (s_l01Perm_run N _ _ K).trans h
  · cases h

def A_s_l01Is_l0 (α : Type) (N : Nat) : Env α := (E_s_l01Perm α N).addAnn 45 4 { head := [1, 3], grow := [], out := [], ret := [2] }
theorem A_s_l01Is_l0_ok {α : Type} (N : Nat) : EnvOk Try.prog (A_s_l01Is_l0 α N) := (E_s_l01Perm_ok N).addAnn

/-- spec.l01Is, loop -/
def s_l01Is_l0_p : SPat := ⟨[.undef, .ptr ⟨⟨0, 0⟩, 0, 0, 1⟩, .undef, .int .i64] ++ List.replicate 35 .undef, [[.vals [.int .i64], .ints .u8 8, .ints .u8 8]]⟩
def s_l01Is_l0_o0 : SPat := ⟨[.undef, .undef, .boolC false] ++ List.replicate 36 .undef, [[.vals [.int .i64], .ints .u8 8, .ints .u8 8]]⟩
def s_l01Is_l0_o1 : SPat := ⟨[] ++ List.replicate 39 .undef, [[.vals [.int .i64], .ints .u8 8, .ints .u8 8]]⟩
theorem s_l01Is_l0_round {α : Type} (N : Nat) (i : Int) (h0_0 : Int) (h0_1 : Nat → Int) (h0_2 : Nat → Int) (kn : St → Option α) (K : AExit → St → Option α) :
    roundK Try.prog (A_s_l01Is_l0 α N) 1 0 45 Try.f45 4 1 (buildS s_l01Is_l0_p [.i i, .i h0_0, .f h0_1, .f h0_2]) kn K = s_l01Is_l0_s none h0_0 h0_1 h0_2 i (fun i => kn (buildS s_l01Is_l0_p [.i i, .i h0_0, .f h0_1, .f h0_2])) (K .ret (buildS s_l01Is_l0_o0 [.i h0_0, .f h0_1, .f h0_2])) (K (.exit 0) (buildS s_l01Is_l0_o1 [.i h0_0, .f h0_1, .f h0_2])) := by kernel_rfl
theorem s_l01Is_l0_loop {α : Type} (N : Nat) (h0_0 : Int) (h0_1 : Nat → Int) (h0_2 : Nat → Int) (K : AExit → St → Option α) : ∀ (m : Nat) (i : Int),
    loopN (trimSt ((A_s_l01Is_l0 α N).ann 45 4).head ((A_s_l01Is_l0 α N).ann 45 4).grow 1) (bodyK Try.prog (A_s_l01Is_l0 α N) 1 0 45 Try.f45 4) m (buildS s_l01Is_l0_p [.i i, .i h0_0, .f h0_1, .f h0_2]) (leaveLoop ((A_s_l01Is_l0 α N).ann 45 4) 1 K) = s_l01Is_l0 none h0_0 h0_1 h0_2 m i (K .ret (buildS s_l01Is_l0_o0 [.i h0_0, .f h0_1, .f h0_2])) (K (.exit 0) (buildS s_l01Is_l0_o1 [.i h0_0, .f h0_1, .f h0_2])) := by
  intro m
  induction m with
  | zero => intros; rfl
  | succ m ih =>
    intro i
    rw [loopN_round]
    refine (s_l01Is_l0_round N i h0_0 h0_1 h0_2 _ K).trans ?_
    simp only [ih]
    rfl
def E_s_l01Is_l0 (α : Type) (N : Nat) : Env α := (A_s_l01Is_l0 α N).addLoop2 45 4 (loopSum2 ((A_s_l01Is_l0 α N).ann 45 4) 0 s_l01Is_l0_p (fun l K => match l with
    | [.i i, .i h0_0, .f h0_1, .f h0_2] => s_l01Is_l0 none h0_0 h0_1 h0_2 N i (K .ret (buildS s_l01Is_l0_o0 [.i h0_0, .f h0_1, .f h0_2])) (K (.exit 0) (buildS s_l01Is_l0_o1 [.i h0_0, .f h0_1, .f h0_2]))
    | _ => none) ((A_s_l01Is_l0 α N).ls 45 4))
theorem E_s_l01Is_l0_ok {α : Type} (N : Nat) : EnvOk Try.prog (E_s_l01Is_l0 α N) := (A_s_l01Is_l0_ok N).addLoop2 Try.func45 (by kernel_rfl) (loopSum_ok prog_mixed prog_names (A_s_l01Is_l0_ok N) Try.func45 (by kernel_rfl) (d := 1) (ro := 0) fun l K r h => by
  split at h
  · exact (s_l01Is_l0_loop N _ _ _ K N _).trans h
  · cases h)

/-- spec.l01Is -/
def s_l01Is_a : SPat := ⟨[.agg [.vals [.int .i64], .ints .u8 8, .ints .u8 8]], []⟩
def s_l01Is_r0 : SPat := ⟨[.bool], []⟩
theorem s_l01Is_run {α : Type} (N : Nat) (g_0 : Int) (g_1 : Nat → Int) (g_2 : Nat → Int) (K : AV → Heap → Option α) :
    callK Try.prog (E_s_l01Is_l0 α N) 1 45 0 (buildS s_l01Is_a [.i g_0, .f g_1, .f g_2]).t (buildS s_l01Is_a [.i g_0, .f g_1, .f g_2]).h K = s_l01Is none N g_0 g_1 g_2 (fun r__ => retK (buildS s_l01Is_r0 [.b r__]) K) := by kernel_rfl
def E_s_l01Is (α : Type) (N : Nat) : Env α := (E_s_l01Is_l0 α N).addFun 45 true 0 s_l01Is_a (fun l K => match l with
    | [.i g_0, .f g_1, .f g_2] => s_l01Is none N g_0 g_1 g_2 (fun r__ => retK (buildS s_l01Is_r0 [.b r__]) K)
    | _ => none)
theorem E_s_l01Is_ok {α : Type} (N : Nat) : EnvOk Try.prog (E_s_l01Is α N) := (E_s_l01Is_l0_ok N).addFun prog_mixed prog_names (d := 1) fun l K r h => by
  split at h
  · exact (s_l01Is_run N _ _ _ K).trans h
  · cases h

def A_s_RunMoves_l0 (α : Type) (N : Nat) : Env α := (E_s_l01Is α N).addAnn 24 4 { head := [1, 2, 4, 6], grow := [], out := [2, 4], ret := [4, 5] }
theorem A_s_RunMoves_l0_ok {α : Type} (N : Nat) : EnvOk Try.prog (A_s_RunMoves_l0 α N) := (E_s_l01Is_ok N).addAnn

/-- spec.l02Free -/
def s_l02Free_a : SPat := ⟨[.int .i64, .int .i64, .int .i64, .int .i64], []⟩
def s_l02Free_r0 : SPat := ⟨[.bool], []⟩
theorem s_l02Free_run {α : Type} (N : Nat) (a : Int) (a1 : Int) (a2 : Int) (a3 : Int) (K : AV → Heap → Option α) :
    callK Try.prog (A_s_RunMoves_l0 α N) 1 55 0 (buildS s_l02Free_a [.i a, .i a1, .i a2, .i a3]).t (buildS s_l02Free_a [.i a, .i a1, .i a2, .i a3]).h K = s_l02Free none N a a1 a2 a3 (fun r__ => retK (buildS s_l02Free_r0 [.b r__]) K) := by kernel_rfl
def E_s_l02Free (α : Type) (N : Nat) : Env α := (A_s_RunMoves_l0 α N).addFun 55 true 0 s_l02Free_a (fun l K => match l with
    | [.i a, .i a1, .i a2, .i a3] => s_l02Free none N a a1 a2 a3 (fun r__ => retK (buildS s_l02Free_r0 [.b r__]) K)
    | _ => none)
theorem E_s_l02Free_ok {α : Type} (N : Nat) : EnvOk Try.prog (E_s_l02Free α N) := (A_s_RunMoves_l0_ok N).addFun prog_mixed prog_names (d := 1) fun l K r h => by
  split at h
  · exact (s_l02Free_run N _ _ _ _ K).trans h
  · cases h

/-- spec.l02Columns -/
def s_l02Columns_a : SPat := ⟨[.agg [.vals [.int .i64], .ints .u8 8, .ints .u8 8], .int .i64], []⟩
def s_l02Columns_r0 : SPat := ⟨[.bool], []⟩
theorem s_l02Columns_run {α : Type} (N : Nat) (g_0 : Int) (g_1 : Nat → Int) (g_2 : Nat → Int) (i : Int) (K : AV → Heap → Option α) :
    callK Try.prog (E_s_l02Free α N) 1 31 0 (buildS s_l02Columns_a [.i g_0, .f g_1, .f g_2, .i i]).t (buildS s_l02Columns_a [.i g_0, .f g_1, .f g_2, .i i]).h K = s_l02Columns none N g_0 g_1 g_2 i (fun r__ => retK (buildS s_l02Columns_r0 [.b r__]) K) := by kernel_rfl
def E_s_l02Columns (α : Type) (N : Nat) : Env α := (E_s_l02Free α N).addFun 31 true 0 s_l02Columns_a (fun l K => match l with
    | [.i g_0, .f g_1, .f g_2, .i i] => s_l02Columns none N g_0 g_1 g_2 i (fun r__ => retK (buildS s_l02Columns_r0 [.b r__]) K)
    | _ => none)
theorem E_s_l02Columns_ok {α : Type} (N : Nat) : EnvOk Try.prog (E_s_l02Columns α N) := (E_s_l02Free_ok N).addFun prog_mixed prog_names (d := 1) fun l K r h => by
  split at h
  · exact (s_l02Columns_run N _ _ _ _ K).trans h
  · cases h

def A_s_l01Row_l0 (α : Type) (N : Nat) : Env α := (E_s_l02Columns α N).addAnn 60 2 { head := [1, 2, 3, 7], grow := [], out := [], ret := [6] }
theorem A_s_l01Row_l0_ok {α : Type} (N : Nat) : EnvOk Try.prog (A_s_l01Row_l0 α N) := (E_s_l02Columns_ok N).addAnn

/-- spec.l01Row, loop -/
def s_l01Row_l0_p : SPat := ⟨[.undef, .int .i64, .int .i64, .ptr ⟨⟨0, 0⟩, 0, 0, 8⟩, .undef, .undef, .undef, .int .i64] ++ List.replicate 12 .undef, [[.ints .u8 8]]⟩
def s_l01Row_l0_o0 : SPat := ⟨[.undef, .undef, .undef, .undef, .undef, .undef, .int .i64] ++ List.replicate 13 .undef, [[.ints .u8 8]]⟩
def s_l01Row_l0_o1 : SPat := ⟨[] ++ List.replicate 20 .undef, [[.ints .u8 8]]⟩
theorem s_l01Row_l0_round {α : Type} (N : Nat) (n : Int) (r_ : Int) (i : Int) (h0 : Nat → Int) (kn : St → Option α) (K : AExit → St → Option α) :
    roundK Try.prog (A_s_l01Row_l0 α N) 1 0 60 Try.f60 2 1 (buildS s_l01Row_l0_p [.i n, .i r_, .i i, .f h0]) kn K = s_l01Row_l0_s none n r_ h0 i (fun i => kn (buildS s_l01Row_l0_p [.i n, .i r_, .i i, .f h0])) (fun t6_ => K .ret (buildS s_l01Row_l0_o0 [.i t6_, .f h0])) (K (.exit 0) (buildS s_l01Row_l0_o1 [.f h0])) := by kernel_rfl
theorem s_l01Row_l0_loop {α : Type} (N : Nat) (n : Int) (r_ : Int) (h0 : Nat → Int) (K : AExit → St → Option α) : ∀ (m : Nat) (i : Int),
    loopN (trimSt ((A_s_l01Row_l0 α N).ann 60 2).head ((A_s_l01Row_l0 α N).ann 60 2).grow 1) (bodyK Try.prog (A_s_l01Row_l0 α N) 1 0 60 Try.f60 2) m (buildS s_l01Row_l0_p [.i n, .i r_, .i i, .f h0]) (leaveLoop ((A_s_l01Row_l0 α N).ann 60 2) 1 K) = s_l01Row_l0 none n r_ h0 m i (fun t6_ => K .ret (buildS s_l01Row_l0_o0 [.i t6_, .f h0])) (K (.exit 0) (buildS s_l01Row_l0_o1 [.f h0])) := by
  intro m
  induction m with
  | zero => intros; rfl
  | succ m ih =>
    intro i
    rw [loopN_round]
    refine (s_l01Row_l0_round N n r_ i h0 _ K).trans ?_
    simp only [ih]
    rfl
def E_s_l01Row_l0 (α : Type) (N : Nat) : Env α := (A_s_l01Row_l0 α N).addLoop2 60 2 (loopSum2 ((A_s_l01Row_l0 α N).ann 60 2) 0 s_l01Row_l0_p (fun l K => match l with
    | [.i n, .i r_, .i i, .f h0] => s_l01Row_l0 none n r_ h0 N i (fun t6_ => K .ret (buildS s_l01Row_l0_o0 [.i t6_, .f h0])) (K (.exit 0) (buildS s_l01Row_l0_o1 [.f h0]))
    | _ => none) ((A_s_l01Row_l0 α N).ls 60 2))
theorem E_s_l01Row_l0_ok {α : Type} (N : Nat) : EnvOk Try.prog (E_s_l01Row_l0 α N) := (A_s_l01Row_l0_ok N).addLoop2 Try.func60 (by kernel_rfl) (loopSum_ok prog_mixed prog_names (A_s_l01Row_l0_ok N) Try.func60 (by kernel_rfl) (d := 1) (ro := 0) fun l K r h => by
  split at h
  · exact (s_l01Row_l0_loop N _ _ _ K N _).trans h
  · cases h)

/-- spec.l01Row -/
def s_l01Row_a : SPat := ⟨[.agg [.ints .u8 8], .int .i64, .int .i64], []⟩
def s_l01Row_r0 : SPat := ⟨[.int .i64], []⟩
theorem s_l01Row_run {α : Type} (N : Nat) (list : Nat → Int) (n : Int) (r_ : Int) (K : AV → Heap → Option α) :
    callK Try.prog (E_s_l01Row_l0 α N) 1 60 0 (buildS s_l01Row_a [.f list, .i n, .i r_]).t (buildS s_l01Row_a [.f list, .i n, .i r_]).h K = s_l01Row none N list n r_ (fun r__ => retK (buildS s_l01Row_r0 [.i r__]) K) := by kernel_rfl
def E_s_l01Row (α : Type) (N : Nat) : Env α := (E_s_l01Row_l0 α N).addFun 60 true 0 s_l01Row_a (fun l K => match l with
    | [.f list, .i n, .i r_] => s_l01Row none N list n r_ (fun r__ => retK (buildS s_l01Row_r0 [.i r__]) K)
    | _ => none)
theorem E_s_l01Row_ok {α : Type} (N : Nat) : EnvOk Try.prog (E_s_l01Row α N) := (E_s_l01Row_l0_ok N).addFun prog_mixed prog_names (d := 1) fun l K r h => by
  split at h
  · exact (s_l01Row_run N _ _ _ K).trans h
  · cases h

/-- spec.l02Rows -/
def s_l02Rows_a : SPat := ⟨[.agg [.vals [.int .i64], .ints .u8 8, .ints .u8 8], .int .i64], []⟩
def s_l02Rows_r0 : SPat := ⟨[.bool], []⟩
theorem s_l02Rows_run {α : Type} (N : Nat) (g_0 : Int) (g_1 : Nat → Int) (g_2 : Nat → Int) (r_ : Int) (K : AV → Heap → Option α) :
    callK Try.prog (E_s_l01Row α N) 1 36 0 (buildS s_l02Rows_a [.i g_0, .f g_1, .f g_2, .i r_]).t (buildS s_l02Rows_a [.i g_0, .f g_1, .f g_2, .i r_]).h K = s_l02Rows none N g_0 g_1 g_2 r_ (fun r__ => retK (buildS s_l02Rows_r0 [.b r__]) K) := by kernel_rfl
def E_s_l02Rows (α : Type) (N : Nat) : Env α := (E_s_l01Row α N).addFun 36 true 0 s_l02Rows_a (fun l K => match l with
    | [.i g_0, .f g_1, .f g_2, .i r_] => s_l02Rows none N g_0 g_1 g_2 r_ (fun r__ => retK (buildS s_l02Rows_r0 [.b r__]) K)
    | _ => none)
theorem E_s_l02Rows_ok {α : Type} (N : Nat) : EnvOk Try.prog (E_s_l02Rows α N) := (E_s_l01Row_ok N).addFun prog_mixed prog_names (d := 1) fun l K r h => by
  split at h
  · exact (s_l02Rows_run N _ _ _ _ K).trans h
  · cases h

def A_s_l02Back_l0 (α : Type) (N : Nat) : Env α := (E_s_l02Rows α N).addAnn 64 4 { head := [1, 2, 3, 6, 7, 9], grow := [], out := [6, 7], ret := [6, 7, 8] }
theorem A_s_l02Back_l0_ok {α : Type} (N : Nat) : EnvOk Try.prog (A_s_l02Back_l0 α N) := (E_s_l02Rows_ok N).addAnn

def A_s_l02Back_l1 (α : Type) (N : Nat) : Env α := (A_s_l02Back_l0 α N).addAnn 64 7 { head := [1, 2, 3, 6, 7, 9, 10], grow := [], out := [1, 2, 3, 6, 7, 9], ret := [6, 7, 8] }
theorem A_s_l02Back_l1_ok {α : Type} (N : Nat) : EnvOk Try.prog (A_s_l02Back_l1 α N) := (A_s_l02Back_l0_ok N).addAnn

def A_s_l02Back_l2 (α : Type) (N : Nat) : Env α := (A_s_l02Back_l1 α N).addAnn 64 10 { head := [1, 2, 3, 6, 7, 9, 10, 11], grow := [], out := [1, 2, 3, 6, 7, 9, 10], ret := [6, 7, 8] }
theorem A_s_l02Back_l2_ok {α : Type} (N : Nat) : EnvOk Try.prog (A_s_l02Back_l2 α N) := (A_s_l02Back_l1_ok N).addAnn

def A_s_l02Without_l0 (α : Type) (N : Nat) : Env α := (A_s_l02Back_l2 α N).addAnn 75 3 { head := [1, 2, 3, 6, 7, 8], grow := [], out := [6, 7], ret := [6] }
theorem A_s_l02Without_l0_ok {α : Type} (N : Nat) : EnvOk Try.prog (A_s_l02Without_l0 α N) := (A_s_l02Back_l2_ok N).addAnn

/-- spec.l02Lowered -/
def s_l02Lowered_a : SPat := ⟨[.int .u8, .int .i64], []⟩
def s_l02Lowered_r0 : SPat := ⟨[.int .u8], []⟩
theorem s_l02Lowered_run {α : Type} (N : Nat) (row : Int) (out : Int) (K : AV → Heap → Option α) :
    callK Try.prog (A_s_l02Without_l0 α N) 1 79 0 (buildS s_l02Lowered_a [.i row, .i out]).t (buildS s_l02Lowered_a [.i row, .i out]).h K = s_l02Lowered none N row out (fun r__ => retK (buildS s_l02Lowered_r0 [.i r__]) K) := by kernel_rfl
def E_s_l02Lowered (α : Type) (N : Nat) : Env α := (A_s_l02Without_l0 α N).addFun 79 true 0 s_l02Lowered_a (fun l K => match l with
    | [.i row, .i out] => s_l02Lowered none N row out (fun r__ => retK (buildS s_l02Lowered_r0 [.i r__]) K)
    | _ => none)
theorem E_s_l02Lowered_ok {α : Type} (N : Nat) : EnvOk Try.prog (E_s_l02Lowered α N) := (A_s_l02Without_l0_ok N).addFun prog_mixed prog_names (d := 1) fun l K r h => by
  split at h
  · exact (s_l02Lowered_run N _ _ K).trans h
  · cases h

/-- spec.l02Without, loop -/
def s_l02Without_l0_p : SPat := ⟨[.undef, .int .i64, .int .i64, .ptr ⟨⟨0, 0⟩, 0, 0, 1⟩, .undef, .undef, .ptr ⟨⟨1, 0⟩, 0, 0, 1⟩, .ptr ⟨⟨2, 0⟩, 0, 0, 1⟩, .int .i64] ++ List.replicate 39 .undef, [[.vals [.int .i64], .ints .u8 8, .ints .u8 8], [.vals [.int .i64], .ints .u8 8, .ints .u8 8], [.vals [.int .i64], .ints .u8 8, .ints .u8 8]]⟩
def s_l02Without_l0_o0 : SPat := ⟨[.undef, .undef, .undef, .undef, .undef, .undef, .ptr ⟨⟨1, 0⟩, 0, 0, 1⟩, .ptr ⟨⟨2, 0⟩, 0, 0, 1⟩] ++ List.replicate 40 .undef, [[.vals [.int .i64], .ints .u8 8, .ints .u8 8], [.vals [.int .i64], .ints .u8 8, .ints .u8 8], [.vals [.int .i64], .ints .u8 8, .ints .u8 8]]⟩
theorem s_l02Without_l0_round {α : Type} (N : Nat) (column : Int) (row : Int) (k : Int) (h0_0 : Int) (h0_1 : Nat → Int) (h0_2 : Nat → Int) (h1_0 : Int) (h1_1 : Nat → Int) (h1_2 : Nat → Int) (h2_0 : Int) (h2_1 : Nat → Int) (h2_2 : Nat → Int) (kn : St → Option α) (K : AExit → St → Option α) :
    roundK Try.prog (E_s_l02Lowered α N) 1 0 75 Try.f75 3 3 (buildS s_l02Without_l0_p [.i column, .i row, .i k, .i h0_0, .f h0_1, .f h0_2, .i h1_0, .f h1_1, .f h1_2, .i h2_0, .f h2_1, .f h2_2]) kn K = s_l02Without_l0_s none N column row h0_0 h0_1 h0_2 h1_0 h1_1 h1_2 h2_0 k h2_1 h2_2 (fun k h2_1 h2_2 => kn (buildS s_l02Without_l0_p [.i column, .i row, .i k, .i h0_0, .f h0_1, .f h0_2, .i h1_0, .f h1_1, .f h1_2, .i h2_0, .f h2_1, .f h2_2])) (fun h2_1_ h2_2_ => K (.exit 0) (buildS s_l02Without_l0_o0 [.i h0_0, .f h0_1, .f h0_2, .i h1_0, .f h1_1, .f h1_2, .i h2_0, .f h2_1_, .f h2_2_])) := by kernel_rfl
theorem s_l02Without_l0_loop {α : Type} (N : Nat) (column : Int) (row : Int) (h0_0 : Int) (h0_1 : Nat → Int) (h0_2 : Nat → Int) (h1_0 : Int) (h1_1 : Nat → Int) (h1_2 : Nat → Int) (h2_0 : Int) (K : AExit → St → Option α) : ∀ (m : Nat) (k : Int) (h2_1 : Nat → Int) (h2_2 : Nat → Int),
    loopN (trimSt ((E_s_l02Lowered α N).ann 75 3).head ((E_s_l02Lowered α N).ann 75 3).grow 3) (bodyK Try.prog (E_s_l02Lowered α N) 1 0 75 Try.f75 3) m (buildS s_l02Without_l0_p [.i column, .i row, .i k, .i h0_0, .f h0_1, .f h0_2, .i h1_0, .f h1_1, .f h1_2, .i h2_0, .f h2_1, .f h2_2]) (leaveLoop ((E_s_l02Lowered α N).ann 75 3) 3 K) = s_l02Without_l0 none N column row h0_0 h0_1 h0_2 h1_0 h1_1 h1_2 h2_0 m k h2_1 h2_2 (fun h2_1_ h2_2_ => K (.exit 0) (buildS s_l02Without_l0_o0 [.i h0_0, .f h0_1, .f h0_2, .i h1_0, .f h1_1, .f h1_2, .i h2_0, .f h2_1_, .f h2_2_])) := by
  intro m
  induction m with
  | zero => intros; rfl
  | succ m ih =>
    intro k h2_1 h2_2
    rw [loopN_round]
    refine (s_l02Without_l0_round N column row k h0_0 h0_1 h0_2 h1_0 h1_1 h1_2 h2_0 h2_1 h2_2 _ K).trans ?_
    simp only [ih]
    rfl
def E_s_l02Without_l0 (α : Type) (N : Nat) : Env α := (E_s_l02Lowered α N).addLoop2 75 3 (loopSum2 ((E_s_l02Lowered α N).ann 75 3) 0 s_l02Without_l0_p (fun l K => match l with
    | [.i column, .i row, .i k, .i h0_0, .f h0_1, .f h0_2, .i h1_0, .f h1_1, .f h1_2, .i h2_0, .f h2_1, .f h2_2] => s_l02Without_l0 none N column row h0_0 h0_1 h0_2 h1_0 h1_1 h1_2 h2_0 N k h2_1 h2_2 (fun h2_1_ h2_2_ => K (.exit 0) (buildS s_l02Without_l0_o0 [.i h0_0, .f h0_1, .f h0_2, .i h1_0, .f h1_1, .f h1_2, .i h2_0, .f h2_1_, .f h2_2_]))
    | _ => none) ((E_s_l02Lowered α N).ls 75 3))
theorem E_s_l02Without_l0_ok {α : Type} (N : Nat) : EnvOk Try.prog (E_s_l02Without_l0 α N) := (E_s_l02Lowered_ok N).addLoop2 Try.func75 (by kernel_rfl) (loopSum_ok prog_mixed prog_names (E_s_l02Lowered_ok N) Try.func75 (by kernel_rfl) (d := 1) (ro := 0) fun l K r h => by
  split at h
  · exact (s_l02Without_l0_loop N _ _ _ _ _ _ _ _ _ K N _ _ _).trans h
  · cases h)

/-- spec.l02Without -/
def s_l02Without_a : SPat := ⟨[.agg [.vals [.int .i64], .ints .u8 8, .ints .u8 8], .int .i64, .int .i64], []⟩
def s_l02Without_r0 : SPat := ⟨[.agg [.vals [.int .i64], .ints .u8 8, .ints .u8 8]], []⟩
theorem s_l02Without_run {α : Type} (N : Nat) (g_0 : Int) (g_1 : Nat → Int) (g_2 : Nat → Int) (column : Int) (row : Int) (K : AV → Heap → Option α) :
    callK Try.prog (E_s_l02Without_l0 α N) 1 75 0 (buildS s_l02Without_a [.i g_0, .f g_1, .f g_2, .i column, .i row]).t (buildS s_l02Without_a [.i g_0, .f g_1, .f g_2, .i column, .i row]).h K = s_l02Without none N g_0 g_1 g_2 column row (fun r_0_ r_1_ r_2_ => retK (buildS s_l02Without_r0 [.i r_0_, .f r_1_, .f r_2_]) K) := by kernel_rfl
def E_s_l02Without (α : Type) (N : Nat) : Env α := (E_s_l02Without_l0 α N).addFun 75 true 0 s_l02Without_a (fun l K => match l with
    | [.i g_0, .f g_1, .f g_2, .i column, .i row] => s_l02Without none N g_0 g_1 g_2 column row (fun r_0_ r_1_ r_2_ => retK (buildS s_l02Without_r0 [.i r_0_, .f r_1_, .f r_2_]) K)
    | _ => none)
theorem E_s_l02Without_ok {α : Type} (N : Nat) : EnvOk Try.prog (E_s_l02Without α N) := (E_s_l02Without_l0_ok N).addFun prog_mixed prog_names (d := 1) fun l K r h => by
  split at h
  · exact (s_l02Without_run N _ _ _ _ _ K).trans h
  · cases h

/-- spec.l02Back, loop -/
def s_l02Back_l2_p : SPat := ⟨[.undef, .int .i64, .int .i64, .ptr ⟨⟨0, 0⟩, 0, 0, 1⟩, .undef, .undef, .ptr ⟨⟨1, 0⟩, 0, 0, 1⟩, .ptr ⟨⟨2, 0⟩, 0, 0, 6⟩, .undef, .int .i64, .int .i64, .int .i64] ++ List.replicate 118 .undef, [[.vals [.int .i64], .ints .u8 8, .ints .u8 8], [.vals [.int .i64], .ints .u8 8, .ints .u8 8], [.ints .i64 6]]⟩
def s_l02Back_l2_o0 : SPat := ⟨[.undef, .undef, .undef, .undef, .undef, .undef, .ptr ⟨⟨1, 0⟩, 0, 0, 1⟩, .ptr ⟨⟨2, 0⟩, 0, 0, 6⟩, .boolC true] ++ List.replicate 121 .undef, [[.vals [.int .i64], .ints .u8 8, .ints .u8 8], [.vals [.int .i64], .ints .u8 8, .ints .u8 8], [.ints .i64 6]]⟩
def s_l02Back_l2_o1 : SPat := ⟨[.undef, .int .i64, .int .i64, .ptr ⟨⟨0, 0⟩, 0, 0, 1⟩, .undef, .undef, .ptr ⟨⟨1, 0⟩, 0, 0, 1⟩, .ptr ⟨⟨2, 0⟩, 0, 0, 6⟩, .undef, .int .i64, .int .i64] ++ List.replicate 119 .undef, [[.vals [.int .i64], .ints .u8 8, .ints .u8 8], [.vals [.int .i64], .ints .u8 8, .ints .u8 8], [.ints .i64 6]]⟩
theorem s_l02Back_l2_round {α : Type} (N : Nat) (t1 : Int) (t2 : Int) (t9 : Int) (t10 : Int) (t11 : Int) (h0_0 : Int) (h0_1 : Nat → Int) (h0_2 : Nat → Int) (h1_0 : Int) (h1_1 : Nat → Int) (h1_2 : Nat → Int) (h2 : Nat → Int) (kn : St → Option α) (K : AExit → St → Option α) :
    roundK Try.prog (E_s_l02Without α N) 1 0 64 Try.f64 10 3 (buildS s_l02Back_l2_p [.i t1, .i t2, .i t9, .i t10, .i t11, .i h0_0, .f h0_1, .f h0_2, .i h1_0, .f h1_1, .f h1_2, .f h2]) kn K = s_l02Back_l2_s none N t1 t2 t9 t10 h0_0 h0_1 h0_2 h1_0 h1_1 h1_2 h2 t11 (fun t11 => kn (buildS s_l02Back_l2_p [.i t1, .i t2, .i t9, .i t10, .i t11, .i h0_0, .f h0_1, .f h0_2, .i h1_0, .f h1_1, .f h1_2, .f h2])) (fun h1_0_ h1_1_ h1_2_ h2_ => K .ret (buildS s_l02Back_l2_o0 [.i h0_0, .f h0_1, .f h0_2, .i h1_0_, .f h1_1_, .f h1_2_, .f h2_])) (K (.exit 4) (buildS s_l02Back_l2_o1 [.i t1, .i t2, .i t9, .i t10, .i h0_0, .f h0_1, .f h0_2, .i h1_0, .f h1_1, .f h1_2, .f h2])) := by kernel_rfl
theorem s_l02Back_l2_loop {α : Type} (N : Nat) (t1 : Int) (t2 : Int) (t9 : Int) (t10 : Int) (h0_0 : Int) (h0_1 : Nat → Int) (h0_2 : Nat → Int) (h1_0 : Int) (h1_1 : Nat → Int) (h1_2 : Nat → Int) (h2 : Nat → Int) (K : AExit → St → Option α) : ∀ (m : Nat) (t11 : Int),
    loopN (trimSt ((E_s_l02Without α N).ann 64 10).head ((E_s_l02Without α N).ann 64 10).grow 3) (bodyK Try.prog (E_s_l02Without α N) 1 0 64 Try.f64 10) m (buildS s_l02Back_l2_p [.i t1, .i t2, .i t9, .i t10, .i t11, .i h0_0, .f h0_1, .f h0_2, .i h1_0, .f h1_1, .f h1_2, .f h2]) (leaveLoop ((E_s_l02Without α N).ann 64 10) 3 K) = s_l02Back_l2 none N t1 t2 t9 t10 h0_0 h0_1 h0_2 h1_0 h1_1 h1_2 h2 m t11 (fun h1_0_ h1_1_ h1_2_ h2_ => K .ret (buildS s_l02Back_l2_o0 [.i h0_0, .f h0_1, .f h0_2, .i h1_0_, .f h1_1_, .f h1_2_, .f h2_])) (K (.exit 4) (buildS s_l02Back_l2_o1 [.i t1, .i t2, .i t9, .i t10, .i h0_0, .f h0_1, .f h0_2, .i h1_0, .f h1_1, .f h1_2, .f h2])) := by
  intro m
  induction m with
  | zero => intros; rfl
  | succ m ih =>
    intro t11
    rw [loopN_round]
    refine (s_l02Back_l2_round N t1 t2 t9 t10 t11 h0_0 h0_1 h0_2 h1_0 h1_1 h1_2 h2 _ K).trans ?_
    simp only [ih]
    rfl
def E_s_l02Back_l2 (α : Type) (N : Nat) : Env α := (E_s_l02Without α N).addLoop2 64 10 (loopSum2 ((E_s_l02Without α N).ann 64 10) 0 s_l02Back_l2_p (fun l K => match l with
    | [.i t1, .i t2, .i t9, .i t10, .i t11, .i h0_0, .f h0_1, .f h0_2, .i h1_0, .f h1_1, .f h1_2, .f h2] => s_l02Back_l2 none N t1 t2 t9 t10 h0_0 h0_1 h0_2 h1_0 h1_1 h1_2 h2 N t11 (fun h1_0_ h1_1_ h1_2_ h2_ => K .ret (buildS s_l02Back_l2_o0 [.i h0_0, .f h0_1, .f h0_2, .i h1_0_, .f h1_1_, .f h1_2_, .f h2_])) (K (.exit 4) (buildS s_l02Back_l2_o1 [.i t1, .i t2, .i t9, .i t10, .i h0_0, .f h0_1, .f h0_2, .i h1_0, .f h1_1, .f h1_2, .f h2]))
    | _ => none) ((E_s_l02Without α N).ls 64 10))
theorem E_s_l02Back_l2_ok {α : Type} (N : Nat) : EnvOk Try.prog (E_s_l02Back_l2 α N) := (E_s_l02Without_ok N).addLoop2 Try.func64 (by kernel_rfl) (loopSum_ok prog_mixed prog_names (E_s_l02Without_ok N) Try.func64 (by kernel_rfl) (d := 1) (ro := 0) fun l K r h => by
  split at h
  · exact (s_l02Back_l2_loop N _ _ _ _ _ _ _ _ _ _ _ K N _).trans h
  · cases h)

/-- spec.l02Back, loop -/
def s_l02Back_l1_p : SPat := ⟨[.undef, .int .i64, .int .i64, .ptr ⟨⟨0, 0⟩, 0, 0, 1⟩, .undef, .undef, .ptr ⟨⟨1, 0⟩, 0, 0, 1⟩, .ptr ⟨⟨2, 0⟩, 0, 0, 6⟩, .undef, .int .i64, .int .i64] ++ List.replicate 119 .undef, [[.vals [.int .i64], .ints .u8 8, .ints .u8 8], [.vals [.int .i64], .ints .u8 8, .ints .u8 8], [.ints .i64 6]]⟩
def s_l02Back_l1_o0 : SPat := ⟨[.undef, .undef, .undef, .undef, .undef, .undef, .ptr ⟨⟨1, 0⟩, 0, 0, 1⟩, .ptr ⟨⟨2, 0⟩, 0, 0, 6⟩, .boolC true] ++ List.replicate 121 .undef, [[.vals [.int .i64], .ints .u8 8, .ints .u8 8], [.vals [.int .i64], .ints .u8 8, .ints .u8 8], [.ints .i64 6]]⟩
def s_l02Back_l1_o1 : SPat := ⟨[.undef, .int .i64, .int .i64, .ptr ⟨⟨0, 0⟩, 0, 0, 1⟩, .undef, .undef, .ptr ⟨⟨1, 0⟩, 0, 0, 1⟩, .ptr ⟨⟨2, 0⟩, 0, 0, 6⟩, .undef, .int .i64] ++ List.replicate 120 .undef, [[.vals [.int .i64], .ints .u8 8, .ints .u8 8], [.vals [.int .i64], .ints .u8 8, .ints .u8 8], [.ints .i64 6]]⟩
theorem s_l02Back_l1_round {α : Type} (N : Nat) (t1 : Int) (t2 : Int) (t9 : Int) (t10 : Int) (h0_0 : Int) (h0_1 : Nat → Int) (h0_2 : Nat → Int) (h1_0 : Int) (h1_1 : Nat → Int) (h1_2 : Nat → Int) (h2 : Nat → Int) (kn : St → Option α) (K : AExit → St → Option α) :
    roundK Try.prog (E_s_l02Back_l2 α N) 1 0 64 Try.f64 7 3 (buildS s_l02Back_l1_p [.i t1, .i t2, .i t9, .i t10, .i h0_0, .f h0_1, .f h0_2, .i h1_0, .f h1_1, .f h1_2, .f h2]) kn K = s_l02Back_l1_s none N t1 t2 t9 h0_0 h0_1 h0_2 h1_0 h1_1 h1_2 h2 t10 (fun t10 => kn (buildS s_l02Back_l1_p [.i t1, .i t2, .i t9, .i t10, .i h0_0, .f h0_1, .f h0_2, .i h1_0, .f h1_1, .f h1_2, .f h2])) (fun h1_0_ h1_1_ h1_2_ h2_ => K .ret (buildS s_l02Back_l1_o0 [.i h0_0, .f h0_1, .f h0_2, .i h1_0_, .f h1_1_, .f h1_2_, .f h2_])) (K (.exit 2) (buildS s_l02Back_l1_o1 [.i t1, .i t2, .i t9, .i h0_0, .f h0_1, .f h0_2, .i h1_0, .f h1_1, .f h1_2, .f h2])) := by kernel_rfl
theorem s_l02Back_l1_loop {α : Type} (N : Nat) (t1 : Int) (t2 : Int) (t9 : Int) (h0_0 : Int) (h0_1 : Nat → Int) (h0_2 : Nat → Int) (h1_0 : Int) (h1_1 : Nat → Int) (h1_2 : Nat → Int) (h2 : Nat → Int) (K : AExit → St → Option α) : ∀ (m : Nat) (t10 : Int),
    loopN (trimSt ((E_s_l02Back_l2 α N).ann 64 7).head ((E_s_l02Back_l2 α N).ann 64 7).grow 3) (bodyK Try.prog (E_s_l02Back_l2 α N) 1 0 64 Try.f64 7) m (buildS s_l02Back_l1_p [.i t1, .i t2, .i t9, .i t10, .i h0_0, .f h0_1, .f h0_2, .i h1_0, .f h1_1, .f h1_2, .f h2]) (leaveLoop ((E_s_l02Back_l2 α N).ann 64 7) 3 K) = s_l02Back_l1 none N t1 t2 t9 h0_0 h0_1 h0_2 h1_0 h1_1 h1_2 h2 m t10 (fun h1_0_ h1_1_ h1_2_ h2_ => K .ret (buildS s_l02Back_l1_o0 [.i h0_0, .f h0_1, .f h0_2, .i h1_0_, .f h1_1_, .f h1_2_, .f h2_])) (K (.exit 2) (buildS s_l02Back_l1_o1 [.i t1, .i t2, .i t9, .i h0_0, .f h0_1, .f h0_2, .i h1_0, .f h1_1, .f h1_2, .f h2])) := by
  intro m
  induction m with
  | zero => intros; rfl
  | succ m ih =>
    intro t10
    rw [loopN_round]
    refine (s_l02Back_l1_round N t1 t2 t9 t10 h0_0 h0_1 h0_2 h1_0 h1_1 h1_2 h2 _ K).trans ?_
    simp only [ih]
    rfl
def E_s_l02Back_l1 (α : Type) (N : Nat) : Env α := (E_s_l02Back_l2 α N).addLoop2 64 7 (loopSum2 ((E_s_l02Back_l2 α N).ann 64 7) 0 s_l02Back_l1_p (fun l K => match l with
    | [.i t1, .i t2, .i t9, .i t10, .i h0_0, .f h0_1, .f h0_2, .i h1_0, .f h1_1, .f h1_2, .f h2] => s_l02Back_l1 none N t1 t2 t9 h0_0 h0_1 h0_2 h1_0 h1_1 h1_2 h2 N t10 (fun h1_0_ h1_1_ h1_2_ h2_ => K .ret (buildS s_l02Back_l1_o0 [.i h0_0, .f h0_1, .f h0_2, .i h1_0_, .f h1_1_, .f h1_2_, .f h2_])) (K (.exit 2) (buildS s_l02Back_l1_o1 [.i t1, .i t2, .i t9, .i h0_0, .f h0_1, .f h0_2, .i h1_0, .f h1_1, .f h1_2, .f h2]))
    | _ => none) ((E_s_l02Back_l2 α N).ls 64 7))
theorem E_s_l02Back_l1_ok {α : Type} (N : Nat) : EnvOk Try.prog (E_s_l02Back_l1 α N) := (E_s_l02Back_l2_ok N).addLoop2 Try.func64 (by kernel_rfl) (loopSum_ok prog_mixed prog_names (E_s_l02Back_l2_ok N) Try.func64 (by kernel_rfl) (d := 1) (ro := 0) fun l K r h => by
  split at h
  · exact (s_l02Back_l1_loop N _ _ _ _ _ _ _ _ _ _ K N _).trans h
  · cases h)

/-- spec.l02Back, loop -/
def s_l02Back_l0_p : SPat := ⟨[.undef, .int .i64, .int .i64, .ptr ⟨⟨0, 0⟩, 0, 0, 1⟩, .undef, .undef, .ptr ⟨⟨1, 0⟩, 0, 0, 1⟩, .ptr ⟨⟨2, 0⟩, 0, 0, 6⟩, .undef, .int .i64] ++ List.replicate 120 .undef, [[.vals [.int .i64], .ints .u8 8, .ints .u8 8], [.vals [.int .i64], .ints .u8 8, .ints .u8 8], [.ints .i64 6]]⟩
def s_l02Back_l0_o0 : SPat := ⟨[.undef, .undef, .undef, .undef, .undef, .undef, .ptr ⟨⟨1, 0⟩, 0, 0, 1⟩, .ptr ⟨⟨2, 0⟩, 0, 0, 6⟩, .boolC true] ++ List.replicate 121 .undef, [[.vals [.int .i64], .ints .u8 8, .ints .u8 8], [.vals [.int .i64], .ints .u8 8, .ints .u8 8], [.ints .i64 6]]⟩
def s_l02Back_l0_o1 : SPat := ⟨[.undef, .undef, .undef, .undef, .undef, .undef, .ptr ⟨⟨1, 0⟩, 0, 0, 1⟩, .ptr ⟨⟨2, 0⟩, 0, 0, 6⟩] ++ List.replicate 122 .undef, [[.vals [.int .i64], .ints .u8 8, .ints .u8 8], [.vals [.int .i64], .ints .u8 8, .ints .u8 8], [.ints .i64 6]]⟩
theorem s_l02Back_l0_round {α : Type} (N : Nat) (t1 : Int) (t2 : Int) (t9 : Int) (h0_0 : Int) (h0_1 : Nat → Int) (h0_2 : Nat → Int) (h1_0 : Int) (h1_1 : Nat → Int) (h1_2 : Nat → Int) (h2 : Nat → Int) (kn : St → Option α) (K : AExit → St → Option α) :
    roundK Try.prog (E_s_l02Back_l1 α N) 1 0 64 Try.f64 4 3 (buildS s_l02Back_l0_p [.i t1, .i t2, .i t9, .i h0_0, .f h0_1, .f h0_2, .i h1_0, .f h1_1, .f h1_2, .f h2]) kn K = s_l02Back_l0_s none N t1 t2 h0_0 h0_1 h0_2 h1_0 h1_1 h1_2 h2 t9 (fun t9 => kn (buildS s_l02Back_l0_p [.i t1, .i t2, .i t9, .i h0_0, .f h0_1, .f h0_2, .i h1_0, .f h1_1, .f h1_2, .f h2])) (fun h1_0_ h1_1_ h1_2_ h2_ => K .ret (buildS s_l02Back_l0_o0 [.i h0_0, .f h0_1, .f h0_2, .i h1_0_, .f h1_1_, .f h1_2_, .f h2_])) (K (.exit 0) (buildS s_l02Back_l0_o1 [.i h0_0, .f h0_1, .f h0_2, .i h1_0, .f h1_1, .f h1_2, .f h2])) := by kernel_rfl
theorem s_l02Back_l0_loop {α : Type} (N : Nat) (t1 : Int) (t2 : Int) (h0_0 : Int) (h0_1 : Nat → Int) (h0_2 : Nat → Int) (h1_0 : Int) (h1_1 : Nat → Int) (h1_2 : Nat → Int) (h2 : Nat → Int) (K : AExit → St → Option α) : ∀ (m : Nat) (t9 : Int),
    loopN (trimSt ((E_s_l02Back_l1 α N).ann 64 4).head ((E_s_l02Back_l1 α N).ann 64 4).grow 3) (bodyK Try.prog (E_s_l02Back_l1 α N) 1 0 64 Try.f64 4) m (buildS s_l02Back_l0_p [.i t1, .i t2, .i t9, .i h0_0, .f h0_1, .f h0_2, .i h1_0, .f h1_1, .f h1_2, .f h2]) (leaveLoop ((E_s_l02Back_l1 α N).ann 64 4) 3 K) = s_l02Back_l0 none N t1 t2 h0_0 h0_1 h0_2 h1_0 h1_1 h1_2 h2 m t9 (fun h1_0_ h1_1_ h1_2_ h2_ => K .ret (buildS s_l02Back_l0_o0 [.i h0_0, .f h0_1, .f h0_2, .i h1_0_, .f h1_1_, .f h1_2_, .f h2_])) (K (.exit 0) (buildS s_l02Back_l0_o1 [.i h0_0, .f h0_1, .f h0_2, .i h1_0, .f h1_1, .f h1_2, .f h2])) := by
  intro m
  induction m with
  | zero => intros; rfl
  | succ m ih =>
    intro t9
    rw [loopN_round]
    refine (s_l02Back_l0_round N t1 t2 t9 h0_0 h0_1 h0_2 h1_0 h1_1 h1_2 h2 _ K).trans ?_
    simp only [ih]
    rfl
def E_s_l02Back_l0 (α : Type) (N : Nat) : Env α := (E_s_l02Back_l1 α N).addLoop2 64 4 (loopSum2 ((E_s_l02Back_l1 α N).ann 64 4) 0 s_l02Back_l0_p (fun l K => match l with
    | [.i t1, .i t2, .i t9, .i h0_0, .f h0_1, .f h0_2, .i h1_0, .f h1_1, .f h1_2, .f h2] => s_l02Back_l0 none N t1 t2 h0_0 h0_1 h0_2 h1_0 h1_1 h1_2 h2 N t9 (fun h1_0_ h1_1_ h1_2_ h2_ => K .ret (buildS s_l02Back_l0_o0 [.i h0_0, .f h0_1, .f h0_2, .i h1_0_, .f h1_1_, .f h1_2_, .f h2_])) (K (.exit 0) (buildS s_l02Back_l0_o1 [.i h0_0, .f h0_1, .f h0_2, .i h1_0, .f h1_1, .f h1_2, .f h2]))
    | _ => none) ((E_s_l02Back_l1 α N).ls 64 4))
theorem E_s_l02Back_l0_ok {α : Type} (N : Nat) : EnvOk Try.prog (E_s_l02Back_l0 α N) := (E_s_l02Back_l1_ok N).addLoop2 Try.func64 (by kernel_rfl) (loopSum_ok prog_mixed prog_names (E_s_l02Back_l1_ok N) Try.func64 (by kernel_rfl) (d := 1) (ro := 0) fun l K r h => by
  split at h
  · exact (s_l02Back_l0_loop N _ _ _ _ _ _ _ _ _ K N _).trans h
  · cases h)

/-- spec.l02Back -/
def s_l02Back_a : SPat := ⟨[.agg [.vals [.int .i64], .ints .u8 8, .ints .u8 8], .int .i64, .int .i64], []⟩
def s_l02Back_r0 : SPat := ⟨[.tuple [.agg [.vals [.int .i64], .ints .u8 8, .ints .u8 8], .agg [.ints .i64 6], .bool]], []⟩
theorem s_l02Back_run {α : Type} (N : Nat) (g_0 : Int) (g_1 : Nat → Int) (g_2 : Nat → Int) (a1 : Int) (a2 : Int) (K : AV → Heap → Option α) :
    callK Try.prog (E_s_l02Back_l0 α N) 1 64 0 (buildS s_l02Back_a [.i g_0, .f g_1, .f g_2, .i a1, .i a2]).t (buildS s_l02Back_a [.i g_0, .f g_1, .f g_2, .i a1, .i a2]).h K = s_l02Back none N g_0 g_1 g_2 a1 a2 (fun r_0_0_ r_0_1_ r_0_2_ r_1_ r_2_ => retK (buildS s_l02Back_r0 [.i r_0_0_, .f r_0_1_, .f r_0_2_, .f r_1_, .b r_2_]) K) := by kernel_rfl
def E_s_l02Back (α : Type) (N : Nat) : Env α := (E_s_l02Back_l0 α N).addFun 64 true 0 s_l02Back_a (fun l K => match l with
    | [.i g_0, .f g_1, .f g_2, .i a1, .i a2] => s_l02Back none N g_0 g_1 g_2 a1 a2 (fun r_0_0_ r_0_1_ r_0_2_ r_1_ r_2_ => retK (buildS s_l02Back_r0 [.i r_0_0_, .f r_0_1_, .f r_0_2_, .f r_1_, .b r_2_]) K)
    | _ => none)
theorem E_s_l02Back_ok {α : Type} (N : Nat) : EnvOk Try.prog (E_s_l02Back α N) := (E_s_l02Back_l0_ok N).addFun prog_mixed prog_names (d := 1) fun l K r h => by
  split at h
  · exact (s_l02Back_run N _ _ _ _ _ K).trans h
  · cases h

/-- spec.l02Fits -/
def s_l02Fits_a : SPat := ⟨[.agg [.vals [.int .i64], .ints .u8 8, .ints .u8 8], .agg [.ints .i64 6]], []⟩
def s_l02Fits_r0 : SPat := ⟨[.bool], []⟩
theorem s_l02Fits_run {α : Type} (N : Nat) (g_0 : Int) (g_1 : Nat → Int) (g_2 : Nat → Int) (a1 : Nat → Int) (K : AV → Heap → Option α) :
    callK Try.prog (E_s_l02Back α N) 1 46 0 (buildS s_l02Fits_a [.i g_0, .f g_1, .f g_2, .f a1]).t (buildS s_l02Fits_a [.i g_0, .f g_1, .f g_2, .f a1]).h K = s_l02Fits none N g_0 g_1 g_2 a1 (fun r__ => retK (buildS s_l02Fits_r0 [.b r__]) K) := by kernel_rfl
def E_s_l02Fits (α : Type) (N : Nat) : Env α := (E_s_l02Back α N).addFun 46 true 0 s_l02Fits_a (fun l K => match l with
    | [.i g_0, .f g_1, .f g_2, .f a1] => s_l02Fits none N g_0 g_1 g_2 a1 (fun r__ => retK (buildS s_l02Fits_r0 [.b r__]) K)
    | _ => none)
theorem E_s_l02Fits_ok {α : Type} (N : Nat) : EnvOk Try.prog (E_s_l02Fits α N) := (E_s_l02Back_ok N).addFun prog_mixed prog_names (d := 1) fun l K r h => by
  split at h
  · exact (s_l02Fits_run N _ _ _ _ K).trans h
  · cases h

/-- spec.l02SwapColumns -/
def s_l02SwapColumns_a : SPat := ⟨[.agg [.vals [.int .i64], .ints .u8 8, .ints .u8 8], .int .i64], []⟩
def s_l02SwapColumns_r0 : SPat := ⟨[.agg [.vals [.int .i64], .ints .u8 8, .ints .u8 8]], []⟩
theorem s_l02SwapColumns_run {α : Type} (N : Nat) (g_0 : Int) (g_1 : Nat → Int) (g_2 : Nat → Int) (i : Int) (K : AV → Heap → Option α) :
    callK Try.prog (E_s_l02Fits α N) 1 32 0 (buildS s_l02SwapColumns_a [.i g_0, .f g_1, .f g_2, .i i]).t (buildS s_l02SwapColumns_a [.i g_0, .f g_1, .f g_2, .i i]).h K = s_l02SwapColumns none N g_0 g_1 g_2 i (fun r_1_ r_2_ => retK (buildS s_l02SwapColumns_r0 [.i g_0, .f r_1_, .f r_2_]) K) := by kernel_rfl
def E_s_l02SwapColumns (α : Type) (N : Nat) : Env α := (E_s_l02Fits α N).addFun 32 true 0 s_l02SwapColumns_a (fun l K => match l with
    | [.i g_0, .f g_1, .f g_2, .i i] => s_l02SwapColumns none N g_0 g_1 g_2 i (fun r_1_ r_2_ => retK (buildS s_l02SwapColumns_r0 [.i g_0, .f r_1_, .f r_2_]) K)
    | _ => none)
theorem E_s_l02SwapColumns_ok {α : Type} (N : Nat) : EnvOk Try.prog (E_s_l02SwapColumns α N) := (E_s_l02Fits_ok N).addFun prog_mixed prog_names (d := 1) fun l K r h => by
  split at h
  · exact (s_l02SwapColumns_run N _ _ _ _ K).trans h
  · cases h

def A_s_l02SwapRows_l0 (α : Type) (N : Nat) : Env α := (E_s_l02SwapColumns α N).addAnn 37 3 { head := [2, 4, 5, 6, 7], grow := [], out := [2, 4], ret := [4] }
theorem A_s_l02SwapRows_l0_ok {α : Type} (N : Nat) : EnvOk Try.prog (A_s_l02SwapRows_l0 α N) := (E_s_l02SwapColumns_ok N).addAnn

/-- spec.l02SwapRows, loop -/
def s_l02SwapRows_l0_p : SPat := ⟨[.undef, .undef, .ptr ⟨⟨0, 0⟩, 0, 0, 1⟩, .undef, .ptr ⟨⟨1, 0⟩, 0, 0, 1⟩, .int .u8, .int .u8, .int .i64] ++ List.replicate 48 .undef, [[.vals [.int .i64], .ints .u8 8, .ints .u8 8], [.vals [.int .i64], .ints .u8 8, .ints .u8 8]]⟩
def s_l02SwapRows_l0_o0 : SPat := ⟨[.undef, .undef, .ptr ⟨⟨0, 0⟩, 0, 0, 1⟩, .undef, .ptr ⟨⟨1, 0⟩, 0, 0, 1⟩] ++ List.replicate 51 .undef, [[.vals [.int .i64], .ints .u8 8, .ints .u8 8], [.vals [.int .i64], .ints .u8 8, .ints .u8 8]]⟩
theorem s_l02SwapRows_l0_round {α : Type} (N : Nat) (a : Int) (b : Int) (i : Int) (h0_0 : Int) (h0_1 : Nat → Int) (h0_2 : Nat → Int) (h1_0 : Int) (h1_1 : Nat → Int) (h1_2 : Nat → Int) (kn : St → Option α) (K : AExit → St → Option α) :
    roundK Try.prog (A_s_l02SwapRows_l0 α N) 1 0 37 Try.f37 3 2 (buildS s_l02SwapRows_l0_p [.i a, .i b, .i i, .i h0_0, .f h0_1, .f h0_2, .i h1_0, .f h1_1, .f h1_2]) kn K = s_l02SwapRows_l0_s none a b h0_0 h1_0 h1_1 h1_2 i h0_1 h0_2 (fun i h0_1 h0_2 => kn (buildS s_l02SwapRows_l0_p [.i a, .i b, .i i, .i h0_0, .f h0_1, .f h0_2, .i h1_0, .f h1_1, .f h1_2])) (fun h0_1_ h0_2_ => K (.exit 0) (buildS s_l02SwapRows_l0_o0 [.i h0_0, .f h0_1_, .f h0_2_, .i h1_0, .f h1_1, .f h1_2])) := by kernel_rfl
theorem s_l02SwapRows_l0_loop {α : Type} (N : Nat) (a : Int) (b : Int) (h0_0 : Int) (h1_0 : Int) (h1_1 : Nat → Int) (h1_2 : Nat → Int) (K : AExit → St → Option α) : ∀ (m : Nat) (i : Int) (h0_1 : Nat → Int) (h0_2 : Nat → Int),
    loopN (trimSt ((A_s_l02SwapRows_l0 α N).ann 37 3).head ((A_s_l02SwapRows_l0 α N).ann 37 3).grow 2) (bodyK Try.prog (A_s_l02SwapRows_l0 α N) 1 0 37 Try.f37 3) m (buildS s_l02SwapRows_l0_p [.i a, .i b, .i i, .i h0_0, .f h0_1, .f h0_2, .i h1_0, .f h1_1, .f h1_2]) (leaveLoop ((A_s_l02SwapRows_l0 α N).ann 37 3) 2 K) = s_l02SwapRows_l0 none a b h0_0 h1_0 h1_1 h1_2 m i h0_1 h0_2 (fun h0_1_ h0_2_ => K (.exit 0) (buildS s_l02SwapRows_l0_o0 [.i h0_0, .f h0_1_, .f h0_2_, .i h1_0, .f h1_1, .f h1_2])) := by
  intro m
  induction m with
  | zero => intros; rfl
  | succ m ih =>
    intro i h0_1 h0_2
    rw [loopN_round]
    refine (s_l02SwapRows_l0_round N a b i h0_0 h0_1 h0_2 h1_0 h1_1 h1_2 _ K).trans ?_
    simp only [ih]
    rfl
def E_s_l02SwapRows_l0 (α : Type) (N : Nat) : Env α := (A_s_l02SwapRows_l0 α N).addLoop2 37 3 (loopSum2 ((A_s_l02SwapRows_l0 α N).ann 37 3) 0 s_l02SwapRows_l0_p (fun l K => match l with
    | [.i a, .i b, .i i, .i h0_0, .f h0_1, .f h0_2, .i h1_0, .f h1_1, .f h1_2] => s_l02SwapRows_l0 none a b h0_0 h1_0 h1_1 h1_2 N i h0_1 h0_2 (fun h0_1_ h0_2_ => K (.exit 0) (buildS s_l02SwapRows_l0_o0 [.i h0_0, .f h0_1_, .f h0_2_, .i h1_0, .f h1_1, .f h1_2]))
    | _ => none) ((A_s_l02SwapRows_l0 α N).ls 37 3))
theorem E_s_l02SwapRows_l0_ok {α : Type} (N : Nat) : EnvOk Try.prog (E_s_l02SwapRows_l0 α N) := (A_s_l02SwapRows_l0_ok N).addLoop2 Try.func37 (by kernel_rfl) (loopSum_ok prog_mixed prog_names (A_s_l02SwapRows_l0_ok N) Try.func37 (by kernel_rfl) (d := 1) (ro := 0) fun l K r h => by
  split at h
  · exact (s_l02SwapRows_l0_loop N _ _ _ _ _ _ K N _ _ _).trans h
  · cases h)

/-- spec.l02SwapRows -/
def s_l02SwapRows_a : SPat := ⟨[.agg [.vals [.int .i64], .ints .u8 8, .ints .u8 8], .int .i64], []⟩
def s_l02SwapRows_r0 : SPat := ⟨[.agg [.vals [.int .i64], .ints .u8 8, .ints .u8 8]], []⟩
theorem s_l02SwapRows_run {α : Type} (N : Nat) (g_0 : Int) (g_1 : Nat → Int) (g_2 : Nat → Int) (r_ : Int) (K : AV → Heap → Option α) :
    callK Try.prog (E_s_l02SwapRows_l0 α N) 1 37 0 (buildS s_l02SwapRows_a [.i g_0, .f g_1, .f g_2, .i r_]).t (buildS s_l02SwapRows_a [.i g_0, .f g_1, .f g_2, .i r_]).h K = s_l02SwapRows none N g_0 g_1 g_2 r_ (fun r_1_ r_2_ => retK (buildS s_l02SwapRows_r0 [.i g_0, .f r_1_, .f r_2_]) K) := by kernel_rfl
def E_s_l02SwapRows (α : Type) (N : Nat) : Env α := (E_s_l02SwapRows_l0 α N).addFun 37 true 0 s_l02SwapRows_a (fun l K => match l with
    | [.i g_0, .f g_1, .f g_2, .i r_] => s_l02SwapRows none N g_0 g_1 g_2 r_ (fun r_1_ r_2_ => retK (buildS s_l02SwapRows_r0 [.i g_0, .f r_1_, .f r_2_]) K)
    | _ => none)
theorem E_s_l02SwapRows_ok {α : Type} (N : Nat) : EnvOk Try.prog (E_s_l02SwapRows α N) := (E_s_l02SwapRows_l0_ok N).addFun prog_mixed prog_names (d := 1) fun l K r h => by
  split at h
  · exact (s_l02SwapRows_run N _ _ _ _ K).trans h
  · cases h

def A_s_l02Stabilize_l0 (α : Type) (N : Nat) : Env α := (E_s_l02SwapRows α N).addAnn 63 8 { head := [1, 2, 3, 4, 5, 10, 11, 12, 13, 14, 15, 16], grow := [], out := [1, 2, 3, 4, 5, 10, 12, 13, 14, 15], ret := [10] }
theorem A_s_l02Stabilize_l0_ok {α : Type} (N : Nat) : EnvOk Try.prog (A_s_l02Stabilize_l0 α N) := (E_s_l02SwapRows_ok N).addAnn

/-- spec.l02Lifted -/
def s_l02Lifted_a : SPat := ⟨[.int .u8, .int .i64, .int .i64], []⟩
def s_l02Lifted_r0 : SPat := ⟨[.int .u8], []⟩
theorem s_l02Lifted_run {α : Type} (N : Nat) (row : Int) (r_ : Int) (upper : Int) (K : AV → Heap → Option α) :
    callK Try.prog (A_s_l02Stabilize_l0 α N) 1 74 0 (buildS s_l02Lifted_a [.i row, .i r_, .i upper]).t (buildS s_l02Lifted_a [.i row, .i r_, .i upper]).h K = s_l02Lifted none N row r_ upper (fun r__ => retK (buildS s_l02Lifted_r0 [.i r__]) K) := by kernel_rfl
def E_s_l02Lifted (α : Type) (N : Nat) : Env α := (A_s_l02Stabilize_l0 α N).addFun 74 true 0 s_l02Lifted_a (fun l K => match l with
    | [.i row, .i r_, .i upper] => s_l02Lifted none N row r_ upper (fun r__ => retK (buildS s_l02Lifted_r0 [.i r__]) K)
    | _ => none)
theorem E_s_l02Lifted_ok {α : Type} (N : Nat) : EnvOk Try.prog (E_s_l02Lifted α N) := (A_s_l02Stabilize_l0_ok N).addFun prog_mixed prog_names (d := 1) fun l K r h => by
  split at h
  · exact (s_l02Lifted_run N _ _ _ K).trans h
  · cases h

/-- spec.l02Stabilize, loop -/
def s_l02Stabilize_l0_p : SPat := ⟨[.undef, .int .i64, .int .i64, .int .i64, .int .i64, .ptr ⟨⟨0, 0⟩, 0, 0, 1⟩, .undef, .undef, .undef, .undef, .ptr ⟨⟨1, 0⟩, 0, 0, 1⟩, .ptr ⟨⟨2, 0⟩, 0, 0, 8⟩, .ptr ⟨⟨3, 0⟩, 0, 0, 8⟩, .int .i64, .ptr ⟨⟨4, 0⟩, 0, 0, 8⟩, .ptr ⟨⟨5, 0⟩, 0, 0, 8⟩, .int .i64] ++ List.replicate 100 .undef, [[.vals [.int .i64], .ints .u8 8, .ints .u8 8], [.vals [.int .i64], .ints .u8 8, .ints .u8 8], [.ints .u8 8], [.ints .u8 8], [.ints .u8 8], [.ints .u8 8]]⟩
def s_l02Stabilize_l0_o0 : SPat := ⟨[.undef, .int .i64, .int .i64, .int .i64, .int .i64, .ptr ⟨⟨0, 0⟩, 0, 0, 1⟩, .undef, .undef, .undef, .undef, .ptr ⟨⟨1, 0⟩, 0, 0, 1⟩, .undef, .ptr ⟨⟨3, 0⟩, 0, 0, 8⟩, .int .i64, .ptr ⟨⟨4, 0⟩, 0, 0, 8⟩, .ptr ⟨⟨5, 0⟩, 0, 0, 8⟩] ++ List.replicate 101 .undef, [[.vals [.int .i64], .ints .u8 8, .ints .u8 8], [.vals [.int .i64], .ints .u8 8, .ints .u8 8], [.ints .u8 8], [.ints .u8 8], [.ints .u8 8], [.ints .u8 8]]⟩
theorem s_l02Stabilize_l0_round {α : Type} (N : Nat) (t1 : Int) (t2 : Int) (t3 : Int) (t4 : Int) (t13 : Int) (t16 : Int) (h0_0 : Int) (h0_1 : Nat → Int) (h0_2 : Nat → Int) (h1_0 : Int) (h1_1 : Nat → Int) (h1_2 : Nat → Int) (h2 : Nat → Int) (h3 : Nat → Int) (h4 : Nat → Int) (h5 : Nat → Int) (kn : St → Option α) (K : AExit → St → Option α) :
    roundK Try.prog (E_s_l02Lifted α N) 1 0 63 Try.f63 8 6 (buildS s_l02Stabilize_l0_p [.i t1, .i t2, .i t3, .i t4, .i t13, .i t16, .i h0_0, .f h0_1, .f h0_2, .i h1_0, .f h1_1, .f h1_2, .f h2, .f h3, .f h4, .f h5]) kn K = s_l02Stabilize_l0_s none N t1 t2 t3 t4 t13 h0_0 h0_1 h0_2 h1_0 h1_1 h1_2 h2 h3 t16 h4 h5 (fun t16 h4 h5 => kn (buildS s_l02Stabilize_l0_p [.i t1, .i t2, .i t3, .i t4, .i t13, .i t16, .i h0_0, .f h0_1, .f h0_2, .i h1_0, .f h1_1, .f h1_2, .f h2, .f h3, .f h4, .f h5])) (fun h4_ h5_ => K (.exit 0) (buildS s_l02Stabilize_l0_o0 [.i t1, .i t2, .i t3, .i t4, .i t13, .i h0_0, .f h0_1, .f h0_2, .i h1_0, .f h1_1, .f h1_2, .f h2, .f h3, .f h4_, .f h5_])) := by kernel_rfl
theorem s_l02Stabilize_l0_loop {α : Type} (N : Nat) (t1 : Int) (t2 : Int) (t3 : Int) (t4 : Int) (t13 : Int) (h0_0 : Int) (h0_1 : Nat → Int) (h0_2 : Nat → Int) (h1_0 : Int) (h1_1 : Nat → Int) (h1_2 : Nat → Int) (h2 : Nat → Int) (h3 : Nat → Int) (K : AExit → St → Option α) : ∀ (m : Nat) (t16 : Int) (h4 : Nat → Int) (h5 : Nat → Int),
    loopN (trimSt ((E_s_l02Lifted α N).ann 63 8).head ((E_s_l02Lifted α N).ann 63 8).grow 6) (bodyK Try.prog (E_s_l02Lifted α N) 1 0 63 Try.f63 8) m (buildS s_l02Stabilize_l0_p [.i t1, .i t2, .i t3, .i t4, .i t13, .i t16, .i h0_0, .f h0_1, .f h0_2, .i h1_0, .f h1_1, .f h1_2, .f h2, .f h3, .f h4, .f h5]) (leaveLoop ((E_s_l02Lifted α N).ann 63 8) 6 K) = s_l02Stabilize_l0 none N t1 t2 t3 t4 t13 h0_0 h0_1 h0_2 h1_0 h1_1 h1_2 h2 h3 m t16 h4 h5 (fun h4_ h5_ => K (.exit 0) (buildS s_l02Stabilize_l0_o0 [.i t1, .i t2, .i t3, .i t4, .i t13, .i h0_0, .f h0_1, .f h0_2, .i h1_0, .f h1_1, .f h1_2, .f h2, .f h3, .f h4_, .f h5_])) := by
  intro m
  induction m with
  | zero => intros; rfl
  | succ m ih =>
    intro t16 h4 h5
    rw [loopN_round]
    refine (s_l02Stabilize_l0_round N t1 t2 t3 t4 t13 t16 h0_0 h0_1 h0_2 h1_0 h1_1 h1_2 h2 h3 h4 h5 _ K).trans ?_
    simp only [ih]
    rfl
def E_s_l02Stabilize_l0 (α : Type) (N : Nat) : Env α := (E_s_l02Lifted α N).addLoop2 63 8 (loopSum2 ((E_s_l02Lifted α N).ann 63 8) 0 s_l02Stabilize_l0_p (fun l K => match l with
    | [.i t1, .i t2, .i t3, .i t4, .i t13, .i t16, .i h0_0, .f h0_1, .f h0_2, .i h1_0, .f h1_1, .f h1_2, .f h2, .f h3, .f h4, .f h5] => s_l02Stabilize_l0 none N t1 t2 t3 t4 t13 h0_0 h0_1 h0_2 h1_0 h1_1 h1_2 h2 h3 N t16 h4 h5 (fun h4_ h5_ => K (.exit 0) (buildS s_l02Stabilize_l0_o0 [.i t1, .i t2, .i t3, .i t4, .i t13, .i h0_0, .f h0_1, .f h0_2, .i h1_0, .f h1_1, .f h1_2, .f h2, .f h3, .f h4_, .f h5_]))
    | _ => none) ((E_s_l02Lifted α N).ls 63 8))
theorem E_s_l02Stabilize_l0_ok {α : Type} (N : Nat) : EnvOk Try.prog (E_s_l02Stabilize_l0 α N) := (E_s_l02Lifted_ok N).addLoop2 Try.func63 (by kernel_rfl) (loopSum_ok prog_mixed prog_names (E_s_l02Lifted_ok N) Try.func63 (by kernel_rfl) (d := 1) (ro := 0) fun l K r h => by
  split at h
  · exact (s_l02Stabilize_l0_loop N _ _ _ _ _ _ _ _ _ _ _ _ _ K N _ _ _).trans h
  · cases h)

/-- spec.l02Stabilize -/
def s_l02Stabilize_a : SPat := ⟨[.agg [.vals [.int .i64], .ints .u8 8, .ints .u8 8], .int .i64, .int .i64, .int .i64, .int .i64], []⟩
def s_l02Stabilize_r0 : SPat := ⟨[.agg [.vals [.int .i64], .ints .u8 8, .ints .u8 8]], []⟩
theorem s_l02Stabilize_run {α : Type} (N : Nat) (g_0 : Int) (g_1 : Nat → Int) (g_2 : Nat → Int) (a1 : Int) (a2 : Int) (a3 : Int) (a4 : Int) (K : AV → Heap → Option α) :
    callK Try.prog (E_s_l02Stabilize_l0 α N) 1 63 0 (buildS s_l02Stabilize_a [.i g_0, .f g_1, .f g_2, .i a1, .i a2, .i a3, .i a4]).t (buildS s_l02Stabilize_a [.i g_0, .f g_1, .f g_2, .i a1, .i a2, .i a3, .i a4]).h K = s_l02Stabilize none N g_0 g_1 g_2 a1 a2 a3 a4 (fun r_0_ r_1_ r_2_ => retK (buildS s_l02Stabilize_r0 [.i r_0_, .f r_1_, .f r_2_]) K) := by kernel_rfl
def E_s_l02Stabilize (α : Type) (N : Nat) : Env α := (E_s_l02Stabilize_l0 α N).addFun 63 true 0 s_l02Stabilize_a (fun l K => match l with
    | [.i g_0, .f g_1, .f g_2, .i a1, .i a2, .i a3, .i a4] => s_l02Stabilize none N g_0 g_1 g_2 a1 a2 a3 a4 (fun r_0_ r_1_ r_2_ => retK (buildS s_l02Stabilize_r0 [.i r_0_, .f r_1_, .f r_2_]) K)
    | _ => none)
theorem E_s_l02Stabilize_ok {α : Type} (N : Nat) : EnvOk Try.prog (E_s_l02Stabilize α N) := (E_s_l02Stabilize_l0_ok N).addFun prog_mixed prog_names (d := 1) fun l K r h => by
  split at h
  · exact (s_l02Stabilize_run N _ _ _ _ _ _ _ K).trans h
  · cases h

/-- spec.l02Apply -/
def s_l02Apply_a : SPat := ⟨[.agg [.vals [.int .i64], .ints .u8 8, .ints .u8 8], .agg [.ints .i64 6]], []⟩
def s_l02Apply_r0 : SPat := ⟨[.agg [.vals [.int .i64], .ints .u8 8, .ints .u8 8]], []⟩
theorem s_l02Apply_run {α : Type} (N : Nat) (g_0 : Int) (g_1 : Nat → Int) (g_2 : Nat → Int) (m_ : Nat → Int) (K : AV → Heap → Option α) :
    callK Try.prog (E_s_l02Stabilize α N) 1 42 0 (buildS s_l02Apply_a [.i g_0, .f g_1, .f g_2, .f m_]).t (buildS s_l02Apply_a [.i g_0, .f g_1, .f g_2, .f m_]).h K = s_l02Apply none N g_0 g_1 g_2 m_ (fun r_0_ r_1_ r_2_ => retK (buildS s_l02Apply_r0 [.i r_0_, .f r_1_, .f r_2_]) K) := by kernel_rfl
def E_s_l02Apply (α : Type) (N : Nat) : Env α := (E_s_l02Stabilize α N).addFun 42 true 0 s_l02Apply_a (fun l K => match l with
    | [.i g_0, .f g_1, .f g_2, .f m_] => s_l02Apply none N g_0 g_1 g_2 m_ (fun r_0_ r_1_ r_2_ => retK (buildS s_l02Apply_r0 [.i r_0_, .f r_1_, .f r_2_]) K)
    | _ => none)
theorem E_s_l02Apply_ok {α : Type} (N : Nat) : EnvOk Try.prog (E_s_l02Apply α N) := (E_s_l02Stabilize_ok N).addFun prog_mixed prog_names (d := 1) fun l K r h => by
  split at h
  · exact (s_l02Apply_run N _ _ _ _ K).trans h
  · cases h

/-- spec.RunMoves, loop -/
def s_RunMoves_l0_p : SPat := ⟨[.undef, .sliceV 0 0 0 6 true, .ptr ⟨⟨1, 0⟩, 0, 0, 1⟩, .undef, .ptr ⟨⟨2, 0⟩, 0, 0, 1⟩, .undef, .int .i64] ++ List.replicate 25 .undef, [[.intsV .i64], [.vals [.int .i64], .ints .u8 8, .ints .u8 8], [.vals [.int .i64], .ints .u8 8, .ints .u8 8]]⟩
def s_RunMoves_l0_o0 : SPat := ⟨[.undef, .undef, .undef, .undef, .ptr ⟨⟨2, 0⟩, 0, 0, 1⟩, .intC .i64 5] ++ List.replicate 26 .undef, [[.intsV .i64], [.vals [.int .i64], .ints .u8 8, .ints .u8 8], [.vals [.intC .i64 0], .ints .u8 8, .ints .u8 8]]⟩
def s_RunMoves_l0_o1 : SPat := ⟨[.undef, .undef, .ptr ⟨⟨1, 0⟩, 0, 0, 1⟩, .undef, .ptr ⟨⟨2, 0⟩, 0, 0, 1⟩] ++ List.replicate 27 .undef, [[.intsV .i64], [.vals [.int .i64], .ints .u8 8, .ints .u8 8], [.vals [.int .i64], .ints .u8 8, .ints .u8 8]]⟩
theorem s_RunMoves_l0_round {α : Type} (N : Nat) (list_n : Nat) (list_l : Nat) (list_c : Nat) (k : Int) (h0_n : Nat) (h0 : Nat → Int) (h1_0 : Int) (h1_1 : Nat → Int) (h1_2 : Nat → Int) (h2_0 : Int) (h2_1 : Nat → Int) (h2_2 : Nat → Int) (kn : St → Option α) (K : AExit → St → Option α) :
    roundK Try.prog (E_s_l02Apply α N) 1 1 24 Try.f24 4 3 (buildS s_RunMoves_l0_p [.n list_n, .n list_l, .n list_c, .i k, .n h0_n, .f h0, .i h1_0, .f h1_1, .f h1_2, .i h2_0, .f h2_1, .f h2_2]) kn K = s_RunMoves_l0_s none N list_n list_l list_c h0_n h0 h2_0 h2_1 h2_2 k h1_0 h1_1 h1_2 (fun k h1_0 h1_1 h1_2 => kn (buildS s_RunMoves_l0_p [.n list_n, .n list_l, .n list_c, .i k, .n h0_n, .f h0, .i h1_0, .f h1_1, .f h1_2, .i h2_0, .f h2_1, .f h2_2])) (fun h1_0_ h1_1_ h1_2_ h2_1_ h2_2_ => K .ret (buildS s_RunMoves_l0_o0 [.n h0_n, .f h0, .i h1_0_, .f h1_1_, .f h1_2_, .f h2_1_, .f h2_2_])) (fun h1_0_ h1_1_ h1_2_ => K (.exit 0) (buildS s_RunMoves_l0_o1 [.n h0_n, .f h0, .i h1_0_, .f h1_1_, .f h1_2_, .i h2_0, .f h2_1, .f h2_2])) := by kernel_rfl
theorem s_RunMoves_l0_loop {α : Type} (N : Nat) (list_n : Nat) (list_l : Nat) (list_c : Nat) (h0_n : Nat) (h0 : Nat → Int) (h2_0 : Int) (h2_1 : Nat → Int) (h2_2 : Nat → Int) (K : AExit → St → Option α) : ∀ (m : Nat) (k : Int) (h1_0 : Int) (h1_1 : Nat → Int) (h1_2 : Nat → Int),
    loopN (trimSt ((E_s_l02Apply α N).ann 24 4).head ((E_s_l02Apply α N).ann 24 4).grow 3) (bodyK Try.prog (E_s_l02Apply α N) 1 1 24 Try.f24 4) m (buildS s_RunMoves_l0_p [.n list_n, .n list_l, .n list_c, .i k, .n h0_n, .f h0, .i h1_0, .f h1_1, .f h1_2, .i h2_0, .f h2_1, .f h2_2]) (leaveLoop ((E_s_l02Apply α N).ann 24 4) 3 K) = s_RunMoves_l0 none N list_n list_l list_c h0_n h0 h2_0 h2_1 h2_2 m k h1_0 h1_1 h1_2 (fun h1_0_ h1_1_ h1_2_ h2_1_ h2_2_ => K .ret (buildS s_RunMoves_l0_o0 [.n h0_n, .f h0, .i h1_0_, .f h1_1_, .f h1_2_, .f h2_1_, .f h2_2_])) (fun h1_0_ h1_1_ h1_2_ => K (.exit 0) (buildS s_RunMoves_l0_o1 [.n h0_n, .f h0, .i h1_0_, .f h1_1_, .f h1_2_, .i h2_0, .f h2_1, .f h2_2])) := by
  intro m
  induction m with
  | zero => intros; rfl
  | succ m ih =>
    intro k h1_0 h1_1 h1_2
    rw [loopN_round]
    refine (s_RunMoves_l0_round N list_n list_l list_c k h0_n h0 h1_0 h1_1 h1_2 h2_0 h2_1 h2_2 _ K).trans ?_
    simp only [ih]
    rfl
def E_s_RunMoves_l0 (α : Type) (N : Nat) : Env α := (E_s_l02Apply α N).addLoop2 24 4 (loopSum2 ((E_s_l02Apply α N).ann 24 4) 1 s_RunMoves_l0_p (fun l K => match l with
    | [.n list_n, .n list_l, .n list_c, .i k, .n h0_n, .f h0, .i h1_0, .f h1_1, .f h1_2, .i h2_0, .f h2_1, .f h2_2] => s_RunMoves_l0 none N list_n list_l list_c h0_n h0 h2_0 h2_1 h2_2 N k h1_0 h1_1 h1_2 (fun h1_0_ h1_1_ h1_2_ h2_1_ h2_2_ => K .ret (buildS s_RunMoves_l0_o0 [.n h0_n, .f h0, .i h1_0_, .f h1_1_, .f h1_2_, .f h2_1_, .f h2_2_])) (fun h1_0_ h1_1_ h1_2_ => K (.exit 0) (buildS s_RunMoves_l0_o1 [.n h0_n, .f h0, .i h1_0_, .f h1_1_, .f h1_2_, .i h2_0, .f h2_1, .f h2_2]))
    | _ => none) ((E_s_l02Apply α N).ls 24 4))
theorem E_s_RunMoves_l0_ok {α : Type} (N : Nat) : EnvOk Try.prog (E_s_RunMoves_l0 α N) := (E_s_l02Apply_ok N).addLoop2 Try.func24 (by kernel_rfl) (loopSum_ok prog_mixed prog_names (E_s_l02Apply_ok N) Try.func24 (by kernel_rfl) (d := 1) (ro := 1) fun l K r h => by
  split at h
  · exact (s_RunMoves_l0_loop N _ _ _ _ _ _ _ _ K N _ _ _ _).trans h
  · cases h)

/-- spec.RunMoves -/
def s_RunMoves_a : SPat := ⟨[.agg [.vals [.int .i64], .ints .u8 8, .ints .u8 8], .sliceV 0 0 0 6 true], [[.intsV .i64]]⟩
def s_RunMoves_r0 : SPat := ⟨[.tuple [.agg [.vals [.int .i64], .ints .u8 8, .ints .u8 8], .int .i64]], [[.intsV .i64]]⟩
theorem s_RunMoves_run {α : Type} (N : Nat) (g_0 : Int) (g_1 : Nat → Int) (g_2 : Nat → Int) (list_n : Nat) (list_l : Nat) (list_c : Nat) (h0_n : Nat) (h0 : Nat → Int) (K : AV → Heap → Option α) :
    callK Try.prog (E_s_RunMoves_l0 α N) 1 24 1 (buildS s_RunMoves_a [.i g_0, .f g_1, .f g_2, .n list_n, .n list_l, .n list_c, .n h0_n, .f h0]).t (buildS s_RunMoves_a [.i g_0, .f g_1, .f g_2, .n list_n, .n list_l, .n list_c, .n h0_n, .f h0]).h K = s_RunMoves none N g_0 g_1 g_2 list_n list_l list_c h0_n h0 (fun r_0_0_ r_0_1_ r_0_2_ r_1_ => retK (buildS s_RunMoves_r0 [.i r_0_0_, .f r_0_1_, .f r_0_2_, .i r_1_, .n h0_n, .f h0]) K) := by kernel_rfl
def E_s_RunMoves (α : Type) (N : Nat) : Env α := (E_s_RunMoves_l0 α N).addFun 24 true 1 s_RunMoves_a (fun l K => match l with
    | [.i g_0, .f g_1, .f g_2, .n list_n, .n list_l, .n list_c, .n h0_n, .f h0] => s_RunMoves none N g_0 g_1 g_2 list_n list_l list_c h0_n h0 (fun r_0_0_ r_0_1_ r_0_2_ r_1_ => retK (buildS s_RunMoves_r0 [.i r_0_0_, .f r_0_1_, .f r_0_2_, .i r_1_, .n h0_n, .f h0]) K)
    | _ => none)
theorem E_s_RunMoves_ok {α : Type} (N : Nat) : EnvOk Try.prog (E_s_RunMoves α N) := (E_s_RunMoves_l0_ok N).addFun prog_mixed prog_names (d := 1) fun l K r h => by
  split at h
  · exact (s_RunMoves_run N _ _ _ _ _ _ _ _ K).trans h
  · cases h

/-- impl.within -/
def i_within_a : SPat := ⟨[.int .i64, .int .i64, .int .i64], []⟩
def i_within_r0 : SPat := ⟨[.bool], []⟩
theorem i_within_run {α : Type} (N : Nat) (x : Int) (low : Int) (high : Int) (K : AV → Heap → Option α) :
    callK Try.prog (E_s_RunMoves α N) 1 56 0 (buildS i_within_a [.i x, .i low, .i high]).t (buildS i_within_a [.i x, .i low, .i high]).h K = i_within none N x low high (fun r__ => retK (buildS i_within_r0 [.b r__]) K) := by kernel_rfl
def E_i_within (α : Type) (N : Nat) : Env α := (E_s_RunMoves α N).addFun 56 true 0 i_within_a (fun l K => match l with
    | [.i x, .i low, .i high] => i_within none N x low high (fun r__ => retK (buildS i_within_r0 [.b r__]) K)
    | _ => none)
theorem E_i_within_ok {α : Type} (N : Nat) : EnvOk Try.prog (E_i_within α N) := (E_s_RunMoves_ok N).addFun prog_mixed prog_names (d := 1) fun l K r h => by
  split at h
  · exact (i_within_run N _ _ _ K).trans h
  · cases h

/-- (impl.Grid).n -/
def i_Grid_n_a : SPat := ⟨[.agg [.vals [.int .i64], .ints .u8 8, .ints .u8 8]], []⟩
def i_Grid_n_r0 : SPat := ⟨[.int .i64], []⟩
theorem i_Grid_n_run {α : Type} (N : Nat) (g_0 : Int) (g_1 : Nat → Int) (g_2 : Nat → Int) (K : AV → Heap → Option α) :
    callK Try.prog (E_i_within α N) 1 67 0 (buildS i_Grid_n_a [.i g_0, .f g_1, .f g_2]).t (buildS i_Grid_n_a [.i g_0, .f g_1, .f g_2]).h K = i_Grid_n none N g_0 g_1 g_2 (retK (buildS i_Grid_n_r0 [.i g_0]) K) := by kernel_rfl
def E_i_Grid_n (α : Type) (N : Nat) : Env α := (E_i_within α N).addFun 67 true 0 i_Grid_n_a (fun l K => match l with
    | [.i g_0, .f g_1, .f g_2] => i_Grid_n none N g_0 g_1 g_2 (retK (buildS i_Grid_n_r0 [.i g_0]) K)
    | _ => none)
theorem E_i_Grid_n_ok {α : Type} (N : Nat) : EnvOk Try.prog (E_i_Grid_n α N) := (E_i_within_ok N).addFun prog_mixed prog_names (d := 1) fun l K r h => by
  split at h
  · exact (i_Grid_n_run N _ _ _ K).trans h
  · cases h

def A_i_isOrder_l0 (α : Type) (N : Nat) : Env α := (E_i_Grid_n α N).addAnn 66 3 { head := [1, 5, 8, 9, 10], grow := [], out := [1, 5], ret := [4] }
theorem A_i_isOrder_l0_ok {α : Type} (N : Nat) : EnvOk Try.prog (A_i_isOrder_l0 α N) := (E_i_Grid_n_ok N).addAnn

/-- impl.isOrder, loop -/
def i_isOrder_l0_s2_p : SPat := ⟨[.undef, .int .i64, .undef, .undef, .undef, .int .i64, .undef, .undef, .slice ⟨⟨0, 0⟩, 1, 0, 8⟩ 8 8 1 true, .intC .i64 8, .int .i64] ++ List.replicate 30 .undef, [[.vals [.int .i64], .ints .u8 8, .ints .u8 8]]⟩
def i_isOrder_l0_s2_o0 : SPat := ⟨[.undef, .undef, .undef, .undef, .boolC false] ++ List.replicate 36 .undef, [[.vals [.int .i64], .ints .u8 8, .ints .u8 8]]⟩
def i_isOrder_l0_s2_o1 : SPat := ⟨[.undef, .int .i64, .undef, .undef, .undef, .int .i64] ++ List.replicate 35 .undef, [[.vals [.int .i64], .ints .u8 8, .ints .u8 8]]⟩
theorem i_isOrder_l0_s2_round {α : Type} (N : Nat) (n : Int) (seen : Int) (t10 : Int) (h0_0 : Int) (h0_1 : Nat → Int) (h0_2 : Nat → Int) (kn : St → Option α) (K : AExit → St → Option α) :
    roundK Try.prog (A_i_isOrder_l0 α N) 1 1 66 Try.f66 3 1 (buildS i_isOrder_l0_s2_p [.i n, .i seen, .i t10, .i h0_0, .f h0_1, .f h0_2]) kn K = i_isOrder_l0_s2_s none n h0_0 h0_1 h0_2 seen t10 (fun seen t10 => kn (buildS i_isOrder_l0_s2_p [.i n, .i seen, .i t10, .i h0_0, .f h0_1, .f h0_2])) (K .ret (buildS i_isOrder_l0_s2_o0 [.i h0_0, .f h0_1, .f h0_2])) (fun seen_ => K (.exit 0) (buildS i_isOrder_l0_s2_o1 [.i n, .i seen_, .i h0_0, .f h0_1, .f h0_2])) := by kernel_rfl
theorem i_isOrder_l0_s2_loop {α : Type} (N : Nat) (n : Int) (h0_0 : Int) (h0_1 : Nat → Int) (h0_2 : Nat → Int) (K : AExit → St → Option α) : ∀ (m : Nat) (seen : Int) (t10 : Int),
    loopN (trimSt ((A_i_isOrder_l0 α N).ann 66 3).head ((A_i_isOrder_l0 α N).ann 66 3).grow 1) (bodyK Try.prog (A_i_isOrder_l0 α N) 1 1 66 Try.f66 3) m (buildS i_isOrder_l0_s2_p [.i n, .i seen, .i t10, .i h0_0, .f h0_1, .f h0_2]) (leaveLoop ((A_i_isOrder_l0 α N).ann 66 3) 1 K) = i_isOrder_l0_s2 none n h0_0 h0_1 h0_2 m seen t10 (K .ret (buildS i_isOrder_l0_s2_o0 [.i h0_0, .f h0_1, .f h0_2])) (fun seen_ => K (.exit 0) (buildS i_isOrder_l0_s2_o1 [.i n, .i seen_, .i h0_0, .f h0_1, .f h0_2])) := by
  intro m
  induction m with
  | zero => intros; rfl
  | succ m ih =>
    intro seen t10
    rw [loopN_round]
    refine (i_isOrder_l0_s2_round N n seen t10 h0_0 h0_1 h0_2 _ K).trans ?_
    simp only [ih]
    rfl
def E_i_isOrder_l0_s2 (α : Type) (N : Nat) : Env α := (A_i_isOrder_l0 α N).addLoop2 66 3 (loopSum2 ((A_i_isOrder_l0 α N).ann 66 3) 1 i_isOrder_l0_s2_p (fun l K => match l with
    | [.i n, .i seen, .i t10, .i h0_0, .f h0_1, .f h0_2] => i_isOrder_l0_s2 none n h0_0 h0_1 h0_2 N seen t10 (K .ret (buildS i_isOrder_l0_s2_o0 [.i h0_0, .f h0_1, .f h0_2])) (fun seen_ => K (.exit 0) (buildS i_isOrder_l0_s2_o1 [.i n, .i seen_, .i h0_0, .f h0_1, .f h0_2]))
    | _ => none) ((A_i_isOrder_l0 α N).ls 66 3))
theorem E_i_isOrder_l0_s2_ok {α : Type} (N : Nat) : EnvOk Try.prog (E_i_isOrder_l0_s2 α N) := (A_i_isOrder_l0_ok N).addLoop2 Try.func66 (by kernel_rfl) (loopSum_ok prog_mixed prog_names (A_i_isOrder_l0_ok N) Try.func66 (by kernel_rfl) (d := 1) (ro := 1) fun l K r h => by
  split at h
  · exact (i_isOrder_l0_s2_loop N _ _ _ _ K N _ _).trans h
  · cases h)

/-- impl.isOrder -/
def i_isOrder_s2_a : SPat := ⟨[.slice ⟨⟨0, 0⟩, 1, 0, 8⟩ 8 8 1 true, .int .i64], [[.vals [.int .i64], .ints .u8 8, .ints .u8 8]]⟩
def i_isOrder_s2_r0 : SPat := ⟨[.bool], [[.vals [.int .i64], .ints .u8 8, .ints .u8 8]]⟩
theorem i_isOrder_s2_run {α : Type} (N : Nat) (n : Int) (h0_0 : Int) (h0_1 : Nat → Int) (h0_2 : Nat → Int) (K : AV → Heap → Option α) :
    callK Try.prog (E_i_isOrder_l0_s2 α N) 1 66 1 (buildS i_isOrder_s2_a [.i n, .i h0_0, .f h0_1, .f h0_2]).t (buildS i_isOrder_s2_a [.i n, .i h0_0, .f h0_1, .f h0_2]).h K = i_isOrder_s2 none N n h0_0 h0_1 h0_2 (fun r__ => retK (buildS i_isOrder_s2_r0 [.b r__, .i h0_0, .f h0_1, .f h0_2]) K) := by kernel_rfl
def E_i_isOrder_s2 (α : Type) (N : Nat) : Env α := (E_i_isOrder_l0_s2 α N).addFun 66 true 1 i_isOrder_s2_a (fun l K => match l with
    | [.i n, .i h0_0, .f h0_1, .f h0_2] => i_isOrder_s2 none N n h0_0 h0_1 h0_2 (fun r__ => retK (buildS i_isOrder_s2_r0 [.b r__, .i h0_0, .f h0_1, .f h0_2]) K)
    | _ => none)
theorem E_i_isOrder_s2_ok {α : Type} (N : Nat) : EnvOk Try.prog (E_i_isOrder_s2 α N) := (E_i_isOrder_l0_s2_ok N).addFun prog_mixed prog_names (d := 1) fun l K r h => by
  split at h
  · exact (i_isOrder_s2_run N _ _ _ _ K).trans h
  · cases h

/-- impl.isOrder, loop -/
def i_isOrder_l0_s3_p : SPat := ⟨[.undef, .int .i64, .undef, .undef, .undef, .int .i64, .undef, .undef, .slice ⟨⟨0, 0⟩, 2, 0, 8⟩ 8 8 1 true, .intC .i64 8, .int .i64] ++ List.replicate 30 .undef, [[.vals [.int .i64], .ints .u8 8, .ints .u8 8]]⟩
def i_isOrder_l0_s3_o0 : SPat := ⟨[.undef, .undef, .undef, .undef, .boolC false] ++ List.replicate 36 .undef, [[.vals [.int .i64], .ints .u8 8, .ints .u8 8]]⟩
def i_isOrder_l0_s3_o1 : SPat := ⟨[.undef, .int .i64, .undef, .undef, .undef, .int .i64] ++ List.replicate 35 .undef, [[.vals [.int .i64], .ints .u8 8, .ints .u8 8]]⟩
theorem i_isOrder_l0_s3_round {α : Type} (N : Nat) (n : Int) (seen : Int) (t10 : Int) (h0_0 : Int) (h0_1 : Nat → Int) (h0_2 : Nat → Int) (kn : St → Option α) (K : AExit → St → Option α) :
    roundK Try.prog (E_i_isOrder_s2 α N) 1 1 66 Try.f66 3 1 (buildS i_isOrder_l0_s3_p [.i n, .i seen, .i t10, .i h0_0, .f h0_1, .f h0_2]) kn K = i_isOrder_l0_s3_s none n h0_0 h0_1 h0_2 seen t10 (fun seen t10 => kn (buildS i_isOrder_l0_s3_p [.i n, .i seen, .i t10, .i h0_0, .f h0_1, .f h0_2])) (K .ret (buildS i_isOrder_l0_s3_o0 [.i h0_0, .f h0_1, .f h0_2])) (fun seen_ => K (.exit 0) (buildS i_isOrder_l0_s3_o1 [.i n, .i seen_, .i h0_0, .f h0_1, .f h0_2])) := by kernel_rfl
theorem i_isOrder_l0_s3_loop {α : Type} (N : Nat) (n : Int) (h0_0 : Int) (h0_1 : Nat → Int) (h0_2 : Nat → Int) (K : AExit → St → Option α) : ∀ (m : Nat) (seen : Int) (t10 : Int),
    loopN (trimSt ((E_i_isOrder_s2 α N).ann 66 3).head ((E_i_isOrder_s2 α N).ann 66 3).grow 1) (bodyK Try.prog (E_i_isOrder_s2 α N) 1 1 66 Try.f66 3) m (buildS i_isOrder_l0_s3_p [.i n, .i seen, .i t10, .i h0_0, .f h0_1, .f h0_2]) (leaveLoop ((E_i_isOrder_s2 α N).ann 66 3) 1 K) = i_isOrder_l0_s3 none n h0_0 h0_1 h0_2 m seen t10 (K .ret (buildS i_isOrder_l0_s3_o0 [.i h0_0, .f h0_1, .f h0_2])) (fun seen_ => K (.exit 0) (buildS i_isOrder_l0_s3_o1 [.i n, .i seen_, .i h0_0, .f h0_1, .f h0_2])) := by
  intro m
  induction m with
  | zero => intros; rfl
  | succ m ih =>
    intro seen t10
    rw [loopN_round]
    refine (i_isOrder_l0_s3_round N n seen t10 h0_0 h0_1 h0_2 _ K).trans ?_
    simp only [ih]
    rfl
def E_i_isOrder_l0_s3 (α : Type) (N : Nat) : Env α := (E_i_isOrder_s2 α N).addLoop2 66 3 (loopSum2 ((E_i_isOrder_s2 α N).ann 66 3) 1 i_isOrder_l0_s3_p (fun l K => match l with
    | [.i n, .i seen, .i t10, .i h0_0, .f h0_1, .f h0_2] => i_isOrder_l0_s3 none n h0_0 h0_1 h0_2 N seen t10 (K .ret (buildS i_isOrder_l0_s3_o0 [.i h0_0, .f h0_1, .f h0_2])) (fun seen_ => K (.exit 0) (buildS i_isOrder_l0_s3_o1 [.i n, .i seen_, .i h0_0, .f h0_1, .f h0_2]))
    | _ => none) ((E_i_isOrder_s2 α N).ls 66 3))
theorem E_i_isOrder_l0_s3_ok {α : Type} (N : Nat) : EnvOk Try.prog (E_i_isOrder_l0_s3 α N) := (E_i_isOrder_s2_ok N).addLoop2 Try.func66 (by kernel_rfl) (loopSum_ok prog_mixed prog_names (E_i_isOrder_s2_ok N) Try.func66 (by kernel_rfl) (d := 1) (ro := 1) fun l K r h => by
  split at h
  · exact (i_isOrder_l0_s3_loop N _ _ _ _ K N _ _).trans h
  · cases h)

/-- impl.isOrder -/
def i_isOrder_s3_a : SPat := ⟨[.slice ⟨⟨0, 0⟩, 2, 0, 8⟩ 8 8 1 true, .int .i64], [[.vals [.int .i64], .ints .u8 8, .ints .u8 8]]⟩
def i_isOrder_s3_r0 : SPat := ⟨[.bool], [[.vals [.int .i64], .ints .u8 8, .ints .u8 8]]⟩
theorem i_isOrder_s3_run {α : Type} (N : Nat) (n : Int) (h0_0 : Int) (h0_1 : Nat → Int) (h0_2 : Nat → Int) (K : AV → Heap → Option α) :
    callK Try.prog (E_i_isOrder_l0_s3 α N) 1 66 1 (buildS i_isOrder_s3_a [.i n, .i h0_0, .f h0_1, .f h0_2]).t (buildS i_isOrder_s3_a [.i n, .i h0_0, .f h0_1, .f h0_2]).h K = i_isOrder_s3 none N n h0_0 h0_1 h0_2 (fun r__ => retK (buildS i_isOrder_s3_r0 [.b r__, .i h0_0, .f h0_1, .f h0_2]) K) := by kernel_rfl
def E_i_isOrder_s3 (α : Type) (N : Nat) : Env α := (E_i_isOrder_l0_s3 α N).addFun 66 true 1 i_isOrder_s3_a (fun l K => match l with
    | [.i n, .i h0_0, .f h0_1, .f h0_2] => i_isOrder_s3 none N n h0_0 h0_1 h0_2 (fun r__ => retK (buildS i_isOrder_s3_r0 [.b r__, .i h0_0, .f h0_1, .f h0_2]) K)
    | _ => none)
theorem E_i_isOrder_s3_ok {α : Type} (N : Nat) : EnvOk Try.prog (E_i_isOrder_s3 α N) := (E_i_isOrder_l0_s3_ok N).addFun prog_mixed prog_names (d := 1) fun l K r h => by
  split at h
  · exact (i_isOrder_s3_run N _ _ _ _ K).trans h
  · cases h

def A_i_IsGrid_l0 (α : Type) (N : Nat) : Env α := (E_i_isOrder_s3 α N).addAnn 47 4 { head := [1, 25, 26], grow := [], out := [], ret := [2] }
theorem A_i_IsGrid_l0_ok {α : Type} (N : Nat) : EnvOk Try.prog (A_i_IsGrid_l0 α N) := (E_i_isOrder_s3_ok N).addAnn

/-- impl.IsGrid, loop -/
def i_IsGrid_l0_p : SPat := ⟨[.undef, .ptr ⟨⟨0, 0⟩, 0, 0, 1⟩, .undef, .undef, .undef, .undef, .undef, .undef, .undef, .undef, .undef, .undef, .undef, .undef, .undef, .undef, .undef, .undef, .undef, .undef, .undef, .undef, .undef, .undef, .undef, .int .i64, .int .i64] ++ List.replicate 12 .undef, [[.vals [.int .i64], .ints .u8 8, .ints .u8 8]]⟩
def i_IsGrid_l0_o0 : SPat := ⟨[.undef, .undef, .boolC false] ++ List.replicate 36 .undef, [[.vals [.int .i64], .ints .u8 8, .ints .u8 8]]⟩
def i_IsGrid_l0_o1 : SPat := ⟨[] ++ List.replicate 39 .undef, [[.vals [.int .i64], .ints .u8 8, .ints .u8 8]]⟩
theorem i_IsGrid_l0_round {α : Type} (N : Nat) (t25 : Int) (t26 : Int) (h0_0 : Int) (h0_1 : Nat → Int) (h0_2 : Nat → Int) (kn : St → Option α) (K : AExit → St → Option α) :
    roundK Try.prog (A_i_IsGrid_l0 α N) 1 0 47 Try.f47 4 1 (buildS i_IsGrid_l0_p [.i t25, .i t26, .i h0_0, .f h0_1, .f h0_2]) kn K = i_IsGrid_l0_s none t25 h0_0 h0_1 h0_2 t26 (fun t26 => kn (buildS i_IsGrid_l0_p [.i t25, .i t26, .i h0_0, .f h0_1, .f h0_2])) (K .ret (buildS i_IsGrid_l0_o0 [.i h0_0, .f h0_1, .f h0_2])) (K (.exit 0) (buildS i_IsGrid_l0_o1 [.i h0_0, .f h0_1, .f h0_2])) := by kernel_rfl
theorem i_IsGrid_l0_loop {α : Type} (N : Nat) (t25 : Int) (h0_0 : Int) (h0_1 : Nat → Int) (h0_2 : Nat → Int) (K : AExit → St → Option α) : ∀ (m : Nat) (t26 : Int),
    loopN (trimSt ((A_i_IsGrid_l0 α N).ann 47 4).head ((A_i_IsGrid_l0 α N).ann 47 4).grow 1) (bodyK Try.prog (A_i_IsGrid_l0 α N) 1 0 47 Try.f47 4) m (buildS i_IsGrid_l0_p [.i t25, .i t26, .i h0_0, .f h0_1, .f h0_2]) (leaveLoop ((A_i_IsGrid_l0 α N).ann 47 4) 1 K) = i_IsGrid_l0 none t25 h0_0 h0_1 h0_2 m t26 (K .ret (buildS i_IsGrid_l0_o0 [.i h0_0, .f h0_1, .f h0_2])) (K (.exit 0) (buildS i_IsGrid_l0_o1 [.i h0_0, .f h0_1, .f h0_2])) := by
  intro m
  induction m with
  | zero => intros; rfl
  | succ m ih =>
    intro t26
    rw [loopN_round]
    refine (i_IsGrid_l0_round N t25 t26 h0_0 h0_1 h0_2 _ K).trans ?_
    simp only [ih]
    rfl
def E_i_IsGrid_l0 (α : Type) (N : Nat) : Env α := (A_i_IsGrid_l0 α N).addLoop2 47 4 (loopSum2 ((A_i_IsGrid_l0 α N).ann 47 4) 0 i_IsGrid_l0_p (fun l K => match l with
    | [.i t25, .i t26, .i h0_0, .f h0_1, .f h0_2] => i_IsGrid_l0 none t25 h0_0 h0_1 h0_2 N t26 (K .ret (buildS i_IsGrid_l0_o0 [.i h0_0, .f h0_1, .f h0_2])) (K (.exit 0) (buildS i_IsGrid_l0_o1 [.i h0_0, .f h0_1, .f h0_2]))
    | _ => none) ((A_i_IsGrid_l0 α N).ls 47 4))
theorem E_i_IsGrid_l0_ok {α : Type} (N : Nat) : EnvOk Try.prog (E_i_IsGrid_l0 α N) := (A_i_IsGrid_l0_ok N).addLoop2 Try.func47 (by kernel_rfl) (loopSum_ok prog_mixed prog_names (A_i_IsGrid_l0_ok N) Try.func47 (by kernel_rfl) (d := 1) (ro := 0) fun l K r h => by
  split at h
  · exact (i_IsGrid_l0_loop N _ _ _ _ K N _).trans h
  · cases h)

/-- impl.IsGrid -/
def i_IsGrid_a : SPat := ⟨[.agg [.vals [.int .i64], .ints .u8 8, .ints .u8 8]], []⟩
def i_IsGrid_r0 : SPat := ⟨[.bool], []⟩
theorem i_IsGrid_run {α : Type} (N : Nat) (g_0 : Int) (g_1 : Nat → Int) (g_2 : Nat → Int) (K : AV → Heap → Option α) :
    callK Try.prog (E_i_IsGrid_l0 α N) 1 47 0 (buildS i_IsGrid_a [.i g_0, .f g_1, .f g_2]).t (buildS i_IsGrid_a [.i g_0, .f g_1, .f g_2]).h K = i_IsGrid none N g_0 g_1 g_2 (fun r__ => retK (buildS i_IsGrid_r0 [.b r__]) K) := by kernel_rfl
def E_i_IsGrid (α : Type) (N : Nat) : Env α := (E_i_IsGrid_l0 α N).addFun 47 true 0 i_IsGrid_a (fun l K => match l with
    | [.i g_0, .f g_1, .f g_2] => i_IsGrid none N g_0 g_1 g_2 (fun r__ => retK (buildS i_IsGrid_r0 [.b r__]) K)
    | _ => none)
theorem E_i_IsGrid_ok {α : Type} (N : Nat) : EnvOk Try.prog (E_i_IsGrid α N) := (E_i_IsGrid_l0_ok N).addFun prog_mixed prog_names (d := 1) fun l K r h => by
  split at h
  · exact (i_IsGrid_run N _ _ _ K).trans h
  · cases h

def A_i_RunMoves_l0 (α : Type) (N : Nat) : Env α := (E_i_IsGrid α N).addAnn 26 4 { head := [2, 4, 12, 13, 14], grow := [], out := [2, 4], ret := [4, 5] }
theorem A_i_RunMoves_l0_ok {α : Type} (N : Nat) : EnvOk Try.prog (A_i_RunMoves_l0 α N) := (E_i_IsGrid_ok N).addAnn

/-- impl.areApart -/
def i_areApart_a : SPat := ⟨[.int .i64, .int .i64, .int .i64, .int .i64], []⟩
def i_areApart_r0 : SPat := ⟨[.bool], []⟩
theorem i_areApart_run {α : Type} (N : Nat) (a : Int) (b : Int) (c : Int) (d : Int) (K : AV → Heap → Option α) :
    callK Try.prog (A_i_RunMoves_l0 α N) 1 57 0 (buildS i_areApart_a [.i a, .i b, .i c, .i d]).t (buildS i_areApart_a [.i a, .i b, .i c, .i d]).h K = i_areApart none N a b c d (fun r__ => retK (buildS i_areApart_r0 [.b r__]) K) := by kernel_rfl
def E_i_areApart (α : Type) (N : Nat) : Env α := (A_i_RunMoves_l0 α N).addFun 57 true 0 i_areApart_a (fun l K => match l with
    | [.i a, .i b, .i c, .i d] => i_areApart none N a b c d (fun r__ => retK (buildS i_areApart_r0 [.b r__]) K)
    | _ => none)
theorem E_i_areApart_ok {α : Type} (N : Nat) : EnvOk Try.prog (E_i_areApart α N) := (A_i_RunMoves_l0_ok N).addFun prog_mixed prog_names (d := 1) fun l K r h => by
  split at h
  · exact (i_areApart_run N _ _ _ _ K).trans h
  · cases h

/-- (impl.Grid).canColumns -/
def i_Grid_canColumns_a : SPat := ⟨[.agg [.vals [.int .i64], .ints .u8 8, .ints .u8 8], .int .i64], []⟩
def i_Grid_canColumns_r0 : SPat := ⟨[.bool], []⟩
theorem i_Grid_canColumns_run {α : Type} (N : Nat) (g_0 : Int) (g_1 : Nat → Int) (g_2 : Nat → Int) (i : Int) (K : AV → Heap → Option α) :
    callK Try.prog (E_i_areApart α N) 1 34 0 (buildS i_Grid_canColumns_a [.i g_0, .f g_1, .f g_2, .i i]).t (buildS i_Grid_canColumns_a [.i g_0, .f g_1, .f g_2, .i i]).h K = i_Grid_canColumns none N g_0 g_1 g_2 i (fun r__ => retK (buildS i_Grid_canColumns_r0 [.b r__]) K) := by kernel_rfl
def E_i_Grid_canColumns (α : Type) (N : Nat) : Env α := (E_i_areApart α N).addFun 34 true 0 i_Grid_canColumns_a (fun l K => match l with
    | [.i g_0, .f g_1, .f g_2, .i i] => i_Grid_canColumns none N g_0 g_1 g_2 i (fun r__ => retK (buildS i_Grid_canColumns_r0 [.b r__]) K)
    | _ => none)
theorem E_i_Grid_canColumns_ok {α : Type} (N : Nat) : EnvOk Try.prog (E_i_Grid_canColumns α N) := (E_i_areApart_ok N).addFun prog_mixed prog_names (d := 1) fun l K r h => by
  split at h
  · exact (i_Grid_canColumns_run N _ _ _ _ K).trans h
  · cases h

def A_i_Grid_places_l0 (α : Type) (N : Nat) : Env α := (E_i_Grid_canColumns α N).addAnn 61 3 { head := [3, 4, 5, 9, 10], grow := [], out := [4, 5], ret := [4] }
theorem A_i_Grid_places_l0_ok {α : Type} (N : Nat) : EnvOk Try.prog (A_i_Grid_places_l0 α N) := (E_i_Grid_canColumns_ok N).addAnn

/-- (impl.Grid).places, loop -/
def i_Grid_places_l0_p : SPat := ⟨[.undef, .undef, .undef, .ptr ⟨⟨1, 0⟩, 0, 0, 8⟩, .ptr ⟨⟨2, 0⟩, 0, 0, 8⟩, .ptr ⟨⟨3, 0⟩, 0, 0, 8⟩, .undef, .undef, .undef, .int .i64, .int .i64] ++ List.replicate 9 .undef, [[.vals [.int .i64], .ints .u8 8, .ints .u8 8], [.ints .u8 8], [.ints .i64 8], [.ints .i64 8]]⟩
def i_Grid_places_l0_o0 : SPat := ⟨[.undef, .undef, .undef, .undef, .ptr ⟨⟨2, 0⟩, 0, 0, 8⟩, .ptr ⟨⟨3, 0⟩, 0, 0, 8⟩] ++ List.replicate 14 .undef, [[.vals [.int .i64], .ints .u8 8, .ints .u8 8], [.ints .u8 8], [.ints .i64 8], [.ints .i64 8]]⟩
theorem i_Grid_places_l0_round {α : Type} (N : Nat) (t9 : Int) (t10 : Int) (h0_0 : Int) (h0_1 : Nat → Int) (h0_2 : Nat → Int) (h1 : Nat → Int) (h2 : Nat → Int) (h3 : Nat → Int) (kn : St → Option α) (K : AExit → St → Option α) :
    roundK Try.prog (A_i_Grid_places_l0 α N) 1 0 61 Try.f61 3 4 (buildS i_Grid_places_l0_p [.i t9, .i t10, .i h0_0, .f h0_1, .f h0_2, .f h1, .f h2, .f h3]) kn K = i_Grid_places_l0_s none t9 h0_0 h0_1 h0_2 h1 h2 t10 h3 (fun t10 h3 => kn (buildS i_Grid_places_l0_p [.i t9, .i t10, .i h0_0, .f h0_1, .f h0_2, .f h1, .f h2, .f h3])) (fun h3_ => K (.exit 0) (buildS i_Grid_places_l0_o0 [.i h0_0, .f h0_1, .f h0_2, .f h1, .f h2, .f h3_])) := by kernel_rfl
theorem i_Grid_places_l0_loop {α : Type} (N : Nat) (t9 : Int) (h0_0 : Int) (h0_1 : Nat → Int) (h0_2 : Nat → Int) (h1 : Nat → Int) (h2 : Nat → Int) (K : AExit → St → Option α) : ∀ (m : Nat) (t10 : Int) (h3 : Nat → Int),
    loopN (trimSt ((A_i_Grid_places_l0 α N).ann 61 3).head ((A_i_Grid_places_l0 α N).ann 61 3).grow 4) (bodyK Try.prog (A_i_Grid_places_l0 α N) 1 0 61 Try.f61 3) m (buildS i_Grid_places_l0_p [.i t9, .i t10, .i h0_0, .f h0_1, .f h0_2, .f h1, .f h2, .f h3]) (leaveLoop ((A_i_Grid_places_l0 α N).ann 61 3) 4 K) = i_Grid_places_l0 none t9 h0_0 h0_1 h0_2 h1 h2 m t10 h3 (fun h3_ => K (.exit 0) (buildS i_Grid_places_l0_o0 [.i h0_0, .f h0_1, .f h0_2, .f h1, .f h2, .f h3_])) := by
  intro m
  induction m with
  | zero => intros; rfl
  | succ m ih =>
    intro t10 h3
    rw [loopN_round]
    refine (i_Grid_places_l0_round N t9 t10 h0_0 h0_1 h0_2 h1 h2 h3 _ K).trans ?_
    simp only [ih]
    rfl
def E_i_Grid_places_l0 (α : Type) (N : Nat) : Env α := (A_i_Grid_places_l0 α N).addLoop2 61 3 (loopSum2 ((A_i_Grid_places_l0 α N).ann 61 3) 0 i_Grid_places_l0_p (fun l K => match l with
    | [.i t9, .i t10, .i h0_0, .f h0_1, .f h0_2, .f h1, .f h2, .f h3] => i_Grid_places_l0 none t9 h0_0 h0_1 h0_2 h1 h2 N t10 h3 (fun h3_ => K (.exit 0) (buildS i_Grid_places_l0_o0 [.i h0_0, .f h0_1, .f h0_2, .f h1, .f h2, .f h3_]))
    | _ => none) ((A_i_Grid_places_l0 α N).ls 61 3))
theorem E_i_Grid_places_l0_ok {α : Type} (N : Nat) : EnvOk Try.prog (E_i_Grid_places_l0 α N) := (A_i_Grid_places_l0_ok N).addLoop2 Try.func61 (by kernel_rfl) (loopSum_ok prog_mixed prog_names (A_i_Grid_places_l0_ok N) Try.func61 (by kernel_rfl) (d := 1) (ro := 0) fun l K r h => by
  split at h
  · exact (i_Grid_places_l0_loop N _ _ _ _ _ _ K N _ _).trans h
  · cases h)

/-- (impl.Grid).places -/
def i_Grid_places_a : SPat := ⟨[.agg [.vals [.int .i64], .ints .u8 8, .ints .u8 8], .agg [.ints .u8 8]], []⟩
def i_Grid_places_r0 : SPat := ⟨[.agg [.ints .i64 8]], []⟩
theorem i_Grid_places_run {α : Type} (N : Nat) (g_0 : Int) (g_1 : Nat → Int) (g_2 : Nat → Int) (rows : Nat → Int) (K : AV → Heap → Option α) :
    callK Try.prog (E_i_Grid_places_l0 α N) 1 61 0 (buildS i_Grid_places_a [.i g_0, .f g_1, .f g_2, .f rows]).t (buildS i_Grid_places_a [.i g_0, .f g_1, .f g_2, .f rows]).h K = i_Grid_places none N g_0 g_1 g_2 rows (fun r__ => retK (buildS i_Grid_places_r0 [.f r__]) K) := by kernel_rfl
def E_i_Grid_places (α : Type) (N : Nat) : Env α := (E_i_Grid_places_l0 α N).addFun 61 true 0 i_Grid_places_a (fun l K => match l with
    | [.i g_0, .f g_1, .f g_2, .f rows] => i_Grid_places none N g_0 g_1 g_2 rows (fun r__ => retK (buildS i_Grid_places_r0 [.f r__]) K)
    | _ => none)
theorem E_i_Grid_places_ok {α : Type} (N : Nat) : EnvOk Try.prog (E_i_Grid_places α N) := (E_i_Grid_places_l0_ok N).addFun prog_mixed prog_names (d := 1) fun l K r h => by
  split at h
  · exact (i_Grid_places_run N _ _ _ _ K).trans h
  · cases h

/-- (impl.Grid).canRows -/
def i_Grid_canRows_a : SPat := ⟨[.agg [.vals [.int .i64], .ints .u8 8, .ints .u8 8], .int .i64], []⟩
def i_Grid_canRows_r0 : SPat := ⟨[.bool], []⟩
theorem i_Grid_canRows_run {α : Type} (N : Nat) (g_0 : Int) (g_1 : Nat → Int) (g_2 : Nat → Int) (r_ : Int) (K : AV → Heap → Option α) :
    callK Try.prog (E_i_Grid_places α N) 1 38 0 (buildS i_Grid_canRows_a [.i g_0, .f g_1, .f g_2, .i r_]).t (buildS i_Grid_canRows_a [.i g_0, .f g_1, .f g_2, .i r_]).h K = i_Grid_canRows none N g_0 g_1 g_2 r_ (fun r__ => retK (buildS i_Grid_canRows_r0 [.b r__]) K) := by kernel_rfl
def E_i_Grid_canRows (α : Type) (N : Nat) : Env α := (E_i_Grid_places α N).addFun 38 true 0 i_Grid_canRows_a (fun l K => match l with
    | [.i g_0, .f g_1, .f g_2, .i r_] => i_Grid_canRows none N g_0 g_1 g_2 r_ (fun r__ => retK (buildS i_Grid_canRows_r0 [.b r__]) K)
    | _ => none)
theorem E_i_Grid_canRows_ok {α : Type} (N : Nat) : EnvOk Try.prog (E_i_Grid_canRows α N) := (E_i_Grid_places_ok N).addFun prog_mixed prog_names (d := 1) fun l K r h => by
  split at h
  · exact (i_Grid_canRows_run N _ _ _ _ K).trans h
  · cases h

def A_i_isPair_l0 (α : Type) (N : Nat) : Env α := (E_i_Grid_canRows α N).addAnn 33 4 { head := [2, 10, 11, 12], grow := [], out := [], ret := [4] }
theorem A_i_isPair_l0_ok {α : Type} (N : Nat) : EnvOk Try.prog (A_i_isPair_l0 α N) := (E_i_Grid_canRows_ok N).addAnn

/-- impl.isPair, loop -/
def i_isPair_l0_s2_p : SPat := ⟨[.undef, .undef, .ptr ⟨⟨1, 0⟩, 0, 0, 1⟩, .undef, .undef, .undef, .undef, .undef, .undef, .undef, .slice ⟨⟨0, 0⟩, 0, 0, 2⟩ 2 2 1 true, .intC .i64 2, .int .i64] ++ List.replicate 10 .undef, [[.vec .i64], [.vals [.int .i64], .ints .u8 8, .ints .u8 8]]⟩
def i_isPair_l0_s2_o0 : SPat := ⟨[.undef, .undef, .undef, .undef, .intC .i64 2] ++ List.replicate 18 .undef, [[.vec .i64], [.vals [.int .i64], .ints .u8 8, .ints .u8 8]]⟩
def i_isPair_l0_s2_o1 : SPat := ⟨[] ++ List.replicate 23 .undef, [[.vec .i64], [.vals [.int .i64], .ints .u8 8, .ints .u8 8]]⟩
theorem i_isPair_l0_s2_round {α : Type} (N : Nat) (t12 : Int) (h0 : List Int) (h1_0 : Int) (h1_1 : Nat → Int) (h1_2 : Nat → Int) (kn : St → Option α) (K : AExit → St → Option α) :
    roundK Try.prog (A_i_isPair_l0 α N) 1 1 33 Try.f33 4 2 (buildS i_isPair_l0_s2_p [.i t12, .l h0, .i h1_0, .f h1_1, .f h1_2]) kn K = i_isPair_l0_s2_s none N h0 h1_0 h1_1 h1_2 t12 (fun t12 => kn (buildS i_isPair_l0_s2_p [.i t12, .l h0, .i h1_0, .f h1_1, .f h1_2])) (K .ret (buildS i_isPair_l0_s2_o0 [.l h0, .i h1_0, .f h1_1, .f h1_2])) (K (.exit 0) (buildS i_isPair_l0_s2_o1 [.l h0, .i h1_0, .f h1_1, .f h1_2])) := by kernel_rfl
theorem i_isPair_l0_s2_loop {α : Type} (N : Nat) (h0 : List Int) (h1_0 : Int) (h1_1 : Nat → Int) (h1_2 : Nat → Int) (K : AExit → St → Option α) : ∀ (m : Nat) (t12 : Int),
    loopN (trimSt ((A_i_isPair_l0 α N).ann 33 4).head ((A_i_isPair_l0 α N).ann 33 4).grow 2) (bodyK Try.prog (A_i_isPair_l0 α N) 1 1 33 Try.f33 4) m (buildS i_isPair_l0_s2_p [.i t12, .l h0, .i h1_0, .f h1_1, .f h1_2]) (leaveLoop ((A_i_isPair_l0 α N).ann 33 4) 2 K) = i_isPair_l0_s2 none N h0 h1_0 h1_1 h1_2 m t12 (K .ret (buildS i_isPair_l0_s2_o0 [.l h0, .i h1_0, .f h1_1, .f h1_2])) (K (.exit 0) (buildS i_isPair_l0_s2_o1 [.l h0, .i h1_0, .f h1_1, .f h1_2])) := by
  intro m
  induction m with
  | zero => intros; rfl
  | succ m ih =>
    intro t12
    rw [loopN_round]
    refine (i_isPair_l0_s2_round N t12 h0 h1_0 h1_1 h1_2 _ K).trans ?_
    simp only [ih]
    rfl
def E_i_isPair_l0_s2 (α : Type) (N : Nat) : Env α := (A_i_isPair_l0 α N).addLoop2 33 4 (loopSum2 ((A_i_isPair_l0 α N).ann 33 4) 1 i_isPair_l0_s2_p (fun l K => match l with
    | [.i t12, .l h0, .i h1_0, .f h1_1, .f h1_2] => i_isPair_l0_s2 none N h0 h1_0 h1_1 h1_2 N t12 (K .ret (buildS i_isPair_l0_s2_o0 [.l h0, .i h1_0, .f h1_1, .f h1_2])) (K (.exit 0) (buildS i_isPair_l0_s2_o1 [.l h0, .i h1_0, .f h1_1, .f h1_2]))
    | _ => none) ((A_i_isPair_l0 α N).ls 33 4))
theorem E_i_isPair_l0_s2_ok {α : Type} (N : Nat) : EnvOk Try.prog (E_i_isPair_l0_s2 α N) := (A_i_isPair_l0_ok N).addLoop2 Try.func33 (by kernel_rfl) (loopSum_ok prog_mixed prog_names (A_i_isPair_l0_ok N) Try.func33 (by kernel_rfl) (d := 1) (ro := 1) fun l K r h => by
  split at h
  · exact (i_isPair_l0_s2_loop N _ _ _ _ K N _).trans h
  · cases h)

/-- impl.isPair -/
def i_isPair_s2_a : SPat := ⟨[.agg [.vals [.int .i64], .ints .u8 8, .ints .u8 8], .slice ⟨⟨0, 0⟩, 0, 0, 2⟩ 2 2 1 true], [[.vec .i64]]⟩
def i_isPair_s2_r0 : SPat := ⟨[.int .i64], [[.vec .i64]]⟩
theorem i_isPair_s2_run {α : Type} (N : Nat) (g_0 : Int) (g_1 : Nat → Int) (g_2 : Nat → Int) (h0 : List Int) (K : AV → Heap → Option α) :
    callK Try.prog (E_i_isPair_l0_s2 α N) 1 33 1 (buildS i_isPair_s2_a [.i g_0, .f g_1, .f g_2, .l h0]).t (buildS i_isPair_s2_a [.i g_0, .f g_1, .f g_2, .l h0]).h K = i_isPair_s2 none N g_0 g_1 g_2 h0 (fun r__ => retK (buildS i_isPair_s2_r0 [.i r__, .l h0]) K) := by kernel_rfl
def E_i_isPair_s2 (α : Type) (N : Nat) : Env α := (E_i_isPair_l0_s2 α N).addFun 33 true 1 i_isPair_s2_a (fun l K => match l with
    | [.i g_0, .f g_1, .f g_2, .l h0] => i_isPair_s2 none N g_0 g_1 g_2 h0 (fun r__ => retK (buildS i_isPair_s2_r0 [.i r__, .l h0]) K)
    | _ => none)
theorem E_i_isPair_s2_ok {α : Type} (N : Nat) : EnvOk Try.prog (E_i_isPair_s2 α N) := (E_i_isPair_l0_s2_ok N).addFun prog_mixed prog_names (d := 1) fun l K r h => by
  split at h
  · exact (i_isPair_s2_run N _ _ _ _ K).trans h
  · cases h

def A_i_Grid_shrunk_l0 (α : Type) (N : Nat) : Env α := (E_i_isPair_s2 α N).addAnn 71 2 { head := [1, 2, 3, 6, 7, 14], grow := [], out := [6, 7], ret := [6, 7, 8] }
theorem A_i_Grid_shrunk_l0_ok {α : Type} (N : Nat) : EnvOk Try.prog (A_i_Grid_shrunk_l0 α N) := (E_i_isPair_s2_ok N).addAnn

def A_i_Grid_shrunk_l1 (α : Type) (N : Nat) : Env α := (A_i_Grid_shrunk_l0 α N).addAnn 71 7 { head := [1, 2, 3, 6, 7, 10, 11, 14, 31, 32], grow := [], out := [1, 2, 3, 6, 7, 10, 11, 14], ret := [6, 7, 8] }
theorem A_i_Grid_shrunk_l1_ok {α : Type} (N : Nat) : EnvOk Try.prog (A_i_Grid_shrunk_l1 α N) := (A_i_Grid_shrunk_l0_ok N).addAnn

/-- (impl.Grid).shrunk, loop -/
def i_Grid_shrunk_l1_p : SPat := ⟨[.undef, .int .i64, .int .i64, .ptr ⟨⟨0, 0⟩, 0, 0, 1⟩, .undef, .undef, .ptr ⟨⟨1, 0⟩, 0, 0, 1⟩, .ptr ⟨⟨2, 0⟩, 0, 0, 4⟩, .undef, .undef, .ptr ⟨⟨3, 0⟩, 0, 0, 4⟩, .ptr ⟨⟨4, 0⟩, 0, 0, 1⟩, .undef, .undef, .int .i64, .undef, .undef, .undef, .undef, .undef, .undef, .undef, .undef, .undef, .undef, .undef, .undef, .undef, .undef, .undef, .undef, .int .i64, .int .i64] ++ List.replicate 84 .undef, [[.vals [.int .i64], .ints .u8 8, .ints .u8 8], [.vals [.int .i64], .ints .u8 8, .ints .u8 8], [.ints .i64 4], [.ints .i64 4], [.vals [.int .i64], .ints .u8 8, .ints .u8 8]]⟩
def i_Grid_shrunk_l1_o0 : SPat := ⟨[.undef, .int .i64, .int .i64, .ptr ⟨⟨0, 0⟩, 0, 0, 1⟩, .undef, .undef, .ptr ⟨⟨1, 0⟩, 0, 0, 1⟩, .ptr ⟨⟨2, 0⟩, 0, 0, 4⟩, .undef, .undef, .ptr ⟨⟨3, 0⟩, 0, 0, 4⟩, .ptr ⟨⟨4, 0⟩, 0, 0, 1⟩, .undef, .undef, .int .i64] ++ List.replicate 102 .undef, [[.vals [.int .i64], .ints .u8 8, .ints .u8 8], [.vals [.int .i64], .ints .u8 8, .ints .u8 8], [.ints .i64 4], [.ints .i64 4], [.vals [.int .i64], .ints .u8 8, .ints .u8 8]]⟩
theorem i_Grid_shrunk_l1_round {α : Type} (N : Nat) (t1 : Int) (t2 : Int) (t14 : Int) (t31 : Int) (t32 : Int) (h0_0 : Int) (h0_1 : Nat → Int) (h0_2 : Nat → Int) (h1_0 : Int) (h1_1 : Nat → Int) (h1_2 : Nat → Int) (h2 : Nat → Int) (h3 : Nat → Int) (h4_0 : Int) (h4_1 : Nat → Int) (h4_2 : Nat → Int) (kn : St → Option α) (K : AExit → St → Option α) :
    roundK Try.prog (A_i_Grid_shrunk_l1 α N) 1 0 71 Try.f71 7 5 (buildS i_Grid_shrunk_l1_p [.i t1, .i t2, .i t14, .i t31, .i t32, .i h0_0, .f h0_1, .f h0_2, .i h1_0, .f h1_1, .f h1_2, .f h2, .f h3, .i h4_0, .f h4_1, .f h4_2]) kn K = i_Grid_shrunk_l1_s none t1 t2 t14 t31 h0_0 h0_1 h0_2 h1_0 h1_1 h1_2 h2 h3 h4_0 t32 h4_1 h4_2 (fun t32 h4_1 h4_2 => kn (buildS i_Grid_shrunk_l1_p [.i t1, .i t2, .i t14, .i t31, .i t32, .i h0_0, .f h0_1, .f h0_2, .i h1_0, .f h1_1, .f h1_2, .f h2, .f h3, .i h4_0, .f h4_1, .f h4_2])) (fun h4_1_ h4_2_ => K (.exit 2) (buildS i_Grid_shrunk_l1_o0 [.i t1, .i t2, .i t14, .i h0_0, .f h0_1, .f h0_2, .i h1_0, .f h1_1, .f h1_2, .f h2, .f h3, .i h4_0, .f h4_1_, .f h4_2_])) := by kernel_rfl
theorem i_Grid_shrunk_l1_loop {α : Type} (N : Nat) (t1 : Int) (t2 : Int) (t14 : Int) (t31 : Int) (h0_0 : Int) (h0_1 : Nat → Int) (h0_2 : Nat → Int) (h1_0 : Int) (h1_1 : Nat → Int) (h1_2 : Nat → Int) (h2 : Nat → Int) (h3 : Nat → Int) (h4_0 : Int) (K : AExit → St → Option α) : ∀ (m : Nat) (t32 : Int) (h4_1 : Nat → Int) (h4_2 : Nat → Int),
    loopN (trimSt ((A_i_Grid_shrunk_l1 α N).ann 71 7).head ((A_i_Grid_shrunk_l1 α N).ann 71 7).grow 5) (bodyK Try.prog (A_i_Grid_shrunk_l1 α N) 1 0 71 Try.f71 7) m (buildS i_Grid_shrunk_l1_p [.i t1, .i t2, .i t14, .i t31, .i t32, .i h0_0, .f h0_1, .f h0_2, .i h1_0, .f h1_1, .f h1_2, .f h2, .f h3, .i h4_0, .f h4_1, .f h4_2]) (leaveLoop ((A_i_Grid_shrunk_l1 α N).ann 71 7) 5 K) = i_Grid_shrunk_l1 none t1 t2 t14 t31 h0_0 h0_1 h0_2 h1_0 h1_1 h1_2 h2 h3 h4_0 m t32 h4_1 h4_2 (fun h4_1_ h4_2_ => K (.exit 2) (buildS i_Grid_shrunk_l1_o0 [.i t1, .i t2, .i t14, .i h0_0, .f h0_1, .f h0_2, .i h1_0, .f h1_1, .f h1_2, .f h2, .f h3, .i h4_0, .f h4_1_, .f h4_2_])) := by
  intro m
  induction m with
  | zero => intros; rfl
  | succ m ih =>
    intro t32 h4_1 h4_2
    rw [loopN_round]
    refine (i_Grid_shrunk_l1_round N t1 t2 t14 t31 t32 h0_0 h0_1 h0_2 h1_0 h1_1 h1_2 h2 h3 h4_0 h4_1 h4_2 _ K).trans ?_
    simp only [ih]
    rfl
def E_i_Grid_shrunk_l1 (α : Type) (N : Nat) : Env α := (A_i_Grid_shrunk_l1 α N).addLoop2 71 7 (loopSum2 ((A_i_Grid_shrunk_l1 α N).ann 71 7) 0 i_Grid_shrunk_l1_p (fun l K => match l with
    | [.i t1, .i t2, .i t14, .i t31, .i t32, .i h0_0, .f h0_1, .f h0_2, .i h1_0, .f h1_1, .f h1_2, .f h2, .f h3, .i h4_0, .f h4_1, .f h4_2] => i_Grid_shrunk_l1 none t1 t2 t14 t31 h0_0 h0_1 h0_2 h1_0 h1_1 h1_2 h2 h3 h4_0 N t32 h4_1 h4_2 (fun h4_1_ h4_2_ => K (.exit 2) (buildS i_Grid_shrunk_l1_o0 [.i t1, .i t2, .i t14, .i h0_0, .f h0_1, .f h0_2, .i h1_0, .f h1_1, .f h1_2, .f h2, .f h3, .i h4_0, .f h4_1_, .f h4_2_]))
    | _ => none) ((A_i_Grid_shrunk_l1 α N).ls 71 7))
theorem E_i_Grid_shrunk_l1_ok {α : Type} (N : Nat) : EnvOk Try.prog (E_i_Grid_shrunk_l1 α N) := (A_i_Grid_shrunk_l1_ok N).addLoop2 Try.func71 (by kernel_rfl) (loopSum_ok prog_mixed prog_names (A_i_Grid_shrunk_l1_ok N) Try.func71 (by kernel_rfl) (d := 1) (ro := 0) fun l K r h => by
  split at h
  · exact (i_Grid_shrunk_l1_loop N _ _ _ _ _ _ _ _ _ _ _ _ _ K N _ _ _).trans h
  · cases h)

/-- (*impl.Grid).rows -/
def i_Grid_rows_a : SPat := ⟨[.ptr ⟨⟨0, 0⟩, 0, 0, 1⟩, .int .i64], [[.vals [.int .i64], .ints .u8 8, .ints .u8 8]]⟩
def i_Grid_rows_r0 : SPat := ⟨[.ptr ⟨⟨0, 0⟩, 1, 0, 8⟩], [[.vals [.int .i64], .ints .u8 8, .ints .u8 8]]⟩
def i_Grid_rows_r1 : SPat := ⟨[.ptr ⟨⟨0, 0⟩, 2, 0, 8⟩], [[.vals [.int .i64], .ints .u8 8, .ints .u8 8]]⟩
theorem i_Grid_rows_run {α : Type} (N : Nat) (mark : Int) (h0_0 : Int) (h0_1 : Nat → Int) (h0_2 : Nat → Int) (K : AV → Heap → Option α) :
    callK Try.prog (E_i_Grid_shrunk_l1 α N) 1 76 1 (buildS i_Grid_rows_a [.i mark, .i h0_0, .f h0_1, .f h0_2]).t (buildS i_Grid_rows_a [.i mark, .i h0_0, .f h0_1, .f h0_2]).h K = i_Grid_rows none N mark h0_0 h0_1 h0_2 (retK (buildS i_Grid_rows_r0 [.i h0_0, .f h0_1, .f h0_2]) K) (retK (buildS i_Grid_rows_r1 [.i h0_0, .f h0_1, .f h0_2]) K) := by kernel_rfl
def E_i_Grid_rows (α : Type) (N : Nat) : Env α := (E_i_Grid_shrunk_l1 α N).addFun 76 true 1 i_Grid_rows_a (fun l K => match l with
    | [.i mark, .i h0_0, .f h0_1, .f h0_2] => i_Grid_rows none N mark h0_0 h0_1 h0_2 (retK (buildS i_Grid_rows_r0 [.i h0_0, .f h0_1, .f h0_2]) K) (retK (buildS i_Grid_rows_r1 [.i h0_0, .f h0_1, .f h0_2]) K)
    | _ => none)
theorem E_i_Grid_rows_ok {α : Type} (N : Nat) : EnvOk Try.prog (E_i_Grid_rows α N) := (E_i_Grid_shrunk_l1_ok N).addFun prog_mixed prog_names (d := 1) fun l K r h => by
  split at h
  · exact (i_Grid_rows_run N _ _ _ _ K).trans h
  · cases h

def A_i_Grid_grown_l0 (α : Type) (N : Nat) : Env α := (E_i_Grid_rows α N).addAnn 69 6 { head := [3, 4, 5, 6, 7, 8, 9, 10, 40, 41], grow := [], out := [3, 4, 7, 8, 9, 10], ret := [4] }
theorem A_i_Grid_grown_l0_ok {α : Type} (N : Nat) : EnvOk Try.prog (A_i_Grid_grown_l0 α N) := (E_i_Grid_rows_ok N).addAnn

/-- (impl.Grid).grown, loop -/
def i_Grid_grown_l0_p : SPat := ⟨[.undef, .undef, .undef, .ptr ⟨⟨1, 0⟩, 0, 0, 4⟩, .ptr ⟨⟨2, 0⟩, 0, 0, 1⟩, .ptr ⟨⟨3, 0⟩, 0, 0, 8⟩, .ptr ⟨⟨4, 0⟩, 0, 0, 8⟩, .int .u8, .ptr ⟨⟨5, 0⟩, 0, 0, 1⟩, .ptr ⟨⟨5, 0⟩, 1, 0, 8⟩, .ptr ⟨⟨5, 0⟩, 1, 0, 8⟩, .undef, .undef, .undef, .undef, .undef, .undef, .undef, .undef, .undef, .undef, .undef, .undef, .undef, .undef, .undef, .undef, .undef, .undef, .undef, .undef, .undef, .undef, .undef, .undef, .undef, .undef, .undef, .undef, .undef, .int .i64, .int .i64] ++ List.replicate 121 .undef, [[.vals [.int .i64], .ints .u8 8, .ints .u8 8], [.ints .i64 4], [.vals [.int .i64], .ints .u8 8, .ints .u8 8], [.ints .u8 8], [.ints .u8 8], [.vals [.int .i64], .ints .u8 8, .ints .u8 8]]⟩
def i_Grid_grown_l0_o0 : SPat := ⟨[.undef, .undef, .undef, .ptr ⟨⟨1, 0⟩, 0, 0, 4⟩, .ptr ⟨⟨2, 0⟩, 0, 0, 1⟩, .undef, .undef, .int .u8, .ptr ⟨⟨5, 0⟩, 0, 0, 1⟩, .ptr ⟨⟨5, 0⟩, 1, 0, 8⟩, .ptr ⟨⟨5, 0⟩, 1, 0, 8⟩] ++ List.replicate 152 .undef, [[.vals [.int .i64], .ints .u8 8, .ints .u8 8], [.ints .i64 4], [.vals [.int .i64], .ints .u8 8, .ints .u8 8], [.ints .u8 8], [.ints .u8 8], [.vals [.int .i64], .ints .u8 8, .ints .u8 8]]⟩
theorem i_Grid_grown_l0_round {α : Type} (N : Nat) (t7 : Int) (t40 : Int) (t41 : Int) (h0_0 : Int) (h0_1 : Nat → Int) (h0_2 : Nat → Int) (h1 : Nat → Int) (h2_0 : Int) (h2_1 : Nat → Int) (h2_2 : Nat → Int) (h3 : Nat → Int) (h4 : Nat → Int) (h5_0 : Int) (h5_1 : Nat → Int) (h5_2 : Nat → Int) (kn : St → Option α) (K : AExit → St → Option α) :
    roundK Try.prog (A_i_Grid_grown_l0 α N) 1 0 69 Try.f69 6 6 (buildS i_Grid_grown_l0_p [.i t7, .i t40, .i t41, .i h0_0, .f h0_1, .f h0_2, .f h1, .i h2_0, .f h2_1, .f h2_2, .f h3, .f h4, .i h5_0, .f h5_1, .f h5_2]) kn K = i_Grid_grown_l0_s none t7 t40 h0_0 h0_1 h0_2 h1 h2_0 h2_1 h2_2 h3 h4 h5_0 h5_2 t41 h5_1 (fun t41 h5_1 => kn (buildS i_Grid_grown_l0_p [.i t7, .i t40, .i t41, .i h0_0, .f h0_1, .f h0_2, .f h1, .i h2_0, .f h2_1, .f h2_2, .f h3, .f h4, .i h5_0, .f h5_1, .f h5_2])) (fun h5_1_ => K (.exit 0) (buildS i_Grid_grown_l0_o0 [.i t7, .i h0_0, .f h0_1, .f h0_2, .f h1, .i h2_0, .f h2_1, .f h2_2, .f h3, .f h4, .i h5_0, .f h5_1_, .f h5_2])) := by kernel_rfl
theorem i_Grid_grown_l0_loop {α : Type} (N : Nat) (t7 : Int) (t40 : Int) (h0_0 : Int) (h0_1 : Nat → Int) (h0_2 : Nat → Int) (h1 : Nat → Int) (h2_0 : Int) (h2_1 : Nat → Int) (h2_2 : Nat → Int) (h3 : Nat → Int) (h4 : Nat → Int) (h5_0 : Int) (h5_2 : Nat → Int) (K : AExit → St → Option α) : ∀ (m : Nat) (t41 : Int) (h5_1 : Nat → Int),
    loopN (trimSt ((A_i_Grid_grown_l0 α N).ann 69 6).head ((A_i_Grid_grown_l0 α N).ann 69 6).grow 6) (bodyK Try.prog (A_i_Grid_grown_l0 α N) 1 0 69 Try.f69 6) m (buildS i_Grid_grown_l0_p [.i t7, .i t40, .i t41, .i h0_0, .f h0_1, .f h0_2, .f h1, .i h2_0, .f h2_1, .f h2_2, .f h3, .f h4, .i h5_0, .f h5_1, .f h5_2]) (leaveLoop ((A_i_Grid_grown_l0 α N).ann 69 6) 6 K) = i_Grid_grown_l0 none t7 t40 h0_0 h0_1 h0_2 h1 h2_0 h2_1 h2_2 h3 h4 h5_0 h5_2 m t41 h5_1 (fun h5_1_ => K (.exit 0) (buildS i_Grid_grown_l0_o0 [.i t7, .i h0_0, .f h0_1, .f h0_2, .f h1, .i h2_0, .f h2_1, .f h2_2, .f h3, .f h4, .i h5_0, .f h5_1_, .f h5_2])) := by
  intro m
  induction m with
  | zero => intros; rfl
  | succ m ih =>
    intro t41 h5_1
    rw [loopN_round]
    refine (i_Grid_grown_l0_round N t7 t40 t41 h0_0 h0_1 h0_2 h1 h2_0 h2_1 h2_2 h3 h4 h5_0 h5_1 h5_2 _ K).trans ?_
    simp only [ih]
    rfl
def E_i_Grid_grown_l0 (α : Type) (N : Nat) : Env α := (A_i_Grid_grown_l0 α N).addLoop2 69 6 (loopSum2 ((A_i_Grid_grown_l0 α N).ann 69 6) 0 i_Grid_grown_l0_p (fun l K => match l with
    | [.i t7, .i t40, .i t41, .i h0_0, .f h0_1, .f h0_2, .f h1, .i h2_0, .f h2_1, .f h2_2, .f h3, .f h4, .i h5_0, .f h5_1, .f h5_2] => i_Grid_grown_l0 none t7 t40 h0_0 h0_1 h0_2 h1 h2_0 h2_1 h2_2 h3 h4 h5_0 h5_2 N t41 h5_1 (fun h5_1_ => K (.exit 0) (buildS i_Grid_grown_l0_o0 [.i t7, .i h0_0, .f h0_1, .f h0_2, .f h1, .i h2_0, .f h2_1, .f h2_2, .f h3, .f h4, .i h5_0, .f h5_1_, .f h5_2]))
    | _ => none) ((A_i_Grid_grown_l0 α N).ls 69 6))
theorem E_i_Grid_grown_l0_ok {α : Type} (N : Nat) : EnvOk Try.prog (E_i_Grid_grown_l0 α N) := (A_i_Grid_grown_l0_ok N).addLoop2 Try.func69 (by kernel_rfl) (loopSum_ok prog_mixed prog_names (A_i_Grid_grown_l0_ok N) Try.func69 (by kernel_rfl) (d := 1) (ro := 0) fun l K r h => by
  split at h
  · exact (i_Grid_grown_l0_loop N _ _ _ _ _ _ _ _ _ _ _ _ _ K N _ _).trans h
  · cases h)

/-- (impl.Grid).grown, loop -/
def i_Grid_grown_l0_s2_p : SPat := ⟨[.undef, .undef, .undef, .ptr ⟨⟨1, 0⟩, 0, 0, 4⟩, .ptr ⟨⟨2, 0⟩, 0, 0, 1⟩, .ptr ⟨⟨3, 0⟩, 0, 0, 8⟩, .ptr ⟨⟨4, 0⟩, 0, 0, 8⟩, .int .u8, .ptr ⟨⟨5, 0⟩, 0, 0, 1⟩, .ptr ⟨⟨5, 0⟩, 1, 0, 8⟩, .ptr ⟨⟨5, 0⟩, 2, 0, 8⟩, .undef, .undef, .undef, .undef, .undef, .undef, .undef, .undef, .undef, .undef, .undef, .undef, .undef, .undef, .undef, .undef, .undef, .undef, .undef, .undef, .undef, .undef, .undef, .undef, .undef, .undef, .undef, .undef, .undef, .int .i64, .int .i64] ++ List.replicate 121 .undef, [[.vals [.int .i64], .ints .u8 8, .ints .u8 8], [.ints .i64 4], [.vals [.int .i64], .ints .u8 8, .ints .u8 8], [.ints .u8 8], [.ints .u8 8], [.vals [.int .i64], .ints .u8 8, .ints .u8 8]]⟩
def i_Grid_grown_l0_s2_o0 : SPat := ⟨[.undef, .undef, .undef, .ptr ⟨⟨1, 0⟩, 0, 0, 4⟩, .ptr ⟨⟨2, 0⟩, 0, 0, 1⟩, .undef, .undef, .int .u8, .ptr ⟨⟨5, 0⟩, 0, 0, 1⟩, .ptr ⟨⟨5, 0⟩, 1, 0, 8⟩, .ptr ⟨⟨5, 0⟩, 2, 0, 8⟩] ++ List.replicate 152 .undef, [[.vals [.int .i64], .ints .u8 8, .ints .u8 8], [.ints .i64 4], [.vals [.int .i64], .ints .u8 8, .ints .u8 8], [.ints .u8 8], [.ints .u8 8], [.vals [.int .i64], .ints .u8 8, .ints .u8 8]]⟩
theorem i_Grid_grown_l0_s2_round {α : Type} (N : Nat) (t7 : Int) (t40 : Int) (t41 : Int) (h0_0 : Int) (h0_1 : Nat → Int) (h0_2 : Nat → Int) (h1 : Nat → Int) (h2_0 : Int) (h2_1 : Nat → Int) (h2_2 : Nat → Int) (h3 : Nat → Int) (h4 : Nat → Int) (h5_0 : Int) (h5_1 : Nat → Int) (h5_2 : Nat → Int) (kn : St → Option α) (K : AExit → St → Option α) :
    roundK Try.prog (E_i_Grid_grown_l0 α N) 1 0 69 Try.f69 6 6 (buildS i_Grid_grown_l0_s2_p [.i t7, .i t40, .i t41, .i h0_0, .f h0_1, .f h0_2, .f h1, .i h2_0, .f h2_1, .f h2_2, .f h3, .f h4, .i h5_0, .f h5_1, .f h5_2]) kn K = i_Grid_grown_l0_s2_s none t7 t40 h0_0 h0_1 h0_2 h1 h2_0 h2_1 h2_2 h3 h4 h5_0 t41 h5_1 h5_2 (fun t41 h5_1 h5_2 => kn (buildS i_Grid_grown_l0_s2_p [.i t7, .i t40, .i t41, .i h0_0, .f h0_1, .f h0_2, .f h1, .i h2_0, .f h2_1, .f h2_2, .f h3, .f h4, .i h5_0, .f h5_1, .f h5_2])) (fun h5_1_ h5_2_ => K (.exit 0) (buildS i_Grid_grown_l0_s2_o0 [.i t7, .i h0_0, .f h0_1, .f h0_2, .f h1, .i h2_0, .f h2_1, .f h2_2, .f h3, .f h4, .i h5_0, .f h5_1_, .f h5_2_])) := by kernel_rfl
theorem i_Grid_grown_l0_s2_loop {α : Type} (N : Nat) (t7 : Int) (t40 : Int) (h0_0 : Int) (h0_1 : Nat → Int) (h0_2 : Nat → Int) (h1 : Nat → Int) (h2_0 : Int) (h2_1 : Nat → Int) (h2_2 : Nat → Int) (h3 : Nat → Int) (h4 : Nat → Int) (h5_0 : Int) (K : AExit → St → Option α) : ∀ (m : Nat) (t41 : Int) (h5_1 : Nat → Int) (h5_2 : Nat → Int),
    loopN (trimSt ((E_i_Grid_grown_l0 α N).ann 69 6).head ((E_i_Grid_grown_l0 α N).ann 69 6).grow 6) (bodyK Try.prog (E_i_Grid_grown_l0 α N) 1 0 69 Try.f69 6) m (buildS i_Grid_grown_l0_s2_p [.i t7, .i t40, .i t41, .i h0_0, .f h0_1, .f h0_2, .f h1, .i h2_0, .f h2_1, .f h2_2, .f h3, .f h4, .i h5_0, .f h5_1, .f h5_2]) (leaveLoop ((E_i_Grid_grown_l0 α N).ann 69 6) 6 K) = i_Grid_grown_l0_s2 none t7 t40 h0_0 h0_1 h0_2 h1 h2_0 h2_1 h2_2 h3 h4 h5_0 m t41 h5_1 h5_2 (fun h5_1_ h5_2_ => K (.exit 0) (buildS i_Grid_grown_l0_s2_o0 [.i t7, .i h0_0, .f h0_1, .f h0_2, .f h1, .i h2_0, .f h2_1, .f h2_2, .f h3, .f h4, .i h5_0, .f h5_1_, .f h5_2_])) := by
  intro m
  induction m with
  | zero => intros; rfl
  | succ m ih =>
    intro t41 h5_1 h5_2
    rw [loopN_round]
    refine (i_Grid_grown_l0_s2_round N t7 t40 t41 h0_0 h0_1 h0_2 h1 h2_0 h2_1 h2_2 h3 h4 h5_0 h5_1 h5_2 _ K).trans ?_
    simp only [ih]
    rfl
def E_i_Grid_grown_l0_s2 (α : Type) (N : Nat) : Env α := (E_i_Grid_grown_l0 α N).addLoop2 69 6 (loopSum2 ((E_i_Grid_grown_l0 α N).ann 69 6) 0 i_Grid_grown_l0_s2_p (fun l K => match l with
    | [.i t7, .i t40, .i t41, .i h0_0, .f h0_1, .f h0_2, .f h1, .i h2_0, .f h2_1, .f h2_2, .f h3, .f h4, .i h5_0, .f h5_1, .f h5_2] => i_Grid_grown_l0_s2 none t7 t40 h0_0 h0_1 h0_2 h1 h2_0 h2_1 h2_2 h3 h4 h5_0 N t41 h5_1 h5_2 (fun h5_1_ h5_2_ => K (.exit 0) (buildS i_Grid_grown_l0_s2_o0 [.i t7, .i h0_0, .f h0_1, .f h0_2, .f h1, .i h2_0, .f h2_1, .f h2_2, .f h3, .f h4, .i h5_0, .f h5_1_, .f h5_2_]))
    | _ => none) ((E_i_Grid_grown_l0 α N).ls 69 6))
theorem E_i_Grid_grown_l0_s2_ok {α : Type} (N : Nat) : EnvOk Try.prog (E_i_Grid_grown_l0_s2 α N) := (E_i_Grid_grown_l0_ok N).addLoop2 Try.func69 (by kernel_rfl) (loopSum_ok prog_mixed prog_names (E_i_Grid_grown_l0_ok N) Try.func69 (by kernel_rfl) (d := 1) (ro := 0) fun l K r h => by
  split at h
  · exact (i_Grid_grown_l0_s2_loop N _ _ _ _ _ _ _ _ _ _ _ _ K N _ _ _).trans h
  · cases h)

/-- (impl.Grid).grown, loop -/
def i_Grid_grown_l0_s3_p : SPat := ⟨[.undef, .undef, .undef, .ptr ⟨⟨1, 0⟩, 0, 0, 4⟩, .ptr ⟨⟨2, 0⟩, 0, 0, 1⟩, .ptr ⟨⟨3, 0⟩, 0, 0, 8⟩, .ptr ⟨⟨4, 0⟩, 0, 0, 8⟩, .int .u8, .ptr ⟨⟨5, 0⟩, 0, 0, 1⟩, .ptr ⟨⟨5, 0⟩, 2, 0, 8⟩, .ptr ⟨⟨5, 0⟩, 1, 0, 8⟩, .undef, .undef, .undef, .undef, .undef, .undef, .undef, .undef, .undef, .undef, .undef, .undef, .undef, .undef, .undef, .undef, .undef, .undef, .undef, .undef, .undef, .undef, .undef, .undef, .undef, .undef, .undef, .undef, .undef, .int .i64, .int .i64] ++ List.replicate 121 .undef, [[.vals [.int .i64], .ints .u8 8, .ints .u8 8], [.ints .i64 4], [.vals [.int .i64], .ints .u8 8, .ints .u8 8], [.ints .u8 8], [.ints .u8 8], [.vals [.int .i64], .ints .u8 8, .ints .u8 8]]⟩
def i_Grid_grown_l0_s3_o0 : SPat := ⟨[.undef, .undef, .undef, .ptr ⟨⟨1, 0⟩, 0, 0, 4⟩, .ptr ⟨⟨2, 0⟩, 0, 0, 1⟩, .undef, .undef, .int .u8, .ptr ⟨⟨5, 0⟩, 0, 0, 1⟩, .ptr ⟨⟨5, 0⟩, 2, 0, 8⟩, .ptr ⟨⟨5, 0⟩, 1, 0, 8⟩] ++ List.replicate 152 .undef, [[.vals [.int .i64], .ints .u8 8, .ints .u8 8], [.ints .i64 4], [.vals [.int .i64], .ints .u8 8, .ints .u8 8], [.ints .u8 8], [.ints .u8 8], [.vals [.int .i64], .ints .u8 8, .ints .u8 8]]⟩
theorem i_Grid_grown_l0_s3_round {α : Type} (N : Nat) (t7 : Int) (t40 : Int) (t41 : Int) (h0_0 : Int) (h0_1 : Nat → Int) (h0_2 : Nat → Int) (h1 : Nat → Int) (h2_0 : Int) (h2_1 : Nat → Int) (h2_2 : Nat → Int) (h3 : Nat → Int) (h4 : Nat → Int) (h5_0 : Int) (h5_1 : Nat → Int) (h5_2 : Nat → Int) (kn : St → Option α) (K : AExit → St → Option α) :
    roundK Try.prog (E_i_Grid_grown_l0_s2 α N) 1 0 69 Try.f69 6 6 (buildS i_Grid_grown_l0_s3_p [.i t7, .i t40, .i t41, .i h0_0, .f h0_1, .f h0_2, .f h1, .i h2_0, .f h2_1, .f h2_2, .f h3, .f h4, .i h5_0, .f h5_1, .f h5_2]) kn K = i_Grid_grown_l0_s3_s none t7 t40 h0_0 h0_1 h0_2 h1 h2_0 h2_1 h2_2 h3 h4 h5_0 t41 h5_1 h5_2 (fun t41 h5_1 h5_2 => kn (buildS i_Grid_grown_l0_s3_p [.i t7, .i t40, .i t41, .i h0_0, .f h0_1, .f h0_2, .f h1, .i h2_0, .f h2_1, .f h2_2, .f h3, .f h4, .i h5_0, .f h5_1, .f h5_2])) (fun h5_1_ h5_2_ => K (.exit 0) (buildS i_Grid_grown_l0_s3_o0 [.i t7, .i h0_0, .f h0_1, .f h0_2, .f h1, .i h2_0, .f h2_1, .f h2_2, .f h3, .f h4, .i h5_0, .f h5_1_, .f h5_2_])) := by kernel_rfl
theorem i_Grid_grown_l0_s3_loop {α : Type} (N : Nat) (t7 : Int) (t40 : Int) (h0_0 : Int) (h0_1 : Nat → Int) (h0_2 : Nat → Int) (h1 : Nat → Int) (h2_0 : Int) (h2_1 : Nat → Int) (h2_2 : Nat → Int) (h3 : Nat → Int) (h4 : Nat → Int) (h5_0 : Int) (K : AExit → St → Option α) : ∀ (m : Nat) (t41 : Int) (h5_1 : Nat → Int) (h5_2 : Nat → Int),
    loopN (trimSt ((E_i_Grid_grown_l0_s2 α N).ann 69 6).head ((E_i_Grid_grown_l0_s2 α N).ann 69 6).grow 6) (bodyK Try.prog (E_i_Grid_grown_l0_s2 α N) 1 0 69 Try.f69 6) m (buildS i_Grid_grown_l0_s3_p [.i t7, .i t40, .i t41, .i h0_0, .f h0_1, .f h0_2, .f h1, .i h2_0, .f h2_1, .f h2_2, .f h3, .f h4, .i h5_0, .f h5_1, .f h5_2]) (leaveLoop ((E_i_Grid_grown_l0_s2 α N).ann 69 6) 6 K) = i_Grid_grown_l0_s3 none t7 t40 h0_0 h0_1 h0_2 h1 h2_0 h2_1 h2_2 h3 h4 h5_0 m t41 h5_1 h5_2 (fun h5_1_ h5_2_ => K (.exit 0) (buildS i_Grid_grown_l0_s3_o0 [.i t7, .i h0_0, .f h0_1, .f h0_2, .f h1, .i h2_0, .f h2_1, .f h2_2, .f h3, .f h4, .i h5_0, .f h5_1_, .f h5_2_])) := by
  intro m
  induction m with
  | zero => intros; rfl
  | succ m ih =>
    intro t41 h5_1 h5_2
    rw [loopN_round]
    refine (i_Grid_grown_l0_s3_round N t7 t40 t41 h0_0 h0_1 h0_2 h1 h2_0 h2_1 h2_2 h3 h4 h5_0 h5_1 h5_2 _ K).trans ?_
    simp only [ih]
    rfl
def E_i_Grid_grown_l0_s3 (α : Type) (N : Nat) : Env α := (E_i_Grid_grown_l0_s2 α N).addLoop2 69 6 (loopSum2 ((E_i_Grid_grown_l0_s2 α N).ann 69 6) 0 i_Grid_grown_l0_s3_p (fun l K => match l with
    | [.i t7, .i t40, .i t41, .i h0_0, .f h0_1, .f h0_2, .f h1, .i h2_0, .f h2_1, .f h2_2, .f h3, .f h4, .i h5_0, .f h5_1, .f h5_2] => i_Grid_grown_l0_s3 none t7 t40 h0_0 h0_1 h0_2 h1 h2_0 h2_1 h2_2 h3 h4 h5_0 N t41 h5_1 h5_2 (fun h5_1_ h5_2_ => K (.exit 0) (buildS i_Grid_grown_l0_s3_o0 [.i t7, .i h0_0, .f h0_1, .f h0_2, .f h1, .i h2_0, .f h2_1, .f h2_2, .f h3, .f h4, .i h5_0, .f h5_1_, .f h5_2_]))
    | _ => none) ((E_i_Grid_grown_l0_s2 α N).ls 69 6))
theorem E_i_Grid_grown_l0_s3_ok {α : Type} (N : Nat) : EnvOk Try.prog (E_i_Grid_grown_l0_s3 α N) := (E_i_Grid_grown_l0_s2_ok N).addLoop2 Try.func69 (by kernel_rfl) (loopSum_ok prog_mixed prog_names (E_i_Grid_grown_l0_s2_ok N) Try.func69 (by kernel_rfl) (d := 1) (ro := 0) fun l K r h => by
  split at h
  · exact (i_Grid_grown_l0_s3_loop N _ _ _ _ _ _ _ _ _ _ _ _ K N _ _ _).trans h
  · cases h)

/-- (impl.Grid).grown, loop -/
def i_Grid_grown_l0_s4_p : SPat := ⟨[.undef, .undef, .undef, .ptr ⟨⟨1, 0⟩, 0, 0, 4⟩, .ptr ⟨⟨2, 0⟩, 0, 0, 1⟩, .ptr ⟨⟨3, 0⟩, 0, 0, 8⟩, .ptr ⟨⟨4, 0⟩, 0, 0, 8⟩, .int .u8, .ptr ⟨⟨5, 0⟩, 0, 0, 1⟩, .ptr ⟨⟨5, 0⟩, 2, 0, 8⟩, .ptr ⟨⟨5, 0⟩, 2, 0, 8⟩, .undef, .undef, .undef, .undef, .undef, .undef, .undef, .undef, .undef, .undef, .undef, .undef, .undef, .undef, .undef, .undef, .undef, .undef, .undef, .undef, .undef, .undef, .undef, .undef, .undef, .undef, .undef, .undef, .undef, .int .i64, .int .i64] ++ List.replicate 121 .undef, [[.vals [.int .i64], .ints .u8 8, .ints .u8 8], [.ints .i64 4], [.vals [.int .i64], .ints .u8 8, .ints .u8 8], [.ints .u8 8], [.ints .u8 8], [.vals [.int .i64], .ints .u8 8, .ints .u8 8]]⟩
def i_Grid_grown_l0_s4_o0 : SPat := ⟨[.undef, .undef, .undef, .ptr ⟨⟨1, 0⟩, 0, 0, 4⟩, .ptr ⟨⟨2, 0⟩, 0, 0, 1⟩, .undef, .undef, .int .u8, .ptr ⟨⟨5, 0⟩, 0, 0, 1⟩, .ptr ⟨⟨5, 0⟩, 2, 0, 8⟩, .ptr ⟨⟨5, 0⟩, 2, 0, 8⟩] ++ List.replicate 152 .undef, [[.vals [.int .i64], .ints .u8 8, .ints .u8 8], [.ints .i64 4], [.vals [.int .i64], .ints .u8 8, .ints .u8 8], [.ints .u8 8], [.ints .u8 8], [.vals [.int .i64], .ints .u8 8, .ints .u8 8]]⟩
theorem i_Grid_grown_l0_s4_round {α : Type} (N : Nat) (t7 : Int) (t40 : Int) (t41 : Int) (h0_0 : Int) (h0_1 : Nat → Int) (h0_2 : Nat → Int) (h1 : Nat → Int) (h2_0 : Int) (h2_1 : Nat → Int) (h2_2 : Nat → Int) (h3 : Nat → Int) (h4 : Nat → Int) (h5_0 : Int) (h5_1 : Nat → Int) (h5_2 : Nat → Int) (kn : St → Option α) (K : AExit → St → Option α) :
    roundK Try.prog (E_i_Grid_grown_l0_s3 α N) 1 0 69 Try.f69 6 6 (buildS i_Grid_grown_l0_s4_p [.i t7, .i t40, .i t41, .i h0_0, .f h0_1, .f h0_2, .f h1, .i h2_0, .f h2_1, .f h2_2, .f h3, .f h4, .i h5_0, .f h5_1, .f h5_2]) kn K = i_Grid_grown_l0_s4_s none t7 t40 h0_0 h0_1 h0_2 h1 h2_0 h2_1 h2_2 h3 h4 h5_0 h5_1 t41 h5_2 (fun t41 h5_2 => kn (buildS i_Grid_grown_l0_s4_p [.i t7, .i t40, .i t41, .i h0_0, .f h0_1, .f h0_2, .f h1, .i h2_0, .f h2_1, .f h2_2, .f h3, .f h4, .i h5_0, .f h5_1, .f h5_2])) (fun h5_2_ => K (.exit 0) (buildS i_Grid_grown_l0_s4_o0 [.i t7, .i h0_0, .f h0_1, .f h0_2, .f h1, .i h2_0, .f h2_1, .f h2_2, .f h3, .f h4, .i h5_0, .f h5_1, .f h5_2_])) := by kernel_rfl
theorem i_Grid_grown_l0_s4_loop {α : Type} (N : Nat) (t7 : Int) (t40 : Int) (h0_0 : Int) (h0_1 : Nat → Int) (h0_2 : Nat → Int) (h1 : Nat → Int) (h2_0 : Int) (h2_1 : Nat → Int) (h2_2 : Nat → Int) (h3 : Nat → Int) (h4 : Nat → Int) (h5_0 : Int) (h5_1 : Nat → Int) (K : AExit → St → Option α) : ∀ (m : Nat) (t41 : Int) (h5_2 : Nat → Int),
    loopN (trimSt ((E_i_Grid_grown_l0_s3 α N).ann 69 6).head ((E_i_Grid_grown_l0_s3 α N).ann 69 6).grow 6) (bodyK Try.prog (E_i_Grid_grown_l0_s3 α N) 1 0 69 Try.f69 6) m (buildS i_Grid_grown_l0_s4_p [.i t7, .i t40, .i t41, .i h0_0, .f h0_1, .f h0_2, .f h1, .i h2_0, .f h2_1, .f h2_2, .f h3, .f h4, .i h5_0, .f h5_1, .f h5_2]) (leaveLoop ((E_i_Grid_grown_l0_s3 α N).ann 69 6) 6 K) = i_Grid_grown_l0_s4 none t7 t40 h0_0 h0_1 h0_2 h1 h2_0 h2_1 h2_2 h3 h4 h5_0 h5_1 m t41 h5_2 (fun h5_2_ => K (.exit 0) (buildS i_Grid_grown_l0_s4_o0 [.i t7, .i h0_0, .f h0_1, .f h0_2, .f h1, .i h2_0, .f h2_1, .f h2_2, .f h3, .f h4, .i h5_0, .f h5_1, .f h5_2_])) := by
  intro m
  induction m with
  | zero => intros; rfl
  | succ m ih =>
    intro t41 h5_2
    rw [loopN_round]
    refine (i_Grid_grown_l0_s4_round N t7 t40 t41 h0_0 h0_1 h0_2 h1 h2_0 h2_1 h2_2 h3 h4 h5_0 h5_1 h5_2 _ K).trans ?_
    simp only [ih]
    rfl
def E_i_Grid_grown_l0_s4 (α : Type) (N : Nat) : Env α := (E_i_Grid_grown_l0_s3 α N).addLoop2 69 6 (loopSum2 ((E_i_Grid_grown_l0_s3 α N).ann 69 6) 0 i_Grid_grown_l0_s4_p (fun l K => match l with
    | [.i t7, .i t40, .i t41, .i h0_0, .f h0_1, .f h0_2, .f h1, .i h2_0, .f h2_1, .f h2_2, .f h3, .f h4, .i h5_0, .f h5_1, .f h5_2] => i_Grid_grown_l0_s4 none t7 t40 h0_0 h0_1 h0_2 h1 h2_0 h2_1 h2_2 h3 h4 h5_0 h5_1 N t41 h5_2 (fun h5_2_ => K (.exit 0) (buildS i_Grid_grown_l0_s4_o0 [.i t7, .i h0_0, .f h0_1, .f h0_2, .f h1, .i h2_0, .f h2_1, .f h2_2, .f h3, .f h4, .i h5_0, .f h5_1, .f h5_2_]))
    | _ => none) ((E_i_Grid_grown_l0_s3 α N).ls 69 6))
theorem E_i_Grid_grown_l0_s4_ok {α : Type} (N : Nat) : EnvOk Try.prog (E_i_Grid_grown_l0_s4 α N) := (E_i_Grid_grown_l0_s3_ok N).addLoop2 Try.func69 (by kernel_rfl) (loopSum_ok prog_mixed prog_names (E_i_Grid_grown_l0_s3_ok N) Try.func69 (by kernel_rfl) (d := 1) (ro := 0) fun l K r h => by
  split at h
  · exact (i_Grid_grown_l0_s4_loop N _ _ _ _ _ _ _ _ _ _ _ _ _ K N _ _).trans h
  · cases h)

/-- (impl.Grid).grown -/
def i_Grid_grown_a : SPat := ⟨[.agg [.vals [.int .i64], .ints .u8 8, .ints .u8 8], .agg [.ints .i64 4]], []⟩
def i_Grid_grown_r0 : SPat := ⟨[.agg [.vals [.int .i64], .ints .u8 8, .ints .u8 8]], []⟩
theorem i_Grid_grown_run {α : Type} (N : Nat) (g_0 : Int) (g_1 : Nat → Int) (g_2 : Nat → Int) (a1 : Nat → Int) (K : AV → Heap → Option α) :
    callK Try.prog (E_i_Grid_grown_l0_s4 α N) 1 69 0 (buildS i_Grid_grown_a [.i g_0, .f g_1, .f g_2, .f a1]).t (buildS i_Grid_grown_a [.i g_0, .f g_1, .f g_2, .f a1]).h K = i_Grid_grown none N g_0 g_1 g_2 a1 (fun r_0_ r_1_ r_2_ => retK (buildS i_Grid_grown_r0 [.i r_0_, .f r_1_, .f r_2_]) K) := by kernel_rfl
def E_i_Grid_grown (α : Type) (N : Nat) : Env α := (E_i_Grid_grown_l0_s4 α N).addFun 69 true 0 i_Grid_grown_a (fun l K => match l with
    | [.i g_0, .f g_1, .f g_2, .f a1] => i_Grid_grown none N g_0 g_1 g_2 a1 (fun r_0_ r_1_ r_2_ => retK (buildS i_Grid_grown_r0 [.i r_0_, .f r_1_, .f r_2_]) K)
    | _ => none)
theorem E_i_Grid_grown_ok {α : Type} (N : Nat) : EnvOk Try.prog (E_i_Grid_grown α N) := (E_i_Grid_grown_l0_s4_ok N).addFun prog_mixed prog_names (d := 1) fun l K r h => by
  split at h
  · exact (i_Grid_grown_run N _ _ _ _ K).trans h
  · cases h

/-- (impl.Grid).shrunk, loop -/
def i_Grid_shrunk_l0_p : SPat := ⟨[.undef, .int .i64, .int .i64, .ptr ⟨⟨0, 0⟩, 0, 0, 1⟩, .undef, .undef, .ptr ⟨⟨1, 0⟩, 0, 0, 1⟩, .ptr ⟨⟨2, 0⟩, 0, 0, 4⟩, .undef, .undef, .undef, .undef, .undef, .undef, .int .i64] ++ List.replicate 102 .undef, [[.vals [.int .i64], .ints .u8 8, .ints .u8 8], [.vals [.int .i64], .ints .u8 8, .ints .u8 8], [.ints .i64 4]]⟩
def i_Grid_shrunk_l0_o0 : SPat := ⟨[.undef, .undef, .undef, .undef, .undef, .undef, .ptr ⟨⟨1, 0⟩, 0, 0, 1⟩, .ptr ⟨⟨2, 0⟩, 0, 0, 4⟩, .boolC true] ++ List.replicate 108 .undef, [[.vals [.int .i64], .ints .u8 8, .ints .u8 8], [.vals [.int .i64], .ints .u8 8, .ints .u8 8], [.ints .i64 4]]⟩
def i_Grid_shrunk_l0_o1 : SPat := ⟨[.undef, .undef, .undef, .undef, .undef, .undef, .ptr ⟨⟨1, 0⟩, 0, 0, 1⟩, .ptr ⟨⟨2, 0⟩, 0, 0, 4⟩] ++ List.replicate 109 .undef, [[.vals [.int .i64], .ints .u8 8, .ints .u8 8], [.vals [.int .i64], .ints .u8 8, .ints .u8 8], [.ints .i64 4]]⟩
theorem i_Grid_shrunk_l0_round {α : Type} (N : Nat) (t1 : Int) (t2 : Int) (t14 : Int) (h0_0 : Int) (h0_1 : Nat → Int) (h0_2 : Nat → Int) (h1_0 : Int) (h1_1 : Nat → Int) (h1_2 : Nat → Int) (h2 : Nat → Int) (kn : St → Option α) (K : AExit → St → Option α) :
    roundK Try.prog (E_i_Grid_grown α N) 1 0 71 Try.f71 2 3 (buildS i_Grid_shrunk_l0_p [.i t1, .i t2, .i t14, .i h0_0, .f h0_1, .f h0_2, .i h1_0, .f h1_1, .f h1_2, .f h2]) kn K = i_Grid_shrunk_l0_s none N t1 t2 h0_0 h0_1 h0_2 h1_0 h1_1 h1_2 h2 t14 (fun t14 => kn (buildS i_Grid_shrunk_l0_p [.i t1, .i t2, .i t14, .i h0_0, .f h0_1, .f h0_2, .i h1_0, .f h1_1, .f h1_2, .f h2])) (fun h1_0_ h1_1_ h1_2_ h2_ => K .ret (buildS i_Grid_shrunk_l0_o0 [.i h0_0, .f h0_1, .f h0_2, .i h1_0_, .f h1_1_, .f h1_2_, .f h2_])) (K (.exit 0) (buildS i_Grid_shrunk_l0_o1 [.i h0_0, .f h0_1, .f h0_2, .i h1_0, .f h1_1, .f h1_2, .f h2])) := by kernel_rfl
theorem i_Grid_shrunk_l0_loop {α : Type} (N : Nat) (t1 : Int) (t2 : Int) (h0_0 : Int) (h0_1 : Nat → Int) (h0_2 : Nat → Int) (h1_0 : Int) (h1_1 : Nat → Int) (h1_2 : Nat → Int) (h2 : Nat → Int) (K : AExit → St → Option α) : ∀ (m : Nat) (t14 : Int),
    loopN (trimSt ((E_i_Grid_grown α N).ann 71 2).head ((E_i_Grid_grown α N).ann 71 2).grow 3) (bodyK Try.prog (E_i_Grid_grown α N) 1 0 71 Try.f71 2) m (buildS i_Grid_shrunk_l0_p [.i t1, .i t2, .i t14, .i h0_0, .f h0_1, .f h0_2, .i h1_0, .f h1_1, .f h1_2, .f h2]) (leaveLoop ((E_i_Grid_grown α N).ann 71 2) 3 K) = i_Grid_shrunk_l0 none N t1 t2 h0_0 h0_1 h0_2 h1_0 h1_1 h1_2 h2 m t14 (fun h1_0_ h1_1_ h1_2_ h2_ => K .ret (buildS i_Grid_shrunk_l0_o0 [.i h0_0, .f h0_1, .f h0_2, .i h1_0_, .f h1_1_, .f h1_2_, .f h2_])) (K (.exit 0) (buildS i_Grid_shrunk_l0_o1 [.i h0_0, .f h0_1, .f h0_2, .i h1_0, .f h1_1, .f h1_2, .f h2])) := by
  intro m
  induction m with
  | zero => intros; rfl
  | succ m ih =>
    intro t14
    rw [loopN_round]
    refine (i_Grid_shrunk_l0_round N t1 t2 t14 h0_0 h0_1 h0_2 h1_0 h1_1 h1_2 h2 _ K).trans ?_
    simp only [ih]
    rfl
def E_i_Grid_shrunk_l0 (α : Type) (N : Nat) : Env α := (E_i_Grid_grown α N).addLoop2 71 2 (loopSum2 ((E_i_Grid_grown α N).ann 71 2) 0 i_Grid_shrunk_l0_p (fun l K => match l with
    | [.i t1, .i t2, .i t14, .i h0_0, .f h0_1, .f h0_2, .i h1_0, .f h1_1, .f h1_2, .f h2] => i_Grid_shrunk_l0 none N t1 t2 h0_0 h0_1 h0_2 h1_0 h1_1 h1_2 h2 N t14 (fun h1_0_ h1_1_ h1_2_ h2_ => K .ret (buildS i_Grid_shrunk_l0_o0 [.i h0_0, .f h0_1, .f h0_2, .i h1_0_, .f h1_1_, .f h1_2_, .f h2_])) (K (.exit 0) (buildS i_Grid_shrunk_l0_o1 [.i h0_0, .f h0_1, .f h0_2, .i h1_0, .f h1_1, .f h1_2, .f h2]))
    | _ => none) ((E_i_Grid_grown α N).ls 71 2))
theorem E_i_Grid_shrunk_l0_ok {α : Type} (N : Nat) : EnvOk Try.prog (E_i_Grid_shrunk_l0 α N) := (E_i_Grid_grown_ok N).addLoop2 Try.func71 (by kernel_rfl) (loopSum_ok prog_mixed prog_names (E_i_Grid_grown_ok N) Try.func71 (by kernel_rfl) (d := 1) (ro := 0) fun l K r h => by
  split at h
  · exact (i_Grid_shrunk_l0_loop N _ _ _ _ _ _ _ _ _ K N _).trans h
  · cases h)

/-- (impl.Grid).shrunk -/
def i_Grid_shrunk_a : SPat := ⟨[.agg [.vals [.int .i64], .ints .u8 8, .ints .u8 8], .int .i64, .int .i64], []⟩
def i_Grid_shrunk_r0 : SPat := ⟨[.tuple [.agg [.vals [.int .i64], .ints .u8 8, .ints .u8 8], .agg [.ints .i64 4], .bool]], []⟩
theorem i_Grid_shrunk_run {α : Type} (N : Nat) (g_0 : Int) (g_1 : Nat → Int) (g_2 : Nat → Int) (a1 : Int) (a2 : Int) (K : AV → Heap → Option α) :
    callK Try.prog (E_i_Grid_shrunk_l0 α N) 1 71 0 (buildS i_Grid_shrunk_a [.i g_0, .f g_1, .f g_2, .i a1, .i a2]).t (buildS i_Grid_shrunk_a [.i g_0, .f g_1, .f g_2, .i a1, .i a2]).h K = i_Grid_shrunk none N g_0 g_1 g_2 a1 a2 (fun r_0_0_ r_0_1_ r_0_2_ r_1_ r_2_ => retK (buildS i_Grid_shrunk_r0 [.i r_0_0_, .f r_0_1_, .f r_0_2_, .f r_1_, .b r_2_]) K) := by kernel_rfl
def E_i_Grid_shrunk (α : Type) (N : Nat) : Env α := (E_i_Grid_shrunk_l0 α N).addFun 71 true 0 i_Grid_shrunk_a (fun l K => match l with
    | [.i g_0, .f g_1, .f g_2, .i a1, .i a2] => i_Grid_shrunk none N g_0 g_1 g_2 a1 a2 (fun r_0_0_ r_0_1_ r_0_2_ r_1_ r_2_ => retK (buildS i_Grid_shrunk_r0 [.i r_0_0_, .f r_0_1_, .f r_0_2_, .f r_1_, .b r_2_]) K)
    | _ => none)
theorem E_i_Grid_shrunk_ok {α : Type} (N : Nat) : EnvOk Try.prog (E_i_Grid_shrunk α N) := (E_i_Grid_shrunk_l0_ok N).addFun prog_mixed prog_names (d := 1) fun l K r h => by
  split at h
  · exact (i_Grid_shrunk_run N _ _ _ _ _ K).trans h
  · cases h

/-- impl.CanDestabilize -/
def i_CanDestabilize_a : SPat := ⟨[.agg [.vals [.int .i64], .ints .u8 8, .ints .u8 8], .int .i64, .int .i64], []⟩
def i_CanDestabilize_r0 : SPat := ⟨[.tuple [.bool, .int .i64]], []⟩
theorem i_CanDestabilize_run {α : Type} (N : Nat) (g_0 : Int) (g_1 : Nat → Int) (g_2 : Nat → Int) (i : Int) (r_ : Int) (K : AV → Heap → Option α) :
    callK Try.prog (E_i_Grid_shrunk α N) 1 68 0 (buildS i_CanDestabilize_a [.i g_0, .f g_1, .f g_2, .i i, .i r_]).t (buildS i_CanDestabilize_a [.i g_0, .f g_1, .f g_2, .i i, .i r_]).h K = i_CanDestabilize none N g_0 g_1 g_2 i r_ (fun r_0_ r_1_ => retK (buildS i_CanDestabilize_r0 [.b r_0_, .i r_1_]) K) := by kernel_rfl
def E_i_CanDestabilize (α : Type) (N : Nat) : Env α := (E_i_Grid_shrunk α N).addFun 68 true 0 i_CanDestabilize_a (fun l K => match l with
    | [.i g_0, .f g_1, .f g_2, .i i, .i r_] => i_CanDestabilize none N g_0 g_1 g_2 i r_ (fun r_0_ r_1_ => retK (buildS i_CanDestabilize_r0 [.b r_0_, .i r_1_]) K)
    | _ => none)
theorem E_i_CanDestabilize_ok {α : Type} (N : Nat) : EnvOk Try.prog (E_i_CanDestabilize α N) := (E_i_Grid_shrunk_ok N).addFun prog_mixed prog_names (d := 1) fun l K r h => by
  split at h
  · exact (i_CanDestabilize_run N _ _ _ _ _ K).trans h
  · cases h

/-- (impl.Grid).fits -/
def i_Grid_fits_a : SPat := ⟨[.agg [.vals [.int .i64], .ints .u8 8, .ints .u8 8], .agg [.ints .i64 6]], []⟩
def i_Grid_fits_r0 : SPat := ⟨[.bool], []⟩
theorem i_Grid_fits_run {α : Type} (N : Nat) (g_0 : Int) (g_1 : Nat → Int) (g_2 : Nat → Int) (a1 : Nat → Int) (K : AV → Heap → Option α) :
    callK Try.prog (E_i_CanDestabilize α N) 1 48 0 (buildS i_Grid_fits_a [.i g_0, .f g_1, .f g_2, .f a1]).t (buildS i_Grid_fits_a [.i g_0, .f g_1, .f g_2, .f a1]).h K = i_Grid_fits none N g_0 g_1 g_2 a1 (fun r__ => retK (buildS i_Grid_fits_r0 [.b r__]) K) := by kernel_rfl
def E_i_Grid_fits (α : Type) (N : Nat) : Env α := (E_i_CanDestabilize α N).addFun 48 true 0 i_Grid_fits_a (fun l K => match l with
    | [.i g_0, .f g_1, .f g_2, .f a1] => i_Grid_fits none N g_0 g_1 g_2 a1 (fun r__ => retK (buildS i_Grid_fits_r0 [.b r__]) K)
    | _ => none)
theorem E_i_Grid_fits_ok {α : Type} (N : Nat) : EnvOk Try.prog (E_i_Grid_fits α N) := (E_i_CanDestabilize_ok N).addFun prog_mixed prog_names (d := 1) fun l K r h => by
  split at h
  · exact (i_Grid_fits_run N _ _ _ _ K).trans h
  · cases h

/-- (impl.Grid).swapColumns -/
def i_Grid_swapColumns_a : SPat := ⟨[.agg [.vals [.int .i64], .ints .u8 8, .ints .u8 8], .int .i64], []⟩
def i_Grid_swapColumns_r0 : SPat := ⟨[.agg [.vals [.int .i64], .ints .u8 8, .ints .u8 8]], []⟩
theorem i_Grid_swapColumns_run {α : Type} (N : Nat) (g_0 : Int) (g_1 : Nat → Int) (g_2 : Nat → Int) (i : Int) (K : AV → Heap → Option α) :
    callK Try.prog (E_i_Grid_fits α N) 1 29 0 (buildS i_Grid_swapColumns_a [.i g_0, .f g_1, .f g_2, .i i]).t (buildS i_Grid_swapColumns_a [.i g_0, .f g_1, .f g_2, .i i]).h K = i_Grid_swapColumns none N g_0 g_1 g_2 i (fun r_1_ r_2_ => retK (buildS i_Grid_swapColumns_r0 [.i g_0, .f r_1_, .f r_2_]) K) := by kernel_rfl
def E_i_Grid_swapColumns (α : Type) (N : Nat) : Env α := (E_i_Grid_fits α N).addFun 29 true 0 i_Grid_swapColumns_a (fun l K => match l with
    | [.i g_0, .f g_1, .f g_2, .i i] => i_Grid_swapColumns none N g_0 g_1 g_2 i (fun r_1_ r_2_ => retK (buildS i_Grid_swapColumns_r0 [.i g_0, .f r_1_, .f r_2_]) K)
    | _ => none)
theorem E_i_Grid_swapColumns_ok {α : Type} (N : Nat) : EnvOk Try.prog (E_i_Grid_swapColumns α N) := (E_i_Grid_fits_ok N).addFun prog_mixed prog_names (d := 1) fun l K r h => by
  split at h
  · exact (i_Grid_swapColumns_run N _ _ _ _ K).trans h
  · cases h

def A_i_Grid_led_l0 (α : Type) (N : Nat) : Env α := (E_i_Grid_swapColumns α N).addAnn 58 6 { head := [1, 3, 6, 7, 8, 9, 22, 23], grow := [], out := [6, 7], ret := [6] }
theorem A_i_Grid_led_l0_ok {α : Type} (N : Nat) : EnvOk Try.prog (A_i_Grid_led_l0 α N) := (E_i_Grid_swapColumns_ok N).addAnn

/-- (impl.Grid).swapRows$1 -/
def i_Grid_swapRows_1_a : SPat := ⟨[.int .i64, .int .i64, .ptr ⟨⟨0, 0⟩, 0, 0, 1⟩], [[.vals [.int .i64]]]⟩
def i_Grid_swapRows_1_r0 : SPat := ⟨[.tuple [.int .i64, .int .i64]], [[.vals [.int .i64]]]⟩
theorem i_Grid_swapRows_1_run {α : Type} (N : Nat) (i : Int) (row : Int) (h0 : Int) (K : AV → Heap → Option α) :
    callK Try.prog (A_i_Grid_led_l0 α N) 1 59 1 (buildS i_Grid_swapRows_1_a [.i i, .i row, .i h0]).t (buildS i_Grid_swapRows_1_a [.i i, .i row, .i h0]).h K = i_Grid_swapRows_1 none N i row h0 (fun r_1_ => retK (buildS i_Grid_swapRows_1_r0 [.i i, .i r_1_, .i h0]) K) := by kernel_rfl
def E_i_Grid_swapRows_1 (α : Type) (N : Nat) : Env α := (A_i_Grid_led_l0 α N).addFun 59 true 1 i_Grid_swapRows_1_a (fun l K => match l with
    | [.i i, .i row, .i h0] => i_Grid_swapRows_1 none N i row h0 (fun r_1_ => retK (buildS i_Grid_swapRows_1_r0 [.i i, .i r_1_, .i h0]) K)
    | _ => none)
theorem E_i_Grid_swapRows_1_ok {α : Type} (N : Nat) : EnvOk Try.prog (E_i_Grid_swapRows_1 α N) := (A_i_Grid_led_l0_ok N).addFun prog_mixed prog_names (d := 1) fun l K r h => by
  split at h
  · exact (i_Grid_swapRows_1_run N _ _ _ K).trans h
  · cases h

/-- (impl.Grid).led, loop -/
def i_Grid_led_l0_s5_p : SPat := ⟨[.undef, .func 59 [.ptr ⟨⟨0, 0⟩, 0, 0, 1⟩], .undef, .ptr ⟨⟨1, 0⟩, 0, 0, 1⟩, .undef, .undef, .ptr ⟨⟨2, 0⟩, 0, 0, 1⟩, .ptr ⟨⟨3, 0⟩, 0, 0, 1⟩, .ptr ⟨⟨3, 0⟩, 2, 0, 8⟩, .ptr ⟨⟨3, 0⟩, 1, 0, 8⟩, .undef, .undef, .undef, .undef, .undef, .undef, .undef, .undef, .undef, .undef, .undef, .undef, .int .i64, .int .i64] ++ List.replicate 38 .undef, [[.vals [.int .i64]], [.vals [.int .i64], .ints .u8 8, .ints .u8 8], [.vals [.int .i64], .ints .u8 8, .ints .u8 8], [.vals [.int .i64], .ints .u8 8, .ints .u8 8]]⟩
def i_Grid_led_l0_s5_o0 : SPat := ⟨[.undef, .undef, .undef, .undef, .undef, .undef, .ptr ⟨⟨2, 0⟩, 0, 0, 1⟩, .ptr ⟨⟨3, 0⟩, 0, 0, 1⟩] ++ List.replicate 54 .undef, [[.vals [.int .i64]], [.vals [.int .i64], .ints .u8 8, .ints .u8 8], [.vals [.int .i64], .ints .u8 8, .ints .u8 8], [.vals [.int .i64], .ints .u8 8, .ints .u8 8]]⟩
theorem i_Grid_led_l0_s5_round {α : Type} (N : Nat) (t22 : Int) (t23 : Int) (h0 : Int) (h1_0 : Int) (h1_1 : Nat → Int) (h1_2 : Nat → Int) (h2_0 : Int) (h2_1 : Nat → Int) (h2_2 : Nat → Int) (h3_0 : Int) (h3_1 : Nat → Int) (h3_2 : Nat → Int) (kn : St → Option α) (K : AExit → St → Option α) :
    roundK Try.prog (E_i_Grid_swapRows_1 α N) 1 1 58 Try.f58 6 4 (buildS i_Grid_led_l0_s5_p [.i t22, .i t23, .i h0, .i h1_0, .f h1_1, .f h1_2, .i h2_0, .f h2_1, .f h2_2, .i h3_0, .f h3_1, .f h3_2]) kn K = i_Grid_led_l0_s5_s none N t22 h0 h1_0 h1_1 h1_2 h2_0 h2_1 h2_2 h3_0 t23 h3_1 h3_2 (fun t23 h3_1 h3_2 => kn (buildS i_Grid_led_l0_s5_p [.i t22, .i t23, .i h0, .i h1_0, .f h1_1, .f h1_2, .i h2_0, .f h2_1, .f h2_2, .i h3_0, .f h3_1, .f h3_2])) (fun h3_1_ h3_2_ => K (.exit 0) (buildS i_Grid_led_l0_s5_o0 [.i h0, .i h1_0, .f h1_1, .f h1_2, .i h2_0, .f h2_1, .f h2_2, .i h3_0, .f h3_1_, .f h3_2_])) := by kernel_rfl
theorem i_Grid_led_l0_s5_loop {α : Type} (N : Nat) (t22 : Int) (h0 : Int) (h1_0 : Int) (h1_1 : Nat → Int) (h1_2 : Nat → Int) (h2_0 : Int) (h2_1 : Nat → Int) (h2_2 : Nat → Int) (h3_0 : Int) (K : AExit → St → Option α) : ∀ (m : Nat) (t23 : Int) (h3_1 : Nat → Int) (h3_2 : Nat → Int),
    loopN (trimSt ((E_i_Grid_swapRows_1 α N).ann 58 6).head ((E_i_Grid_swapRows_1 α N).ann 58 6).grow 4) (bodyK Try.prog (E_i_Grid_swapRows_1 α N) 1 1 58 Try.f58 6) m (buildS i_Grid_led_l0_s5_p [.i t22, .i t23, .i h0, .i h1_0, .f h1_1, .f h1_2, .i h2_0, .f h2_1, .f h2_2, .i h3_0, .f h3_1, .f h3_2]) (leaveLoop ((E_i_Grid_swapRows_1 α N).ann 58 6) 4 K) = i_Grid_led_l0_s5 none N t22 h0 h1_0 h1_1 h1_2 h2_0 h2_1 h2_2 h3_0 m t23 h3_1 h3_2 (fun h3_1_ h3_2_ => K (.exit 0) (buildS i_Grid_led_l0_s5_o0 [.i h0, .i h1_0, .f h1_1, .f h1_2, .i h2_0, .f h2_1, .f h2_2, .i h3_0, .f h3_1_, .f h3_2_])) := by
  intro m
  induction m with
  | zero => intros; rfl
  | succ m ih =>
    intro t23 h3_1 h3_2
    rw [loopN_round]
    refine (i_Grid_led_l0_s5_round N t22 t23 h0 h1_0 h1_1 h1_2 h2_0 h2_1 h2_2 h3_0 h3_1 h3_2 _ K).trans ?_
    simp only [ih]
    rfl
def E_i_Grid_led_l0_s5 (α : Type) (N : Nat) : Env α := (E_i_Grid_swapRows_1 α N).addLoop2 58 6 (loopSum2 ((E_i_Grid_swapRows_1 α N).ann 58 6) 1 i_Grid_led_l0_s5_p (fun l K => match l with
    | [.i t22, .i t23, .i h0, .i h1_0, .f h1_1, .f h1_2, .i h2_0, .f h2_1, .f h2_2, .i h3_0, .f h3_1, .f h3_2] => i_Grid_led_l0_s5 none N t22 h0 h1_0 h1_1 h1_2 h2_0 h2_1 h2_2 h3_0 N t23 h3_1 h3_2 (fun h3_1_ h3_2_ => K (.exit 0) (buildS i_Grid_led_l0_s5_o0 [.i h0, .i h1_0, .f h1_1, .f h1_2, .i h2_0, .f h2_1, .f h2_2, .i h3_0, .f h3_1_, .f h3_2_]))
    | _ => none) ((E_i_Grid_swapRows_1 α N).ls 58 6))
theorem E_i_Grid_led_l0_s5_ok {α : Type} (N : Nat) : EnvOk Try.prog (E_i_Grid_led_l0_s5 α N) := (E_i_Grid_swapRows_1_ok N).addLoop2 Try.func58 (by kernel_rfl) (loopSum_ok prog_mixed prog_names (E_i_Grid_swapRows_1_ok N) Try.func58 (by kernel_rfl) (d := 1) (ro := 1) fun l K r h => by
  split at h
  · exact (i_Grid_led_l0_s5_loop N _ _ _ _ _ _ _ _ _ K N _ _ _).trans h
  · cases h)

/-- (impl.Grid).led, loop -/
def i_Grid_led_l0_s6_p : SPat := ⟨[.undef, .func 59 [.ptr ⟨⟨0, 0⟩, 0, 0, 1⟩], .undef, .ptr ⟨⟨1, 0⟩, 0, 0, 1⟩, .undef, .undef, .ptr ⟨⟨2, 0⟩, 0, 0, 1⟩, .ptr ⟨⟨3, 0⟩, 0, 0, 1⟩, .ptr ⟨⟨3, 0⟩, 1, 0, 8⟩, .ptr ⟨⟨3, 0⟩, 2, 0, 8⟩, .undef, .undef, .undef, .undef, .undef, .undef, .undef, .undef, .undef, .undef, .undef, .undef, .int .i64, .int .i64] ++ List.replicate 38 .undef, [[.vals [.int .i64]], [.vals [.int .i64], .ints .u8 8, .ints .u8 8], [.vals [.int .i64], .ints .u8 8, .ints .u8 8], [.vals [.int .i64], .ints .u8 8, .ints .u8 8]]⟩
def i_Grid_led_l0_s6_o0 : SPat := ⟨[.undef, .undef, .undef, .undef, .undef, .undef, .ptr ⟨⟨2, 0⟩, 0, 0, 1⟩, .ptr ⟨⟨3, 0⟩, 0, 0, 1⟩] ++ List.replicate 54 .undef, [[.vals [.int .i64]], [.vals [.int .i64], .ints .u8 8, .ints .u8 8], [.vals [.int .i64], .ints .u8 8, .ints .u8 8], [.vals [.int .i64], .ints .u8 8, .ints .u8 8]]⟩
theorem i_Grid_led_l0_s6_round {α : Type} (N : Nat) (t22 : Int) (t23 : Int) (h0 : Int) (h1_0 : Int) (h1_1 : Nat → Int) (h1_2 : Nat → Int) (h2_0 : Int) (h2_1 : Nat → Int) (h2_2 : Nat → Int) (h3_0 : Int) (h3_1 : Nat → Int) (h3_2 : Nat → Int) (kn : St → Option α) (K : AExit → St → Option α) :
    roundK Try.prog (E_i_Grid_led_l0_s5 α N) 1 1 58 Try.f58 6 4 (buildS i_Grid_led_l0_s6_p [.i t22, .i t23, .i h0, .i h1_0, .f h1_1, .f h1_2, .i h2_0, .f h2_1, .f h2_2, .i h3_0, .f h3_1, .f h3_2]) kn K = i_Grid_led_l0_s6_s none N t22 h0 h1_0 h1_1 h1_2 h2_0 h2_1 h2_2 h3_0 t23 h3_1 h3_2 (fun t23 h3_1 h3_2 => kn (buildS i_Grid_led_l0_s6_p [.i t22, .i t23, .i h0, .i h1_0, .f h1_1, .f h1_2, .i h2_0, .f h2_1, .f h2_2, .i h3_0, .f h3_1, .f h3_2])) (fun h3_1_ h3_2_ => K (.exit 0) (buildS i_Grid_led_l0_s6_o0 [.i h0, .i h1_0, .f h1_1, .f h1_2, .i h2_0, .f h2_1, .f h2_2, .i h3_0, .f h3_1_, .f h3_2_])) := by kernel_rfl
theorem i_Grid_led_l0_s6_loop {α : Type} (N : Nat) (t22 : Int) (h0 : Int) (h1_0 : Int) (h1_1 : Nat → Int) (h1_2 : Nat → Int) (h2_0 : Int) (h2_1 : Nat → Int) (h2_2 : Nat → Int) (h3_0 : Int) (K : AExit → St → Option α) : ∀ (m : Nat) (t23 : Int) (h3_1 : Nat → Int) (h3_2 : Nat → Int),
    loopN (trimSt ((E_i_Grid_led_l0_s5 α N).ann 58 6).head ((E_i_Grid_led_l0_s5 α N).ann 58 6).grow 4) (bodyK Try.prog (E_i_Grid_led_l0_s5 α N) 1 1 58 Try.f58 6) m (buildS i_Grid_led_l0_s6_p [.i t22, .i t23, .i h0, .i h1_0, .f h1_1, .f h1_2, .i h2_0, .f h2_1, .f h2_2, .i h3_0, .f h3_1, .f h3_2]) (leaveLoop ((E_i_Grid_led_l0_s5 α N).ann 58 6) 4 K) = i_Grid_led_l0_s6 none N t22 h0 h1_0 h1_1 h1_2 h2_0 h2_1 h2_2 h3_0 m t23 h3_1 h3_2 (fun h3_1_ h3_2_ => K (.exit 0) (buildS i_Grid_led_l0_s6_o0 [.i h0, .i h1_0, .f h1_1, .f h1_2, .i h2_0, .f h2_1, .f h2_2, .i h3_0, .f h3_1_, .f h3_2_])) := by
  intro m
  induction m with
  | zero => intros; rfl
  | succ m ih =>
    intro t23 h3_1 h3_2
    rw [loopN_round]
    refine (i_Grid_led_l0_s6_round N t22 t23 h0 h1_0 h1_1 h1_2 h2_0 h2_1 h2_2 h3_0 h3_1 h3_2 _ K).trans ?_
    simp only [ih]
    rfl
def E_i_Grid_led_l0_s6 (α : Type) (N : Nat) : Env α := (E_i_Grid_led_l0_s5 α N).addLoop2 58 6 (loopSum2 ((E_i_Grid_led_l0_s5 α N).ann 58 6) 1 i_Grid_led_l0_s6_p (fun l K => match l with
    | [.i t22, .i t23, .i h0, .i h1_0, .f h1_1, .f h1_2, .i h2_0, .f h2_1, .f h2_2, .i h3_0, .f h3_1, .f h3_2] => i_Grid_led_l0_s6 none N t22 h0 h1_0 h1_1 h1_2 h2_0 h2_1 h2_2 h3_0 N t23 h3_1 h3_2 (fun h3_1_ h3_2_ => K (.exit 0) (buildS i_Grid_led_l0_s6_o0 [.i h0, .i h1_0, .f h1_1, .f h1_2, .i h2_0, .f h2_1, .f h2_2, .i h3_0, .f h3_1_, .f h3_2_]))
    | _ => none) ((E_i_Grid_led_l0_s5 α N).ls 58 6))
theorem E_i_Grid_led_l0_s6_ok {α : Type} (N : Nat) : EnvOk Try.prog (E_i_Grid_led_l0_s6 α N) := (E_i_Grid_led_l0_s5_ok N).addLoop2 Try.func58 (by kernel_rfl) (loopSum_ok prog_mixed prog_names (E_i_Grid_led_l0_s5_ok N) Try.func58 (by kernel_rfl) (d := 1) (ro := 1) fun l K r h => by
  split at h
  · exact (i_Grid_led_l0_s6_loop N _ _ _ _ _ _ _ _ _ K N _ _ _).trans h
  · cases h)

/-- (impl.Grid).led -/
def i_Grid_led_s3_a : SPat := ⟨[.agg [.vals [.int .i64], .ints .u8 8, .ints .u8 8], .func 59 [.ptr ⟨⟨0, 0⟩, 0, 0, 1⟩], .bool], [[.vals [.int .i64]]]⟩
def i_Grid_led_s3_r0 : SPat := ⟨[.agg [.vals [.int .i64], .ints .u8 8, .ints .u8 8]], [[.vals [.int .i64]]]⟩
theorem i_Grid_led_s3_run {α : Type} (N : Nat) (g_0 : Int) (g_1 : Nat → Int) (g_2 : Nat → Int) (exchanged : Bool) (h0 : Int) (K : AV → Heap → Option α) :
    callK Try.prog (E_i_Grid_led_l0_s6 α N) 1 58 1 (buildS i_Grid_led_s3_a [.i g_0, .f g_1, .f g_2, .b exchanged, .i h0]).t (buildS i_Grid_led_s3_a [.i g_0, .f g_1, .f g_2, .b exchanged, .i h0]).h K = i_Grid_led_s3 none N g_0 g_1 g_2 exchanged h0 (fun r_1_ r_2_ => retK (buildS i_Grid_led_s3_r0 [.i g_0, .f r_1_, .f r_2_, .i h0]) K) := by kernel_rfl
def E_i_Grid_led_s3 (α : Type) (N : Nat) : Env α := (E_i_Grid_led_l0_s6 α N).addFun 58 true 1 i_Grid_led_s3_a (fun l K => match l with
    | [.i g_0, .f g_1, .f g_2, .b exchanged, .i h0] => i_Grid_led_s3 none N g_0 g_1 g_2 exchanged h0 (fun r_1_ r_2_ => retK (buildS i_Grid_led_s3_r0 [.i g_0, .f r_1_, .f r_2_, .i h0]) K)
    | _ => none)
theorem E_i_Grid_led_s3_ok {α : Type} (N : Nat) : EnvOk Try.prog (E_i_Grid_led_s3 α N) := (E_i_Grid_led_l0_s6_ok N).addFun prog_mixed prog_names (d := 1) fun l K r h => by
  split at h
  · exact (i_Grid_led_s3_run N _ _ _ _ _ K).trans h
  · cases h

/-- (impl.Grid).swapRows -/
def i_Grid_swapRows_a : SPat := ⟨[.agg [.vals [.int .i64], .ints .u8 8, .ints .u8 8], .int .i64], []⟩
def i_Grid_swapRows_r0 : SPat := ⟨[.agg [.vals [.int .i64], .ints .u8 8, .ints .u8 8]], []⟩
theorem i_Grid_swapRows_run {α : Type} (N : Nat) (g_0 : Int) (g_1 : Nat → Int) (g_2 : Nat → Int) (r_ : Int) (K : AV → Heap → Option α) :
    callK Try.prog (E_i_Grid_led_s3 α N) 1 35 0 (buildS i_Grid_swapRows_a [.i g_0, .f g_1, .f g_2, .i r_]).t (buildS i_Grid_swapRows_a [.i g_0, .f g_1, .f g_2, .i r_]).h K = i_Grid_swapRows none N g_0 g_1 g_2 r_ (fun r_1_ r_2_ => retK (buildS i_Grid_swapRows_r0 [.i g_0, .f r_1_, .f r_2_]) K) := by kernel_rfl
def E_i_Grid_swapRows (α : Type) (N : Nat) : Env α := (E_i_Grid_led_s3 α N).addFun 35 true 0 i_Grid_swapRows_a (fun l K => match l with
    | [.i g_0, .f g_1, .f g_2, .i r_] => i_Grid_swapRows none N g_0 g_1 g_2 r_ (fun r_1_ r_2_ => retK (buildS i_Grid_swapRows_r0 [.i g_0, .f r_1_, .f r_2_]) K)
    | _ => none)
theorem E_i_Grid_swapRows_ok {α : Type} (N : Nat) : EnvOk Try.prog (E_i_Grid_swapRows α N) := (E_i_Grid_led_s3_ok N).addFun prog_mixed prog_names (d := 1) fun l K r h => by
  split at h
  · exact (i_Grid_swapRows_run N _ _ _ _ K).trans h
  · cases h

/-- (impl.Move).growth -/
def i_Move_growth_a : SPat := ⟨[.agg [.ints .i64 6]], []⟩
def i_Move_growth_r0 : SPat := ⟨[.agg [.ints .i64 4]], []⟩
theorem i_Move_growth_run {α : Type} (N : Nat) (m_ : Nat → Int) (K : AV → Heap → Option α) :
    callK Try.prog (E_i_Grid_swapRows α N) 1 70 0 (buildS i_Move_growth_a [.f m_]).t (buildS i_Move_growth_a [.f m_]).h K = i_Move_growth none N m_ (fun r__ => retK (buildS i_Move_growth_r0 [.f r__]) K) := by kernel_rfl
def E_i_Move_growth (α : Type) (N : Nat) : Env α := (E_i_Grid_swapRows α N).addFun 70 true 0 i_Move_growth_a (fun l K => match l with
    | [.f m_] => i_Move_growth none N m_ (fun r__ => retK (buildS i_Move_growth_r0 [.f r__]) K)
    | _ => none)
theorem E_i_Move_growth_ok {α : Type} (N : Nat) : EnvOk Try.prog (E_i_Move_growth α N) := (E_i_Grid_swapRows_ok N).addFun prog_mixed prog_names (d := 1) fun l K r h => by
  split at h
  · exact (i_Move_growth_run N _ K).trans h
  · cases h

/-- (impl.Grid).moved -/
def i_Grid_moved_a : SPat := ⟨[.agg [.vals [.int .i64], .ints .u8 8, .ints .u8 8], .agg [.ints .i64 6]], []⟩
def i_Grid_moved_r0 : SPat := ⟨[.agg [.vals [.int .i64], .ints .u8 8, .ints .u8 8]], []⟩
theorem i_Grid_moved_run {α : Type} (N : Nat) (g_0 : Int) (g_1 : Nat → Int) (g_2 : Nat → Int) (m_ : Nat → Int) (K : AV → Heap → Option α) :
    callK Try.prog (E_i_Move_growth α N) 1 49 0 (buildS i_Grid_moved_a [.i g_0, .f g_1, .f g_2, .f m_]).t (buildS i_Grid_moved_a [.i g_0, .f g_1, .f g_2, .f m_]).h K = i_Grid_moved none N g_0 g_1 g_2 m_ (fun r_0_ r_1_ r_2_ => retK (buildS i_Grid_moved_r0 [.i r_0_, .f r_1_, .f r_2_]) K) := by kernel_rfl
def E_i_Grid_moved (α : Type) (N : Nat) : Env α := (E_i_Move_growth α N).addFun 49 true 0 i_Grid_moved_a (fun l K => match l with
    | [.i g_0, .f g_1, .f g_2, .f m_] => i_Grid_moved none N g_0 g_1 g_2 m_ (fun r_0_ r_1_ r_2_ => retK (buildS i_Grid_moved_r0 [.i r_0_, .f r_1_, .f r_2_]) K)
    | _ => none)
theorem E_i_Grid_moved_ok {α : Type} (N : Nat) : EnvOk Try.prog (E_i_Grid_moved α N) := (E_i_Move_growth_ok N).addFun prog_mixed prog_names (d := 1) fun l K r h => by
  split at h
  · exact (i_Grid_moved_run N _ _ _ _ K).trans h
  · cases h

/-- impl.RunMoves, loop -/
def i_RunMoves_l0_s2_p : SPat := ⟨[.undef, .undef, .ptr ⟨⟨1, 0⟩, 0, 0, 1⟩, .undef, .ptr ⟨⟨2, 0⟩, 0, 0, 1⟩, .undef, .undef, .undef, .undef, .undef, .undef, .undef, .sliceV 0 0 0 6 true, .int .i64, .int .i64] ++ List.replicate 13 .undef, [[.intsV .i64], [.vals [.int .i64], .ints .u8 8, .ints .u8 8], [.vals [.int .i64], .ints .u8 8, .ints .u8 8]]⟩
def i_RunMoves_l0_s2_o0 : SPat := ⟨[.undef, .undef, .undef, .undef, .ptr ⟨⟨2, 0⟩, 0, 0, 1⟩, .intC .i64 5] ++ List.replicate 22 .undef, [[.intsV .i64], [.vals [.int .i64], .ints .u8 8, .ints .u8 8], [.vals [.intC .i64 0], .ints .u8 8, .ints .u8 8]]⟩
def i_RunMoves_l0_s2_o1 : SPat := ⟨[.undef, .undef, .ptr ⟨⟨1, 0⟩, 0, 0, 1⟩, .undef, .ptr ⟨⟨2, 0⟩, 0, 0, 1⟩] ++ List.replicate 23 .undef, [[.intsV .i64], [.vals [.int .i64], .ints .u8 8, .ints .u8 8], [.vals [.int .i64], .ints .u8 8, .ints .u8 8]]⟩
theorem i_RunMoves_l0_s2_round {α : Type} (N : Nat) (t12_n : Nat) (t12_l : Nat) (t12_c : Nat) (t13 : Int) (t14 : Int) (h0_n : Nat) (h0 : Nat → Int) (h1_0 : Int) (h1_1 : Nat → Int) (h1_2 : Nat → Int) (h2_0 : Int) (h2_1 : Nat → Int) (h2_2 : Nat → Int) (kn : St → Option α) (K : AExit → St → Option α) :
    roundK Try.prog (E_i_Grid_moved α N) 1 1 26 Try.f26 4 3 (buildS i_RunMoves_l0_s2_p [.n t12_n, .n t12_l, .n t12_c, .i t13, .i t14, .n h0_n, .f h0, .i h1_0, .f h1_1, .f h1_2, .i h2_0, .f h2_1, .f h2_2]) kn K = i_RunMoves_l0_s2_s none N t12_n t12_l t12_c t13 h0_n h0 h2_0 h2_1 h2_2 t14 h1_0 h1_1 h1_2 (fun t14 h1_0 h1_1 h1_2 => kn (buildS i_RunMoves_l0_s2_p [.n t12_n, .n t12_l, .n t12_c, .i t13, .i t14, .n h0_n, .f h0, .i h1_0, .f h1_1, .f h1_2, .i h2_0, .f h2_1, .f h2_2])) (fun h1_0_ h1_1_ h1_2_ h2_1_ h2_2_ => K .ret (buildS i_RunMoves_l0_s2_o0 [.n h0_n, .f h0, .i h1_0_, .f h1_1_, .f h1_2_, .f h2_1_, .f h2_2_])) (fun h1_0_ h1_1_ h1_2_ => K (.exit 0) (buildS i_RunMoves_l0_s2_o1 [.n h0_n, .f h0, .i h1_0_, .f h1_1_, .f h1_2_, .i h2_0, .f h2_1, .f h2_2])) := by kernel_rfl
theorem i_RunMoves_l0_s2_loop {α : Type} (N : Nat) (t12_n : Nat) (t12_l : Nat) (t12_c : Nat) (t13 : Int) (h0_n : Nat) (h0 : Nat → Int) (h2_0 : Int) (h2_1 : Nat → Int) (h2_2 : Nat → Int) (K : AExit → St → Option α) : ∀ (m : Nat) (t14 : Int) (h1_0 : Int) (h1_1 : Nat → Int) (h1_2 : Nat → Int),
    loopN (trimSt ((E_i_Grid_moved α N).ann 26 4).head ((E_i_Grid_moved α N).ann 26 4).grow 3) (bodyK Try.prog (E_i_Grid_moved α N) 1 1 26 Try.f26 4) m (buildS i_RunMoves_l0_s2_p [.n t12_n, .n t12_l, .n t12_c, .i t13, .i t14, .n h0_n, .f h0, .i h1_0, .f h1_1, .f h1_2, .i h2_0, .f h2_1, .f h2_2]) (leaveLoop ((E_i_Grid_moved α N).ann 26 4) 3 K) = i_RunMoves_l0_s2 none N t12_n t12_l t12_c t13 h0_n h0 h2_0 h2_1 h2_2 m t14 h1_0 h1_1 h1_2 (fun h1_0_ h1_1_ h1_2_ h2_1_ h2_2_ => K .ret (buildS i_RunMoves_l0_s2_o0 [.n h0_n, .f h0, .i h1_0_, .f h1_1_, .f h1_2_, .f h2_1_, .f h2_2_])) (fun h1_0_ h1_1_ h1_2_ => K (.exit 0) (buildS i_RunMoves_l0_s2_o1 [.n h0_n, .f h0, .i h1_0_, .f h1_1_, .f h1_2_, .i h2_0, .f h2_1, .f h2_2])) := by
  intro m
  induction m with
  | zero => intros; rfl
  | succ m ih =>
    intro t14 h1_0 h1_1 h1_2
    rw [loopN_round]
    refine (i_RunMoves_l0_s2_round N t12_n t12_l t12_c t13 t14 h0_n h0 h1_0 h1_1 h1_2 h2_0 h2_1 h2_2 _ K).trans ?_
    simp only [ih]
    rfl
def E_i_RunMoves_l0_s2 (α : Type) (N : Nat) : Env α := (E_i_Grid_moved α N).addLoop2 26 4 (loopSum2 ((E_i_Grid_moved α N).ann 26 4) 1 i_RunMoves_l0_s2_p (fun l K => match l with
    | [.n t12_n, .n t12_l, .n t12_c, .i t13, .i t14, .n h0_n, .f h0, .i h1_0, .f h1_1, .f h1_2, .i h2_0, .f h2_1, .f h2_2] => i_RunMoves_l0_s2 none N t12_n t12_l t12_c t13 h0_n h0 h2_0 h2_1 h2_2 N t14 h1_0 h1_1 h1_2 (fun h1_0_ h1_1_ h1_2_ h2_1_ h2_2_ => K .ret (buildS i_RunMoves_l0_s2_o0 [.n h0_n, .f h0, .i h1_0_, .f h1_1_, .f h1_2_, .f h2_1_, .f h2_2_])) (fun h1_0_ h1_1_ h1_2_ => K (.exit 0) (buildS i_RunMoves_l0_s2_o1 [.n h0_n, .f h0, .i h1_0_, .f h1_1_, .f h1_2_, .i h2_0, .f h2_1, .f h2_2]))
    | _ => none) ((E_i_Grid_moved α N).ls 26 4))
theorem E_i_RunMoves_l0_s2_ok {α : Type} (N : Nat) : EnvOk Try.prog (E_i_RunMoves_l0_s2 α N) := (E_i_Grid_moved_ok N).addLoop2 Try.func26 (by kernel_rfl) (loopSum_ok prog_mixed prog_names (E_i_Grid_moved_ok N) Try.func26 (by kernel_rfl) (d := 1) (ro := 1) fun l K r h => by
  split at h
  · exact (i_RunMoves_l0_s2_loop N _ _ _ _ _ _ _ _ _ K N _ _ _ _).trans h
  · cases h)

/-- impl.RunMoves -/
def i_RunMoves_s2_a : SPat := ⟨[.agg [.vals [.int .i64], .ints .u8 8, .ints .u8 8], .sliceV 0 0 0 6 true], [[.intsV .i64]]⟩
def i_RunMoves_s2_r0 : SPat := ⟨[.tuple [.agg [.vals [.int .i64], .ints .u8 8, .ints .u8 8], .int .i64]], [[.intsV .i64]]⟩
theorem i_RunMoves_s2_run {α : Type} (N : Nat) (g_0 : Int) (g_1 : Nat → Int) (g_2 : Nat → Int) (list_n : Nat) (list_l : Nat) (list_c : Nat) (h0_n : Nat) (h0 : Nat → Int) (K : AV → Heap → Option α) :
    callK Try.prog (E_i_RunMoves_l0_s2 α N) 1 26 1 (buildS i_RunMoves_s2_a [.i g_0, .f g_1, .f g_2, .n list_n, .n list_l, .n list_c, .n h0_n, .f h0]).t (buildS i_RunMoves_s2_a [.i g_0, .f g_1, .f g_2, .n list_n, .n list_l, .n list_c, .n h0_n, .f h0]).h K = i_RunMoves_s2 none N g_0 g_1 g_2 list_n list_l list_c h0_n h0 (fun r_0_0_ r_0_1_ r_0_2_ r_1_ => retK (buildS i_RunMoves_s2_r0 [.i r_0_0_, .f r_0_1_, .f r_0_2_, .i r_1_, .n h0_n, .f h0]) K) := by kernel_rfl
def E_i_RunMoves_s2 (α : Type) (N : Nat) : Env α := (E_i_RunMoves_l0_s2 α N).addFun 26 true 1 i_RunMoves_s2_a (fun l K => match l with
    | [.i g_0, .f g_1, .f g_2, .n list_n, .n list_l, .n list_c, .n h0_n, .f h0] => i_RunMoves_s2 none N g_0 g_1 g_2 list_n list_l list_c h0_n h0 (fun r_0_0_ r_0_1_ r_0_2_ r_1_ => retK (buildS i_RunMoves_s2_r0 [.i r_0_0_, .f r_0_1_, .f r_0_2_, .i r_1_, .n h0_n, .f h0]) K)
    | _ => none)
theorem E_i_RunMoves_s2_ok {α : Type} (N : Nat) : EnvOk Try.prog (E_i_RunMoves_s2 α N) := (E_i_RunMoves_l0_s2_ok N).addFun prog_mixed prog_names (d := 1) fun l K r h => by
  split at h
  · exact (i_RunMoves_s2_run N _ _ _ _ _ _ _ _ K).trans h
  · cases h

def A_w_eqByteA8_l0 (α : Type) (N : Nat) : Env α := (E_i_RunMoves_s2 α N).addAnn 44 2 { head := [2, 3, 5], grow := [], out := [], ret := [4] }
theorem A_w_eqByteA8_l0_ok {α : Type} (N : Nat) : EnvOk Try.prog (A_w_eqByteA8_l0 α N) := (E_i_RunMoves_s2_ok N).addAnn

/-- laws.eqByteA8, loop -/
def w_eqByteA8_l0_p : SPat := ⟨[.undef, .undef, .ptr ⟨⟨0, 0⟩, 0, 0, 8⟩, .ptr ⟨⟨1, 0⟩, 0, 0, 8⟩, .undef, .int .i64] ++ List.replicate 11 .undef, [[.ints .u8 8], [.ints .u8 8]]⟩
def w_eqByteA8_l0_o0 : SPat := ⟨[.undef, .undef, .undef, .undef, .boolC false] ++ List.replicate 12 .undef, [[.ints .u8 8], [.ints .u8 8]]⟩
def w_eqByteA8_l0_o1 : SPat := ⟨[] ++ List.replicate 17 .undef, [[.ints .u8 8], [.ints .u8 8]]⟩
theorem w_eqByteA8_l0_round {α : Type} (N : Nat) (i : Int) (h0 : Nat → Int) (h1 : Nat → Int) (kn : St → Option α) (K : AExit → St → Option α) :
    roundK Try.prog (A_w_eqByteA8_l0 α N) 1 0 44 Try.f44 2 2 (buildS w_eqByteA8_l0_p [.i i, .f h0, .f h1]) kn K = w_eqByteA8_l0_s none h0 h1 i (fun i => kn (buildS w_eqByteA8_l0_p [.i i, .f h0, .f h1])) (K .ret (buildS w_eqByteA8_l0_o0 [.f h0, .f h1])) (K (.exit 0) (buildS w_eqByteA8_l0_o1 [.f h0, .f h1])) := by kernel_rfl
theorem w_eqByteA8_l0_loop {α : Type} (N : Nat) (h0 : Nat → Int) (h1 : Nat → Int) (K : AExit → St → Option α) : ∀ (m : Nat) (i : Int),
    loopN (trimSt ((A_w_eqByteA8_l0 α N).ann 44 2).head ((A_w_eqByteA8_l0 α N).ann 44 2).grow 2) (bodyK Try.prog (A_w_eqByteA8_l0 α N) 1 0 44 Try.f44 2) m (buildS w_eqByteA8_l0_p [.i i, .f h0, .f h1]) (leaveLoop ((A_w_eqByteA8_l0 α N).ann 44 2) 2 K) = w_eqByteA8_l0 none h0 h1 m i (K .ret (buildS w_eqByteA8_l0_o0 [.f h0, .f h1])) (K (.exit 0) (buildS w_eqByteA8_l0_o1 [.f h0, .f h1])) := by
  intro m
  induction m with
  | zero => intros; rfl
  | succ m ih =>
    intro i
    rw [loopN_round]
    refine (w_eqByteA8_l0_round N i h0 h1 _ K).trans ?_
    simp only [ih]
    rfl
def E_w_eqByteA8_l0 (α : Type) (N : Nat) : Env α := (A_w_eqByteA8_l0 α N).addLoop2 44 2 (loopSum2 ((A_w_eqByteA8_l0 α N).ann 44 2) 0 w_eqByteA8_l0_p (fun l K => match l with
    | [.i i, .f h0, .f h1] => w_eqByteA8_l0 none h0 h1 N i (K .ret (buildS w_eqByteA8_l0_o0 [.f h0, .f h1])) (K (.exit 0) (buildS w_eqByteA8_l0_o1 [.f h0, .f h1]))
    | _ => none) ((A_w_eqByteA8_l0 α N).ls 44 2))
theorem E_w_eqByteA8_l0_ok {α : Type} (N : Nat) : EnvOk Try.prog (E_w_eqByteA8_l0 α N) := (A_w_eqByteA8_l0_ok N).addLoop2 Try.func44 (by kernel_rfl) (loopSum_ok prog_mixed prog_names (A_w_eqByteA8_l0_ok N) Try.func44 (by kernel_rfl) (d := 1) (ro := 0) fun l K r h => by
  split at h
  · exact (w_eqByteA8_l0_loop N _ _ K N _).trans h
  · cases h)

/-- laws.eqByteA8 -/
def w_eqByteA8_a : SPat := ⟨[.agg [.ints .u8 8], .agg [.ints .u8 8]], []⟩
def w_eqByteA8_r0 : SPat := ⟨[.bool], []⟩
theorem w_eqByteA8_run {α : Type} (N : Nat) (a : Nat → Int) (b : Nat → Int) (K : AV → Heap → Option α) :
    callK Try.prog (E_w_eqByteA8_l0 α N) 1 44 0 (buildS w_eqByteA8_a [.f a, .f b]).t (buildS w_eqByteA8_a [.f a, .f b]).h K = w_eqByteA8 none N a b (fun r__ => retK (buildS w_eqByteA8_r0 [.b r__]) K) := by kernel_rfl
def E_w_eqByteA8 (α : Type) (N : Nat) : Env α := (E_w_eqByteA8_l0 α N).addFun 44 true 0 w_eqByteA8_a (fun l K => match l with
    | [.f a, .f b] => w_eqByteA8 none N a b (fun r__ => retK (buildS w_eqByteA8_r0 [.b r__]) K)
    | _ => none)
theorem E_w_eqByteA8_ok {α : Type} (N : Nat) : EnvOk Try.prog (E_w_eqByteA8 α N) := (E_w_eqByteA8_l0_ok N).addFun prog_mixed prog_names (d := 1) fun l K r h => by
  split at h
  · exact (w_eqByteA8_run N _ _ K).trans h
  · cases h

/-- laws.eqGrid -/
def w_eqGrid_a : SPat := ⟨[.agg [.vals [.int .i64], .ints .u8 8, .ints .u8 8], .agg [.vals [.int .i64], .ints .u8 8, .ints .u8 8]], []⟩
def w_eqGrid_r0 : SPat := ⟨[.bool], []⟩
theorem w_eqGrid_run {α : Type} (N : Nat) (a_0 : Int) (a_1 : Nat → Int) (a_2 : Nat → Int) (b_0 : Int) (b_1 : Nat → Int) (b_2 : Nat → Int) (K : AV → Heap → Option α) :
    callK Try.prog (E_w_eqByteA8 α N) 1 22 0 (buildS w_eqGrid_a [.i a_0, .f a_1, .f a_2, .i b_0, .f b_1, .f b_2]).t (buildS w_eqGrid_a [.i a_0, .f a_1, .f a_2, .i b_0, .f b_1, .f b_2]).h K = w_eqGrid none N a_0 a_1 a_2 b_0 b_1 b_2 (fun r__ => retK (buildS w_eqGrid_r0 [.b r__]) K) := by kernel_rfl
def E_w_eqGrid (α : Type) (N : Nat) : Env α := (E_w_eqByteA8 α N).addFun 22 true 0 w_eqGrid_a (fun l K => match l with
    | [.i a_0, .f a_1, .f a_2, .i b_0, .f b_1, .f b_2] => w_eqGrid none N a_0 a_1 a_2 b_0 b_1 b_2 (fun r__ => retK (buildS w_eqGrid_r0 [.b r__]) K)
    | _ => none)
theorem E_w_eqGrid_ok {α : Type} (N : Nat) : EnvOk Try.prog (E_w_eqGrid α N) := (E_w_eqByteA8_ok N).addFun prog_mixed prog_names (d := 1) fun l K r h => by
  split at h
  · exact (w_eqGrid_run N _ _ _ _ _ _ K).trans h
  · cases h

def A_w_eqMoveS_l0 (α : Type) (N : Nat) : Env α := (E_w_eqGrid α N).addAnn 27 4 { head := [0, 1, 5], grow := [], out := [], ret := [4] }
theorem A_w_eqMoveS_l0_ok {α : Type} (N : Nat) : EnvOk Try.prog (A_w_eqMoveS_l0 α N) := (E_w_eqGrid_ok N).addAnn

/-- laws.eqMove -/
def w_eqMove_a : SPat := ⟨[.agg [.ints .i64 6], .agg [.ints .i64 6]], []⟩
def w_eqMove_r0 : SPat := ⟨[.bool], []⟩
theorem w_eqMove_run {α : Type} (N : Nat) (a : Nat → Int) (b : Nat → Int) (K : AV → Heap → Option α) :
    callK Try.prog (A_w_eqMoveS_l0 α N) 1 50 0 (buildS w_eqMove_a [.f a, .f b]).t (buildS w_eqMove_a [.f a, .f b]).h K = w_eqMove none N a b (fun r__ => retK (buildS w_eqMove_r0 [.b r__]) K) := by kernel_rfl
def E_w_eqMove (α : Type) (N : Nat) : Env α := (A_w_eqMoveS_l0 α N).addFun 50 true 0 w_eqMove_a (fun l K => match l with
    | [.f a, .f b] => w_eqMove none N a b (fun r__ => retK (buildS w_eqMove_r0 [.b r__]) K)
    | _ => none)
theorem E_w_eqMove_ok {α : Type} (N : Nat) : EnvOk Try.prog (E_w_eqMove α N) := (A_w_eqMoveS_l0_ok N).addFun prog_mixed prog_names (d := 1) fun l K r h => by
  split at h
  · exact (w_eqMove_run N _ _ K).trans h
  · cases h

/-- laws.eqMoveS, loop -/
def w_eqMoveS_l0_p : SPat := ⟨[.sliceV 0 0 0 6 true, .sliceV 1 0 0 6 true, .undef, .undef, .undef, .int .i64] ++ List.replicate 21 .undef, [[.intsV .i64], [.intsV .i64]]⟩
def w_eqMoveS_l0_o0 : SPat := ⟨[.undef, .undef, .undef, .undef, .boolC false] ++ List.replicate 22 .undef, [[.intsV .i64], [.intsV .i64]]⟩
def w_eqMoveS_l0_o1 : SPat := ⟨[] ++ List.replicate 27 .undef, [[.intsV .i64], [.intsV .i64]]⟩
theorem w_eqMoveS_l0_round {α : Type} (N : Nat) (a_n : Nat) (a_l : Nat) (a_c : Nat) (b_n : Nat) (b_l : Nat) (b_c : Nat) (i : Int) (h0_n : Nat) (h0 : Nat → Int) (h1_n : Nat) (h1 : Nat → Int) (kn : St → Option α) (K : AExit → St → Option α) :
    roundK Try.prog (E_w_eqMove α N) 1 2 27 Try.f27 4 2 (buildS w_eqMoveS_l0_p [.n a_n, .n a_l, .n a_c, .n b_n, .n b_l, .n b_c, .i i, .n h0_n, .f h0, .n h1_n, .f h1]) kn K = w_eqMoveS_l0_s none N a_n a_l a_c b_n b_l b_c h0_n h0 h1_n h1 i (fun i => kn (buildS w_eqMoveS_l0_p [.n a_n, .n a_l, .n a_c, .n b_n, .n b_l, .n b_c, .i i, .n h0_n, .f h0, .n h1_n, .f h1])) (K .ret (buildS w_eqMoveS_l0_o0 [.n h0_n, .f h0, .n h1_n, .f h1])) (K (.exit 0) (buildS w_eqMoveS_l0_o1 [.n h0_n, .f h0, .n h1_n, .f h1])) := by kernel_rfl
theorem w_eqMoveS_l0_loop {α : Type} (N : Nat) (a_n : Nat) (a_l : Nat) (a_c : Nat) (b_n : Nat) (b_l : Nat) (b_c : Nat) (h0_n : Nat) (h0 : Nat → Int) (h1_n : Nat) (h1 : Nat → Int) (K : AExit → St → Option α) : ∀ (m : Nat) (i : Int),
    loopN (trimSt ((E_w_eqMove α N).ann 27 4).head ((E_w_eqMove α N).ann 27 4).grow 2) (bodyK Try.prog (E_w_eqMove α N) 1 2 27 Try.f27 4) m (buildS w_eqMoveS_l0_p [.n a_n, .n a_l, .n a_c, .n b_n, .n b_l, .n b_c, .i i, .n h0_n, .f h0, .n h1_n, .f h1]) (leaveLoop ((E_w_eqMove α N).ann 27 4) 2 K) = w_eqMoveS_l0 none N a_n a_l a_c b_n b_l b_c h0_n h0 h1_n h1 m i (K .ret (buildS w_eqMoveS_l0_o0 [.n h0_n, .f h0, .n h1_n, .f h1])) (K (.exit 0) (buildS w_eqMoveS_l0_o1 [.n h0_n, .f h0, .n h1_n, .f h1])) := by
  intro m
  induction m with
  | zero => intros; rfl
  | succ m ih =>
    intro i
    rw [loopN_round]
    refine (w_eqMoveS_l0_round N a_n a_l a_c b_n b_l b_c i h0_n h0 h1_n h1 _ K).trans ?_
    simp only [ih]
    rfl
def E_w_eqMoveS_l0 (α : Type) (N : Nat) : Env α := (E_w_eqMove α N).addLoop2 27 4 (loopSum2 ((E_w_eqMove α N).ann 27 4) 2 w_eqMoveS_l0_p (fun l K => match l with
    | [.n a_n, .n a_l, .n a_c, .n b_n, .n b_l, .n b_c, .i i, .n h0_n, .f h0, .n h1_n, .f h1] => w_eqMoveS_l0 none N a_n a_l a_c b_n b_l b_c h0_n h0 h1_n h1 N i (K .ret (buildS w_eqMoveS_l0_o0 [.n h0_n, .f h0, .n h1_n, .f h1])) (K (.exit 0) (buildS w_eqMoveS_l0_o1 [.n h0_n, .f h0, .n h1_n, .f h1]))
    | _ => none) ((E_w_eqMove α N).ls 27 4))
theorem E_w_eqMoveS_l0_ok {α : Type} (N : Nat) : EnvOk Try.prog (E_w_eqMoveS_l0 α N) := (E_w_eqMove_ok N).addLoop2 Try.func27 (by kernel_rfl) (loopSum_ok prog_mixed prog_names (E_w_eqMove_ok N) Try.func27 (by kernel_rfl) (d := 1) (ro := 2) fun l K r h => by
  split at h
  · exact (w_eqMoveS_l0_loop N _ _ _ _ _ _ _ _ _ _ K N _).trans h
  · cases h)

/-- laws.eqMoveS -/
def w_eqMoveS_a : SPat := ⟨[.sliceV 0 0 0 6 true, .sliceV 1 0 0 6 true], [[.intsV .i64], [.intsV .i64]]⟩
def w_eqMoveS_r0 : SPat := ⟨[.bool], [[.intsV .i64], [.intsV .i64]]⟩
theorem w_eqMoveS_run {α : Type} (N : Nat) (a_n : Nat) (a_l : Nat) (a_c : Nat) (b_n : Nat) (b_l : Nat) (b_c : Nat) (h0_n : Nat) (h0 : Nat → Int) (h1_n : Nat) (h1 : Nat → Int) (K : AV → Heap → Option α) :
    callK Try.prog (E_w_eqMoveS_l0 α N) 1 27 2 (buildS w_eqMoveS_a [.n a_n, .n a_l, .n a_c, .n b_n, .n b_l, .n b_c, .n h0_n, .f h0, .n h1_n, .f h1]).t (buildS w_eqMoveS_a [.n a_n, .n a_l, .n a_c, .n b_n, .n b_l, .n b_c, .n h0_n, .f h0, .n h1_n, .f h1]).h K = w_eqMoveS none N a_n a_l a_c b_n b_l b_c h0_n h0 h1_n h1 (fun r__ => retK (buildS w_eqMoveS_r0 [.b r__, .n h0_n, .f h0, .n h1_n, .f h1]) K) := by kernel_rfl
def E_w_eqMoveS (α : Type) (N : Nat) : Env α := (E_w_eqMoveS_l0 α N).addFun 27 true 2 w_eqMoveS_a (fun l K => match l with
    | [.n a_n, .n a_l, .n a_c, .n b_n, .n b_l, .n b_c, .n h0_n, .f h0, .n h1_n, .f h1] => w_eqMoveS none N a_n a_l a_c b_n b_l b_c h0_n h0 h1_n h1 (fun r__ => retK (buildS w_eqMoveS_r0 [.b r__, .n h0_n, .f h0, .n h1_n, .f h1]) K)
    | _ => none)
theorem E_w_eqMoveS_ok {α : Type} (N : Nat) : EnvOk Try.prog (E_w_eqMoveS α N) := (E_w_eqMoveS_l0_ok N).addFun prog_mixed prog_names (d := 1) fun l K r h => by
  split at h
  · exact (w_eqMoveS_run N _ _ _ _ _ _ _ _ _ _ K).trans h
  · cases h

/-- laws.FnExactRunMoves -/
def w_FnExactRunMoves_a : SPat := ⟨[.agg [.vals [.int .i64], .ints .u8 8, .ints .u8 8], .sliceV 0 0 0 6 false], [[.intsV .i64]]⟩
def w_FnExactRunMoves_r0 : SPat := ⟨[.bool], [[.intsV .i64]]⟩
theorem w_FnExactRunMoves_run {α : Type} (N : Nat) (aG_0 : Int) (aG_1 : Nat → Int) (aG_2 : Nat → Int) (aList_n : Nat) (aList_l : Nat) (aList_c : Nat) (h0_n : Nat) (h0 : Nat → Int) (K : AV → Heap → Option α) :
    callK Try.prog (E_w_eqMoveS α N) 1 5 1 (buildS w_FnExactRunMoves_a [.i aG_0, .f aG_1, .f aG_2, .n aList_n, .n aList_l, .n aList_c, .n h0_n, .f h0]).t (buildS w_FnExactRunMoves_a [.i aG_0, .f aG_1, .f aG_2, .n aList_n, .n aList_l, .n aList_c, .n h0_n, .f h0]).h K = w_FnExactRunMoves none N aG_0 aG_1 aG_2 aList_n aList_l aList_c h0_n h0 (fun r__ => retK (buildS w_FnExactRunMoves_r0 [.b r__, .n h0_n, .f h0]) K) := by kernel_rfl
def E_w_FnExactRunMoves (α : Type) (N : Nat) : Env α := (E_w_eqMoveS α N).addFun 5 true 1 w_FnExactRunMoves_a (fun l K => match l with
    | [.i aG_0, .f aG_1, .f aG_2, .n aList_n, .n aList_l, .n aList_c, .n h0_n, .f h0] => w_FnExactRunMoves none N aG_0 aG_1 aG_2 aList_n aList_l aList_c h0_n h0 (fun r__ => retK (buildS w_FnExactRunMoves_r0 [.b r__, .n h0_n, .f h0]) K)
    | _ => none)
theorem E_w_FnExactRunMoves_ok {α : Type} (N : Nat) : EnvOk Try.prog (E_w_FnExactRunMoves α N) := (E_w_eqMoveS_ok N).addFun prog_mixed prog_names (d := 1) fun l K r h => by
  split at h
  · exact (w_FnExactRunMoves_run N _ _ _ _ _ _ _ _ K).trans h
  · cases h
end Go.AM
