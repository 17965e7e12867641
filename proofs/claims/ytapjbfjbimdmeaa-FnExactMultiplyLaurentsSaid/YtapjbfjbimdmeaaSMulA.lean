/- A part of a proof about the given program: an abstract machine, what the given functions come to, and plain laws. -/
import Derived.Test.YtapjbfjbimdmeaaMachG
import Derived.Test.YtapjbfjbimdmeaaDallMultiplyLaurents1
import Derived.Test.YtapjbfjbimdmeaaDallMultiplyLaurents2
import Derived.Test.YtapjbfjbimdmeaaProg
set_option linter.unusedVariables false
set_option linter.unusedSimpArgs false
set_option maxRecDepth 100000
namespace Go.AM
open Go.Proofs

def E0 (α : Type) (N : Nat) : Env α := Env.base (fun _ _ => {}) N
theorem E0_ok {α : Type} (N : Nat) : EnvOk Try.prog (E0 α N) := .base
theorem prog_mixed : Try.prog.follows .mixedOrders = true := by kernel_rfl
theorem prog_names : NamesOk Try.prog := .of_all (by kernel_rfl)
/-- laws.szInt64S -/
def w_szInt64S_a : SPat := ⟨[.sliceV 0 0 0 1 false, .int .i64], [[.intsV .i64]]⟩
def w_szInt64S_r0 : SPat := ⟨[.int .i64], [[.intsV .i64]]⟩
theorem w_szInt64S_run {α : Type} (N : Nat) (a_n : Nat) (a_l : Nat) (a_c : Nat) (left : Int) (h0_n : Nat) (h0 : Nat → Int) (K : AV → Heap → Option α) :
    callK Try.prog (E0 α N) 1 11 1 (buildS w_szInt64S_a [.n a_n, .n a_l, .n a_c, .i left, .n h0_n, .f h0]).t (buildS w_szInt64S_a [.n a_n, .n a_l, .n a_c, .i left, .n h0_n, .f h0]).h K = w_szInt64S none N a_n a_l a_c left h0_n h0 (fun r__ => retK (buildS w_szInt64S_r0 [.i r__, .n h0_n, .f h0]) K) := by kernel_rfl
def E_w_szInt64S (α : Type) (N : Nat) : Env α := (E0 α N).addFun 11 true 1 w_szInt64S_a (fun l K => match l with
    | [.n a_n, .n a_l, .n a_c, .i left, .n h0_n, .f h0] => w_szInt64S none N a_n a_l a_c left h0_n h0 (fun r__ => retK (buildS w_szInt64S_r0 [.i r__, .n h0_n, .f h0]) K)
    | _ => none)
theorem E_w_szInt64S_ok {α : Type} (N : Nat) : EnvOk Try.prog (E_w_szInt64S α N) := (E0_ok N).addFun prog_mixed prog_names (d := 1) fun l K r h => by
  split at h
  · exact (w_szInt64S_run N _ _ _ _ _ _ K).trans h
  · cases h

/-- laws.szLaurent -/
def w_szLaurent_a : SPat := ⟨[.agg [.vals [.int .i64, .sliceV 0 0 0 1 false]], .int .i64], [[.intsV .i64]]⟩
def w_szLaurent_r0 : SPat := ⟨[.int .i64], [[.intsV .i64]]⟩
theorem w_szLaurent_run {α : Type} (N : Nat) (a_0 : Int) (a_1_n : Nat) (a_1_l : Nat) (a_1_c : Nat) (left : Int) (h0_n : Nat) (h0 : Nat → Int) (K : AV → Heap → Option α) :
    callK Try.prog (E_w_szInt64S α N) 1 4 1 (buildS w_szLaurent_a [.i a_0, .n a_1_n, .n a_1_l, .n a_1_c, .i left, .n h0_n, .f h0]).t (buildS w_szLaurent_a [.i a_0, .n a_1_n, .n a_1_l, .n a_1_c, .i left, .n h0_n, .f h0]).h K = w_szLaurent none N a_0 a_1_n a_1_l a_1_c left h0_n h0 (fun r__ => retK (buildS w_szLaurent_r0 [.i r__, .n h0_n, .f h0]) K) := by kernel_rfl
def E_w_szLaurent (α : Type) (N : Nat) : Env α := (E_w_szInt64S α N).addFun 4 true 1 w_szLaurent_a (fun l K => match l with
    | [.i a_0, .n a_1_n, .n a_1_l, .n a_1_c, .i left, .n h0_n, .f h0] => w_szLaurent none N a_0 a_1_n a_1_l a_1_c left h0_n h0 (fun r__ => retK (buildS w_szLaurent_r0 [.i r__, .n h0_n, .f h0]) K)
    | _ => none)
theorem E_w_szLaurent_ok {α : Type} (N : Nat) : EnvOk Try.prog (E_w_szLaurent α N) := (E_w_szInt64S_ok N).addFun prog_mixed prog_names (d := 1) fun l K r h => by
  split at h
  · exact (w_szLaurent_run N _ _ _ _ _ _ _ K).trans h
  · cases h

def A_w_toInt64S_l0 (α : Type) (N : Nat) : Env α := (E_w_szLaurent α N).addAnn 16 3 { head := [0, 3, 4], grow := [], out := [3], ret := [2] }
theorem A_w_toInt64S_l0_ok {α : Type} (N : Nat) : EnvOk Try.prog (A_w_toInt64S_l0 α N) := (E_w_szLaurent_ok N).addAnn

/-- laws.toInt64S, loop -/
def w_toInt64S_l0_p : SPat := ⟨[.sliceV 0 0 0 1 false, .undef, .undef, .sliceV 1 0 0 1 true, .int .i64] ++ List.replicate 17 .undef, [[.intsV .i64], [.intsV .i64]]⟩
def w_toInt64S_l0_o0 : SPat := ⟨[.undef, .undef, .undef, .sliceV 1 0 0 1 true] ++ List.replicate 18 .undef, [[.intsV .i64], [.intsV .i64]]⟩
theorem w_toInt64S_l0_round {α : Type} (N : Nat) (a_n : Nat) (a_l : Nat) (a_c : Nat) (out_n : Nat) (out_l : Nat) (out_c : Nat) (i : Int) (h0_n : Nat) (h0 : Nat → Int) (h1_n : Nat) (h1 : Nat → Int) (kn : St → Option α) (K : AExit → St → Option α) :
    roundK Try.prog (A_w_toInt64S_l0 α N) 1 1 16 Try.f16 3 2 (buildS w_toInt64S_l0_p [.n a_n, .n a_l, .n a_c, .n out_n, .n out_l, .n out_c, .i i, .n h0_n, .f h0, .n h1_n, .f h1]) kn K = w_toInt64S_l0_s none a_n a_l a_c out_n out_l out_c h0_n h0 h1_n i h1 (fun i h1 => kn (buildS w_toInt64S_l0_p [.n a_n, .n a_l, .n a_c, .n out_n, .n out_l, .n out_c, .i i, .n h0_n, .f h0, .n h1_n, .f h1])) (fun h1_ => K (.exit 0) (buildS w_toInt64S_l0_o0 [.n out_n, .n out_l, .n out_c, .n h0_n, .f h0, .n h1_n, .f h1_])) := by kernel_rfl
theorem w_toInt64S_l0_loop {α : Type} (N : Nat) (a_n : Nat) (a_l : Nat) (a_c : Nat) (out_n : Nat) (out_l : Nat) (out_c : Nat) (h0_n : Nat) (h0 : Nat → Int) (h1_n : Nat) (K : AExit → St → Option α) : ∀ (m : Nat) (i : Int) (h1 : Nat → Int),
    loopN (trimSt ((A_w_toInt64S_l0 α N).ann 16 3).head ((A_w_toInt64S_l0 α N).ann 16 3).grow 2) (bodyK Try.prog (A_w_toInt64S_l0 α N) 1 1 16 Try.f16 3) m (buildS w_toInt64S_l0_p [.n a_n, .n a_l, .n a_c, .n out_n, .n out_l, .n out_c, .i i, .n h0_n, .f h0, .n h1_n, .f h1]) (leaveLoop ((A_w_toInt64S_l0 α N).ann 16 3) 2 K) = w_toInt64S_l0 none a_n a_l a_c out_n out_l out_c h0_n h0 h1_n m i h1 (fun h1_ => K (.exit 0) (buildS w_toInt64S_l0_o0 [.n out_n, .n out_l, .n out_c, .n h0_n, .f h0, .n h1_n, .f h1_])) := by
  intro m
  induction m with
  | zero => intros; rfl
  | succ m ih =>
    intro i h1
    rw [loopN_round]
    refine (w_toInt64S_l0_round N a_n a_l a_c out_n out_l out_c i h0_n h0 h1_n h1 _ K).trans ?_
    simp only [ih]
    rfl
def E_w_toInt64S_l0 (α : Type) (N : Nat) : Env α := (A_w_toInt64S_l0 α N).addLoop2 16 3 (loopSum2 ((A_w_toInt64S_l0 α N).ann 16 3) 1 w_toInt64S_l0_p (fun l K => match l with
    | [.n a_n, .n a_l, .n a_c, .n out_n, .n out_l, .n out_c, .i i, .n h0_n, .f h0, .n h1_n, .f h1] => w_toInt64S_l0 none a_n a_l a_c out_n out_l out_c h0_n h0 h1_n N i h1 (fun h1_ => K (.exit 0) (buildS w_toInt64S_l0_o0 [.n out_n, .n out_l, .n out_c, .n h0_n, .f h0, .n h1_n, .f h1_]))
    | _ => none) ((A_w_toInt64S_l0 α N).ls 16 3))
theorem E_w_toInt64S_l0_ok {α : Type} (N : Nat) : EnvOk Try.prog (E_w_toInt64S_l0 α N) := (A_w_toInt64S_l0_ok N).addLoop2 Try.func16 (by kernel_rfl) (loopSum_ok prog_mixed prog_names (A_w_toInt64S_l0_ok N) Try.func16 (by kernel_rfl) (d := 1) (ro := 1) fun l K r h => by
  split at h
  · exact (w_toInt64S_l0_loop N _ _ _ _ _ _ _ _ _ K N _ _).trans h
  · cases h)

/-- laws.toInt64S -/
def w_toInt64S_a : SPat := ⟨[.sliceV 0 0 0 1 false], [[.intsV .i64]]⟩
def w_toInt64S_r0 : SPat := ⟨[.sliceV 1 0 0 1 true], [[.intsV .i64], [.intsV .i64]]⟩
theorem w_toInt64S_run {α : Type} (N : Nat) (a_n : Nat) (a_l : Nat) (a_c : Nat) (h0_n : Nat) (h0 : Nat → Int) (K : AV → Heap → Option α) :
    callK Try.prog (E_w_toInt64S_l0 α N) 1 16 1 (buildS w_toInt64S_a [.n a_n, .n a_l, .n a_c, .n h0_n, .f h0]).t (buildS w_toInt64S_a [.n a_n, .n a_l, .n a_c, .n h0_n, .f h0]).h K = w_toInt64S none N a_n a_l a_c h0_n h0 (fun r_n_ r_l_ r_c_ h1_n_ h1_ => retK (buildS w_toInt64S_r0 [.n r_n_, .n r_l_, .n r_c_, .n h0_n, .f h0, .n h1_n_, .f h1_]) K) := by kernel_rfl
def E_w_toInt64S (α : Type) (N : Nat) : Env α := (E_w_toInt64S_l0 α N).addFun 16 true 1 w_toInt64S_a (fun l K => match l with
    | [.n a_n, .n a_l, .n a_c, .n h0_n, .f h0] => w_toInt64S none N a_n a_l a_c h0_n h0 (fun r_n_ r_l_ r_c_ h1_n_ h1_ => retK (buildS w_toInt64S_r0 [.n r_n_, .n r_l_, .n r_c_, .n h0_n, .f h0, .n h1_n_, .f h1_]) K)
    | _ => none)
theorem E_w_toInt64S_ok {α : Type} (N : Nat) : EnvOk Try.prog (E_w_toInt64S α N) := (E_w_toInt64S_l0_ok N).addFun prog_mixed prog_names (d := 1) fun l K r h => by
  split at h
  · exact (w_toInt64S_run N _ _ _ _ _ K).trans h
  · cases h

/-- laws.toLaurent -/
def w_toLaurent_a : SPat := ⟨[.agg [.vals [.int .i64, .sliceV 0 0 0 1 false]]], [[.intsV .i64]]⟩
def w_toLaurent_r0 : SPat := ⟨[.agg [.vals [.int .i64, .sliceV 1 0 0 1 true]]], [[.intsV .i64], [.intsV .i64]]⟩
theorem w_toLaurent_run {α : Type} (N : Nat) (a_0 : Int) (a_1_n : Nat) (a_1_l : Nat) (a_1_c : Nat) (h0_n : Nat) (h0 : Nat → Int) (K : AV → Heap → Option α) :
    callK Try.prog (E_w_toInt64S α N) 1 6 1 (buildS w_toLaurent_a [.i a_0, .n a_1_n, .n a_1_l, .n a_1_c, .n h0_n, .f h0]).t (buildS w_toLaurent_a [.i a_0, .n a_1_n, .n a_1_l, .n a_1_c, .n h0_n, .f h0]).h K = w_toLaurent none N a_0 a_1_n a_1_l a_1_c h0_n h0 (fun r_1_n_ r_1_l_ r_1_c_ h1_n_ h1_ => retK (buildS w_toLaurent_r0 [.i a_0, .n r_1_n_, .n r_1_l_, .n r_1_c_, .n h0_n, .f h0, .n h1_n_, .f h1_]) K) := by kernel_rfl
def E_w_toLaurent (α : Type) (N : Nat) : Env α := (E_w_toInt64S α N).addFun 6 true 1 w_toLaurent_a (fun l K => match l with
    | [.i a_0, .n a_1_n, .n a_1_l, .n a_1_c, .n h0_n, .f h0] => w_toLaurent none N a_0 a_1_n a_1_l a_1_c h0_n h0 (fun r_1_n_ r_1_l_ r_1_c_ h1_n_ h1_ => retK (buildS w_toLaurent_r0 [.i a_0, .n r_1_n_, .n r_1_l_, .n r_1_c_, .n h0_n, .f h0, .n h1_n_, .f h1_]) K)
    | _ => none)
theorem E_w_toLaurent_ok {α : Type} (N : Nat) : EnvOk Try.prog (E_w_toLaurent α N) := (E_w_toInt64S_ok N).addFun prog_mixed prog_names (d := 1) fun l K r h => by
  split at h
  · exact (w_toLaurent_run N _ _ _ _ _ _ K).trans h
  · cases h

/-- spec.l01In -/
def s_l01In_a : SPat := ⟨[.int .i64, .int .i64, .int .i64], []⟩
def s_l01In_r0 : SPat := ⟨[.bool], []⟩
theorem s_l01In_run {α : Type} (N : Nat) (n : Int) (low : Int) (high : Int) (K : AV → Heap → Option α) :
    callK Try.prog (E_w_toLaurent α N) 1 28 0 (buildS s_l01In_a [.i n, .i low, .i high]).t (buildS s_l01In_a [.i n, .i low, .i high]).h K = s_l01In none N n low high (fun r__ => retK (buildS s_l01In_r0 [.b r__]) K) := by kernel_rfl
def E_s_l01In (α : Type) (N : Nat) : Env α := (E_w_toLaurent α N).addFun 28 true 0 s_l01In_a (fun l K => match l with
    | [.i n, .i low, .i high] => s_l01In none N n low high (fun r__ => retK (buildS s_l01In_r0 [.b r__]) K)
    | _ => none)
theorem E_s_l01In_ok {α : Type} (N : Nat) : EnvOk Try.prog (E_s_l01In α N) := (E_w_toLaurent_ok N).addFun prog_mixed prog_names (d := 1) fun l K r h => by
  split at h
  · exact (s_l01In_run N _ _ _ K).trans h
  · cases h

def A_s_l04Is_l0 (α : Type) (N : Nat) : Env α := (E_s_l01In α N).addAnn 27 7 { head := [1, 3, 4], grow := [], out := [], ret := [2] }
theorem A_s_l04Is_l0_ok {α : Type} (N : Nat) : EnvOk Try.prog (A_s_l04Is_l0 α N) := (E_s_l01In_ok N).addAnn

/-- spec.l04Is, loop -/
def s_l04Is_l0_p : SPat := ⟨[.undef, .ptr ⟨⟨1, 0⟩, 0, 0, 2⟩, .undef, .int .i64, .int .i64] ++ List.replicate 52 .undef, [[.intsV .i64], [.vals [.int .i64, .sliceV 0 0 0 1 true]]]⟩
def s_l04Is_l0_o0 : SPat := ⟨[.undef, .undef, .boolC false] ++ List.replicate 54 .undef, [[.intsV .i64], [.vals [.int .i64, .sliceV 0 0 0 1 true]]]⟩
def s_l04Is_l0_o1 : SPat := ⟨[] ++ List.replicate 57 .undef, [[.intsV .i64], [.vals [.int .i64, .sliceV 0 0 0 1 true]]]⟩
theorem s_l04Is_l0_round {α : Type} (N : Nat) (n : Int) (i : Int) (h0_n : Nat) (h0 : Nat → Int) (h1_0 : Int) (h1_1_n : Nat) (h1_1_l : Nat) (h1_1_c : Nat) (kn : St → Option α) (K : AExit → St → Option α) :
    roundK Try.prog (A_s_l04Is_l0 α N) 1 1 27 Try.f27 7 2 (buildS s_l04Is_l0_p [.i n, .i i, .n h0_n, .f h0, .i h1_0, .n h1_1_n, .n h1_1_l, .n h1_1_c]) kn K = s_l04Is_l0_s none N n h0_n h0 h1_0 h1_1_n h1_1_l h1_1_c i (fun i => kn (buildS s_l04Is_l0_p [.i n, .i i, .n h0_n, .f h0, .i h1_0, .n h1_1_n, .n h1_1_l, .n h1_1_c])) (K .ret (buildS s_l04Is_l0_o0 [.n h0_n, .f h0, .i h1_0, .n h1_1_n, .n h1_1_l, .n h1_1_c])) (K (.exit 0) (buildS s_l04Is_l0_o1 [.n h0_n, .f h0, .i h1_0, .n h1_1_n, .n h1_1_l, .n h1_1_c])) := by kernel_rfl
theorem s_l04Is_l0_loop {α : Type} (N : Nat) (n : Int) (h0_n : Nat) (h0 : Nat → Int) (h1_0 : Int) (h1_1_n : Nat) (h1_1_l : Nat) (h1_1_c : Nat) (K : AExit → St → Option α) : ∀ (m : Nat) (i : Int),
    loopN (trimSt ((A_s_l04Is_l0 α N).ann 27 7).head ((A_s_l04Is_l0 α N).ann 27 7).grow 2) (bodyK Try.prog (A_s_l04Is_l0 α N) 1 1 27 Try.f27 7) m (buildS s_l04Is_l0_p [.i n, .i i, .n h0_n, .f h0, .i h1_0, .n h1_1_n, .n h1_1_l, .n h1_1_c]) (leaveLoop ((A_s_l04Is_l0 α N).ann 27 7) 2 K) = s_l04Is_l0 none N n h0_n h0 h1_0 h1_1_n h1_1_l h1_1_c m i (K .ret (buildS s_l04Is_l0_o0 [.n h0_n, .f h0, .i h1_0, .n h1_1_n, .n h1_1_l, .n h1_1_c])) (K (.exit 0) (buildS s_l04Is_l0_o1 [.n h0_n, .f h0, .i h1_0, .n h1_1_n, .n h1_1_l, .n h1_1_c])) := by
  intro m
  induction m with
  | zero => intros; rfl
  | succ m ih =>
    intro i
    rw [loopN_round]
    refine (s_l04Is_l0_round N n i h0_n h0 h1_0 h1_1_n h1_1_l h1_1_c _ K).trans ?_
    simp only [ih]
    rfl
def E_s_l04Is_l0 (α : Type) (N : Nat) : Env α := (A_s_l04Is_l0 α N).addLoop2 27 7 (loopSum2 ((A_s_l04Is_l0 α N).ann 27 7) 1 s_l04Is_l0_p (fun l K => match l with
    | [.i n, .i i, .n h0_n, .f h0, .i h1_0, .n h1_1_n, .n h1_1_l, .n h1_1_c] => s_l04Is_l0 none N n h0_n h0 h1_0 h1_1_n h1_1_l h1_1_c N i (K .ret (buildS s_l04Is_l0_o0 [.n h0_n, .f h0, .i h1_0, .n h1_1_n, .n h1_1_l, .n h1_1_c])) (K (.exit 0) (buildS s_l04Is_l0_o1 [.n h0_n, .f h0, .i h1_0, .n h1_1_n, .n h1_1_l, .n h1_1_c]))
    | _ => none) ((A_s_l04Is_l0 α N).ls 27 7))
theorem E_s_l04Is_l0_ok {α : Type} (N : Nat) : EnvOk Try.prog (E_s_l04Is_l0 α N) := (A_s_l04Is_l0_ok N).addLoop2 Try.func27 (by kernel_rfl) (loopSum_ok prog_mixed prog_names (A_s_l04Is_l0_ok N) Try.func27 (by kernel_rfl) (d := 1) (ro := 1) fun l K r h => by
  split at h
  · exact (s_l04Is_l0_loop N _ _ _ _ _ _ _ K N _).trans h
  · cases h)

/-- spec.l04Is -/
def s_l04Is_a : SPat := ⟨[.agg [.vals [.int .i64, .sliceV 0 0 0 1 true]]], [[.intsV .i64]]⟩
def s_l04Is_r0 : SPat := ⟨[.bool], [[.intsV .i64]]⟩
theorem s_l04Is_run {α : Type} (N : Nat) (p_0 : Int) (p_1_n : Nat) (p_1_l : Nat) (p_1_c : Nat) (h0_n : Nat) (h0 : Nat → Int) (K : AV → Heap → Option α) :
    callK Try.prog (E_s_l04Is_l0 α N) 1 27 1 (buildS s_l04Is_a [.i p_0, .n p_1_n, .n p_1_l, .n p_1_c, .n h0_n, .f h0]).t (buildS s_l04Is_a [.i p_0, .n p_1_n, .n p_1_l, .n p_1_c, .n h0_n, .f h0]).h K = s_l04Is none N p_0 p_1_n p_1_l p_1_c h0_n h0 (fun r__ => retK (buildS s_l04Is_r0 [.b r__, .n h0_n, .f h0]) K) := by kernel_rfl
def E_s_l04Is (α : Type) (N : Nat) : Env α := (E_s_l04Is_l0 α N).addFun 27 true 1 s_l04Is_a (fun l K => match l with
    | [.i p_0, .n p_1_n, .n p_1_l, .n p_1_c, .n h0_n, .f h0] => s_l04Is none N p_0 p_1_n p_1_l p_1_c h0_n h0 (fun r__ => retK (buildS s_l04Is_r0 [.b r__, .n h0_n, .f h0]) K)
    | _ => none)
theorem E_s_l04Is_ok {α : Type} (N : Nat) : EnvOk Try.prog (E_s_l04Is α N) := (E_s_l04Is_l0_ok N).addFun prog_mixed prog_names (d := 1) fun l K r h => by
  split at h
  · exact (s_l04Is_run N _ _ _ _ _ _ K).trans h
  · cases h

/-- spec.l04Both -/
def s_l04Both_a : SPat := ⟨[.agg [.vals [.int .i64, .sliceV 0 0 0 1 true]], .agg [.vals [.int .i64, .sliceV 1 0 0 1 true]]], [[.intsV .i64], [.intsV .i64]]⟩
def s_l04Both_r0 : SPat := ⟨[.int .i64], [[.intsV .i64], [.intsV .i64]]⟩
theorem s_l04Both_run {α : Type} (N : Nat) (p_0 : Int) (p_1_n : Nat) (p_1_l : Nat) (p_1_c : Nat) (q_0 : Int) (q_1_n : Nat) (q_1_l : Nat) (q_1_c : Nat) (h0_n : Nat) (h0 : Nat → Int) (h1_n : Nat) (h1 : Nat → Int) (K : AV → Heap → Option α) :
    callK Try.prog (E_s_l04Is α N) 1 12 2 (buildS s_l04Both_a [.i p_0, .n p_1_n, .n p_1_l, .n p_1_c, .i q_0, .n q_1_n, .n q_1_l, .n q_1_c, .n h0_n, .f h0, .n h1_n, .f h1]).t (buildS s_l04Both_a [.i p_0, .n p_1_n, .n p_1_l, .n p_1_c, .i q_0, .n q_1_n, .n q_1_l, .n q_1_c, .n h0_n, .f h0, .n h1_n, .f h1]).h K = s_l04Both none N p_0 p_1_n p_1_l p_1_c q_0 q_1_n q_1_l q_1_c h0_n h0 h1_n h1 (fun r__ => retK (buildS s_l04Both_r0 [.i r__, .n h0_n, .f h0, .n h1_n, .f h1]) K) := by kernel_rfl
def E_s_l04Both (α : Type) (N : Nat) : Env α := (E_s_l04Is α N).addFun 12 true 2 s_l04Both_a (fun l K => match l with
    | [.i p_0, .n p_1_n, .n p_1_l, .n p_1_c, .i q_0, .n q_1_n, .n q_1_l, .n q_1_c, .n h0_n, .f h0, .n h1_n, .f h1] => s_l04Both none N p_0 p_1_n p_1_l p_1_c q_0 q_1_n q_1_l q_1_c h0_n h0 h1_n h1 (fun r__ => retK (buildS s_l04Both_r0 [.i r__, .n h0_n, .f h0, .n h1_n, .f h1]) K)
    | _ => none)
theorem E_s_l04Both_ok {α : Type} (N : Nat) : EnvOk Try.prog (E_s_l04Both α N) := (E_s_l04Is_ok N).addFun prog_mixed prog_names (d := 1) fun l K r h => by
  split at h
  · exact (s_l04Both_run N _ _ _ _ _ _ _ _ _ _ _ _ K).trans h
  · cases h

def A_s_MultiplyLaurents_l0 (α : Type) (N : Nat) : Env α := (E_s_l04Both α N).addAnn 5 8 { head := [2, 3, 4, 7, 8], grow := [7], out := [2, 3, 4, 7], ret := [4, 5] }
theorem A_s_MultiplyLaurents_l0_ok {α : Type} (N : Nat) : EnvOk Try.prog (A_s_MultiplyLaurents_l0 α N) := (E_s_l04Both_ok N).addAnn

def A_s_MultiplyLaurents_l1 (α : Type) (N : Nat) : Env α := (A_s_MultiplyLaurents_l0 α N).addAnn 5 12 { head := [2, 3, 4, 7, 8, 9, 10, 11], grow := [9, 10], out := [2, 3, 4, 7, 8, 9, 10], ret := [4, 5] }
theorem A_s_MultiplyLaurents_l1_ok {α : Type} (N : Nat) : EnvOk Try.prog (A_s_MultiplyLaurents_l1 α N) := (A_s_MultiplyLaurents_l0_ok N).addAnn

/-- spec.MultiplyLaurents, loop -/
def s_MultiplyLaurents_l1_p : SPat := ⟨[.undef, .undef, .ptr ⟨⟨2, 0⟩, 0, 0, 2⟩, .ptr ⟨⟨3, 0⟩, 0, 0, 2⟩, .ptr ⟨⟨4, 0⟩, 0, 0, 2⟩, .undef, .undef, .sliceV 5 0 0 1 false, .int .i64, .sliceV 6 0 0 1 false, .sliceV 7 0 0 1 false, .int .i64] ++ List.replicate 95 .undef, [[.intsV .i64], [.intsV .i64], [.vals [.int .i64, .sliceV 0 0 0 1 true]], [.vals [.int .i64, .sliceV 1 0 0 1 true]], [.vals [.int .i64, .nils]], [.vec .i64], [.vec .i64], [.vec .i64]]⟩
def s_MultiplyLaurents_l1_o0 : SPat := ⟨[.undef, .undef, .ptr ⟨⟨2, 0⟩, 0, 0, 2⟩, .ptr ⟨⟨3, 0⟩, 0, 0, 2⟩, .ptr ⟨⟨4, 0⟩, 0, 0, 2⟩, .undef, .undef, .sliceV 5 0 0 1 false, .int .i64, .sliceV 6 0 0 1 false, .sliceV 7 0 0 1 false] ++ List.replicate 96 .undef, [[.intsV .i64], [.intsV .i64], [.vals [.int .i64, .sliceV 0 0 0 1 true]], [.vals [.int .i64, .sliceV 1 0 0 1 true]], [.vals [.int .i64, .nils]], [.vec .i64], [.vec .i64], [.vec .i64]]⟩
theorem s_MultiplyLaurents_l1_round {α : Type} (N : Nat) (t7_n : Nat) (t7_l : Nat) (t7_c : Nat) (t8 : Int) (t9_n : Nat) (t9_l : Nat) (t9_c : Nat) (t10_n : Nat) (t10_l : Nat) (t10_c : Nat) (t11 : Int) (h0_n : Nat) (h0 : Nat → Int) (h1_n : Nat) (h1 : Nat → Int) (h2_0 : Int) (h2_1_n : Nat) (h2_1_l : Nat) (h2_1_c : Nat) (h3_0 : Int) (h3_1_n : Nat) (h3_1_l : Nat) (h3_1_c : Nat) (h4_0 : Int) (h5 : List Int) (h6 : List Int) (h7 : List Int) (kn : St → Option α) (K : AExit → St → Option α) :
    roundK Try.prog (A_s_MultiplyLaurents_l1 α N) 1 2 5 Try.f5 12 8 (buildS s_MultiplyLaurents_l1_p [.n t7_n, .n t7_l, .n t7_c, .i t8, .n t9_n, .n t9_l, .n t9_c, .n t10_n, .n t10_l, .n t10_c, .i t11, .n h0_n, .f h0, .n h1_n, .f h1, .i h2_0, .n h2_1_n, .n h2_1_l, .n h2_1_c, .i h3_0, .n h3_1_n, .n h3_1_l, .n h3_1_c, .i h4_0, .l h5, .l h6, .l h7]) kn K = s_MultiplyLaurents_l1_s none t7_n t7_l t7_c t8 h0_n h0 h1_n h1 h2_0 h2_1_n h2_1_l h2_1_c h3_0 h3_1_n h3_1_l h3_1_c h4_0 h5 t9_n t9_l t9_c t10_n t10_l t10_c t11 h6 h7 (fun t9_n t9_l t9_c t10_n t10_l t10_c t11 h6 h7 => kn (buildS s_MultiplyLaurents_l1_p [.n t7_n, .n t7_l, .n t7_c, .i t8, .n t9_n, .n t9_l, .n t9_c, .n t10_n, .n t10_l, .n t10_c, .i t11, .n h0_n, .f h0, .n h1_n, .f h1, .i h2_0, .n h2_1_n, .n h2_1_l, .n h2_1_c, .i h3_0, .n h3_1_n, .n h3_1_l, .n h3_1_c, .i h4_0, .l h5, .l h6, .l h7])) (fun t9_n_ t9_l_ t9_c_ t10_n_ t10_l_ t10_c_ h6_ h7_ => K (.exit 2) (buildS s_MultiplyLaurents_l1_o0 [.n t7_n, .n t7_l, .n t7_c, .i t8, .n t9_n_, .n t9_l_, .n t9_c_, .n t10_n_, .n t10_l_, .n t10_c_, .n h0_n, .f h0, .n h1_n, .f h1, .i h2_0, .n h2_1_n, .n h2_1_l, .n h2_1_c, .i h3_0, .n h3_1_n, .n h3_1_l, .n h3_1_c, .i h4_0, .l h5, .l h6_, .l h7_])) := by kernel_rfl
theorem s_MultiplyLaurents_l1_loop {α : Type} (N : Nat) (t7_n : Nat) (t7_l : Nat) (t7_c : Nat) (t8 : Int) (h0_n : Nat) (h0 : Nat → Int) (h1_n : Nat) (h1 : Nat → Int) (h2_0 : Int) (h2_1_n : Nat) (h2_1_l : Nat) (h2_1_c : Nat) (h3_0 : Int) (h3_1_n : Nat) (h3_1_l : Nat) (h3_1_c : Nat) (h4_0 : Int) (h5 : List Int) (K : AExit → St → Option α) : ∀ (m : Nat) (t9_n : Nat) (t9_l : Nat) (t9_c : Nat) (t10_n : Nat) (t10_l : Nat) (t10_c : Nat) (t11 : Int) (h6 : List Int) (h7 : List Int),
    loopN (trimSt ((A_s_MultiplyLaurents_l1 α N).ann 5 12).head ((A_s_MultiplyLaurents_l1 α N).ann 5 12).grow 8) (bodyK Try.prog (A_s_MultiplyLaurents_l1 α N) 1 2 5 Try.f5 12) m (buildS s_MultiplyLaurents_l1_p [.n t7_n, .n t7_l, .n t7_c, .i t8, .n t9_n, .n t9_l, .n t9_c, .n t10_n, .n t10_l, .n t10_c, .i t11, .n h0_n, .f h0, .n h1_n, .f h1, .i h2_0, .n h2_1_n, .n h2_1_l, .n h2_1_c, .i h3_0, .n h3_1_n, .n h3_1_l, .n h3_1_c, .i h4_0, .l h5, .l h6, .l h7]) (leaveLoop ((A_s_MultiplyLaurents_l1 α N).ann 5 12) 8 K) = s_MultiplyLaurents_l1 none t7_n t7_l t7_c t8 h0_n h0 h1_n h1 h2_0 h2_1_n h2_1_l h2_1_c h3_0 h3_1_n h3_1_l h3_1_c h4_0 h5 m t9_n t9_l t9_c t10_n t10_l t10_c t11 h6 h7 (fun t9_n_ t9_l_ t9_c_ t10_n_ t10_l_ t10_c_ h6_ h7_ => K (.exit 2) (buildS s_MultiplyLaurents_l1_o0 [.n t7_n, .n t7_l, .n t7_c, .i t8, .n t9_n_, .n t9_l_, .n t9_c_, .n t10_n_, .n t10_l_, .n t10_c_, .n h0_n, .f h0, .n h1_n, .f h1, .i h2_0, .n h2_1_n, .n h2_1_l, .n h2_1_c, .i h3_0, .n h3_1_n, .n h3_1_l, .n h3_1_c, .i h4_0, .l h5, .l h6_, .l h7_])) := by
  intro m
  induction m with
  | zero => intros; rfl
  | succ m ih =>
    intro t9_n t9_l t9_c t10_n t10_l t10_c t11 h6 h7
    rw [loopN_round]
    refine (s_MultiplyLaurents_l1_round N t7_n t7_l t7_c t8 t9_n t9_l t9_c t10_n t10_l t10_c t11 h0_n h0 h1_n h1 h2_0 h2_1_n h2_1_l h2_1_c h3_0 h3_1_n h3_1_l h3_1_c h4_0 h5 h6 h7 _ K).trans ?_
    simp only [ih]
    rfl
def E_s_MultiplyLaurents_l1 (α : Type) (N : Nat) : Env α := (A_s_MultiplyLaurents_l1 α N).addLoop2 5 12 (loopSum2 ((A_s_MultiplyLaurents_l1 α N).ann 5 12) 2 s_MultiplyLaurents_l1_p (fun l K => match l with
    | [.n t7_n, .n t7_l, .n t7_c, .i t8, .n t9_n, .n t9_l, .n t9_c, .n t10_n, .n t10_l, .n t10_c, .i t11, .n h0_n, .f h0, .n h1_n, .f h1, .i h2_0, .n h2_1_n, .n h2_1_l, .n h2_1_c, .i h3_0, .n h3_1_n, .n h3_1_l, .n h3_1_c, .i h4_0, .l h5, .l h6, .l h7] => s_MultiplyLaurents_l1 none t7_n t7_l t7_c t8 h0_n h0 h1_n h1 h2_0 h2_1_n h2_1_l h2_1_c h3_0 h3_1_n h3_1_l h3_1_c h4_0 h5 N t9_n t9_l t9_c t10_n t10_l t10_c t11 h6 h7 (fun t9_n_ t9_l_ t9_c_ t10_n_ t10_l_ t10_c_ h6_ h7_ => K (.exit 2) (buildS s_MultiplyLaurents_l1_o0 [.n t7_n, .n t7_l, .n t7_c, .i t8, .n t9_n_, .n t9_l_, .n t9_c_, .n t10_n_, .n t10_l_, .n t10_c_, .n h0_n, .f h0, .n h1_n, .f h1, .i h2_0, .n h2_1_n, .n h2_1_l, .n h2_1_c, .i h3_0, .n h3_1_n, .n h3_1_l, .n h3_1_c, .i h4_0, .l h5, .l h6_, .l h7_]))
    | _ => none) ((A_s_MultiplyLaurents_l1 α N).ls 5 12))
theorem E_s_MultiplyLaurents_l1_ok {α : Type} (N : Nat) : EnvOk Try.prog (E_s_MultiplyLaurents_l1 α N) := (A_s_MultiplyLaurents_l1_ok N).addLoop2 Try.func5 (by kernel_rfl) (loopSum_ok prog_mixed prog_names (A_s_MultiplyLaurents_l1_ok N) Try.func5 (by kernel_rfl) (d := 1) (ro := 2) fun l K r h => by
  split at h
  · exact (s_MultiplyLaurents_l1_loop N _ _ _ _ _ _ _ _ _ _ _ _ _ _ _ _ _ _ K N _ _ _ _ _ _ _ _ _).trans h
  · cases h)

def A_s_l04Exact_l0 (α : Type) (N : Nat) : Env α := (E_s_MultiplyLaurents_l1 α N).addAnn 13 3 { head := [0, 1, 6, 7, 8, 9], grow := [], out := [6, 7, 8], ret := [4, 5] }
theorem A_s_l04Exact_l0_ok {α : Type} (N : Nat) : EnvOk Try.prog (A_s_l04Exact_l0 α N) := (E_s_MultiplyLaurents_l1_ok N).addAnn

/-- spec.l04Exact, loop -/
def s_l04Exact_l0_p : SPat := ⟨[.sliceV 0 0 0 1 false, .sliceV 1 0 0 1 false, .undef, .undef, .undef, .undef, .int .i64, .int .i64, .int .i64, .int .i64] ++ List.replicate 75 .undef, [[.vec .i64], [.vec .i64]]⟩
def s_l04Exact_l0_o0 : SPat := ⟨[.undef, .undef, .undef, .undef, .undef, .undef, .int .i64, .int .i64, .int .i64] ++ List.replicate 76 .undef, [[.vec .i64], [.vec .i64]]⟩
theorem s_l04Exact_l0_round {α : Type} (N : Nat) (a_n : Nat) (a_l : Nat) (a_c : Nat) (t1_n : Nat) (t1_l : Nat) (t1_c : Nat) (t6 : Int) (t7 : Int) (t8 : Int) (t9 : Int) (h0 : List Int) (h1 : List Int) (kn : St → Option α) (K : AExit → St → Option α) :
    roundK Try.prog (A_s_l04Exact_l0 α N) 1 2 13 Try.f13 3 2 (buildS s_l04Exact_l0_p [.n a_n, .n a_l, .n a_c, .n t1_n, .n t1_l, .n t1_c, .i t6, .i t7, .i t8, .i t9, .l h0, .l h1]) kn K = s_l04Exact_l0_s none a_n a_l a_c t1_n t1_l t1_c h0 h1 t6 t7 t8 t9 (fun t6 t7 t8 t9 => kn (buildS s_l04Exact_l0_p [.n a_n, .n a_l, .n a_c, .n t1_n, .n t1_l, .n t1_c, .i t6, .i t7, .i t8, .i t9, .l h0, .l h1])) (fun t6_ t7_ t8_ => K (.exit 0) (buildS s_l04Exact_l0_o0 [.i t6_, .i t7_, .i t8_, .l h0, .l h1])) := by kernel_rfl
theorem s_l04Exact_l0_loop {α : Type} (N : Nat) (a_n : Nat) (a_l : Nat) (a_c : Nat) (t1_n : Nat) (t1_l : Nat) (t1_c : Nat) (h0 : List Int) (h1 : List Int) (K : AExit → St → Option α) : ∀ (m : Nat) (t6 : Int) (t7 : Int) (t8 : Int) (t9 : Int),
    loopN (trimSt ((A_s_l04Exact_l0 α N).ann 13 3).head ((A_s_l04Exact_l0 α N).ann 13 3).grow 2) (bodyK Try.prog (A_s_l04Exact_l0 α N) 1 2 13 Try.f13 3) m (buildS s_l04Exact_l0_p [.n a_n, .n a_l, .n a_c, .n t1_n, .n t1_l, .n t1_c, .i t6, .i t7, .i t8, .i t9, .l h0, .l h1]) (leaveLoop ((A_s_l04Exact_l0 α N).ann 13 3) 2 K) = s_l04Exact_l0 none a_n a_l a_c t1_n t1_l t1_c h0 h1 m t6 t7 t8 t9 (fun t6_ t7_ t8_ => K (.exit 0) (buildS s_l04Exact_l0_o0 [.i t6_, .i t7_, .i t8_, .l h0, .l h1])) := by
  intro m
  induction m with
  | zero => intros; rfl
  | succ m ih =>
    intro t6 t7 t8 t9
    rw [loopN_round]
    refine (s_l04Exact_l0_round N a_n a_l a_c t1_n t1_l t1_c t6 t7 t8 t9 h0 h1 _ K).trans ?_
    simp only [ih]
    rfl
def E_s_l04Exact_l0 (α : Type) (N : Nat) : Env α := (A_s_l04Exact_l0 α N).addLoop2 13 3 (loopSum2 ((A_s_l04Exact_l0 α N).ann 13 3) 2 s_l04Exact_l0_p (fun l K => match l with
    | [.n a_n, .n a_l, .n a_c, .n t1_n, .n t1_l, .n t1_c, .i t6, .i t7, .i t8, .i t9, .l h0, .l h1] => s_l04Exact_l0 none a_n a_l a_c t1_n t1_l t1_c h0 h1 N t6 t7 t8 t9 (fun t6_ t7_ t8_ => K (.exit 0) (buildS s_l04Exact_l0_o0 [.i t6_, .i t7_, .i t8_, .l h0, .l h1]))
    | _ => none) ((A_s_l04Exact_l0 α N).ls 13 3))
theorem E_s_l04Exact_l0_ok {α : Type} (N : Nat) : EnvOk Try.prog (E_s_l04Exact_l0 α N) := (A_s_l04Exact_l0_ok N).addLoop2 Try.func13 (by kernel_rfl) (loopSum_ok prog_mixed prog_names (A_s_l04Exact_l0_ok N) Try.func13 (by kernel_rfl) (d := 1) (ro := 2) fun l K r h => by
  split at h
  · exact (s_l04Exact_l0_loop N _ _ _ _ _ _ _ _ K N _ _ _ _).trans h
  · cases h)

/-- spec.l04Exact -/
def s_l04Exact_a : SPat := ⟨[.sliceV 0 0 0 1 false, .sliceV 1 0 0 1 false], [[.vec .i64], [.vec .i64]]⟩
def s_l04Exact_r0 : SPat := ⟨[.tuple [.int .i64, .bool]], [[.vec .i64], [.vec .i64]]⟩
theorem s_l04Exact_run {α : Type} (N : Nat) (a_n : Nat) (a_l : Nat) (a_c : Nat) (a1_n : Nat) (a1_l : Nat) (a1_c : Nat) (h0 : List Int) (h1 : List Int) (K : AV → Heap → Option α) :
    callK Try.prog (E_s_l04Exact_l0 α N) 1 13 2 (buildS s_l04Exact_a [.n a_n, .n a_l, .n a_c, .n a1_n, .n a1_l, .n a1_c, .l h0, .l h1]).t (buildS s_l04Exact_a [.n a_n, .n a_l, .n a_c, .n a1_n, .n a1_l, .n a1_c, .l h0, .l h1]).h K = s_l04Exact none N a_n a_l a_c a1_n a1_l a1_c h0 h1 (fun r_0_ r_1_ => retK (buildS s_l04Exact_r0 [.i r_0_, .b r_1_, .l h0, .l h1]) K) := by kernel_rfl
def E_s_l04Exact (α : Type) (N : Nat) : Env α := (E_s_l04Exact_l0 α N).addFun 13 true 2 s_l04Exact_a (fun l K => match l with
    | [.n a_n, .n a_l, .n a_c, .n a1_n, .n a1_l, .n a1_c, .l h0, .l h1] => s_l04Exact none N a_n a_l a_c a1_n a1_l a1_c h0 h1 (fun r_0_ r_1_ => retK (buildS s_l04Exact_r0 [.i r_0_, .b r_1_, .l h0, .l h1]) K)
    | _ => none)
theorem E_s_l04Exact_ok {α : Type} (N : Nat) : EnvOk Try.prog (E_s_l04Exact α N) := (E_s_l04Exact_l0_ok N).addFun prog_mixed prog_names (d := 1) fun l K r h => by
  split at h
  · exact (s_l04Exact_run N _ _ _ _ _ _ _ _ K).trans h
  · cases h

/-- spec.MultiplyLaurents, loop -/
def s_MultiplyLaurents_l0_p : SPat := ⟨[.undef, .undef, .ptr ⟨⟨2, 0⟩, 0, 0, 2⟩, .ptr ⟨⟨3, 0⟩, 0, 0, 2⟩, .ptr ⟨⟨4, 0⟩, 0, 0, 2⟩, .undef, .undef, .sliceV 5 0 0 1 false, .int .i64] ++ List.replicate 98 .undef, [[.intsV .i64], [.intsV .i64], [.vals [.int .i64, .sliceV 0 0 0 1 true]], [.vals [.int .i64, .sliceV 1 0 0 1 true]], [.vals [.int .i64, .nils]], [.vec .i64]]⟩
def s_MultiplyLaurents_l0_o0 : SPat := ⟨[.undef, .undef, .undef, .undef, .ptr ⟨⟨4, 0⟩, 0, 0, 2⟩, .intC .i64 3] ++ List.replicate 101 .undef, [[.intsV .i64], [.intsV .i64], [.vals [.int .i64, .sliceV 0 0 0 1 true]], [.vals [.int .i64, .sliceV 1 0 0 1 true]], [.vals [.intC .i64 0, .nils]], [.vec .i64]]⟩
def s_MultiplyLaurents_l0_o1 : SPat := ⟨[.undef, .undef, .ptr ⟨⟨2, 0⟩, 0, 0, 2⟩, .ptr ⟨⟨3, 0⟩, 0, 0, 2⟩, .ptr ⟨⟨4, 0⟩, 0, 0, 2⟩, .undef, .undef, .sliceV 5 0 0 1 false] ++ List.replicate 99 .undef, [[.intsV .i64], [.intsV .i64], [.vals [.int .i64, .sliceV 0 0 0 1 true]], [.vals [.int .i64, .sliceV 1 0 0 1 true]], [.vals [.int .i64, .nils]], [.vec .i64]]⟩
theorem s_MultiplyLaurents_l0_round {α : Type} (N : Nat) (t7_n : Nat) (t7_l : Nat) (t7_c : Nat) (t8 : Int) (h0_n : Nat) (h0 : Nat → Int) (h1_n : Nat) (h1 : Nat → Int) (h2_0 : Int) (h2_1_n : Nat) (h2_1_l : Nat) (h2_1_c : Nat) (h3_0 : Int) (h3_1_n : Nat) (h3_1_l : Nat) (h3_1_c : Nat) (h4_0 : Int) (h5 : List Int) (kn : St → Option α) (K : AExit → St → Option α) :
    roundK Try.prog (E_s_l04Exact α N) 1 2 5 Try.f5 8 6 (buildS s_MultiplyLaurents_l0_p [.n t7_n, .n t7_l, .n t7_c, .i t8, .n h0_n, .f h0, .n h1_n, .f h1, .i h2_0, .n h2_1_n, .n h2_1_l, .n h2_1_c, .i h3_0, .n h3_1_n, .n h3_1_l, .n h3_1_c, .i h4_0, .l h5]) kn K = s_MultiplyLaurents_l0_s none N h0_n h0 h1_n h1 h2_0 h2_1_n h2_1_l h2_1_c h3_0 h3_1_n h3_1_l h3_1_c h4_0 t7_n t7_l t7_c t8 h5 (fun t7_n t7_l t7_c t8 h5 => kn (buildS s_MultiplyLaurents_l0_p [.n t7_n, .n t7_l, .n t7_c, .i t8, .n h0_n, .f h0, .n h1_n, .f h1, .i h2_0, .n h2_1_n, .n h2_1_l, .n h2_1_c, .i h3_0, .n h3_1_n, .n h3_1_l, .n h3_1_c, .i h4_0, .l h5])) (fun h5_ => K .ret (buildS s_MultiplyLaurents_l0_o0 [.n h0_n, .f h0, .n h1_n, .f h1, .i h2_0, .n h2_1_n, .n h2_1_l, .n h2_1_c, .i h3_0, .n h3_1_n, .n h3_1_l, .n h3_1_c, .l h5_])) (fun t7_n_ t7_l_ t7_c_ h5_ => K (.exit 0) (buildS s_MultiplyLaurents_l0_o1 [.n t7_n_, .n t7_l_, .n t7_c_, .n h0_n, .f h0, .n h1_n, .f h1, .i h2_0, .n h2_1_n, .n h2_1_l, .n h2_1_c, .i h3_0, .n h3_1_n, .n h3_1_l, .n h3_1_c, .i h4_0, .l h5_])) := by kernel_rfl
theorem s_MultiplyLaurents_l0_loop {α : Type} (N : Nat) (h0_n : Nat) (h0 : Nat → Int) (h1_n : Nat) (h1 : Nat → Int) (h2_0 : Int) (h2_1_n : Nat) (h2_1_l : Nat) (h2_1_c : Nat) (h3_0 : Int) (h3_1_n : Nat) (h3_1_l : Nat) (h3_1_c : Nat) (h4_0 : Int) (K : AExit → St → Option α) : ∀ (m : Nat) (t7_n : Nat) (t7_l : Nat) (t7_c : Nat) (t8 : Int) (h5 : List Int),
    loopN (trimSt ((E_s_l04Exact α N).ann 5 8).head ((E_s_l04Exact α N).ann 5 8).grow 6) (bodyK Try.prog (E_s_l04Exact α N) 1 2 5 Try.f5 8) m (buildS s_MultiplyLaurents_l0_p [.n t7_n, .n t7_l, .n t7_c, .i t8, .n h0_n, .f h0, .n h1_n, .f h1, .i h2_0, .n h2_1_n, .n h2_1_l, .n h2_1_c, .i h3_0, .n h3_1_n, .n h3_1_l, .n h3_1_c, .i h4_0, .l h5]) (leaveLoop ((E_s_l04Exact α N).ann 5 8) 6 K) = s_MultiplyLaurents_l0 none N h0_n h0 h1_n h1 h2_0 h2_1_n h2_1_l h2_1_c h3_0 h3_1_n h3_1_l h3_1_c h4_0 m t7_n t7_l t7_c t8 h5 (fun h5_ => K .ret (buildS s_MultiplyLaurents_l0_o0 [.n h0_n, .f h0, .n h1_n, .f h1, .i h2_0, .n h2_1_n, .n h2_1_l, .n h2_1_c, .i h3_0, .n h3_1_n, .n h3_1_l, .n h3_1_c, .l h5_])) (fun t7_n_ t7_l_ t7_c_ h5_ => K (.exit 0) (buildS s_MultiplyLaurents_l0_o1 [.n t7_n_, .n t7_l_, .n t7_c_, .n h0_n, .f h0, .n h1_n, .f h1, .i h2_0, .n h2_1_n, .n h2_1_l, .n h2_1_c, .i h3_0, .n h3_1_n, .n h3_1_l, .n h3_1_c, .i h4_0, .l h5_])) := by
  intro m
  induction m with
  | zero => intros; rfl
  | succ m ih =>
    intro t7_n t7_l t7_c t8 h5
    rw [loopN_round]
    refine (s_MultiplyLaurents_l0_round N t7_n t7_l t7_c t8 h0_n h0 h1_n h1 h2_0 h2_1_n h2_1_l h2_1_c h3_0 h3_1_n h3_1_l h3_1_c h4_0 h5 _ K).trans ?_
    simp only [ih]
    rfl
def E_s_MultiplyLaurents_l0 (α : Type) (N : Nat) : Env α := (E_s_l04Exact α N).addLoop2 5 8 (loopSum2 ((E_s_l04Exact α N).ann 5 8) 2 s_MultiplyLaurents_l0_p (fun l K => match l with
    | [.n t7_n, .n t7_l, .n t7_c, .i t8, .n h0_n, .f h0, .n h1_n, .f h1, .i h2_0, .n h2_1_n, .n h2_1_l, .n h2_1_c, .i h3_0, .n h3_1_n, .n h3_1_l, .n h3_1_c, .i h4_0, .l h5] => s_MultiplyLaurents_l0 none N h0_n h0 h1_n h1 h2_0 h2_1_n h2_1_l h2_1_c h3_0 h3_1_n h3_1_l h3_1_c h4_0 N t7_n t7_l t7_c t8 h5 (fun h5_ => K .ret (buildS s_MultiplyLaurents_l0_o0 [.n h0_n, .f h0, .n h1_n, .f h1, .i h2_0, .n h2_1_n, .n h2_1_l, .n h2_1_c, .i h3_0, .n h3_1_n, .n h3_1_l, .n h3_1_c, .l h5_])) (fun t7_n_ t7_l_ t7_c_ h5_ => K (.exit 0) (buildS s_MultiplyLaurents_l0_o1 [.n t7_n_, .n t7_l_, .n t7_c_, .n h0_n, .f h0, .n h1_n, .f h1, .i h2_0, .n h2_1_n, .n h2_1_l, .n h2_1_c, .i h3_0, .n h3_1_n, .n h3_1_l, .n h3_1_c, .i h4_0, .l h5_]))
    | _ => none) ((E_s_l04Exact α N).ls 5 8))
theorem E_s_MultiplyLaurents_l0_ok {α : Type} (N : Nat) : EnvOk Try.prog (E_s_MultiplyLaurents_l0 α N) := (E_s_l04Exact_ok N).addLoop2 Try.func5 (by kernel_rfl) (loopSum_ok prog_mixed prog_names (E_s_l04Exact_ok N) Try.func5 (by kernel_rfl) (d := 1) (ro := 2) fun l K r h => by
  split at h
  · exact (s_MultiplyLaurents_l0_loop N _ _ _ _ _ _ _ _ _ _ _ _ _ K N _ _ _ _ _).trans h
  · cases h)

def A_s_l04Trim_l0 (α : Type) (N : Nat) : Env α := (E_s_MultiplyLaurents_l0 α N).addAnn 15 2 { head := [0, 1, 4, 5, 6], grow := [], out := [0, 1, 4, 5, 6], ret := [4] }
theorem A_s_l04Trim_l0_ok {α : Type} (N : Nat) : EnvOk Try.prog (A_s_l04Trim_l0 α N) := (E_s_MultiplyLaurents_l0_ok N).addAnn

/-- spec.l04Trim, loop -/
def s_l04Trim_l0_p : SPat := ⟨[.int .i64, .sliceV 0 0 0 1 false, .undef, .undef, .ptr ⟨⟨1, 0⟩, 0, 0, 2⟩, .intC .i64 0, .int .i64] ++ List.replicate 39 .undef, [[.vec .i64], [.vals [.int .i64, .nils]]]⟩
def s_l04Trim_l0_o0 : SPat := ⟨[.int .i64, .sliceV 0 0 0 1 false, .undef, .undef, .ptr ⟨⟨1, 0⟩, 0, 0, 2⟩, .intC .i64 0, .int .i64] ++ List.replicate 39 .undef, [[.vec .i64], [.vals [.int .i64, .nils]]]⟩
theorem s_l04Trim_l0_round {α : Type} (N : Nat) (low : Int) (list_n : Nat) (list_l : Nat) (list_c : Nat) (to_ : Int) (h0 : List Int) (h1_0 : Int) (kn : St → Option α) (K : AExit → St → Option α) :
    roundK Try.prog (A_s_l04Trim_l0 α N) 1 1 15 Try.f15 2 2 (buildS s_l04Trim_l0_p [.i low, .n list_n, .n list_l, .n list_c, .i to_, .l h0, .i h1_0]) kn K = s_l04Trim_l0_s none low list_n list_l list_c h0 h1_0 to_ (fun to_ => kn (buildS s_l04Trim_l0_p [.i low, .n list_n, .n list_l, .n list_c, .i to_, .l h0, .i h1_0])) (fun to__ => K (.exit 0) (buildS s_l04Trim_l0_o0 [.i low, .n list_n, .n list_l, .n list_c, .i to__, .l h0, .i h1_0])) := by kernel_rfl
theorem s_l04Trim_l0_loop {α : Type} (N : Nat) (low : Int) (list_n : Nat) (list_l : Nat) (list_c : Nat) (h0 : List Int) (h1_0 : Int) (K : AExit → St → Option α) : ∀ (m : Nat) (to_ : Int),
    loopN (trimSt ((A_s_l04Trim_l0 α N).ann 15 2).head ((A_s_l04Trim_l0 α N).ann 15 2).grow 2) (bodyK Try.prog (A_s_l04Trim_l0 α N) 1 1 15 Try.f15 2) m (buildS s_l04Trim_l0_p [.i low, .n list_n, .n list_l, .n list_c, .i to_, .l h0, .i h1_0]) (leaveLoop ((A_s_l04Trim_l0 α N).ann 15 2) 2 K) = s_l04Trim_l0 none low list_n list_l list_c h0 h1_0 m to_ (fun to__ => K (.exit 0) (buildS s_l04Trim_l0_o0 [.i low, .n list_n, .n list_l, .n list_c, .i to__, .l h0, .i h1_0])) := by
  intro m
  induction m with
  | zero => intros; rfl
  | succ m ih =>
    intro to_
    rw [loopN_round]
    refine (s_l04Trim_l0_round N low list_n list_l list_c to_ h0 h1_0 _ K).trans ?_
    simp only [ih]
    rfl
def E_s_l04Trim_l0 (α : Type) (N : Nat) : Env α := (A_s_l04Trim_l0 α N).addLoop2 15 2 (loopSum2 ((A_s_l04Trim_l0 α N).ann 15 2) 1 s_l04Trim_l0_p (fun l K => match l with
    | [.i low, .n list_n, .n list_l, .n list_c, .i to_, .l h0, .i h1_0] => s_l04Trim_l0 none low list_n list_l list_c h0 h1_0 N to_ (fun to__ => K (.exit 0) (buildS s_l04Trim_l0_o0 [.i low, .n list_n, .n list_l, .n list_c, .i to__, .l h0, .i h1_0]))
    | _ => none) ((A_s_l04Trim_l0 α N).ls 15 2))
theorem E_s_l04Trim_l0_ok {α : Type} (N : Nat) : EnvOk Try.prog (E_s_l04Trim_l0 α N) := (A_s_l04Trim_l0_ok N).addLoop2 Try.func15 (by kernel_rfl) (loopSum_ok prog_mixed prog_names (A_s_l04Trim_l0_ok N) Try.func15 (by kernel_rfl) (d := 1) (ro := 1) fun l K r h => by
  split at h
  · exact (s_l04Trim_l0_loop N _ _ _ _ _ _ K N _).trans h
  · cases h)

def A_s_l04Trim_l1 (α : Type) (N : Nat) : Env α := (E_s_l04Trim_l0 α N).addAnn 15 4 { head := [0, 1, 4, 5, 6], grow := [], out := [0, 1, 4, 5, 6], ret := [4] }
theorem A_s_l04Trim_l1_ok {α : Type} (N : Nat) : EnvOk Try.prog (A_s_l04Trim_l1 α N) := (E_s_l04Trim_l0_ok N).addAnn

/-- spec.l04Trim, loop -/
def s_l04Trim_l1_p : SPat := ⟨[.int .i64, .sliceV 0 0 0 1 false, .undef, .undef, .ptr ⟨⟨1, 0⟩, 0, 0, 2⟩, .int .i64, .int .i64] ++ List.replicate 39 .undef, [[.vec .i64], [.vals [.int .i64, .nils]]]⟩
def s_l04Trim_l1_o0 : SPat := ⟨[.int .i64, .sliceV 0 0 0 1 false, .undef, .undef, .ptr ⟨⟨1, 0⟩, 0, 0, 2⟩, .int .i64, .int .i64] ++ List.replicate 39 .undef, [[.vec .i64], [.vals [.int .i64, .nils]]]⟩
theorem s_l04Trim_l1_round {α : Type} (N : Nat) (low : Int) (list_n : Nat) (list_l : Nat) (list_c : Nat) (from_ : Int) (to_ : Int) (h0 : List Int) (h1_0 : Int) (kn : St → Option α) (K : AExit → St → Option α) :
    roundK Try.prog (A_s_l04Trim_l1 α N) 1 1 15 Try.f15 4 2 (buildS s_l04Trim_l1_p [.i low, .n list_n, .n list_l, .n list_c, .i from_, .i to_, .l h0, .i h1_0]) kn K = s_l04Trim_l1_s none low list_n list_l list_c to_ h0 h1_0 from_ (fun from_ => kn (buildS s_l04Trim_l1_p [.i low, .n list_n, .n list_l, .n list_c, .i from_, .i to_, .l h0, .i h1_0])) (fun from__ => K (.exit 2) (buildS s_l04Trim_l1_o0 [.i low, .n list_n, .n list_l, .n list_c, .i from__, .i to_, .l h0, .i h1_0])) := by kernel_rfl
theorem s_l04Trim_l1_loop {α : Type} (N : Nat) (low : Int) (list_n : Nat) (list_l : Nat) (list_c : Nat) (to_ : Int) (h0 : List Int) (h1_0 : Int) (K : AExit → St → Option α) : ∀ (m : Nat) (from_ : Int),
    loopN (trimSt ((A_s_l04Trim_l1 α N).ann 15 4).head ((A_s_l04Trim_l1 α N).ann 15 4).grow 2) (bodyK Try.prog (A_s_l04Trim_l1 α N) 1 1 15 Try.f15 4) m (buildS s_l04Trim_l1_p [.i low, .n list_n, .n list_l, .n list_c, .i from_, .i to_, .l h0, .i h1_0]) (leaveLoop ((A_s_l04Trim_l1 α N).ann 15 4) 2 K) = s_l04Trim_l1 none low list_n list_l list_c to_ h0 h1_0 m from_ (fun from__ => K (.exit 2) (buildS s_l04Trim_l1_o0 [.i low, .n list_n, .n list_l, .n list_c, .i from__, .i to_, .l h0, .i h1_0])) := by
  intro m
  induction m with
  | zero => intros; rfl
  | succ m ih =>
    intro from_
    rw [loopN_round]
    refine (s_l04Trim_l1_round N low list_n list_l list_c from_ to_ h0 h1_0 _ K).trans ?_
    simp only [ih]
    rfl
def E_s_l04Trim_l1 (α : Type) (N : Nat) : Env α := (A_s_l04Trim_l1 α N).addLoop2 15 4 (loopSum2 ((A_s_l04Trim_l1 α N).ann 15 4) 1 s_l04Trim_l1_p (fun l K => match l with
    | [.i low, .n list_n, .n list_l, .n list_c, .i from_, .i to_, .l h0, .i h1_0] => s_l04Trim_l1 none low list_n list_l list_c to_ h0 h1_0 N from_ (fun from__ => K (.exit 2) (buildS s_l04Trim_l1_o0 [.i low, .n list_n, .n list_l, .n list_c, .i from__, .i to_, .l h0, .i h1_0]))
    | _ => none) ((A_s_l04Trim_l1 α N).ls 15 4))
theorem E_s_l04Trim_l1_ok {α : Type} (N : Nat) : EnvOk Try.prog (E_s_l04Trim_l1 α N) := (A_s_l04Trim_l1_ok N).addLoop2 Try.func15 (by kernel_rfl) (loopSum_ok prog_mixed prog_names (A_s_l04Trim_l1_ok N) Try.func15 (by kernel_rfl) (d := 1) (ro := 1) fun l K r h => by
  split at h
  · exact (s_l04Trim_l1_loop N _ _ _ _ _ _ _ K N _).trans h
  · cases h)

/-- spec.l01Own -/
def s_l01Own_s2_a : SPat := ⟨[.sliceO 0 0 1 false], [[.vec .i64]]⟩
def s_l01Own_s2_r0 : SPat := ⟨[.slice ⟨⟨1, 0⟩, 0, 0, 0⟩ 0 0 1 true], [[.vec .i64], [.vec .i64]]⟩
def s_l01Own_s2_r1 : SPat := ⟨[.sliceV 1 0 0 1 true], [[.vec .i64], [.vec .i64]]⟩
def s_l01Own_s2_r2 : SPat := ⟨[.sliceV 1 0 0 1 false], [[.vec .i64], [.vec .i64]]⟩
theorem s_l01Own_s2_run {α : Type} (N : Nat) (list_o : Nat) (list_n : Nat) (list_l : Nat) (list_c : Nat) (h0 : List Int) (K : AV → Heap → Option α) :
    callK Try.prog (E_s_l04Trim_l1 α N) 1 29 1 (buildS s_l01Own_s2_a [.n list_o, .n list_n, .n list_l, .n list_c, .l h0]).t (buildS s_l01Own_s2_a [.n list_o, .n list_n, .n list_l, .n list_c, .l h0]).h K = s_l01Own_s2 none N list_o list_n list_l list_c h0 (fun h1_ => retK (buildS s_l01Own_s2_r0 [.l h0, .l h1_]) K) (fun r_n_ r_l_ r_c_ h1_ => retK (buildS s_l01Own_s2_r1 [.n r_n_, .n r_l_, .n r_c_, .l h0, .l h1_]) K) (fun r_n_ r_l_ r_c_ h1_ => retK (buildS s_l01Own_s2_r2 [.n r_n_, .n r_l_, .n r_c_, .l h0, .l h1_]) K) := by kernel_rfl
def E_s_l01Own_s2 (α : Type) (N : Nat) : Env α := (E_s_l04Trim_l1 α N).addFun 29 true 1 s_l01Own_s2_a (fun l K => match l with
    | [.n list_o, .n list_n, .n list_l, .n list_c, .l h0] => s_l01Own_s2 none N list_o list_n list_l list_c h0 (fun h1_ => retK (buildS s_l01Own_s2_r0 [.l h0, .l h1_]) K) (fun r_n_ r_l_ r_c_ h1_ => retK (buildS s_l01Own_s2_r1 [.n r_n_, .n r_l_, .n r_c_, .l h0, .l h1_]) K) (fun r_n_ r_l_ r_c_ h1_ => retK (buildS s_l01Own_s2_r2 [.n r_n_, .n r_l_, .n r_c_, .l h0, .l h1_]) K)
    | _ => none)
theorem E_s_l01Own_s2_ok {α : Type} (N : Nat) : EnvOk Try.prog (E_s_l01Own_s2 α N) := (E_s_l04Trim_l1_ok N).addFun prog_mixed prog_names (d := 1) fun l K r h => by
  split at h
  · exact (s_l01Own_s2_run N _ _ _ _ _ K).trans h
  · cases h

/-- spec.l04Trim -/
def s_l04Trim_a : SPat := ⟨[.int .i64, .sliceV 0 0 0 1 false], [[.vec .i64]]⟩
def s_l04Trim_r0 : SPat := ⟨[.agg [.vals [.int .i64, .nils]]], [[.vec .i64]]⟩
def s_l04Trim_r1 : SPat := ⟨[.agg [.vals [.int .i64, .slice ⟨⟨1, 0⟩, 0, 0, 0⟩ 0 0 1 true]]], [[.vec .i64], [.vec .i64]]⟩
def s_l04Trim_r2 : SPat := ⟨[.agg [.vals [.int .i64, .sliceV 1 0 0 1 true]]], [[.vec .i64], [.vec .i64]]⟩
def s_l04Trim_r3 : SPat := ⟨[.agg [.vals [.int .i64, .sliceV 1 0 0 1 false]]], [[.vec .i64], [.vec .i64]]⟩
theorem s_l04Trim_run {α : Type} (N : Nat) (low : Int) (list_n : Nat) (list_l : Nat) (list_c : Nat) (h0 : List Int) (K : AV → Heap → Option α) :
    callK Try.prog (E_s_l01Own_s2 α N) 1 15 1 (buildS s_l04Trim_a [.i low, .n list_n, .n list_l, .n list_c, .l h0]).t (buildS s_l04Trim_a [.i low, .n list_n, .n list_l, .n list_c, .l h0]).h K = s_l04Trim none N low list_n list_l list_c h0 (fun r_0_ => retK (buildS s_l04Trim_r0 [.i r_0_, .l h0]) K) (fun r_0_ h1_ => retK (buildS s_l04Trim_r1 [.i r_0_, .l h0, .l h1_]) K) (fun r_0_ r_1_n_ r_1_l_ r_1_c_ h1_ => retK (buildS s_l04Trim_r2 [.i r_0_, .n r_1_n_, .n r_1_l_, .n r_1_c_, .l h0, .l h1_]) K) (fun r_0_ r_1_n_ r_1_l_ r_1_c_ h1_ => retK (buildS s_l04Trim_r3 [.i r_0_, .n r_1_n_, .n r_1_l_, .n r_1_c_, .l h0, .l h1_]) K) := by kernel_rfl
def E_s_l04Trim (α : Type) (N : Nat) : Env α := (E_s_l01Own_s2 α N).addFun 15 true 1 s_l04Trim_a (fun l K => match l with
    | [.i low, .n list_n, .n list_l, .n list_c, .l h0] => s_l04Trim none N low list_n list_l list_c h0 (fun r_0_ => retK (buildS s_l04Trim_r0 [.i r_0_, .l h0]) K) (fun r_0_ h1_ => retK (buildS s_l04Trim_r1 [.i r_0_, .l h0, .l h1_]) K) (fun r_0_ r_1_n_ r_1_l_ r_1_c_ h1_ => retK (buildS s_l04Trim_r2 [.i r_0_, .n r_1_n_, .n r_1_l_, .n r_1_c_, .l h0, .l h1_]) K) (fun r_0_ r_1_n_ r_1_l_ r_1_c_ h1_ => retK (buildS s_l04Trim_r3 [.i r_0_, .n r_1_n_, .n r_1_l_, .n r_1_c_, .l h0, .l h1_]) K)
    | _ => none)
theorem E_s_l04Trim_ok {α : Type} (N : Nat) : EnvOk Try.prog (E_s_l04Trim α N) := (E_s_l01Own_s2_ok N).addFun prog_mixed prog_names (d := 1) fun l K r h => by
  split at h
  · exact (s_l04Trim_run N _ _ _ _ _ K).trans h
  · cases h

/-- spec.l04Is -/
def s_l04Is_s2_a : SPat := ⟨[.agg [.vals [.int .i64, .nils]]], []⟩
def s_l04Is_s2_r0 : SPat := ⟨[.bool], []⟩
theorem s_l04Is_s2_run {α : Type} (N : Nat) (p_0 : Int) (K : AV → Heap → Option α) :
    callK Try.prog (E_s_l04Trim α N) 1 27 0 (buildS s_l04Is_s2_a [.i p_0]).t (buildS s_l04Is_s2_a [.i p_0]).h K = s_l04Is_s2 none N p_0 (fun r__ => retK (buildS s_l04Is_s2_r0 [.b r__]) K) := by kernel_rfl
def E_s_l04Is_s2 (α : Type) (N : Nat) : Env α := (E_s_l04Trim α N).addFun 27 true 0 s_l04Is_s2_a (fun l K => match l with
    | [.i p_0] => s_l04Is_s2 none N p_0 (fun r__ => retK (buildS s_l04Is_s2_r0 [.b r__]) K)
    | _ => none)
theorem E_s_l04Is_s2_ok {α : Type} (N : Nat) : EnvOk Try.prog (E_s_l04Is_s2 α N) := (E_s_l04Trim_ok N).addFun prog_mixed prog_names (d := 1) fun l K r h => by
  split at h
  · exact (s_l04Is_s2_run N _ K).trans h
  · cases h

/-- spec.l04Told -/
def s_l04Told_a : SPat := ⟨[.agg [.vals [.int .i64, .nils]]], []⟩
def s_l04Told_r0 : SPat := ⟨[.tuple [.agg [.vals [.int .i64, .nils]], .int .i64]], []⟩
theorem s_l04Told_run {α : Type} (N : Nat) (p_0 : Int) (K : AV → Heap → Option α) :
    callK Try.prog (E_s_l04Is_s2 α N) 1 14 0 (buildS s_l04Told_a [.i p_0]).t (buildS s_l04Told_a [.i p_0]).h K = s_l04Told none N p_0 (fun r_0_0_ r_1_ => retK (buildS s_l04Told_r0 [.i r_0_0_, .i r_1_]) K) := by kernel_rfl
def E_s_l04Told (α : Type) (N : Nat) : Env α := (E_s_l04Is_s2 α N).addFun 14 true 0 s_l04Told_a (fun l K => match l with
    | [.i p_0] => s_l04Told none N p_0 (fun r_0_0_ r_1_ => retK (buildS s_l04Told_r0 [.i r_0_0_, .i r_1_]) K)
    | _ => none)
theorem E_s_l04Told_ok {α : Type} (N : Nat) : EnvOk Try.prog (E_s_l04Told α N) := (E_s_l04Is_s2_ok N).addFun prog_mixed prog_names (d := 1) fun l K r h => by
  split at h
  · exact (s_l04Told_run N _ K).trans h
  · cases h

/-- spec.l04Is, loop -/
def s_l04Is_l0_s2_p : SPat := ⟨[.undef, .ptr ⟨⟨1, 0⟩, 0, 0, 2⟩, .undef, .int .i64, .int .i64] ++ List.replicate 52 .undef, [[.vec .i64], [.vals [.int .i64, .sliceV 0 0 0 1 true]]]⟩
def s_l04Is_l0_s2_o0 : SPat := ⟨[.undef, .undef, .boolC false] ++ List.replicate 54 .undef, [[.vec .i64], [.vals [.int .i64, .sliceV 0 0 0 1 true]]]⟩
def s_l04Is_l0_s2_o1 : SPat := ⟨[] ++ List.replicate 57 .undef, [[.vec .i64], [.vals [.int .i64, .sliceV 0 0 0 1 true]]]⟩
theorem s_l04Is_l0_s2_round {α : Type} (N : Nat) (n : Int) (i : Int) (h0 : List Int) (h1_0 : Int) (h1_1_n : Nat) (h1_1_l : Nat) (h1_1_c : Nat) (kn : St → Option α) (K : AExit → St → Option α) :
    roundK Try.prog (E_s_l04Told α N) 1 1 27 Try.f27 7 2 (buildS s_l04Is_l0_s2_p [.i n, .i i, .l h0, .i h1_0, .n h1_1_n, .n h1_1_l, .n h1_1_c]) kn K = s_l04Is_l0_s2_s none N n h0 h1_0 h1_1_n h1_1_l h1_1_c i (fun i => kn (buildS s_l04Is_l0_s2_p [.i n, .i i, .l h0, .i h1_0, .n h1_1_n, .n h1_1_l, .n h1_1_c])) (K .ret (buildS s_l04Is_l0_s2_o0 [.l h0, .i h1_0, .n h1_1_n, .n h1_1_l, .n h1_1_c])) (K (.exit 0) (buildS s_l04Is_l0_s2_o1 [.l h0, .i h1_0, .n h1_1_n, .n h1_1_l, .n h1_1_c])) := by kernel_rfl
theorem s_l04Is_l0_s2_loop {α : Type} (N : Nat) (n : Int) (h0 : List Int) (h1_0 : Int) (h1_1_n : Nat) (h1_1_l : Nat) (h1_1_c : Nat) (K : AExit → St → Option α) : ∀ (m : Nat) (i : Int),
    loopN (trimSt ((E_s_l04Told α N).ann 27 7).head ((E_s_l04Told α N).ann 27 7).grow 2) (bodyK Try.prog (E_s_l04Told α N) 1 1 27 Try.f27 7) m (buildS s_l04Is_l0_s2_p [.i n, .i i, .l h0, .i h1_0, .n h1_1_n, .n h1_1_l, .n h1_1_c]) (leaveLoop ((E_s_l04Told α N).ann 27 7) 2 K) = s_l04Is_l0_s2 none N n h0 h1_0 h1_1_n h1_1_l h1_1_c m i (K .ret (buildS s_l04Is_l0_s2_o0 [.l h0, .i h1_0, .n h1_1_n, .n h1_1_l, .n h1_1_c])) (K (.exit 0) (buildS s_l04Is_l0_s2_o1 [.l h0, .i h1_0, .n h1_1_n, .n h1_1_l, .n h1_1_c])) := by
  intro m
  induction m with
  | zero => intros; rfl
  | succ m ih =>
    intro i
    rw [loopN_round]
    refine (s_l04Is_l0_s2_round N n i h0 h1_0 h1_1_n h1_1_l h1_1_c _ K).trans ?_
    simp only [ih]
    rfl
def E_s_l04Is_l0_s2 (α : Type) (N : Nat) : Env α := (E_s_l04Told α N).addLoop2 27 7 (loopSum2 ((E_s_l04Told α N).ann 27 7) 1 s_l04Is_l0_s2_p (fun l K => match l with
    | [.i n, .i i, .l h0, .i h1_0, .n h1_1_n, .n h1_1_l, .n h1_1_c] => s_l04Is_l0_s2 none N n h0 h1_0 h1_1_n h1_1_l h1_1_c N i (K .ret (buildS s_l04Is_l0_s2_o0 [.l h0, .i h1_0, .n h1_1_n, .n h1_1_l, .n h1_1_c])) (K (.exit 0) (buildS s_l04Is_l0_s2_o1 [.l h0, .i h1_0, .n h1_1_n, .n h1_1_l, .n h1_1_c]))
    | _ => none) ((E_s_l04Told α N).ls 27 7))
theorem E_s_l04Is_l0_s2_ok {α : Type} (N : Nat) : EnvOk Try.prog (E_s_l04Is_l0_s2 α N) := (E_s_l04Told_ok N).addLoop2 Try.func27 (by kernel_rfl) (loopSum_ok prog_mixed prog_names (E_s_l04Told_ok N) Try.func27 (by kernel_rfl) (d := 1) (ro := 1) fun l K r h => by
  split at h
  · exact (s_l04Is_l0_s2_loop N _ _ _ _ _ _ K N _).trans h
  · cases h)

/-- spec.l04Is -/
def s_l04Is_s3_a : SPat := ⟨[.agg [.vals [.int .i64, .sliceV 0 0 0 1 true]]], [[.vec .i64]]⟩
def s_l04Is_s3_r0 : SPat := ⟨[.bool], [[.vec .i64]]⟩
theorem s_l04Is_s3_run {α : Type} (N : Nat) (p_0 : Int) (p_1_n : Nat) (p_1_l : Nat) (p_1_c : Nat) (h0 : List Int) (K : AV → Heap → Option α) :
    callK Try.prog (E_s_l04Is_l0_s2 α N) 1 27 1 (buildS s_l04Is_s3_a [.i p_0, .n p_1_n, .n p_1_l, .n p_1_c, .l h0]).t (buildS s_l04Is_s3_a [.i p_0, .n p_1_n, .n p_1_l, .n p_1_c, .l h0]).h K = s_l04Is_s3 none N p_0 p_1_n p_1_l p_1_c h0 (fun r__ => retK (buildS s_l04Is_s3_r0 [.b r__, .l h0]) K) := by kernel_rfl
def E_s_l04Is_s3 (α : Type) (N : Nat) : Env α := (E_s_l04Is_l0_s2 α N).addFun 27 true 1 s_l04Is_s3_a (fun l K => match l with
    | [.i p_0, .n p_1_n, .n p_1_l, .n p_1_c, .l h0] => s_l04Is_s3 none N p_0 p_1_n p_1_l p_1_c h0 (fun r__ => retK (buildS s_l04Is_s3_r0 [.b r__, .l h0]) K)
    | _ => none)
theorem E_s_l04Is_s3_ok {α : Type} (N : Nat) : EnvOk Try.prog (E_s_l04Is_s3 α N) := (E_s_l04Is_l0_s2_ok N).addFun prog_mixed prog_names (d := 1) fun l K r h => by
  split at h
  · exact (s_l04Is_s3_run N _ _ _ _ _ K).trans h
  · cases h

/-- spec.l04Told -/
def s_l04Told_s2_a : SPat := ⟨[.agg [.vals [.int .i64, .sliceV 0 0 0 1 true]]], [[.vec .i64]]⟩
def s_l04Told_s2_r0 : SPat := ⟨[.tuple [.agg [.vals [.int .i64, .nils]], .int .i64]], [[.vec .i64]]⟩
def s_l04Told_s2_r1 : SPat := ⟨[.tuple [.agg [.vals [.int .i64, .sliceV 0 0 0 1 true]], .int .i64]], [[.vec .i64]]⟩
theorem s_l04Told_s2_run {α : Type} (N : Nat) (p_0 : Int) (p_1_n : Nat) (p_1_l : Nat) (p_1_c : Nat) (h0 : List Int) (K : AV → Heap → Option α) :
    callK Try.prog (E_s_l04Is_s3 α N) 1 14 1 (buildS s_l04Told_s2_a [.i p_0, .n p_1_n, .n p_1_l, .n p_1_c, .l h0]).t (buildS s_l04Told_s2_a [.i p_0, .n p_1_n, .n p_1_l, .n p_1_c, .l h0]).h K = s_l04Told_s2 none N p_0 p_1_n p_1_l p_1_c h0 (fun r_0_0_ r_1_ => retK (buildS s_l04Told_s2_r0 [.i r_0_0_, .i r_1_, .l h0]) K) (fun r_1_ => retK (buildS s_l04Told_s2_r1 [.i p_0, .n p_1_n, .n p_1_l, .n p_1_c, .i r_1_, .l h0]) K) := by kernel_rfl
def E_s_l04Told_s2 (α : Type) (N : Nat) : Env α := (E_s_l04Is_s3 α N).addFun 14 true 1 s_l04Told_s2_a (fun l K => match l with
    | [.i p_0, .n p_1_n, .n p_1_l, .n p_1_c, .l h0] => s_l04Told_s2 none N p_0 p_1_n p_1_l p_1_c h0 (fun r_0_0_ r_1_ => retK (buildS s_l04Told_s2_r0 [.i r_0_0_, .i r_1_, .l h0]) K) (fun r_1_ => retK (buildS s_l04Told_s2_r1 [.i p_0, .n p_1_n, .n p_1_l, .n p_1_c, .i r_1_, .l h0]) K)
    | _ => none)
theorem E_s_l04Told_s2_ok {α : Type} (N : Nat) : EnvOk Try.prog (E_s_l04Told_s2 α N) := (E_s_l04Is_s3_ok N).addFun prog_mixed prog_names (d := 1) fun l K r h => by
  split at h
  · exact (s_l04Told_s2_run N _ _ _ _ _ K).trans h
  · cases h

/-- spec.l04Is, loop -/
def s_l04Is_l0_s3_p : SPat := ⟨[.undef, .ptr ⟨⟨1, 0⟩, 0, 0, 2⟩, .undef, .int .i64, .int .i64] ++ List.replicate 52 .undef, [[.vec .i64], [.vals [.int .i64, .sliceV 0 0 0 1 false]]]⟩
def s_l04Is_l0_s3_o0 : SPat := ⟨[.undef, .undef, .boolC false] ++ List.replicate 54 .undef, [[.vec .i64], [.vals [.int .i64, .sliceV 0 0 0 1 false]]]⟩
def s_l04Is_l0_s3_o1 : SPat := ⟨[] ++ List.replicate 57 .undef, [[.vec .i64], [.vals [.int .i64, .sliceV 0 0 0 1 false]]]⟩
theorem s_l04Is_l0_s3_round {α : Type} (N : Nat) (n : Int) (i : Int) (h0 : List Int) (h1_0 : Int) (h1_1_n : Nat) (h1_1_l : Nat) (h1_1_c : Nat) (kn : St → Option α) (K : AExit → St → Option α) :
    roundK Try.prog (E_s_l04Told_s2 α N) 1 1 27 Try.f27 7 2 (buildS s_l04Is_l0_s3_p [.i n, .i i, .l h0, .i h1_0, .n h1_1_n, .n h1_1_l, .n h1_1_c]) kn K = s_l04Is_l0_s3_s none N n h0 h1_0 h1_1_n h1_1_l h1_1_c i (fun i => kn (buildS s_l04Is_l0_s3_p [.i n, .i i, .l h0, .i h1_0, .n h1_1_n, .n h1_1_l, .n h1_1_c])) (K .ret (buildS s_l04Is_l0_s3_o0 [.l h0, .i h1_0, .n h1_1_n, .n h1_1_l, .n h1_1_c])) (K (.exit 0) (buildS s_l04Is_l0_s3_o1 [.l h0, .i h1_0, .n h1_1_n, .n h1_1_l, .n h1_1_c])) := by kernel_rfl
theorem s_l04Is_l0_s3_loop {α : Type} (N : Nat) (n : Int) (h0 : List Int) (h1_0 : Int) (h1_1_n : Nat) (h1_1_l : Nat) (h1_1_c : Nat) (K : AExit → St → Option α) : ∀ (m : Nat) (i : Int),
    loopN (trimSt ((E_s_l04Told_s2 α N).ann 27 7).head ((E_s_l04Told_s2 α N).ann 27 7).grow 2) (bodyK Try.prog (E_s_l04Told_s2 α N) 1 1 27 Try.f27 7) m (buildS s_l04Is_l0_s3_p [.i n, .i i, .l h0, .i h1_0, .n h1_1_n, .n h1_1_l, .n h1_1_c]) (leaveLoop ((E_s_l04Told_s2 α N).ann 27 7) 2 K) = s_l04Is_l0_s3 none N n h0 h1_0 h1_1_n h1_1_l h1_1_c m i (K .ret (buildS s_l04Is_l0_s3_o0 [.l h0, .i h1_0, .n h1_1_n, .n h1_1_l, .n h1_1_c])) (K (.exit 0) (buildS s_l04Is_l0_s3_o1 [.l h0, .i h1_0, .n h1_1_n, .n h1_1_l, .n h1_1_c])) := by
  intro m
  induction m with
  | zero => intros; rfl
  | succ m ih =>
    intro i
    rw [loopN_round]
    refine (s_l04Is_l0_s3_round N n i h0 h1_0 h1_1_n h1_1_l h1_1_c _ K).trans ?_
    simp only [ih]
    rfl
def E_s_l04Is_l0_s3 (α : Type) (N : Nat) : Env α := (E_s_l04Told_s2 α N).addLoop2 27 7 (loopSum2 ((E_s_l04Told_s2 α N).ann 27 7) 1 s_l04Is_l0_s3_p (fun l K => match l with
    | [.i n, .i i, .l h0, .i h1_0, .n h1_1_n, .n h1_1_l, .n h1_1_c] => s_l04Is_l0_s3 none N n h0 h1_0 h1_1_n h1_1_l h1_1_c N i (K .ret (buildS s_l04Is_l0_s3_o0 [.l h0, .i h1_0, .n h1_1_n, .n h1_1_l, .n h1_1_c])) (K (.exit 0) (buildS s_l04Is_l0_s3_o1 [.l h0, .i h1_0, .n h1_1_n, .n h1_1_l, .n h1_1_c]))
    | _ => none) ((E_s_l04Told_s2 α N).ls 27 7))
theorem E_s_l04Is_l0_s3_ok {α : Type} (N : Nat) : EnvOk Try.prog (E_s_l04Is_l0_s3 α N) := (E_s_l04Told_s2_ok N).addLoop2 Try.func27 (by kernel_rfl) (loopSum_ok prog_mixed prog_names (E_s_l04Told_s2_ok N) Try.func27 (by kernel_rfl) (d := 1) (ro := 1) fun l K r h => by
  split at h
  · exact (s_l04Is_l0_s3_loop N _ _ _ _ _ _ K N _).trans h
  · cases h)

/-- spec.l04Is -/
def s_l04Is_s4_a : SPat := ⟨[.agg [.vals [.int .i64, .sliceV 0 0 0 1 false]]], [[.vec .i64]]⟩
def s_l04Is_s4_r0 : SPat := ⟨[.bool], [[.vec .i64]]⟩
theorem s_l04Is_s4_run {α : Type} (N : Nat) (p_0 : Int) (p_1_n : Nat) (p_1_l : Nat) (p_1_c : Nat) (h0 : List Int) (K : AV → Heap → Option α) :
    callK Try.prog (E_s_l04Is_l0_s3 α N) 1 27 1 (buildS s_l04Is_s4_a [.i p_0, .n p_1_n, .n p_1_l, .n p_1_c, .l h0]).t (buildS s_l04Is_s4_a [.i p_0, .n p_1_n, .n p_1_l, .n p_1_c, .l h0]).h K = s_l04Is_s4 none N p_0 p_1_n p_1_l p_1_c h0 (fun r__ => retK (buildS s_l04Is_s4_r0 [.b r__, .l h0]) K) := by kernel_rfl
def E_s_l04Is_s4 (α : Type) (N : Nat) : Env α := (E_s_l04Is_l0_s3 α N).addFun 27 true 1 s_l04Is_s4_a (fun l K => match l with
    | [.i p_0, .n p_1_n, .n p_1_l, .n p_1_c, .l h0] => s_l04Is_s4 none N p_0 p_1_n p_1_l p_1_c h0 (fun r__ => retK (buildS s_l04Is_s4_r0 [.b r__, .l h0]) K)
    | _ => none)
theorem E_s_l04Is_s4_ok {α : Type} (N : Nat) : EnvOk Try.prog (E_s_l04Is_s4 α N) := (E_s_l04Is_l0_s3_ok N).addFun prog_mixed prog_names (d := 1) fun l K r h => by
  split at h
  · exact (s_l04Is_s4_run N _ _ _ _ _ K).trans h
  · cases h

/-- spec.l04Told -/
def s_l04Told_s3_a : SPat := ⟨[.agg [.vals [.int .i64, .sliceV 0 0 0 1 false]]], [[.vec .i64]]⟩
def s_l04Told_s3_r0 : SPat := ⟨[.tuple [.agg [.vals [.int .i64, .nils]], .int .i64]], [[.vec .i64]]⟩
def s_l04Told_s3_r1 : SPat := ⟨[.tuple [.agg [.vals [.int .i64, .sliceV 0 0 0 1 false]], .int .i64]], [[.vec .i64]]⟩
theorem s_l04Told_s3_run {α : Type} (N : Nat) (p_0 : Int) (p_1_n : Nat) (p_1_l : Nat) (p_1_c : Nat) (h0 : List Int) (K : AV → Heap → Option α) :
    callK Try.prog (E_s_l04Is_s4 α N) 1 14 1 (buildS s_l04Told_s3_a [.i p_0, .n p_1_n, .n p_1_l, .n p_1_c, .l h0]).t (buildS s_l04Told_s3_a [.i p_0, .n p_1_n, .n p_1_l, .n p_1_c, .l h0]).h K = s_l04Told_s3 none N p_0 p_1_n p_1_l p_1_c h0 (fun r_0_0_ r_1_ => retK (buildS s_l04Told_s3_r0 [.i r_0_0_, .i r_1_, .l h0]) K) (fun r_1_ => retK (buildS s_l04Told_s3_r1 [.i p_0, .n p_1_n, .n p_1_l, .n p_1_c, .i r_1_, .l h0]) K) := by kernel_rfl
def E_s_l04Told_s3 (α : Type) (N : Nat) : Env α := (E_s_l04Is_s4 α N).addFun 14 true 1 s_l04Told_s3_a (fun l K => match l with
    | [.i p_0, .n p_1_n, .n p_1_l, .n p_1_c, .l h0] => s_l04Told_s3 none N p_0 p_1_n p_1_l p_1_c h0 (fun r_0_0_ r_1_ => retK (buildS s_l04Told_s3_r0 [.i r_0_0_, .i r_1_, .l h0]) K) (fun r_1_ => retK (buildS s_l04Told_s3_r1 [.i p_0, .n p_1_n, .n p_1_l, .n p_1_c, .i r_1_, .l h0]) K)
    | _ => none)
theorem E_s_l04Told_s3_ok {α : Type} (N : Nat) : EnvOk Try.prog (E_s_l04Told_s3 α N) := (E_s_l04Is_s4_ok N).addFun prog_mixed prog_names (d := 1) fun l K r h => by
  split at h
  · exact (s_l04Told_s3_run N _ _ _ _ _ K).trans h
  · cases h

/-- spec.MultiplyLaurents -/
def s_MultiplyLaurents_a : SPat := ⟨[.agg [.vals [.int .i64, .sliceV 0 0 0 1 true]], .agg [.vals [.int .i64, .sliceV 1 0 0 1 true]]], [[.intsV .i64], [.intsV .i64]]⟩
def s_MultiplyLaurents_r0 : SPat := ⟨[.tuple [.agg [.vals [.int .i64, .nils]], .int .i64]], [[.intsV .i64], [.intsV .i64]]⟩
def s_MultiplyLaurents_r1 : SPat := ⟨[.tuple [.agg [.vals [.int .i64, .slice ⟨⟨2, 0⟩, 0, 0, 0⟩ 0 0 1 true]], .int .i64]], [[.intsV .i64], [.intsV .i64], [.vec .i64]]⟩
def s_MultiplyLaurents_r2 : SPat := ⟨[.tuple [.agg [.vals [.int .i64, .sliceV 2 0 0 1 true]], .int .i64]], [[.intsV .i64], [.intsV .i64], [.vec .i64]]⟩
def s_MultiplyLaurents_r3 : SPat := ⟨[.tuple [.agg [.vals [.int .i64, .sliceV 2 0 0 1 false]], .int .i64]], [[.intsV .i64], [.intsV .i64], [.vec .i64]]⟩
theorem s_MultiplyLaurents_run {α : Type} (N : Nat) (p_0 : Int) (p_1_n : Nat) (p_1_l : Nat) (p_1_c : Nat) (a1_0 : Int) (a1_1_n : Nat) (a1_1_l : Nat) (a1_1_c : Nat) (h0_n : Nat) (h0 : Nat → Int) (h1_n : Nat) (h1 : Nat → Int) (K : AV → Heap → Option α) :
    callK Try.prog (E_s_l04Told_s3 α N) 1 5 2 (buildS s_MultiplyLaurents_a [.i p_0, .n p_1_n, .n p_1_l, .n p_1_c, .i a1_0, .n a1_1_n, .n a1_1_l, .n a1_1_c, .n h0_n, .f h0, .n h1_n, .f h1]).t (buildS s_MultiplyLaurents_a [.i p_0, .n p_1_n, .n p_1_l, .n p_1_c, .i a1_0, .n a1_1_n, .n a1_1_l, .n a1_1_c, .n h0_n, .f h0, .n h1_n, .f h1]).h K = s_MultiplyLaurents none N p_0 p_1_n p_1_l p_1_c a1_0 a1_1_n a1_1_l a1_1_c h0_n h0 h1_n h1 (fun r_0_0_ r_1_ => retK (buildS s_MultiplyLaurents_r0 [.i r_0_0_, .i r_1_, .n h0_n, .f h0, .n h1_n, .f h1]) K) (fun r_0_0_ r_1_ h2_ => retK (buildS s_MultiplyLaurents_r1 [.i r_0_0_, .i r_1_, .n h0_n, .f h0, .n h1_n, .f h1, .l h2_]) K) (fun r_0_0_ r_0_1_n_ r_0_1_l_ r_0_1_c_ r_1_ h2_ => retK (buildS s_MultiplyLaurents_r2 [.i r_0_0_, .n r_0_1_n_, .n r_0_1_l_, .n r_0_1_c_, .i r_1_, .n h0_n, .f h0, .n h1_n, .f h1, .l h2_]) K) (fun r_0_0_ r_0_1_n_ r_0_1_l_ r_0_1_c_ r_1_ h2_ => retK (buildS s_MultiplyLaurents_r3 [.i r_0_0_, .n r_0_1_n_, .n r_0_1_l_, .n r_0_1_c_, .i r_1_, .n h0_n, .f h0, .n h1_n, .f h1, .l h2_]) K) := by kernel_rfl
def E_s_MultiplyLaurents (α : Type) (N : Nat) : Env α := (E_s_l04Told_s3 α N).addFun 5 true 2 s_MultiplyLaurents_a (fun l K => match l with
    | [.i p_0, .n p_1_n, .n p_1_l, .n p_1_c, .i a1_0, .n a1_1_n, .n a1_1_l, .n a1_1_c, .n h0_n, .f h0, .n h1_n, .f h1] => s_MultiplyLaurents none N p_0 p_1_n p_1_l p_1_c a1_0 a1_1_n a1_1_l a1_1_c h0_n h0 h1_n h1 (fun r_0_0_ r_1_ => retK (buildS s_MultiplyLaurents_r0 [.i r_0_0_, .i r_1_, .n h0_n, .f h0, .n h1_n, .f h1]) K) (fun r_0_0_ r_1_ h2_ => retK (buildS s_MultiplyLaurents_r1 [.i r_0_0_, .i r_1_, .n h0_n, .f h0, .n h1_n, .f h1, .l h2_]) K) (fun r_0_0_ r_0_1_n_ r_0_1_l_ r_0_1_c_ r_1_ h2_ => retK (buildS s_MultiplyLaurents_r2 [.i r_0_0_, .n r_0_1_n_, .n r_0_1_l_, .n r_0_1_c_, .i r_1_, .n h0_n, .f h0, .n h1_n, .f h1, .l h2_]) K) (fun r_0_0_ r_0_1_n_ r_0_1_l_ r_0_1_c_ r_1_ h2_ => retK (buildS s_MultiplyLaurents_r3 [.i r_0_0_, .n r_0_1_n_, .n r_0_1_l_, .n r_0_1_c_, .i r_1_, .n h0_n, .f h0, .n h1_n, .f h1, .l h2_]) K)
    | _ => none)
theorem E_s_MultiplyLaurents_ok {α : Type} (N : Nat) : EnvOk Try.prog (E_s_MultiplyLaurents α N) := (E_s_l04Told_s3_ok N).addFun prog_mixed prog_names (d := 1) fun l K r h => by
  split at h
  · exact (s_MultiplyLaurents_run N _ _ _ _ _ _ _ _ _ _ _ _ K).trans h
  · cases h

/-- (impl.Laurent).isZero -/
def i_Laurent_isZero_a : SPat := ⟨[.agg [.vals [.int .i64, .sliceV 0 0 0 1 true]]], [[.intsV .i64]]⟩
def i_Laurent_isZero_r0 : SPat := ⟨[.bool], [[.intsV .i64]]⟩
theorem i_Laurent_isZero_run {α : Type} (N : Nat) (p_0 : Int) (p_1_n : Nat) (p_1_l : Nat) (p_1_c : Nat) (h0_n : Nat) (h0 : Nat → Int) (K : AV → Heap → Option α) :
    callK Try.prog (E_s_MultiplyLaurents α N) 1 18 1 (buildS i_Laurent_isZero_a [.i p_0, .n p_1_n, .n p_1_l, .n p_1_c, .n h0_n, .f h0]).t (buildS i_Laurent_isZero_a [.i p_0, .n p_1_n, .n p_1_l, .n p_1_c, .n h0_n, .f h0]).h K = i_Laurent_isZero none N p_0 p_1_n p_1_l p_1_c h0_n h0 (fun r__ => retK (buildS i_Laurent_isZero_r0 [.b r__, .n h0_n, .f h0]) K) := by kernel_rfl
def E_i_Laurent_isZero (α : Type) (N : Nat) : Env α := (E_s_MultiplyLaurents α N).addFun 18 true 1 i_Laurent_isZero_a (fun l K => match l with
    | [.i p_0, .n p_1_n, .n p_1_l, .n p_1_c, .n h0_n, .f h0] => i_Laurent_isZero none N p_0 p_1_n p_1_l p_1_c h0_n h0 (fun r__ => retK (buildS i_Laurent_isZero_r0 [.b r__, .n h0_n, .f h0]) K)
    | _ => none)
theorem E_i_Laurent_isZero_ok {α : Type} (N : Nat) : EnvOk Try.prog (E_i_Laurent_isZero α N) := (E_s_MultiplyLaurents_ok N).addFun prog_mixed prog_names (d := 1) fun l K r h => by
  split at h
  · exact (i_Laurent_isZero_run N _ _ _ _ _ _ K).trans h
  · cases h

/-- impl.within -/
def i_within_a : SPat := ⟨[.int .i64, .int .i64, .int .i64], []⟩
def i_within_r0 : SPat := ⟨[.bool], []⟩
theorem i_within_run {α : Type} (N : Nat) (x : Int) (low : Int) (high : Int) (K : AV → Heap → Option α) :
    callK Try.prog (E_i_Laurent_isZero α N) 1 19 0 (buildS i_within_a [.i x, .i low, .i high]).t (buildS i_within_a [.i x, .i low, .i high]).h K = i_within none N x low high (fun r__ => retK (buildS i_within_r0 [.b r__]) K) := by kernel_rfl
def E_i_within (α : Type) (N : Nat) : Env α := (E_i_Laurent_isZero α N).addFun 19 true 0 i_within_a (fun l K => match l with
    | [.i x, .i low, .i high] => i_within none N x low high (fun r__ => retK (buildS i_within_r0 [.b r__]) K)
    | _ => none)
theorem E_i_within_ok {α : Type} (N : Nat) : EnvOk Try.prog (E_i_within α N) := (E_i_Laurent_isZero_ok N).addFun prog_mixed prog_names (d := 1) fun l K r h => by
  split at h
  · exact (i_within_run N _ _ _ K).trans h
  · cases h

/-- (impl.Laurent).high -/
def i_Laurent_high_a : SPat := ⟨[.agg [.vals [.int .i64, .sliceV 0 0 0 1 true]]], [[.intsV .i64]]⟩
def i_Laurent_high_r0 : SPat := ⟨[.int .i64], [[.intsV .i64]]⟩
theorem i_Laurent_high_run {α : Type} (N : Nat) (p_0 : Int) (p_1_n : Nat) (p_1_l : Nat) (p_1_c : Nat) (h0_n : Nat) (h0 : Nat → Int) (K : AV → Heap → Option α) :
    callK Try.prog (E_i_within α N) 1 20 1 (buildS i_Laurent_high_a [.i p_0, .n p_1_n, .n p_1_l, .n p_1_c, .n h0_n, .f h0]).t (buildS i_Laurent_high_a [.i p_0, .n p_1_n, .n p_1_l, .n p_1_c, .n h0_n, .f h0]).h K = i_Laurent_high none N p_0 p_1_n p_1_l p_1_c h0_n h0 (fun r__ => retK (buildS i_Laurent_high_r0 [.i r__, .n h0_n, .f h0]) K) := by kernel_rfl
def E_i_Laurent_high (α : Type) (N : Nat) : Env α := (E_i_within α N).addFun 20 true 1 i_Laurent_high_a (fun l K => match l with
    | [.i p_0, .n p_1_n, .n p_1_l, .n p_1_c, .n h0_n, .f h0] => i_Laurent_high none N p_0 p_1_n p_1_l p_1_c h0_n h0 (fun r__ => retK (buildS i_Laurent_high_r0 [.i r__, .n h0_n, .f h0]) K)
    | _ => none)
theorem E_i_Laurent_high_ok {α : Type} (N : Nat) : EnvOk Try.prog (E_i_Laurent_high α N) := (E_i_within_ok N).addFun prog_mixed prog_names (d := 1) fun l K r h => by
  split at h
  · exact (i_Laurent_high_run N _ _ _ _ _ _ K).trans h
  · cases h

def A_slices_IndexFunc_int64_int64_l0 (α : Type) (N : Nat) : Env α := (E_i_Laurent_high α N).addAnn 34 2 { head := [0, 1, 7, 8], grow := [], out := [], ret := [4] }
theorem A_slices_IndexFunc_int64_int64_l0_ok {α : Type} (N : Nat) : EnvOk Try.prog (A_slices_IndexFunc_int64_int64_l0 α N) := (E_i_Laurent_high_ok N).addAnn

/-- impl.isCoefficient -/
def i_isCoefficient_a : SPat := ⟨[.int .i64], []⟩
def i_isCoefficient_r0 : SPat := ⟨[.bool], []⟩
theorem i_isCoefficient_run {α : Type} (N : Nat) (c : Int) (K : AV → Heap → Option α) :
    callK Try.prog (A_slices_IndexFunc_int64_int64_l0 α N) 1 31 0 (buildS i_isCoefficient_a [.i c]).t (buildS i_isCoefficient_a [.i c]).h K = i_isCoefficient none N c (fun r__ => retK (buildS i_isCoefficient_r0 [.b r__]) K) := by kernel_rfl
def E_i_isCoefficient (α : Type) (N : Nat) : Env α := (A_slices_IndexFunc_int64_int64_l0 α N).addFun 31 true 0 i_isCoefficient_a (fun l K => match l with
    | [.i c] => i_isCoefficient none N c (fun r__ => retK (buildS i_isCoefficient_r0 [.b r__]) K)
    | _ => none)
theorem E_i_isCoefficient_ok {α : Type} (N : Nat) : EnvOk Try.prog (E_i_isCoefficient α N) := (A_slices_IndexFunc_int64_int64_l0_ok N).addFun prog_mixed prog_names (d := 1) fun l K r h => by
  split at h
  · exact (i_isCoefficient_run N _ K).trans h
  · cases h

/-- impl.areCoefficients$1 -/
def i_areCoefficients_1_a : SPat := ⟨[.int .i64], []⟩
def i_areCoefficients_1_r0 : SPat := ⟨[.bool], []⟩
theorem i_areCoefficients_1_run {α : Type} (N : Nat) (c : Int) (K : AV → Heap → Option α) :
    callK Try.prog (E_i_isCoefficient α N) 1 33 0 (buildS i_areCoefficients_1_a [.i c]).t (buildS i_areCoefficients_1_a [.i c]).h K = i_areCoefficients_1 none N c (fun r__ => retK (buildS i_areCoefficients_1_r0 [.b r__]) K) := by kernel_rfl
def E_i_areCoefficients_1 (α : Type) (N : Nat) : Env α := (E_i_isCoefficient α N).addFun 33 true 0 i_areCoefficients_1_a (fun l K => match l with
    | [.i c] => i_areCoefficients_1 none N c (fun r__ => retK (buildS i_areCoefficients_1_r0 [.b r__]) K)
    | _ => none)
theorem E_i_areCoefficients_1_ok {α : Type} (N : Nat) : EnvOk Try.prog (E_i_areCoefficients_1 α N) := (E_i_isCoefficient_ok N).addFun prog_mixed prog_names (d := 1) fun l K r h => by
  split at h
  · exact (i_areCoefficients_1_run N _ K).trans h
  · cases h

/-- slices.IndexFunc[[]int64,int64], loop -/
def slices_IndexFunc_int64_int64_l0_s3_p : SPat := ⟨[.sliceO 0 0 1 true, .func 33 [], .undef, .undef, .undef, .undef, .undef, .int .i64, .int .i64] ++ List.replicate 10 .undef, [[.intsV .i64]]⟩
def slices_IndexFunc_int64_int64_l0_s3_o0 : SPat := ⟨[.undef, .undef, .undef, .undef, .int .i64] ++ List.replicate 14 .undef, [[.intsV .i64]]⟩
def slices_IndexFunc_int64_int64_l0_s3_o1 : SPat := ⟨[] ++ List.replicate 19 .undef, [[.intsV .i64]]⟩
theorem slices_IndexFunc_int64_int64_l0_s3_round {α : Type} (N : Nat) (s_o : Nat) (s_n : Nat) (s_l : Nat) (s_c : Nat) (t7 : Int) (t8 : Int) (h0_n : Nat) (h0 : Nat → Int) (kn : St → Option α) (K : AExit → St → Option α) :
    roundK Try.prog (E_i_areCoefficients_1 α N) 1 1 34 Try.f34 2 1 (buildS slices_IndexFunc_int64_int64_l0_s3_p [.n s_o, .n s_n, .n s_l, .n s_c, .i t7, .i t8, .n h0_n, .f h0]) kn K = slices_IndexFunc_int64_int64_l0_s3_s none N s_o s_n s_l s_c t7 h0_n h0 t8 (fun t8 => kn (buildS slices_IndexFunc_int64_int64_l0_s3_p [.n s_o, .n s_n, .n s_l, .n s_c, .i t7, .i t8, .n h0_n, .f h0])) (fun t4_ => K .ret (buildS slices_IndexFunc_int64_int64_l0_s3_o0 [.i t4_, .n h0_n, .f h0])) (K (.exit 0) (buildS slices_IndexFunc_int64_int64_l0_s3_o1 [.n h0_n, .f h0])) := by kernel_rfl
theorem slices_IndexFunc_int64_int64_l0_s3_loop {α : Type} (N : Nat) (s_o : Nat) (s_n : Nat) (s_l : Nat) (s_c : Nat) (t7 : Int) (h0_n : Nat) (h0 : Nat → Int) (K : AExit → St → Option α) : ∀ (m : Nat) (t8 : Int),
    loopN (trimSt ((E_i_areCoefficients_1 α N).ann 34 2).head ((E_i_areCoefficients_1 α N).ann 34 2).grow 1) (bodyK Try.prog (E_i_areCoefficients_1 α N) 1 1 34 Try.f34 2) m (buildS slices_IndexFunc_int64_int64_l0_s3_p [.n s_o, .n s_n, .n s_l, .n s_c, .i t7, .i t8, .n h0_n, .f h0]) (leaveLoop ((E_i_areCoefficients_1 α N).ann 34 2) 1 K) = slices_IndexFunc_int64_int64_l0_s3 none N s_o s_n s_l s_c t7 h0_n h0 m t8 (fun t4_ => K .ret (buildS slices_IndexFunc_int64_int64_l0_s3_o0 [.i t4_, .n h0_n, .f h0])) (K (.exit 0) (buildS slices_IndexFunc_int64_int64_l0_s3_o1 [.n h0_n, .f h0])) := by
  intro m
  induction m with
  | zero => intros; rfl
  | succ m ih =>
    intro t8
    rw [loopN_round]
    refine (slices_IndexFunc_int64_int64_l0_s3_round N s_o s_n s_l s_c t7 t8 h0_n h0 _ K).trans ?_
    simp only [ih]
    rfl
def E_slices_IndexFunc_int64_int64_l0_s3 (α : Type) (N : Nat) : Env α := (E_i_areCoefficients_1 α N).addLoop2 34 2 (loopSum2 ((E_i_areCoefficients_1 α N).ann 34 2) 1 slices_IndexFunc_int64_int64_l0_s3_p (fun l K => match l with
    | [.n s_o, .n s_n, .n s_l, .n s_c, .i t7, .i t8, .n h0_n, .f h0] => slices_IndexFunc_int64_int64_l0_s3 none N s_o s_n s_l s_c t7 h0_n h0 N t8 (fun t4_ => K .ret (buildS slices_IndexFunc_int64_int64_l0_s3_o0 [.i t4_, .n h0_n, .f h0])) (K (.exit 0) (buildS slices_IndexFunc_int64_int64_l0_s3_o1 [.n h0_n, .f h0]))
    | _ => none) ((E_i_areCoefficients_1 α N).ls 34 2))
theorem E_slices_IndexFunc_int64_int64_l0_s3_ok {α : Type} (N : Nat) : EnvOk Try.prog (E_slices_IndexFunc_int64_int64_l0_s3 α N) := (E_i_areCoefficients_1_ok N).addLoop2 Try.func34 (by kernel_rfl) (loopSum_ok prog_mixed prog_names (E_i_areCoefficients_1_ok N) Try.func34 (by kernel_rfl) (d := 1) (ro := 1) fun l K r h => by
  split at h
  · exact (slices_IndexFunc_int64_int64_l0_s3_loop N _ _ _ _ _ _ _ K N _).trans h
  · cases h)

/-- slices.IndexFunc[[]int64,int64] -/
def slices_IndexFunc_int64_int64_s3_a : SPat := ⟨[.sliceO 0 0 1 true, .func 33 []], [[.intsV .i64]]⟩
def slices_IndexFunc_int64_int64_s3_r0 : SPat := ⟨[.int .i64], [[.intsV .i64]]⟩
theorem slices_IndexFunc_int64_int64_s3_run {α : Type} (N : Nat) (s_o : Nat) (s_n : Nat) (s_l : Nat) (s_c : Nat) (h0_n : Nat) (h0 : Nat → Int) (K : AV → Heap → Option α) :
    callK Try.prog (E_slices_IndexFunc_int64_int64_l0_s3 α N) 1 34 1 (buildS slices_IndexFunc_int64_int64_s3_a [.n s_o, .n s_n, .n s_l, .n s_c, .n h0_n, .f h0]).t (buildS slices_IndexFunc_int64_int64_s3_a [.n s_o, .n s_n, .n s_l, .n s_c, .n h0_n, .f h0]).h K = slices_IndexFunc_int64_int64_s3 none N s_o s_n s_l s_c h0_n h0 (fun r__ => retK (buildS slices_IndexFunc_int64_int64_s3_r0 [.i r__, .n h0_n, .f h0]) K) := by kernel_rfl
def E_slices_IndexFunc_int64_int64_s3 (α : Type) (N : Nat) : Env α := (E_slices_IndexFunc_int64_int64_l0_s3 α N).addFun 34 true 1 slices_IndexFunc_int64_int64_s3_a (fun l K => match l with
    | [.n s_o, .n s_n, .n s_l, .n s_c, .n h0_n, .f h0] => slices_IndexFunc_int64_int64_s3 none N s_o s_n s_l s_c h0_n h0 (fun r__ => retK (buildS slices_IndexFunc_int64_int64_s3_r0 [.i r__, .n h0_n, .f h0]) K)
    | _ => none)
theorem E_slices_IndexFunc_int64_int64_s3_ok {α : Type} (N : Nat) : EnvOk Try.prog (E_slices_IndexFunc_int64_int64_s3 α N) := (E_slices_IndexFunc_int64_int64_l0_s3_ok N).addFun prog_mixed prog_names (d := 1) fun l K r h => by
  split at h
  · exact (slices_IndexFunc_int64_int64_s3_run N _ _ _ _ _ _ K).trans h
  · cases h

/-- slices.ContainsFunc[[]int64,int64] -/
def slices_ContainsFunc_int64_int64_s2_a : SPat := ⟨[.sliceV 0 0 0 1 true, .func 33 []], [[.intsV .i64]]⟩
def slices_ContainsFunc_int64_int64_s2_r0 : SPat := ⟨[.bool], [[.intsV .i64]]⟩
theorem slices_ContainsFunc_int64_int64_s2_run {α : Type} (N : Nat) (s_n : Nat) (s_l : Nat) (s_c : Nat) (h0_n : Nat) (h0 : Nat → Int) (K : AV → Heap → Option α) :
    callK Try.prog (E_slices_IndexFunc_int64_int64_s3 α N) 1 32 1 (buildS slices_ContainsFunc_int64_int64_s2_a [.n s_n, .n s_l, .n s_c, .n h0_n, .f h0]).t (buildS slices_ContainsFunc_int64_int64_s2_a [.n s_n, .n s_l, .n s_c, .n h0_n, .f h0]).h K = slices_ContainsFunc_int64_int64_s2 none N s_n s_l s_c h0_n h0 (fun r__ => retK (buildS slices_ContainsFunc_int64_int64_s2_r0 [.b r__, .n h0_n, .f h0]) K) := by kernel_rfl
def E_slices_ContainsFunc_int64_int64_s2 (α : Type) (N : Nat) : Env α := (E_slices_IndexFunc_int64_int64_s3 α N).addFun 32 true 1 slices_ContainsFunc_int64_int64_s2_a (fun l K => match l with
    | [.n s_n, .n s_l, .n s_c, .n h0_n, .f h0] => slices_ContainsFunc_int64_int64_s2 none N s_n s_l s_c h0_n h0 (fun r__ => retK (buildS slices_ContainsFunc_int64_int64_s2_r0 [.b r__, .n h0_n, .f h0]) K)
    | _ => none)
theorem E_slices_ContainsFunc_int64_int64_s2_ok {α : Type} (N : Nat) : EnvOk Try.prog (E_slices_ContainsFunc_int64_int64_s2 α N) := (E_slices_IndexFunc_int64_int64_s3_ok N).addFun prog_mixed prog_names (d := 1) fun l K r h => by
  split at h
  · exact (slices_ContainsFunc_int64_int64_s2_run N _ _ _ _ _ K).trans h
  · cases h

/-- impl.areCoefficients -/
def i_areCoefficients_a : SPat := ⟨[.sliceV 0 0 0 1 true], [[.intsV .i64]]⟩
def i_areCoefficients_r0 : SPat := ⟨[.bool], [[.intsV .i64]]⟩
theorem i_areCoefficients_run {α : Type} (N : Nat) (list_n : Nat) (list_l : Nat) (list_c : Nat) (h0_n : Nat) (h0 : Nat → Int) (K : AV → Heap → Option α) :
    callK Try.prog (E_slices_ContainsFunc_int64_int64_s2 α N) 1 30 1 (buildS i_areCoefficients_a [.n list_n, .n list_l, .n list_c, .n h0_n, .f h0]).t (buildS i_areCoefficients_a [.n list_n, .n list_l, .n list_c, .n h0_n, .f h0]).h K = i_areCoefficients none N list_n list_l list_c h0_n h0 (fun r__ => retK (buildS i_areCoefficients_r0 [.b r__, .n h0_n, .f h0]) K) := by kernel_rfl
def E_i_areCoefficients (α : Type) (N : Nat) : Env α := (E_slices_ContainsFunc_int64_int64_s2 α N).addFun 30 true 1 i_areCoefficients_a (fun l K => match l with
    | [.n list_n, .n list_l, .n list_c, .n h0_n, .f h0] => i_areCoefficients none N list_n list_l list_c h0_n h0 (fun r__ => retK (buildS i_areCoefficients_r0 [.b r__, .n h0_n, .f h0]) K)
    | _ => none)
theorem E_i_areCoefficients_ok {α : Type} (N : Nat) : EnvOk Try.prog (E_i_areCoefficients α N) := (E_slices_ContainsFunc_int64_int64_s2_ok N).addFun prog_mixed prog_names (d := 1) fun l K r h => by
  split at h
  · exact (i_areCoefficients_run N _ _ _ _ _ K).trans h
  · cases h

/-- impl.IsLaurent -/
def i_IsLaurent_a : SPat := ⟨[.agg [.vals [.int .i64, .sliceV 0 0 0 1 true]]], [[.intsV .i64]]⟩
def i_IsLaurent_r0 : SPat := ⟨[.bool], [[.intsV .i64]]⟩
theorem i_IsLaurent_run {α : Type} (N : Nat) (p_0 : Int) (p_1_n : Nat) (p_1_l : Nat) (p_1_c : Nat) (h0_n : Nat) (h0 : Nat → Int) (K : AV → Heap → Option α) :
    callK Try.prog (E_i_areCoefficients α N) 1 17 1 (buildS i_IsLaurent_a [.i p_0, .n p_1_n, .n p_1_l, .n p_1_c, .n h0_n, .f h0]).t (buildS i_IsLaurent_a [.i p_0, .n p_1_n, .n p_1_l, .n p_1_c, .n h0_n, .f h0]).h K = i_IsLaurent none N p_0 p_1_n p_1_l p_1_c h0_n h0 (fun r__ => retK (buildS i_IsLaurent_r0 [.b r__, .n h0_n, .f h0]) K) := by kernel_rfl
def E_i_IsLaurent (α : Type) (N : Nat) : Env α := (E_i_areCoefficients α N).addFun 17 true 1 i_IsLaurent_a (fun l K => match l with
    | [.i p_0, .n p_1_n, .n p_1_l, .n p_1_c, .n h0_n, .f h0] => i_IsLaurent none N p_0 p_1_n p_1_l p_1_c h0_n h0 (fun r__ => retK (buildS i_IsLaurent_r0 [.b r__, .n h0_n, .f h0]) K)
    | _ => none)
theorem E_i_IsLaurent_ok {α : Type} (N : Nat) : EnvOk Try.prog (E_i_IsLaurent α N) := (E_i_areCoefficients_ok N).addFun prog_mixed prog_names (d := 1) fun l K r h => by
  split at h
  · exact (i_IsLaurent_run N _ _ _ _ _ _ K).trans h
  · cases h

def A_i_MultiplyLaurents_l0 (α : Type) (N : Nat) : Env α := (E_i_IsLaurent α N).addAnn 7 9 { head := [2, 3, 4, 6, 58, 59, 60], grow := [], out := [2, 3, 4, 6], ret := [4, 5] }
theorem A_i_MultiplyLaurents_l0_ok {α : Type} (N : Nat) : EnvOk Try.prog (A_i_MultiplyLaurents_l0 α N) := (E_i_IsLaurent_ok N).addAnn

def A_i_MultiplyLaurents_l1 (α : Type) (N : Nat) : Env α := (A_i_MultiplyLaurents_l0 α N).addAnn 7 12 { head := [2, 3, 4, 6, 7, 8, 58, 59, 60, 66, 67, 68], grow := [], out := [2, 3, 4, 6, 58, 59, 60], ret := [4, 5] }
theorem A_i_MultiplyLaurents_l1_ok {α : Type} (N : Nat) : EnvOk Try.prog (A_i_MultiplyLaurents_l1 α N) := (A_i_MultiplyLaurents_l0_ok N).addAnn

/-- (*impl.wide).add -/
def i_wide_add_a : SPat := ⟨[.ptrV 0 0, .int .i64, .int .i64], [[.intsV .i64]]⟩
def i_wide_add_r0 : SPat := ⟨[.tuple []], [[.intsV .i64]]⟩
theorem i_wide_add_run {α : Type} (N : Nat) (w_o : Nat) (w_n : Nat) (a : Int) (b : Int) (h0_n : Nat) (h0 : Nat → Int) (K : AV → Heap → Option α) :
    callK Try.prog (A_i_MultiplyLaurents_l1 α N) 1 21 0 (buildS i_wide_add_a [.n w_o, .n w_n, .i a, .i b, .n h0_n, .f h0]).t (buildS i_wide_add_a [.n w_o, .n w_n, .i a, .i b, .n h0_n, .f h0]).h K = i_wide_add none N w_o w_n a b h0_n h0 (fun h0_ => retK (buildS i_wide_add_r0 [.n h0_n, .f h0_]) K) := by kernel_rfl
def E_i_wide_add (α : Type) (N : Nat) : Env α := (A_i_MultiplyLaurents_l1 α N).addFun 21 false 0 i_wide_add_a (fun l K => match l with
    | [.n w_o, .n w_n, .i a, .i b, .n h0_n, .f h0] => i_wide_add none N w_o w_n a b h0_n h0 (fun h0_ => retK (buildS i_wide_add_r0 [.n h0_n, .f h0_]) K)
    | _ => none)
theorem E_i_wide_add_ok {α : Type} (N : Nat) : EnvOk Try.prog (E_i_wide_add α N) := (A_i_MultiplyLaurents_l1_ok N).addFun prog_mixed prog_names (d := 1) fun l K r h => by
  split at h
  · exact (i_wide_add_run N _ _ _ _ _ _ K).trans h
  · cases h

/-- impl.MultiplyLaurents, loop -/
def i_MultiplyLaurents_l1_p : SPat := ⟨[.undef, .undef, .ptr ⟨⟨2, 0⟩, 0, 0, 2⟩, .ptr ⟨⟨3, 0⟩, 0, 0, 2⟩, .ptr ⟨⟨4, 0⟩, 0, 0, 2⟩, .undef, .sliceV 5 0 0 3 true, .int .i64, .int .i64, .undef, .undef, .undef, .undef, .undef, .undef, .undef, .undef, .undef, .undef, .undef, .undef, .undef, .undef, .undef, .undef, .undef, .undef, .undef, .undef, .undef, .undef, .undef, .undef, .undef, .undef, .undef, .undef, .undef, .undef, .undef, .undef, .undef, .undef, .undef, .undef, .undef, .undef, .undef, .undef, .undef, .undef, .undef, .undef, .undef, .undef, .undef, .undef, .undef, .sliceV 0 0 0 1 true, .int .i64, .int .i64, .undef, .undef, .undef, .undef, .undef, .sliceV 1 0 0 1 true, .int .i64, .int .i64] ++ List.replicate 44 .undef, [[.intsV .i64], [.intsV .i64], [.vals [.int .i64, .sliceV 0 0 0 1 true]], [.vals [.int .i64, .sliceV 1 0 0 1 true]], [.vals [.int .i64, .nils]], [.intsV .i64]]⟩
def i_MultiplyLaurents_l1_o0 : SPat := ⟨[.undef, .undef, .ptr ⟨⟨2, 0⟩, 0, 0, 2⟩, .ptr ⟨⟨3, 0⟩, 0, 0, 2⟩, .ptr ⟨⟨4, 0⟩, 0, 0, 2⟩, .undef, .sliceV 5 0 0 3 true, .undef, .undef, .undef, .undef, .undef, .undef, .undef, .undef, .undef, .undef, .undef, .undef, .undef, .undef, .undef, .undef, .undef, .undef, .undef, .undef, .undef, .undef, .undef, .undef, .undef, .undef, .undef, .undef, .undef, .undef, .undef, .undef, .undef, .undef, .undef, .undef, .undef, .undef, .undef, .undef, .undef, .undef, .undef, .undef, .undef, .undef, .undef, .undef, .undef, .undef, .undef, .sliceV 0 0 0 1 true, .int .i64, .int .i64] ++ List.replicate 52 .undef, [[.intsV .i64], [.intsV .i64], [.vals [.int .i64, .sliceV 0 0 0 1 true]], [.vals [.int .i64, .sliceV 1 0 0 1 true]], [.vals [.int .i64, .nils]], [.intsV .i64]]⟩
theorem i_MultiplyLaurents_l1_round {α : Type} (N : Nat) (t6_n : Nat) (t6_l : Nat) (t6_c : Nat) (t7 : Int) (t8 : Int) (t58_n : Nat) (t58_l : Nat) (t58_c : Nat) (t59 : Int) (t60 : Int) (t66_n : Nat) (t66_l : Nat) (t66_c : Nat) (t67 : Int) (t68 : Int) (h0_n : Nat) (h0 : Nat → Int) (h1_n : Nat) (h1 : Nat → Int) (h2_0 : Int) (h2_1_n : Nat) (h2_1_l : Nat) (h2_1_c : Nat) (h3_0 : Int) (h3_1_n : Nat) (h3_1_l : Nat) (h3_1_c : Nat) (h4_0 : Int) (h5_n : Nat) (h5 : Nat → Int) (kn : St → Option α) (K : AExit → St → Option α) :
    roundK Try.prog (E_i_wide_add α N) 1 2 7 Try.f7 12 6 (buildS i_MultiplyLaurents_l1_p [.n t6_n, .n t6_l, .n t6_c, .i t7, .i t8, .n t58_n, .n t58_l, .n t58_c, .i t59, .i t60, .n t66_n, .n t66_l, .n t66_c, .i t67, .i t68, .n h0_n, .f h0, .n h1_n, .f h1, .i h2_0, .n h2_1_n, .n h2_1_l, .n h2_1_c, .i h3_0, .n h3_1_n, .n h3_1_l, .n h3_1_c, .i h4_0, .n h5_n, .f h5]) kn K = i_MultiplyLaurents_l1_s none N t6_n t6_l t6_c t7 t8 t58_n t58_l t58_c t59 t60 t66_n t66_l t66_c t67 h0_n h0 h1_n h1 h2_0 h2_1_n h2_1_l h2_1_c h3_0 h3_1_n h3_1_l h3_1_c h4_0 h5_n t68 h5 (fun t68 h5 => kn (buildS i_MultiplyLaurents_l1_p [.n t6_n, .n t6_l, .n t6_c, .i t7, .i t8, .n t58_n, .n t58_l, .n t58_c, .i t59, .i t60, .n t66_n, .n t66_l, .n t66_c, .i t67, .i t68, .n h0_n, .f h0, .n h1_n, .f h1, .i h2_0, .n h2_1_n, .n h2_1_l, .n h2_1_c, .i h3_0, .n h3_1_n, .n h3_1_l, .n h3_1_c, .i h4_0, .n h5_n, .f h5])) (fun h5_ => K (.exit 2) (buildS i_MultiplyLaurents_l1_o0 [.n t6_n, .n t6_l, .n t6_c, .n t58_n, .n t58_l, .n t58_c, .i t59, .i t60, .n h0_n, .f h0, .n h1_n, .f h1, .i h2_0, .n h2_1_n, .n h2_1_l, .n h2_1_c, .i h3_0, .n h3_1_n, .n h3_1_l, .n h3_1_c, .i h4_0, .n h5_n, .f h5_])) := by kernel_rfl
theorem i_MultiplyLaurents_l1_loop {α : Type} (N : Nat) (t6_n : Nat) (t6_l : Nat) (t6_c : Nat) (t7 : Int) (t8 : Int) (t58_n : Nat) (t58_l : Nat) (t58_c : Nat) (t59 : Int) (t60 : Int) (t66_n : Nat) (t66_l : Nat) (t66_c : Nat) (t67 : Int) (h0_n : Nat) (h0 : Nat → Int) (h1_n : Nat) (h1 : Nat → Int) (h2_0 : Int) (h2_1_n : Nat) (h2_1_l : Nat) (h2_1_c : Nat) (h3_0 : Int) (h3_1_n : Nat) (h3_1_l : Nat) (h3_1_c : Nat) (h4_0 : Int) (h5_n : Nat) (K : AExit → St → Option α) : ∀ (m : Nat) (t68 : Int) (h5 : Nat → Int),
    loopN (trimSt ((E_i_wide_add α N).ann 7 12).head ((E_i_wide_add α N).ann 7 12).grow 6) (bodyK Try.prog (E_i_wide_add α N) 1 2 7 Try.f7 12) m (buildS i_MultiplyLaurents_l1_p [.n t6_n, .n t6_l, .n t6_c, .i t7, .i t8, .n t58_n, .n t58_l, .n t58_c, .i t59, .i t60, .n t66_n, .n t66_l, .n t66_c, .i t67, .i t68, .n h0_n, .f h0, .n h1_n, .f h1, .i h2_0, .n h2_1_n, .n h2_1_l, .n h2_1_c, .i h3_0, .n h3_1_n, .n h3_1_l, .n h3_1_c, .i h4_0, .n h5_n, .f h5]) (leaveLoop ((E_i_wide_add α N).ann 7 12) 6 K) = i_MultiplyLaurents_l1 none N t6_n t6_l t6_c t7 t8 t58_n t58_l t58_c t59 t60 t66_n t66_l t66_c t67 h0_n h0 h1_n h1 h2_0 h2_1_n h2_1_l h2_1_c h3_0 h3_1_n h3_1_l h3_1_c h4_0 h5_n m t68 h5 (fun h5_ => K (.exit 2) (buildS i_MultiplyLaurents_l1_o0 [.n t6_n, .n t6_l, .n t6_c, .n t58_n, .n t58_l, .n t58_c, .i t59, .i t60, .n h0_n, .f h0, .n h1_n, .f h1, .i h2_0, .n h2_1_n, .n h2_1_l, .n h2_1_c, .i h3_0, .n h3_1_n, .n h3_1_l, .n h3_1_c, .i h4_0, .n h5_n, .f h5_])) := by
  intro m
  induction m with
  | zero => intros; rfl
  | succ m ih =>
    intro t68 h5
    rw [loopN_round]
    refine (i_MultiplyLaurents_l1_round N t6_n t6_l t6_c t7 t8 t58_n t58_l t58_c t59 t60 t66_n t66_l t66_c t67 t68 h0_n h0 h1_n h1 h2_0 h2_1_n h2_1_l h2_1_c h3_0 h3_1_n h3_1_l h3_1_c h4_0 h5_n h5 _ K).trans ?_
    simp only [ih]
    rfl
def E_i_MultiplyLaurents_l1 (α : Type) (N : Nat) : Env α := (E_i_wide_add α N).addLoop2 7 12 (loopSum2 ((E_i_wide_add α N).ann 7 12) 2 i_MultiplyLaurents_l1_p (fun l K => match l with
    | [.n t6_n, .n t6_l, .n t6_c, .i t7, .i t8, .n t58_n, .n t58_l, .n t58_c, .i t59, .i t60, .n t66_n, .n t66_l, .n t66_c, .i t67, .i t68, .n h0_n, .f h0, .n h1_n, .f h1, .i h2_0, .n h2_1_n, .n h2_1_l, .n h2_1_c, .i h3_0, .n h3_1_n, .n h3_1_l, .n h3_1_c, .i h4_0, .n h5_n, .f h5] => i_MultiplyLaurents_l1 none N t6_n t6_l t6_c t7 t8 t58_n t58_l t58_c t59 t60 t66_n t66_l t66_c t67 h0_n h0 h1_n h1 h2_0 h2_1_n h2_1_l h2_1_c h3_0 h3_1_n h3_1_l h3_1_c h4_0 h5_n N t68 h5 (fun h5_ => K (.exit 2) (buildS i_MultiplyLaurents_l1_o0 [.n t6_n, .n t6_l, .n t6_c, .n t58_n, .n t58_l, .n t58_c, .i t59, .i t60, .n h0_n, .f h0, .n h1_n, .f h1, .i h2_0, .n h2_1_n, .n h2_1_l, .n h2_1_c, .i h3_0, .n h3_1_n, .n h3_1_l, .n h3_1_c, .i h4_0, .n h5_n, .f h5_]))
    | _ => none) ((E_i_wide_add α N).ls 7 12))
theorem E_i_MultiplyLaurents_l1_ok {α : Type} (N : Nat) : EnvOk Try.prog (E_i_MultiplyLaurents_l1 α N) := (E_i_wide_add_ok N).addLoop2 Try.func7 (by kernel_rfl) (loopSum_ok prog_mixed prog_names (E_i_wide_add_ok N) Try.func7 (by kernel_rfl) (d := 1) (ro := 2) fun l K r h => by
  split at h
  · exact (i_MultiplyLaurents_l1_loop N _ _ _ _ _ _ _ _ _ _ _ _ _ _ _ _ _ _ _ _ _ _ _ _ _ _ _ _ K N _ _).trans h
  · cases h)

/-- impl.MultiplyLaurents, loop -/
def i_MultiplyLaurents_l0_p : SPat := ⟨[.undef, .undef, .ptr ⟨⟨2, 0⟩, 0, 0, 2⟩, .ptr ⟨⟨3, 0⟩, 0, 0, 2⟩, .ptr ⟨⟨4, 0⟩, 0, 0, 2⟩, .undef, .sliceV 5 0 0 3 true, .undef, .undef, .undef, .undef, .undef, .undef, .undef, .undef, .undef, .undef, .undef, .undef, .undef, .undef, .undef, .undef, .undef, .undef, .undef, .undef, .undef, .undef, .undef, .undef, .undef, .undef, .undef, .undef, .undef, .undef, .undef, .undef, .undef, .undef, .undef, .undef, .undef, .undef, .undef, .undef, .undef, .undef, .undef, .undef, .undef, .undef, .undef, .undef, .undef, .undef, .undef, .sliceV 0 0 0 1 true, .int .i64, .int .i64] ++ List.replicate 52 .undef, [[.intsV .i64], [.intsV .i64], [.vals [.int .i64, .sliceV 0 0 0 1 true]], [.vals [.int .i64, .sliceV 1 0 0 1 true]], [.vals [.int .i64, .nils]], [.intsV .i64]]⟩
def i_MultiplyLaurents_l0_o0 : SPat := ⟨[.undef, .undef, .ptr ⟨⟨2, 0⟩, 0, 0, 2⟩, .ptr ⟨⟨3, 0⟩, 0, 0, 2⟩, .ptr ⟨⟨4, 0⟩, 0, 0, 2⟩, .undef, .sliceV 5 0 0 3 true] ++ List.replicate 106 .undef, [[.intsV .i64], [.intsV .i64], [.vals [.int .i64, .sliceV 0 0 0 1 true]], [.vals [.int .i64, .sliceV 1 0 0 1 true]], [.vals [.int .i64, .nils]], [.intsV .i64]]⟩
theorem i_MultiplyLaurents_l0_round {α : Type} (N : Nat) (t6_n : Nat) (t6_l : Nat) (t6_c : Nat) (t58_n : Nat) (t58_l : Nat) (t58_c : Nat) (t59 : Int) (t60 : Int) (h0_n : Nat) (h0 : Nat → Int) (h1_n : Nat) (h1 : Nat → Int) (h2_0 : Int) (h2_1_n : Nat) (h2_1_l : Nat) (h2_1_c : Nat) (h3_0 : Int) (h3_1_n : Nat) (h3_1_l : Nat) (h3_1_c : Nat) (h4_0 : Int) (h5_n : Nat) (h5 : Nat → Int) (kn : St → Option α) (K : AExit → St → Option α) :
    roundK Try.prog (E_i_MultiplyLaurents_l1 α N) 1 2 7 Try.f7 9 6 (buildS i_MultiplyLaurents_l0_p [.n t6_n, .n t6_l, .n t6_c, .n t58_n, .n t58_l, .n t58_c, .i t59, .i t60, .n h0_n, .f h0, .n h1_n, .f h1, .i h2_0, .n h2_1_n, .n h2_1_l, .n h2_1_c, .i h3_0, .n h3_1_n, .n h3_1_l, .n h3_1_c, .i h4_0, .n h5_n, .f h5]) kn K = i_MultiplyLaurents_l0_s none N t6_n t6_l t6_c t58_n t58_l t58_c t59 h0_n h0 h1_n h1 h2_0 h2_1_n h2_1_l h2_1_c h3_0 h3_1_n h3_1_l h3_1_c h4_0 h5_n t60 h5 (fun t60 h5 => kn (buildS i_MultiplyLaurents_l0_p [.n t6_n, .n t6_l, .n t6_c, .n t58_n, .n t58_l, .n t58_c, .i t59, .i t60, .n h0_n, .f h0, .n h1_n, .f h1, .i h2_0, .n h2_1_n, .n h2_1_l, .n h2_1_c, .i h3_0, .n h3_1_n, .n h3_1_l, .n h3_1_c, .i h4_0, .n h5_n, .f h5])) (fun h5_ => K (.exit 0) (buildS i_MultiplyLaurents_l0_o0 [.n t6_n, .n t6_l, .n t6_c, .n h0_n, .f h0, .n h1_n, .f h1, .i h2_0, .n h2_1_n, .n h2_1_l, .n h2_1_c, .i h3_0, .n h3_1_n, .n h3_1_l, .n h3_1_c, .i h4_0, .n h5_n, .f h5_])) := by kernel_rfl
theorem i_MultiplyLaurents_l0_loop {α : Type} (N : Nat) (t6_n : Nat) (t6_l : Nat) (t6_c : Nat) (t58_n : Nat) (t58_l : Nat) (t58_c : Nat) (t59 : Int) (h0_n : Nat) (h0 : Nat → Int) (h1_n : Nat) (h1 : Nat → Int) (h2_0 : Int) (h2_1_n : Nat) (h2_1_l : Nat) (h2_1_c : Nat) (h3_0 : Int) (h3_1_n : Nat) (h3_1_l : Nat) (h3_1_c : Nat) (h4_0 : Int) (h5_n : Nat) (K : AExit → St → Option α) : ∀ (m : Nat) (t60 : Int) (h5 : Nat → Int),
    loopN (trimSt ((E_i_MultiplyLaurents_l1 α N).ann 7 9).head ((E_i_MultiplyLaurents_l1 α N).ann 7 9).grow 6) (bodyK Try.prog (E_i_MultiplyLaurents_l1 α N) 1 2 7 Try.f7 9) m (buildS i_MultiplyLaurents_l0_p [.n t6_n, .n t6_l, .n t6_c, .n t58_n, .n t58_l, .n t58_c, .i t59, .i t60, .n h0_n, .f h0, .n h1_n, .f h1, .i h2_0, .n h2_1_n, .n h2_1_l, .n h2_1_c, .i h3_0, .n h3_1_n, .n h3_1_l, .n h3_1_c, .i h4_0, .n h5_n, .f h5]) (leaveLoop ((E_i_MultiplyLaurents_l1 α N).ann 7 9) 6 K) = i_MultiplyLaurents_l0 none N t6_n t6_l t6_c t58_n t58_l t58_c t59 h0_n h0 h1_n h1 h2_0 h2_1_n h2_1_l h2_1_c h3_0 h3_1_n h3_1_l h3_1_c h4_0 h5_n m t60 h5 (fun h5_ => K (.exit 0) (buildS i_MultiplyLaurents_l0_o0 [.n t6_n, .n t6_l, .n t6_c, .n h0_n, .f h0, .n h1_n, .f h1, .i h2_0, .n h2_1_n, .n h2_1_l, .n h2_1_c, .i h3_0, .n h3_1_n, .n h3_1_l, .n h3_1_c, .i h4_0, .n h5_n, .f h5_])) := by
  intro m
  induction m with
  | zero => intros; rfl
  | succ m ih =>
    intro t60 h5
    rw [loopN_round]
    refine (i_MultiplyLaurents_l0_round N t6_n t6_l t6_c t58_n t58_l t58_c t59 t60 h0_n h0 h1_n h1 h2_0 h2_1_n h2_1_l h2_1_c h3_0 h3_1_n h3_1_l h3_1_c h4_0 h5_n h5 _ K).trans ?_
    simp only [ih]
    rfl
def E_i_MultiplyLaurents_l0 (α : Type) (N : Nat) : Env α := (E_i_MultiplyLaurents_l1 α N).addLoop2 7 9 (loopSum2 ((E_i_MultiplyLaurents_l1 α N).ann 7 9) 2 i_MultiplyLaurents_l0_p (fun l K => match l with
    | [.n t6_n, .n t6_l, .n t6_c, .n t58_n, .n t58_l, .n t58_c, .i t59, .i t60, .n h0_n, .f h0, .n h1_n, .f h1, .i h2_0, .n h2_1_n, .n h2_1_l, .n h2_1_c, .i h3_0, .n h3_1_n, .n h3_1_l, .n h3_1_c, .i h4_0, .n h5_n, .f h5] => i_MultiplyLaurents_l0 none N t6_n t6_l t6_c t58_n t58_l t58_c t59 h0_n h0 h1_n h1 h2_0 h2_1_n h2_1_l h2_1_c h3_0 h3_1_n h3_1_l h3_1_c h4_0 h5_n N t60 h5 (fun h5_ => K (.exit 0) (buildS i_MultiplyLaurents_l0_o0 [.n t6_n, .n t6_l, .n t6_c, .n h0_n, .f h0, .n h1_n, .f h1, .i h2_0, .n h2_1_n, .n h2_1_l, .n h2_1_c, .i h3_0, .n h3_1_n, .n h3_1_l, .n h3_1_c, .i h4_0, .n h5_n, .f h5_]))
    | _ => none) ((E_i_MultiplyLaurents_l1 α N).ls 7 9))
theorem E_i_MultiplyLaurents_l0_ok {α : Type} (N : Nat) : EnvOk Try.prog (E_i_MultiplyLaurents_l0 α N) := (E_i_MultiplyLaurents_l1_ok N).addLoop2 Try.func7 (by kernel_rfl) (loopSum_ok prog_mixed prog_names (E_i_MultiplyLaurents_l1_ok N) Try.func7 (by kernel_rfl) (d := 1) (ro := 2) fun l K r h => by
  split at h
  · exact (i_MultiplyLaurents_l0_loop N _ _ _ _ _ _ _ _ _ _ _ _ _ _ _ _ _ _ _ _ _ K N _ _).trans h
  · cases h)

def A_i_MultiplyLaurents_l2 (α : Type) (N : Nat) : Env α := (E_i_MultiplyLaurents_l0 α N).addAnn 7 19 { head := [2, 3, 4, 11, 84, 85, 86], grow := [11], out := [2, 3, 4, 11], ret := [4, 5] }
theorem A_i_MultiplyLaurents_l2_ok {α : Type} (N : Nat) : EnvOk Try.prog (A_i_MultiplyLaurents_l2 α N) := (E_i_MultiplyLaurents_l0_ok N).addAnn

/-- (impl.wide).value -/
def i_wide_value_a : SPat := ⟨[.agg [.ints .i64 3]], []⟩
def i_wide_value_r0 : SPat := ⟨[.tuple [.int .i64, .bool]], []⟩
theorem i_wide_value_run {α : Type} (N : Nat) (w : Nat → Int) (K : AV → Heap → Option α) :
    callK Try.prog (A_i_MultiplyLaurents_l2 α N) 1 22 0 (buildS i_wide_value_a [.f w]).t (buildS i_wide_value_a [.f w]).h K = i_wide_value none N w (fun r_0_ r_1_ => retK (buildS i_wide_value_r0 [.i r_0_, .b r_1_]) K) := by kernel_rfl
def E_i_wide_value (α : Type) (N : Nat) : Env α := (A_i_MultiplyLaurents_l2 α N).addFun 22 true 0 i_wide_value_a (fun l K => match l with
    | [.f w] => i_wide_value none N w (fun r_0_ r_1_ => retK (buildS i_wide_value_r0 [.i r_0_, .b r_1_]) K)
    | _ => none)
theorem E_i_wide_value_ok {α : Type} (N : Nat) : EnvOk Try.prog (E_i_wide_value α N) := (A_i_MultiplyLaurents_l2_ok N).addFun prog_mixed prog_names (d := 1) fun l K r h => by
  split at h
  · exact (i_wide_value_run N _ K).trans h
  · cases h

/-- impl.MultiplyLaurents, loop -/
def i_MultiplyLaurents_l2_p : SPat := ⟨[.undef, .undef, .ptr ⟨⟨2, 0⟩, 0, 0, 2⟩, .ptr ⟨⟨3, 0⟩, 0, 0, 2⟩, .ptr ⟨⟨4, 0⟩, 0, 0, 2⟩, .undef, .undef, .undef, .undef, .undef, .undef, .sliceV 6 0 0 1 false, .undef, .undef, .undef, .undef, .undef, .undef, .undef, .undef, .undef, .undef, .undef, .undef, .undef, .undef, .undef, .undef, .undef, .undef, .undef, .undef, .undef, .undef, .undef, .undef, .undef, .undef, .undef, .undef, .undef, .undef, .undef, .undef, .undef, .undef, .undef, .undef, .undef, .undef, .undef, .undef, .undef, .undef, .undef, .undef, .undef, .undef, .undef, .undef, .undef, .undef, .undef, .undef, .undef, .undef, .undef, .undef, .undef, .undef, .undef, .undef, .undef, .undef, .undef, .undef, .undef, .undef, .undef, .undef, .undef, .undef, .undef, .undef, .sliceV 5 0 0 3 true, .int .i64, .int .i64] ++ List.replicate 26 .undef, [[.intsV .i64], [.intsV .i64], [.vals [.int .i64, .sliceV 0 0 0 1 true]], [.vals [.int .i64, .sliceV 1 0 0 1 true]], [.vals [.int .i64, .nils]], [.intsV .i64], [.vec .i64]]⟩
def i_MultiplyLaurents_l2_o0 : SPat := ⟨[.undef, .undef, .undef, .undef, .ptr ⟨⟨4, 0⟩, 0, 0, 2⟩, .intC .i64 3] ++ List.replicate 107 .undef, [[.intsV .i64], [.intsV .i64], [.vals [.int .i64, .sliceV 0 0 0 1 true]], [.vals [.int .i64, .sliceV 1 0 0 1 true]], [.vals [.intC .i64 0, .nils]], [.intsV .i64], [.vec .i64]]⟩
def i_MultiplyLaurents_l2_o1 : SPat := ⟨[.undef, .undef, .ptr ⟨⟨2, 0⟩, 0, 0, 2⟩, .ptr ⟨⟨3, 0⟩, 0, 0, 2⟩, .ptr ⟨⟨4, 0⟩, 0, 0, 2⟩, .undef, .undef, .undef, .undef, .undef, .undef, .sliceV 6 0 0 1 false] ++ List.replicate 101 .undef, [[.intsV .i64], [.intsV .i64], [.vals [.int .i64, .sliceV 0 0 0 1 true]], [.vals [.int .i64, .sliceV 1 0 0 1 true]], [.vals [.int .i64, .nils]], [.intsV .i64], [.vec .i64]]⟩
theorem i_MultiplyLaurents_l2_round {α : Type} (N : Nat) (t11_n : Nat) (t11_l : Nat) (t11_c : Nat) (t84_n : Nat) (t84_l : Nat) (t84_c : Nat) (t85 : Int) (t86 : Int) (h0_n : Nat) (h0 : Nat → Int) (h1_n : Nat) (h1 : Nat → Int) (h2_0 : Int) (h2_1_n : Nat) (h2_1_l : Nat) (h2_1_c : Nat) (h3_0 : Int) (h3_1_n : Nat) (h3_1_l : Nat) (h3_1_c : Nat) (h4_0 : Int) (h5_n : Nat) (h5 : Nat → Int) (h6 : List Int) (kn : St → Option α) (K : AExit → St → Option α) :
    roundK Try.prog (E_i_wide_value α N) 1 2 7 Try.f7 19 7 (buildS i_MultiplyLaurents_l2_p [.n t11_n, .n t11_l, .n t11_c, .n t84_n, .n t84_l, .n t84_c, .i t85, .i t86, .n h0_n, .f h0, .n h1_n, .f h1, .i h2_0, .n h2_1_n, .n h2_1_l, .n h2_1_c, .i h3_0, .n h3_1_n, .n h3_1_l, .n h3_1_c, .i h4_0, .n h5_n, .f h5, .l h6]) kn K = i_MultiplyLaurents_l2_s none N t84_n t84_l t84_c t85 h0_n h0 h1_n h1 h2_0 h2_1_n h2_1_l h2_1_c h3_0 h3_1_n h3_1_l h3_1_c h4_0 h5_n h5 t11_n t11_l t11_c t86 h6 (fun t11_n t11_l t11_c t86 h6 => kn (buildS i_MultiplyLaurents_l2_p [.n t11_n, .n t11_l, .n t11_c, .n t84_n, .n t84_l, .n t84_c, .i t85, .i t86, .n h0_n, .f h0, .n h1_n, .f h1, .i h2_0, .n h2_1_n, .n h2_1_l, .n h2_1_c, .i h3_0, .n h3_1_n, .n h3_1_l, .n h3_1_c, .i h4_0, .n h5_n, .f h5, .l h6])) (fun h6_ => K .ret (buildS i_MultiplyLaurents_l2_o0 [.n h0_n, .f h0, .n h1_n, .f h1, .i h2_0, .n h2_1_n, .n h2_1_l, .n h2_1_c, .i h3_0, .n h3_1_n, .n h3_1_l, .n h3_1_c, .n h5_n, .f h5, .l h6_])) (fun t11_n_ t11_l_ t11_c_ h6_ => K (.exit 4) (buildS i_MultiplyLaurents_l2_o1 [.n t11_n_, .n t11_l_, .n t11_c_, .n h0_n, .f h0, .n h1_n, .f h1, .i h2_0, .n h2_1_n, .n h2_1_l, .n h2_1_c, .i h3_0, .n h3_1_n, .n h3_1_l, .n h3_1_c, .i h4_0, .n h5_n, .f h5, .l h6_])) := by kernel_rfl
theorem i_MultiplyLaurents_l2_loop {α : Type} (N : Nat) (t84_n : Nat) (t84_l : Nat) (t84_c : Nat) (t85 : Int) (h0_n : Nat) (h0 : Nat → Int) (h1_n : Nat) (h1 : Nat → Int) (h2_0 : Int) (h2_1_n : Nat) (h2_1_l : Nat) (h2_1_c : Nat) (h3_0 : Int) (h3_1_n : Nat) (h3_1_l : Nat) (h3_1_c : Nat) (h4_0 : Int) (h5_n : Nat) (h5 : Nat → Int) (K : AExit → St → Option α) : ∀ (m : Nat) (t11_n : Nat) (t11_l : Nat) (t11_c : Nat) (t86 : Int) (h6 : List Int),
    loopN (trimSt ((E_i_wide_value α N).ann 7 19).head ((E_i_wide_value α N).ann 7 19).grow 7) (bodyK Try.prog (E_i_wide_value α N) 1 2 7 Try.f7 19) m (buildS i_MultiplyLaurents_l2_p [.n t11_n, .n t11_l, .n t11_c, .n t84_n, .n t84_l, .n t84_c, .i t85, .i t86, .n h0_n, .f h0, .n h1_n, .f h1, .i h2_0, .n h2_1_n, .n h2_1_l, .n h2_1_c, .i h3_0, .n h3_1_n, .n h3_1_l, .n h3_1_c, .i h4_0, .n h5_n, .f h5, .l h6]) (leaveLoop ((E_i_wide_value α N).ann 7 19) 7 K) = i_MultiplyLaurents_l2 none N t84_n t84_l t84_c t85 h0_n h0 h1_n h1 h2_0 h2_1_n h2_1_l h2_1_c h3_0 h3_1_n h3_1_l h3_1_c h4_0 h5_n h5 m t11_n t11_l t11_c t86 h6 (fun h6_ => K .ret (buildS i_MultiplyLaurents_l2_o0 [.n h0_n, .f h0, .n h1_n, .f h1, .i h2_0, .n h2_1_n, .n h2_1_l, .n h2_1_c, .i h3_0, .n h3_1_n, .n h3_1_l, .n h3_1_c, .n h5_n, .f h5, .l h6_])) (fun t11_n_ t11_l_ t11_c_ h6_ => K (.exit 4) (buildS i_MultiplyLaurents_l2_o1 [.n t11_n_, .n t11_l_, .n t11_c_, .n h0_n, .f h0, .n h1_n, .f h1, .i h2_0, .n h2_1_n, .n h2_1_l, .n h2_1_c, .i h3_0, .n h3_1_n, .n h3_1_l, .n h3_1_c, .i h4_0, .n h5_n, .f h5, .l h6_])) := by
  intro m
  induction m with
  | zero => intros; rfl
  | succ m ih =>
    intro t11_n t11_l t11_c t86 h6
    rw [loopN_round]
    refine (i_MultiplyLaurents_l2_round N t11_n t11_l t11_c t84_n t84_l t84_c t85 t86 h0_n h0 h1_n h1 h2_0 h2_1_n h2_1_l h2_1_c h3_0 h3_1_n h3_1_l h3_1_c h4_0 h5_n h5 h6 _ K).trans ?_
    simp only [ih]
    rfl
def E_i_MultiplyLaurents_l2 (α : Type) (N : Nat) : Env α := (E_i_wide_value α N).addLoop2 7 19 (loopSum2 ((E_i_wide_value α N).ann 7 19) 2 i_MultiplyLaurents_l2_p (fun l K => match l with
    | [.n t11_n, .n t11_l, .n t11_c, .n t84_n, .n t84_l, .n t84_c, .i t85, .i t86, .n h0_n, .f h0, .n h1_n, .f h1, .i h2_0, .n h2_1_n, .n h2_1_l, .n h2_1_c, .i h3_0, .n h3_1_n, .n h3_1_l, .n h3_1_c, .i h4_0, .n h5_n, .f h5, .l h6] => i_MultiplyLaurents_l2 none N t84_n t84_l t84_c t85 h0_n h0 h1_n h1 h2_0 h2_1_n h2_1_l h2_1_c h3_0 h3_1_n h3_1_l h3_1_c h4_0 h5_n h5 N t11_n t11_l t11_c t86 h6 (fun h6_ => K .ret (buildS i_MultiplyLaurents_l2_o0 [.n h0_n, .f h0, .n h1_n, .f h1, .i h2_0, .n h2_1_n, .n h2_1_l, .n h2_1_c, .i h3_0, .n h3_1_n, .n h3_1_l, .n h3_1_c, .n h5_n, .f h5, .l h6_])) (fun t11_n_ t11_l_ t11_c_ h6_ => K (.exit 4) (buildS i_MultiplyLaurents_l2_o1 [.n t11_n_, .n t11_l_, .n t11_c_, .n h0_n, .f h0, .n h1_n, .f h1, .i h2_0, .n h2_1_n, .n h2_1_l, .n h2_1_c, .i h3_0, .n h3_1_n, .n h3_1_l, .n h3_1_c, .i h4_0, .n h5_n, .f h5, .l h6_]))
    | _ => none) ((E_i_wide_value α N).ls 7 19))
theorem E_i_MultiplyLaurents_l2_ok {α : Type} (N : Nat) : EnvOk Try.prog (E_i_MultiplyLaurents_l2 α N) := (E_i_wide_value_ok N).addLoop2 Try.func7 (by kernel_rfl) (loopSum_ok prog_mixed prog_names (E_i_wide_value_ok N) Try.func7 (by kernel_rfl) (d := 1) (ro := 2) fun l K r h => by
  split at h
  · exact (i_MultiplyLaurents_l2_loop N _ _ _ _ _ _ _ _ _ _ _ _ _ _ _ _ _ _ _ K N _ _ _ _ _).trans h
  · cases h)

/-- (impl.Laurent).isZero -/
def i_Laurent_isZero_s2_a : SPat := ⟨[.agg [.vals [.int .i64, .sliceV 0 0 0 1 false]]], [[.vec .i64]]⟩
def i_Laurent_isZero_s2_r0 : SPat := ⟨[.bool], [[.vec .i64]]⟩
theorem i_Laurent_isZero_s2_run {α : Type} (N : Nat) (p_0 : Int) (p_1_n : Nat) (p_1_l : Nat) (p_1_c : Nat) (h0 : List Int) (K : AV → Heap → Option α) :
    callK Try.prog (E_i_MultiplyLaurents_l2 α N) 1 18 1 (buildS i_Laurent_isZero_s2_a [.i p_0, .n p_1_n, .n p_1_l, .n p_1_c, .l h0]).t (buildS i_Laurent_isZero_s2_a [.i p_0, .n p_1_n, .n p_1_l, .n p_1_c, .l h0]).h K = i_Laurent_isZero_s2 none N p_0 p_1_n p_1_l p_1_c h0 (fun r__ => retK (buildS i_Laurent_isZero_s2_r0 [.b r__, .l h0]) K) := by kernel_rfl
def E_i_Laurent_isZero_s2 (α : Type) (N : Nat) : Env α := (E_i_MultiplyLaurents_l2 α N).addFun 18 true 1 i_Laurent_isZero_s2_a (fun l K => match l with
    | [.i p_0, .n p_1_n, .n p_1_l, .n p_1_c, .l h0] => i_Laurent_isZero_s2 none N p_0 p_1_n p_1_l p_1_c h0 (fun r__ => retK (buildS i_Laurent_isZero_s2_r0 [.b r__, .l h0]) K)
    | _ => none)
theorem E_i_Laurent_isZero_s2_ok {α : Type} (N : Nat) : EnvOk Try.prog (E_i_Laurent_isZero_s2 α N) := (E_i_MultiplyLaurents_l2_ok N).addFun prog_mixed prog_names (d := 1) fun l K r h => by
  split at h
  · exact (i_Laurent_isZero_s2_run N _ _ _ _ _ K).trans h
  · cases h

/-- (impl.Laurent).high -/
def i_Laurent_high_s2_a : SPat := ⟨[.agg [.vals [.int .i64, .sliceV 0 0 0 1 false]]], [[.vec .i64]]⟩
def i_Laurent_high_s2_r0 : SPat := ⟨[.int .i64], [[.vec .i64]]⟩
theorem i_Laurent_high_s2_run {α : Type} (N : Nat) (p_0 : Int) (p_1_n : Nat) (p_1_l : Nat) (p_1_c : Nat) (h0 : List Int) (K : AV → Heap → Option α) :
    callK Try.prog (E_i_Laurent_isZero_s2 α N) 1 20 1 (buildS i_Laurent_high_s2_a [.i p_0, .n p_1_n, .n p_1_l, .n p_1_c, .l h0]).t (buildS i_Laurent_high_s2_a [.i p_0, .n p_1_n, .n p_1_l, .n p_1_c, .l h0]).h K = i_Laurent_high_s2 none N p_0 p_1_n p_1_l p_1_c h0 (fun r__ => retK (buildS i_Laurent_high_s2_r0 [.i r__, .l h0]) K) := by kernel_rfl
def E_i_Laurent_high_s2 (α : Type) (N : Nat) : Env α := (E_i_Laurent_isZero_s2 α N).addFun 20 true 1 i_Laurent_high_s2_a (fun l K => match l with
    | [.i p_0, .n p_1_n, .n p_1_l, .n p_1_c, .l h0] => i_Laurent_high_s2 none N p_0 p_1_n p_1_l p_1_c h0 (fun r__ => retK (buildS i_Laurent_high_s2_r0 [.i r__, .l h0]) K)
    | _ => none)
theorem E_i_Laurent_high_s2_ok {α : Type} (N : Nat) : EnvOk Try.prog (E_i_Laurent_high_s2 α N) := (E_i_Laurent_isZero_s2_ok N).addFun prog_mixed prog_names (d := 1) fun l K r h => by
  split at h
  · exact (i_Laurent_high_s2_run N _ _ _ _ _ K).trans h
  · cases h

/-- slices.IndexFunc[[]int64,int64], loop -/
def slices_IndexFunc_int64_int64_l0_s4_p : SPat := ⟨[.sliceO 0 0 1 false, .func 33 [], .undef, .undef, .undef, .undef, .undef, .int .i64, .int .i64] ++ List.replicate 10 .undef, [[.vec .i64]]⟩
def slices_IndexFunc_int64_int64_l0_s4_o0 : SPat := ⟨[.undef, .undef, .undef, .undef, .int .i64] ++ List.replicate 14 .undef, [[.vec .i64]]⟩
def slices_IndexFunc_int64_int64_l0_s4_o1 : SPat := ⟨[] ++ List.replicate 19 .undef, [[.vec .i64]]⟩
theorem slices_IndexFunc_int64_int64_l0_s4_round {α : Type} (N : Nat) (s_o : Nat) (s_n : Nat) (s_l : Nat) (s_c : Nat) (t7 : Int) (t8 : Int) (h0 : List Int) (kn : St → Option α) (K : AExit → St → Option α) :
    roundK Try.prog (E_i_Laurent_high_s2 α N) 1 1 34 Try.f34 2 1 (buildS slices_IndexFunc_int64_int64_l0_s4_p [.n s_o, .n s_n, .n s_l, .n s_c, .i t7, .i t8, .l h0]) kn K = slices_IndexFunc_int64_int64_l0_s4_s none N s_o s_n s_l s_c t7 h0 t8 (fun t8 => kn (buildS slices_IndexFunc_int64_int64_l0_s4_p [.n s_o, .n s_n, .n s_l, .n s_c, .i t7, .i t8, .l h0])) (fun t4_ => K .ret (buildS slices_IndexFunc_int64_int64_l0_s4_o0 [.i t4_, .l h0])) (K (.exit 0) (buildS slices_IndexFunc_int64_int64_l0_s4_o1 [.l h0])) := by kernel_rfl
theorem slices_IndexFunc_int64_int64_l0_s4_loop {α : Type} (N : Nat) (s_o : Nat) (s_n : Nat) (s_l : Nat) (s_c : Nat) (t7 : Int) (h0 : List Int) (K : AExit → St → Option α) : ∀ (m : Nat) (t8 : Int),
    loopN (trimSt ((E_i_Laurent_high_s2 α N).ann 34 2).head ((E_i_Laurent_high_s2 α N).ann 34 2).grow 1) (bodyK Try.prog (E_i_Laurent_high_s2 α N) 1 1 34 Try.f34 2) m (buildS slices_IndexFunc_int64_int64_l0_s4_p [.n s_o, .n s_n, .n s_l, .n s_c, .i t7, .i t8, .l h0]) (leaveLoop ((E_i_Laurent_high_s2 α N).ann 34 2) 1 K) = slices_IndexFunc_int64_int64_l0_s4 none N s_o s_n s_l s_c t7 h0 m t8 (fun t4_ => K .ret (buildS slices_IndexFunc_int64_int64_l0_s4_o0 [.i t4_, .l h0])) (K (.exit 0) (buildS slices_IndexFunc_int64_int64_l0_s4_o1 [.l h0])) := by
  intro m
  induction m with
  | zero => intros; rfl
  | succ m ih =>
    intro t8
    rw [loopN_round]
    refine (slices_IndexFunc_int64_int64_l0_s4_round N s_o s_n s_l s_c t7 t8 h0 _ K).trans ?_
    simp only [ih]
    rfl
def E_slices_IndexFunc_int64_int64_l0_s4 (α : Type) (N : Nat) : Env α := (E_i_Laurent_high_s2 α N).addLoop2 34 2 (loopSum2 ((E_i_Laurent_high_s2 α N).ann 34 2) 1 slices_IndexFunc_int64_int64_l0_s4_p (fun l K => match l with
    | [.n s_o, .n s_n, .n s_l, .n s_c, .i t7, .i t8, .l h0] => slices_IndexFunc_int64_int64_l0_s4 none N s_o s_n s_l s_c t7 h0 N t8 (fun t4_ => K .ret (buildS slices_IndexFunc_int64_int64_l0_s4_o0 [.i t4_, .l h0])) (K (.exit 0) (buildS slices_IndexFunc_int64_int64_l0_s4_o1 [.l h0]))
    | _ => none) ((E_i_Laurent_high_s2 α N).ls 34 2))
theorem E_slices_IndexFunc_int64_int64_l0_s4_ok {α : Type} (N : Nat) : EnvOk Try.prog (E_slices_IndexFunc_int64_int64_l0_s4 α N) := (E_i_Laurent_high_s2_ok N).addLoop2 Try.func34 (by kernel_rfl) (loopSum_ok prog_mixed prog_names (E_i_Laurent_high_s2_ok N) Try.func34 (by kernel_rfl) (d := 1) (ro := 1) fun l K r h => by
  split at h
  · exact (slices_IndexFunc_int64_int64_l0_s4_loop N _ _ _ _ _ _ K N _).trans h
  · cases h)

/-- slices.IndexFunc[[]int64,int64] -/
def slices_IndexFunc_int64_int64_s4_a : SPat := ⟨[.sliceO 0 0 1 false, .func 33 []], [[.vec .i64]]⟩
def slices_IndexFunc_int64_int64_s4_r0 : SPat := ⟨[.int .i64], [[.vec .i64]]⟩
theorem slices_IndexFunc_int64_int64_s4_run {α : Type} (N : Nat) (s_o : Nat) (s_n : Nat) (s_l : Nat) (s_c : Nat) (h0 : List Int) (K : AV → Heap → Option α) :
    callK Try.prog (E_slices_IndexFunc_int64_int64_l0_s4 α N) 1 34 1 (buildS slices_IndexFunc_int64_int64_s4_a [.n s_o, .n s_n, .n s_l, .n s_c, .l h0]).t (buildS slices_IndexFunc_int64_int64_s4_a [.n s_o, .n s_n, .n s_l, .n s_c, .l h0]).h K = slices_IndexFunc_int64_int64_s4 none N s_o s_n s_l s_c h0 (fun r__ => retK (buildS slices_IndexFunc_int64_int64_s4_r0 [.i r__, .l h0]) K) := by kernel_rfl
def E_slices_IndexFunc_int64_int64_s4 (α : Type) (N : Nat) : Env α := (E_slices_IndexFunc_int64_int64_l0_s4 α N).addFun 34 true 1 slices_IndexFunc_int64_int64_s4_a (fun l K => match l with
    | [.n s_o, .n s_n, .n s_l, .n s_c, .l h0] => slices_IndexFunc_int64_int64_s4 none N s_o s_n s_l s_c h0 (fun r__ => retK (buildS slices_IndexFunc_int64_int64_s4_r0 [.i r__, .l h0]) K)
    | _ => none)
theorem E_slices_IndexFunc_int64_int64_s4_ok {α : Type} (N : Nat) : EnvOk Try.prog (E_slices_IndexFunc_int64_int64_s4 α N) := (E_slices_IndexFunc_int64_int64_l0_s4_ok N).addFun prog_mixed prog_names (d := 1) fun l K r h => by
  split at h
  · exact (slices_IndexFunc_int64_int64_s4_run N _ _ _ _ _ K).trans h
  · cases h

/-- slices.ContainsFunc[[]int64,int64] -/
def slices_ContainsFunc_int64_int64_s3_a : SPat := ⟨[.sliceV 0 0 0 1 false, .func 33 []], [[.vec .i64]]⟩
def slices_ContainsFunc_int64_int64_s3_r0 : SPat := ⟨[.bool], [[.vec .i64]]⟩
theorem slices_ContainsFunc_int64_int64_s3_run {α : Type} (N : Nat) (s_n : Nat) (s_l : Nat) (s_c : Nat) (h0 : List Int) (K : AV → Heap → Option α) :
    callK Try.prog (E_slices_IndexFunc_int64_int64_s4 α N) 1 32 1 (buildS slices_ContainsFunc_int64_int64_s3_a [.n s_n, .n s_l, .n s_c, .l h0]).t (buildS slices_ContainsFunc_int64_int64_s3_a [.n s_n, .n s_l, .n s_c, .l h0]).h K = slices_ContainsFunc_int64_int64_s3 none N s_n s_l s_c h0 (fun r__ => retK (buildS slices_ContainsFunc_int64_int64_s3_r0 [.b r__, .l h0]) K) := by kernel_rfl
def E_slices_ContainsFunc_int64_int64_s3 (α : Type) (N : Nat) : Env α := (E_slices_IndexFunc_int64_int64_s4 α N).addFun 32 true 1 slices_ContainsFunc_int64_int64_s3_a (fun l K => match l with
    | [.n s_n, .n s_l, .n s_c, .l h0] => slices_ContainsFunc_int64_int64_s3 none N s_n s_l s_c h0 (fun r__ => retK (buildS slices_ContainsFunc_int64_int64_s3_r0 [.b r__, .l h0]) K)
    | _ => none)
theorem E_slices_ContainsFunc_int64_int64_s3_ok {α : Type} (N : Nat) : EnvOk Try.prog (E_slices_ContainsFunc_int64_int64_s3 α N) := (E_slices_IndexFunc_int64_int64_s4_ok N).addFun prog_mixed prog_names (d := 1) fun l K r h => by
  split at h
  · exact (slices_ContainsFunc_int64_int64_s3_run N _ _ _ _ K).trans h
  · cases h

/-- impl.areCoefficients -/
def i_areCoefficients_s2_a : SPat := ⟨[.sliceV 0 0 0 1 false], [[.vec .i64]]⟩
def i_areCoefficients_s2_r0 : SPat := ⟨[.bool], [[.vec .i64]]⟩
theorem i_areCoefficients_s2_run {α : Type} (N : Nat) (list_n : Nat) (list_l : Nat) (list_c : Nat) (h0 : List Int) (K : AV → Heap → Option α) :
    callK Try.prog (E_slices_ContainsFunc_int64_int64_s3 α N) 1 30 1 (buildS i_areCoefficients_s2_a [.n list_n, .n list_l, .n list_c, .l h0]).t (buildS i_areCoefficients_s2_a [.n list_n, .n list_l, .n list_c, .l h0]).h K = i_areCoefficients_s2 none N list_n list_l list_c h0 (fun r__ => retK (buildS i_areCoefficients_s2_r0 [.b r__, .l h0]) K) := by kernel_rfl
def E_i_areCoefficients_s2 (α : Type) (N : Nat) : Env α := (E_slices_ContainsFunc_int64_int64_s3 α N).addFun 30 true 1 i_areCoefficients_s2_a (fun l K => match l with
    | [.n list_n, .n list_l, .n list_c, .l h0] => i_areCoefficients_s2 none N list_n list_l list_c h0 (fun r__ => retK (buildS i_areCoefficients_s2_r0 [.b r__, .l h0]) K)
    | _ => none)
theorem E_i_areCoefficients_s2_ok {α : Type} (N : Nat) : EnvOk Try.prog (E_i_areCoefficients_s2 α N) := (E_slices_ContainsFunc_int64_int64_s3_ok N).addFun prog_mixed prog_names (d := 1) fun l K r h => by
  split at h
  · exact (i_areCoefficients_s2_run N _ _ _ _ K).trans h
  · cases h

/-- impl.IsLaurent -/
def i_IsLaurent_s2_a : SPat := ⟨[.agg [.vals [.int .i64, .sliceV 0 0 0 1 false]]], [[.vec .i64]]⟩
def i_IsLaurent_s2_r0 : SPat := ⟨[.bool], [[.vec .i64]]⟩
theorem i_IsLaurent_s2_run {α : Type} (N : Nat) (p_0 : Int) (p_1_n : Nat) (p_1_l : Nat) (p_1_c : Nat) (h0 : List Int) (K : AV → Heap → Option α) :
    callK Try.prog (E_i_areCoefficients_s2 α N) 1 17 1 (buildS i_IsLaurent_s2_a [.i p_0, .n p_1_n, .n p_1_l, .n p_1_c, .l h0]).t (buildS i_IsLaurent_s2_a [.i p_0, .n p_1_n, .n p_1_l, .n p_1_c, .l h0]).h K = i_IsLaurent_s2 none N p_0 p_1_n p_1_l p_1_c h0 (fun r__ => retK (buildS i_IsLaurent_s2_r0 [.b r__, .l h0]) K) := by kernel_rfl
def E_i_IsLaurent_s2 (α : Type) (N : Nat) : Env α := (E_i_areCoefficients_s2 α N).addFun 17 true 1 i_IsLaurent_s2_a (fun l K => match l with
    | [.i p_0, .n p_1_n, .n p_1_l, .n p_1_c, .l h0] => i_IsLaurent_s2 none N p_0 p_1_n p_1_l p_1_c h0 (fun r__ => retK (buildS i_IsLaurent_s2_r0 [.b r__, .l h0]) K)
    | _ => none)
theorem E_i_IsLaurent_s2_ok {α : Type} (N : Nat) : EnvOk Try.prog (E_i_IsLaurent_s2 α N) := (E_i_areCoefficients_s2_ok N).addFun prog_mixed prog_names (d := 1) fun l K r h => by
  split at h
  · exact (i_IsLaurent_s2_run N _ _ _ _ _ K).trans h
  · cases h

/-- impl.limited -/
def i_limited_a : SPat := ⟨[.agg [.vals [.int .i64, .sliceV 0 0 0 1 false]]], [[.vec .i64]]⟩
def i_limited_r0 : SPat := ⟨[.tuple [.agg [.vals [.int .i64, .nils]], .int .i64]], [[.vec .i64]]⟩
def i_limited_r1 : SPat := ⟨[.tuple [.agg [.vals [.int .i64, .sliceV 0 0 0 1 false]], .int .i64]], [[.vec .i64]]⟩
theorem i_limited_run {α : Type} (N : Nat) (p_0 : Int) (p_1_n : Nat) (p_1_l : Nat) (p_1_c : Nat) (h0 : List Int) (K : AV → Heap → Option α) :
    callK Try.prog (E_i_IsLaurent_s2 α N) 1 23 1 (buildS i_limited_a [.i p_0, .n p_1_n, .n p_1_l, .n p_1_c, .l h0]).t (buildS i_limited_a [.i p_0, .n p_1_n, .n p_1_l, .n p_1_c, .l h0]).h K = i_limited none N p_0 p_1_n p_1_l p_1_c h0 (fun r_0_0_ r_1_ => retK (buildS i_limited_r0 [.i r_0_0_, .i r_1_, .l h0]) K) (fun r_1_ => retK (buildS i_limited_r1 [.i p_0, .n p_1_n, .n p_1_l, .n p_1_c, .i r_1_, .l h0]) K) := by kernel_rfl
def E_i_limited (α : Type) (N : Nat) : Env α := (E_i_IsLaurent_s2 α N).addFun 23 true 1 i_limited_a (fun l K => match l with
    | [.i p_0, .n p_1_n, .n p_1_l, .n p_1_c, .l h0] => i_limited none N p_0 p_1_n p_1_l p_1_c h0 (fun r_0_0_ r_1_ => retK (buildS i_limited_r0 [.i r_0_0_, .i r_1_, .l h0]) K) (fun r_1_ => retK (buildS i_limited_r1 [.i p_0, .n p_1_n, .n p_1_l, .n p_1_c, .i r_1_, .l h0]) K)
    | _ => none)
theorem E_i_limited_ok {α : Type} (N : Nat) : EnvOk Try.prog (E_i_limited α N) := (E_i_IsLaurent_s2_ok N).addFun prog_mixed prog_names (d := 1) fun l K r h => by
  split at h
  · exact (i_limited_run N _ _ _ _ _ K).trans h
  · cases h

/-- impl.MultiplyLaurents -/
def i_MultiplyLaurents_a : SPat := ⟨[.agg [.vals [.int .i64, .sliceV 0 0 0 1 true]], .agg [.vals [.int .i64, .sliceV 1 0 0 1 true]]], [[.intsV .i64], [.intsV .i64]]⟩
def i_MultiplyLaurents_r0 : SPat := ⟨[.tuple [.agg [.vals [.int .i64, .nils]], .int .i64]], [[.intsV .i64], [.intsV .i64]]⟩
def i_MultiplyLaurents_r1 : SPat := ⟨[.tuple [.agg [.vals [.int .i64, .sliceV 2 0 0 1 false]], .int .i64]], [[.intsV .i64], [.intsV .i64], [.vec .i64]]⟩
theorem i_MultiplyLaurents_run {α : Type} (N : Nat) (p_0 : Int) (p_1_n : Nat) (p_1_l : Nat) (p_1_c : Nat) (a1_0 : Int) (a1_1_n : Nat) (a1_1_l : Nat) (a1_1_c : Nat) (h0_n : Nat) (h0 : Nat → Int) (h1_n : Nat) (h1 : Nat → Int) (K : AV → Heap → Option α) :
    callK Try.prog (E_i_limited α N) 1 7 2 (buildS i_MultiplyLaurents_a [.i p_0, .n p_1_n, .n p_1_l, .n p_1_c, .i a1_0, .n a1_1_n, .n a1_1_l, .n a1_1_c, .n h0_n, .f h0, .n h1_n, .f h1]).t (buildS i_MultiplyLaurents_a [.i p_0, .n p_1_n, .n p_1_l, .n p_1_c, .i a1_0, .n a1_1_n, .n a1_1_l, .n a1_1_c, .n h0_n, .f h0, .n h1_n, .f h1]).h K = i_MultiplyLaurents none N p_0 p_1_n p_1_l p_1_c a1_0 a1_1_n a1_1_l a1_1_c h0_n h0 h1_n h1 (fun r_0_0_ r_1_ => retK (buildS i_MultiplyLaurents_r0 [.i r_0_0_, .i r_1_, .n h0_n, .f h0, .n h1_n, .f h1]) K) (fun r_0_0_ r_0_1_n_ r_0_1_l_ r_0_1_c_ r_1_ h2_ => retK (buildS i_MultiplyLaurents_r1 [.i r_0_0_, .n r_0_1_n_, .n r_0_1_l_, .n r_0_1_c_, .i r_1_, .n h0_n, .f h0, .n h1_n, .f h1, .l h2_]) K) := by kernel_rfl
def E_i_MultiplyLaurents (α : Type) (N : Nat) : Env α := (E_i_limited α N).addFun 7 true 2 i_MultiplyLaurents_a (fun l K => match l with
    | [.i p_0, .n p_1_n, .n p_1_l, .n p_1_c, .i a1_0, .n a1_1_n, .n a1_1_l, .n a1_1_c, .n h0_n, .f h0, .n h1_n, .f h1] => i_MultiplyLaurents none N p_0 p_1_n p_1_l p_1_c a1_0 a1_1_n a1_1_l a1_1_c h0_n h0 h1_n h1 (fun r_0_0_ r_1_ => retK (buildS i_MultiplyLaurents_r0 [.i r_0_0_, .i r_1_, .n h0_n, .f h0, .n h1_n, .f h1]) K) (fun r_0_0_ r_0_1_n_ r_0_1_l_ r_0_1_c_ r_1_ h2_ => retK (buildS i_MultiplyLaurents_r1 [.i r_0_0_, .n r_0_1_n_, .n r_0_1_l_, .n r_0_1_c_, .i r_1_, .n h0_n, .f h0, .n h1_n, .f h1, .l h2_]) K)
    | _ => none)
theorem E_i_MultiplyLaurents_ok {α : Type} (N : Nat) : EnvOk Try.prog (E_i_MultiplyLaurents α N) := (E_i_limited_ok N).addFun prog_mixed prog_names (d := 1) fun l K r h => by
  split at h
  · exact (i_MultiplyLaurents_run N _ _ _ _ _ _ _ _ _ _ _ _ K).trans h
  · cases h

def A_w_eqInt64S_l0 (α : Type) (N : Nat) : Env α := (E_i_MultiplyLaurents α N).addAnn 24 4 { head := [0, 1, 5], grow := [], out := [], ret := [4] }
theorem A_w_eqInt64S_l0_ok {α : Type} (N : Nat) : EnvOk Try.prog (A_w_eqInt64S_l0 α N) := (E_i_MultiplyLaurents_ok N).addAnn

/-- laws.eqInt64S, loop -/
def w_eqInt64S_l0_p : SPat := ⟨[.nils, .nils, .undef, .undef, .undef, .int .i64] ++ List.replicate 20 .undef, []⟩
def w_eqInt64S_l0_o0 : SPat := ⟨[] ++ List.replicate 26 .undef, []⟩
theorem w_eqInt64S_l0_round {α : Type} (N : Nat) (i : Int) (kn : St → Option α) (K : AExit → St → Option α) :
    roundK Try.prog (A_w_eqInt64S_l0 α N) 1 0 24 Try.f24 4 0 (buildS w_eqInt64S_l0_p [.i i]) kn K = w_eqInt64S_l0_s none i  (kn (buildS w_eqInt64S_l0_p [.i i])) (K (.exit 0) (buildS w_eqInt64S_l0_o0 [])) := by kernel_rfl
theorem w_eqInt64S_l0_loop {α : Type} (N : Nat) (i : Int) (K : AExit → St → Option α) : ∀ (m : Nat),
    loopN (trimSt ((A_w_eqInt64S_l0 α N).ann 24 4).head ((A_w_eqInt64S_l0 α N).ann 24 4).grow 0) (bodyK Try.prog (A_w_eqInt64S_l0 α N) 1 0 24 Try.f24 4) m (buildS w_eqInt64S_l0_p [.i i]) (leaveLoop ((A_w_eqInt64S_l0 α N).ann 24 4) 0 K) = w_eqInt64S_l0 none i m  (K (.exit 0) (buildS w_eqInt64S_l0_o0 [])) := by
  intro m
  induction m with
  | zero => intros; rfl
  | succ m ih =>
    rw [loopN_round]
    refine (w_eqInt64S_l0_round N i _ K).trans ?_
    simp only [ih]
    rfl
def E_w_eqInt64S_l0 (α : Type) (N : Nat) : Env α := (A_w_eqInt64S_l0 α N).addLoop2 24 4 (loopSum2 ((A_w_eqInt64S_l0 α N).ann 24 4) 0 w_eqInt64S_l0_p (fun l K => match l with
    | [.i i] => w_eqInt64S_l0 none i N  (K (.exit 0) (buildS w_eqInt64S_l0_o0 []))
    | _ => none) ((A_w_eqInt64S_l0 α N).ls 24 4))
theorem E_w_eqInt64S_l0_ok {α : Type} (N : Nat) : EnvOk Try.prog (E_w_eqInt64S_l0 α N) := (A_w_eqInt64S_l0_ok N).addLoop2 Try.func24 (by kernel_rfl) (loopSum_ok prog_mixed prog_names (A_w_eqInt64S_l0_ok N) Try.func24 (by kernel_rfl) (d := 1) (ro := 0) fun l K r h => by
  split at h
  · exact (w_eqInt64S_l0_loop N _ K N ).trans h
  · cases h)

/-- laws.eqInt64S -/
def w_eqInt64S_a : SPat := ⟨[.nils, .nils], []⟩
def w_eqInt64S_r0 : SPat := ⟨[.bool], []⟩
theorem w_eqInt64S_run {α : Type} (N : Nat)  (K : AV → Heap → Option α) :
    callK Try.prog (E_w_eqInt64S_l0 α N) 1 24 0 (buildS w_eqInt64S_a []).t (buildS w_eqInt64S_a []).h K = w_eqInt64S none N  (fun r__ => retK (buildS w_eqInt64S_r0 [.b r__]) K) := by kernel_rfl
def E_w_eqInt64S (α : Type) (N : Nat) : Env α := (E_w_eqInt64S_l0 α N).addFun 24 true 0 w_eqInt64S_a (fun l K => match l with
    | [] => w_eqInt64S none N  (fun r__ => retK (buildS w_eqInt64S_r0 [.b r__]) K)
    | _ => none)
theorem E_w_eqInt64S_ok {α : Type} (N : Nat) : EnvOk Try.prog (E_w_eqInt64S α N) := (E_w_eqInt64S_l0_ok N).addFun prog_mixed prog_names (d := 1) fun l K r h => by
  split at h
  · exact (w_eqInt64S_run N  K).trans h
  · cases h

/-- laws.eqLaurent -/
def w_eqLaurent_a : SPat := ⟨[.agg [.vals [.int .i64, .nils]], .agg [.vals [.int .i64, .nils]]], []⟩
def w_eqLaurent_r0 : SPat := ⟨[.bool], []⟩
theorem w_eqLaurent_run {α : Type} (N : Nat) (a_0 : Int) (b_0 : Int) (K : AV → Heap → Option α) :
    callK Try.prog (E_w_eqInt64S α N) 1 8 0 (buildS w_eqLaurent_a [.i a_0, .i b_0]).t (buildS w_eqLaurent_a [.i a_0, .i b_0]).h K = w_eqLaurent none N a_0 b_0 (fun r__ => retK (buildS w_eqLaurent_r0 [.b r__]) K) := by kernel_rfl
def E_w_eqLaurent (α : Type) (N : Nat) : Env α := (E_w_eqInt64S α N).addFun 8 true 0 w_eqLaurent_a (fun l K => match l with
    | [.i a_0, .i b_0] => w_eqLaurent none N a_0 b_0 (fun r__ => retK (buildS w_eqLaurent_r0 [.b r__]) K)
    | _ => none)
theorem E_w_eqLaurent_ok {α : Type} (N : Nat) : EnvOk Try.prog (E_w_eqLaurent α N) := (E_w_eqInt64S_ok N).addFun prog_mixed prog_names (d := 1) fun l K r h => by
  split at h
  · exact (w_eqLaurent_run N _ _ K).trans h
  · cases h

/-- laws.eqInt64S, loop -/
def w_eqInt64S_l0_s8_p : SPat := ⟨[.sliceV 0 0 0 1 true, .sliceV 1 0 0 1 true, .undef, .undef, .undef, .int .i64] ++ List.replicate 20 .undef, [[.intsV .i64], [.intsV .i64]]⟩
def w_eqInt64S_l0_s8_o0 : SPat := ⟨[.undef, .undef, .undef, .undef, .boolC false] ++ List.replicate 21 .undef, [[.intsV .i64], [.intsV .i64]]⟩
def w_eqInt64S_l0_s8_o1 : SPat := ⟨[] ++ List.replicate 26 .undef, [[.intsV .i64], [.intsV .i64]]⟩
theorem w_eqInt64S_l0_s8_round {α : Type} (N : Nat) (a_n : Nat) (a_l : Nat) (a_c : Nat) (b_n : Nat) (b_l : Nat) (b_c : Nat) (i : Int) (h0_n : Nat) (h0 : Nat → Int) (h1_n : Nat) (h1 : Nat → Int) (kn : St → Option α) (K : AExit → St → Option α) :
    roundK Try.prog (E_w_eqLaurent α N) 1 2 24 Try.f24 4 2 (buildS w_eqInt64S_l0_s8_p [.n a_n, .n a_l, .n a_c, .n b_n, .n b_l, .n b_c, .i i, .n h0_n, .f h0, .n h1_n, .f h1]) kn K = w_eqInt64S_l0_s8_s none a_n a_l a_c b_n b_l b_c h0_n h0 h1_n h1 i (fun i => kn (buildS w_eqInt64S_l0_s8_p [.n a_n, .n a_l, .n a_c, .n b_n, .n b_l, .n b_c, .i i, .n h0_n, .f h0, .n h1_n, .f h1])) (K .ret (buildS w_eqInt64S_l0_s8_o0 [.n h0_n, .f h0, .n h1_n, .f h1])) (K (.exit 0) (buildS w_eqInt64S_l0_s8_o1 [.n h0_n, .f h0, .n h1_n, .f h1])) := by kernel_rfl
theorem w_eqInt64S_l0_s8_loop {α : Type} (N : Nat) (a_n : Nat) (a_l : Nat) (a_c : Nat) (b_n : Nat) (b_l : Nat) (b_c : Nat) (h0_n : Nat) (h0 : Nat → Int) (h1_n : Nat) (h1 : Nat → Int) (K : AExit → St → Option α) : ∀ (m : Nat) (i : Int),
    loopN (trimSt ((E_w_eqLaurent α N).ann 24 4).head ((E_w_eqLaurent α N).ann 24 4).grow 2) (bodyK Try.prog (E_w_eqLaurent α N) 1 2 24 Try.f24 4) m (buildS w_eqInt64S_l0_s8_p [.n a_n, .n a_l, .n a_c, .n b_n, .n b_l, .n b_c, .i i, .n h0_n, .f h0, .n h1_n, .f h1]) (leaveLoop ((E_w_eqLaurent α N).ann 24 4) 2 K) = w_eqInt64S_l0_s8 none a_n a_l a_c b_n b_l b_c h0_n h0 h1_n h1 m i (K .ret (buildS w_eqInt64S_l0_s8_o0 [.n h0_n, .f h0, .n h1_n, .f h1])) (K (.exit 0) (buildS w_eqInt64S_l0_s8_o1 [.n h0_n, .f h0, .n h1_n, .f h1])) := by
  intro m
  induction m with
  | zero => intros; rfl
  | succ m ih =>
    intro i
    rw [loopN_round]
    refine (w_eqInt64S_l0_s8_round N a_n a_l a_c b_n b_l b_c i h0_n h0 h1_n h1 _ K).trans ?_
    simp only [ih]
    rfl
def E_w_eqInt64S_l0_s8 (α : Type) (N : Nat) : Env α := (E_w_eqLaurent α N).addLoop2 24 4 (loopSum2 ((E_w_eqLaurent α N).ann 24 4) 2 w_eqInt64S_l0_s8_p (fun l K => match l with
    | [.n a_n, .n a_l, .n a_c, .n b_n, .n b_l, .n b_c, .i i, .n h0_n, .f h0, .n h1_n, .f h1] => w_eqInt64S_l0_s8 none a_n a_l a_c b_n b_l b_c h0_n h0 h1_n h1 N i (K .ret (buildS w_eqInt64S_l0_s8_o0 [.n h0_n, .f h0, .n h1_n, .f h1])) (K (.exit 0) (buildS w_eqInt64S_l0_s8_o1 [.n h0_n, .f h0, .n h1_n, .f h1]))
    | _ => none) ((E_w_eqLaurent α N).ls 24 4))
theorem E_w_eqInt64S_l0_s8_ok {α : Type} (N : Nat) : EnvOk Try.prog (E_w_eqInt64S_l0_s8 α N) := (E_w_eqLaurent_ok N).addLoop2 Try.func24 (by kernel_rfl) (loopSum_ok prog_mixed prog_names (E_w_eqLaurent_ok N) Try.func24 (by kernel_rfl) (d := 1) (ro := 2) fun l K r h => by
  split at h
  · exact (w_eqInt64S_l0_s8_loop N _ _ _ _ _ _ _ _ _ _ K N _).trans h
  · cases h)

/-- laws.eqInt64S -/
def w_eqInt64S_s10_a : SPat := ⟨[.sliceV 0 0 0 1 true, .sliceV 1 0 0 1 true], [[.intsV .i64], [.intsV .i64]]⟩
def w_eqInt64S_s10_r0 : SPat := ⟨[.bool], [[.intsV .i64], [.intsV .i64]]⟩
theorem w_eqInt64S_s10_run {α : Type} (N : Nat) (a_n : Nat) (a_l : Nat) (a_c : Nat) (b_n : Nat) (b_l : Nat) (b_c : Nat) (h0_n : Nat) (h0 : Nat → Int) (h1_n : Nat) (h1 : Nat → Int) (K : AV → Heap → Option α) :
    callK Try.prog (E_w_eqInt64S_l0_s8 α N) 1 24 2 (buildS w_eqInt64S_s10_a [.n a_n, .n a_l, .n a_c, .n b_n, .n b_l, .n b_c, .n h0_n, .f h0, .n h1_n, .f h1]).t (buildS w_eqInt64S_s10_a [.n a_n, .n a_l, .n a_c, .n b_n, .n b_l, .n b_c, .n h0_n, .f h0, .n h1_n, .f h1]).h K = w_eqInt64S_s10 none N a_n a_l a_c b_n b_l b_c h0_n h0 h1_n h1 (fun r__ => retK (buildS w_eqInt64S_s10_r0 [.b r__, .n h0_n, .f h0, .n h1_n, .f h1]) K) := by kernel_rfl
def E_w_eqInt64S_s10 (α : Type) (N : Nat) : Env α := (E_w_eqInt64S_l0_s8 α N).addFun 24 true 2 w_eqInt64S_s10_a (fun l K => match l with
    | [.n a_n, .n a_l, .n a_c, .n b_n, .n b_l, .n b_c, .n h0_n, .f h0, .n h1_n, .f h1] => w_eqInt64S_s10 none N a_n a_l a_c b_n b_l b_c h0_n h0 h1_n h1 (fun r__ => retK (buildS w_eqInt64S_s10_r0 [.b r__, .n h0_n, .f h0, .n h1_n, .f h1]) K)
    | _ => none)
theorem E_w_eqInt64S_s10_ok {α : Type} (N : Nat) : EnvOk Try.prog (E_w_eqInt64S_s10 α N) := (E_w_eqInt64S_l0_s8_ok N).addFun prog_mixed prog_names (d := 1) fun l K r h => by
  split at h
  · exact (w_eqInt64S_s10_run N _ _ _ _ _ _ _ _ _ _ K).trans h
  · cases h

/-- laws.eqLaurent -/
def w_eqLaurent_s2_a : SPat := ⟨[.agg [.vals [.int .i64, .sliceV 0 0 0 1 true]], .agg [.vals [.int .i64, .sliceV 1 0 0 1 true]]], [[.intsV .i64], [.intsV .i64]]⟩
def w_eqLaurent_s2_r0 : SPat := ⟨[.bool], [[.intsV .i64], [.intsV .i64]]⟩
theorem w_eqLaurent_s2_run {α : Type} (N : Nat) (a_0 : Int) (a_1_n : Nat) (a_1_l : Nat) (a_1_c : Nat) (b_0 : Int) (b_1_n : Nat) (b_1_l : Nat) (b_1_c : Nat) (h0_n : Nat) (h0 : Nat → Int) (h1_n : Nat) (h1 : Nat → Int) (K : AV → Heap → Option α) :
    callK Try.prog (E_w_eqInt64S_s10 α N) 1 8 2 (buildS w_eqLaurent_s2_a [.i a_0, .n a_1_n, .n a_1_l, .n a_1_c, .i b_0, .n b_1_n, .n b_1_l, .n b_1_c, .n h0_n, .f h0, .n h1_n, .f h1]).t (buildS w_eqLaurent_s2_a [.i a_0, .n a_1_n, .n a_1_l, .n a_1_c, .i b_0, .n b_1_n, .n b_1_l, .n b_1_c, .n h0_n, .f h0, .n h1_n, .f h1]).h K = w_eqLaurent_s2 none N a_0 a_1_n a_1_l a_1_c b_0 b_1_n b_1_l b_1_c h0_n h0 h1_n h1 (fun r__ => retK (buildS w_eqLaurent_s2_r0 [.b r__, .n h0_n, .f h0, .n h1_n, .f h1]) K) := by kernel_rfl
def E_w_eqLaurent_s2 (α : Type) (N : Nat) : Env α := (E_w_eqInt64S_s10 α N).addFun 8 true 2 w_eqLaurent_s2_a (fun l K => match l with
    | [.i a_0, .n a_1_n, .n a_1_l, .n a_1_c, .i b_0, .n b_1_n, .n b_1_l, .n b_1_c, .n h0_n, .f h0, .n h1_n, .f h1] => w_eqLaurent_s2 none N a_0 a_1_n a_1_l a_1_c b_0 b_1_n b_1_l b_1_c h0_n h0 h1_n h1 (fun r__ => retK (buildS w_eqLaurent_s2_r0 [.b r__, .n h0_n, .f h0, .n h1_n, .f h1]) K)
    | _ => none)
theorem E_w_eqLaurent_s2_ok {α : Type} (N : Nat) : EnvOk Try.prog (E_w_eqLaurent_s2 α N) := (E_w_eqInt64S_s10_ok N).addFun prog_mixed prog_names (d := 1) fun l K r h => by
  split at h
  · exact (w_eqLaurent_s2_run N _ _ _ _ _ _ _ _ _ _ _ _ K).trans h
  · cases h

def A_w_markInt64S_l0 (α : Type) (N : Nat) : Env α := (E_w_eqLaurent_s2 α N).addAnn 25 2 { head := [0, 1, 5], grow := [], out := [1], ret := [4] }
theorem A_w_markInt64S_l0_ok {α : Type} (N : Nat) : EnvOk Try.prog (A_w_markInt64S_l0 α N) := (E_w_eqLaurent_s2_ok N).addAnn

/-- laws.markInt64S, loop -/
def w_markInt64S_l0_s4_p : SPat := ⟨[.sliceV 0 0 0 1 true, .int .i64, .undef, .undef, .undef, .int .i64] ++ List.replicate 13 .undef, [[.intsV .i64]]⟩
def w_markInt64S_l0_s4_o0 : SPat := ⟨[.undef, .int .i64] ++ List.replicate 17 .undef, [[.intsV .i64]]⟩
theorem w_markInt64S_l0_s4_round {α : Type} (N : Nat) (a_n : Nat) (a_l : Nat) (a_c : Nat) (k : Int) (i : Int) (h0_n : Nat) (h0 : Nat → Int) (kn : St → Option α) (K : AExit → St → Option α) :
    roundK Try.prog (A_w_markInt64S_l0 α N) 1 0 25 Try.f25 2 1 (buildS w_markInt64S_l0_s4_p [.n a_n, .n a_l, .n a_c, .i k, .i i, .n h0_n, .f h0]) kn K = w_markInt64S_l0_s4_s none a_n a_l a_c h0_n k i h0 (fun k i h0 => kn (buildS w_markInt64S_l0_s4_p [.n a_n, .n a_l, .n a_c, .i k, .i i, .n h0_n, .f h0])) (fun k_ h0_ => K (.exit 0) (buildS w_markInt64S_l0_s4_o0 [.i k_, .n h0_n, .f h0_])) := by kernel_rfl
theorem w_markInt64S_l0_s4_loop {α : Type} (N : Nat) (a_n : Nat) (a_l : Nat) (a_c : Nat) (h0_n : Nat) (K : AExit → St → Option α) : ∀ (m : Nat) (k : Int) (i : Int) (h0 : Nat → Int),
    loopN (trimSt ((A_w_markInt64S_l0 α N).ann 25 2).head ((A_w_markInt64S_l0 α N).ann 25 2).grow 1) (bodyK Try.prog (A_w_markInt64S_l0 α N) 1 0 25 Try.f25 2) m (buildS w_markInt64S_l0_s4_p [.n a_n, .n a_l, .n a_c, .i k, .i i, .n h0_n, .f h0]) (leaveLoop ((A_w_markInt64S_l0 α N).ann 25 2) 1 K) = w_markInt64S_l0_s4 none a_n a_l a_c h0_n m k i h0 (fun k_ h0_ => K (.exit 0) (buildS w_markInt64S_l0_s4_o0 [.i k_, .n h0_n, .f h0_])) := by
  intro m
  induction m with
  | zero => intros; rfl
  | succ m ih =>
    intro k i h0
    rw [loopN_round]
    refine (w_markInt64S_l0_s4_round N a_n a_l a_c k i h0_n h0 _ K).trans ?_
    simp only [ih]
    rfl
def E_w_markInt64S_l0_s4 (α : Type) (N : Nat) : Env α := (A_w_markInt64S_l0 α N).addLoop2 25 2 (loopSum2 ((A_w_markInt64S_l0 α N).ann 25 2) 0 w_markInt64S_l0_s4_p (fun l K => match l with
    | [.n a_n, .n a_l, .n a_c, .i k, .i i, .n h0_n, .f h0] => w_markInt64S_l0_s4 none a_n a_l a_c h0_n N k i h0 (fun k_ h0_ => K (.exit 0) (buildS w_markInt64S_l0_s4_o0 [.i k_, .n h0_n, .f h0_]))
    | _ => none) ((A_w_markInt64S_l0 α N).ls 25 2))
theorem E_w_markInt64S_l0_s4_ok {α : Type} (N : Nat) : EnvOk Try.prog (E_w_markInt64S_l0_s4 α N) := (A_w_markInt64S_l0_ok N).addLoop2 Try.func25 (by kernel_rfl) (loopSum_ok prog_mixed prog_names (A_w_markInt64S_l0_ok N) Try.func25 (by kernel_rfl) (d := 1) (ro := 0) fun l K r h => by
  split at h
  · exact (w_markInt64S_l0_s4_loop N _ _ _ _ K N _ _ _).trans h
  · cases h)

/-- laws.markInt64S -/
def w_markInt64S_s4_a : SPat := ⟨[.sliceV 0 0 0 1 true, .int .i64], [[.intsV .i64]]⟩
def w_markInt64S_s4_r0 : SPat := ⟨[.int .i64], [[.intsV .i64]]⟩
theorem w_markInt64S_s4_run {α : Type} (N : Nat) (a_n : Nat) (a_l : Nat) (a_c : Nat) (k : Int) (h0_n : Nat) (h0 : Nat → Int) (K : AV → Heap → Option α) :
    callK Try.prog (E_w_markInt64S_l0_s4 α N) 1 25 0 (buildS w_markInt64S_s4_a [.n a_n, .n a_l, .n a_c, .i k, .n h0_n, .f h0]).t (buildS w_markInt64S_s4_a [.n a_n, .n a_l, .n a_c, .i k, .n h0_n, .f h0]).h K = w_markInt64S_s4 none N a_n a_l a_c k h0_n h0 (fun r__ h0_ => retK (buildS w_markInt64S_s4_r0 [.i r__, .n h0_n, .f h0_]) K) := by kernel_rfl
def E_w_markInt64S_s4 (α : Type) (N : Nat) : Env α := (E_w_markInt64S_l0_s4 α N).addFun 25 false 0 w_markInt64S_s4_a (fun l K => match l with
    | [.n a_n, .n a_l, .n a_c, .i k, .n h0_n, .f h0] => w_markInt64S_s4 none N a_n a_l a_c k h0_n h0 (fun r__ h0_ => retK (buildS w_markInt64S_s4_r0 [.i r__, .n h0_n, .f h0_]) K)
    | _ => none)
theorem E_w_markInt64S_s4_ok {α : Type} (N : Nat) : EnvOk Try.prog (E_w_markInt64S_s4 α N) := (E_w_markInt64S_l0_s4_ok N).addFun prog_mixed prog_names (d := 1) fun l K r h => by
  split at h
  · exact (w_markInt64S_s4_run N _ _ _ _ _ _ K).trans h
  · cases h

/-- laws.markLaurent -/
def w_markLaurent_a : SPat := ⟨[.agg [.vals [.int .i64, .sliceV 0 0 0 1 true]], .int .i64], [[.intsV .i64]]⟩
def w_markLaurent_r0 : SPat := ⟨[.int .i64], [[.intsV .i64]]⟩
theorem w_markLaurent_run {α : Type} (N : Nat) (a_0 : Int) (a_1_n : Nat) (a_1_l : Nat) (a_1_c : Nat) (k : Int) (h0_n : Nat) (h0 : Nat → Int) (K : AV → Heap → Option α) :
    callK Try.prog (E_w_markInt64S_s4 α N) 1 9 0 (buildS w_markLaurent_a [.i a_0, .n a_1_n, .n a_1_l, .n a_1_c, .i k, .n h0_n, .f h0]).t (buildS w_markLaurent_a [.i a_0, .n a_1_n, .n a_1_l, .n a_1_c, .i k, .n h0_n, .f h0]).h K = w_markLaurent none N a_0 a_1_n a_1_l a_1_c k h0_n h0 (fun r__ h0_ => retK (buildS w_markLaurent_r0 [.i r__, .n h0_n, .f h0_]) K) := by kernel_rfl
def E_w_markLaurent (α : Type) (N : Nat) : Env α := (E_w_markInt64S_s4 α N).addFun 9 false 0 w_markLaurent_a (fun l K => match l with
    | [.i a_0, .n a_1_n, .n a_1_l, .n a_1_c, .i k, .n h0_n, .f h0] => w_markLaurent none N a_0 a_1_n a_1_l a_1_c k h0_n h0 (fun r__ h0_ => retK (buildS w_markLaurent_r0 [.i r__, .n h0_n, .f h0_]) K)
    | _ => none)
theorem E_w_markLaurent_ok {α : Type} (N : Nat) : EnvOk Try.prog (E_w_markLaurent α N) := (E_w_markInt64S_s4_ok N).addFun prog_mixed prog_names (d := 1) fun l K r h => by
  split at h
  · exact (w_markLaurent_run N _ _ _ _ _ _ _ K).trans h
  · cases h

/-- laws.markInt64S, loop -/
def w_markInt64S_l0_p : SPat := ⟨[.nils, .int .i64, .undef, .undef, .undef, .int .i64] ++ List.replicate 13 .undef, []⟩
def w_markInt64S_l0_o0 : SPat := ⟨[.undef, .int .i64] ++ List.replicate 17 .undef, []⟩
theorem w_markInt64S_l0_round {α : Type} (N : Nat) (k : Int) (i : Int) (kn : St → Option α) (K : AExit → St → Option α) :
    roundK Try.prog (E_w_markLaurent α N) 1 0 25 Try.f25 2 0 (buildS w_markInt64S_l0_p [.i k, .i i]) kn K = w_markInt64S_l0_s none k i  (kn (buildS w_markInt64S_l0_p [.i k, .i i])) (K (.exit 0) (buildS w_markInt64S_l0_o0 [.i k])) := by kernel_rfl
theorem w_markInt64S_l0_loop {α : Type} (N : Nat) (k : Int) (i : Int) (K : AExit → St → Option α) : ∀ (m : Nat),
    loopN (trimSt ((E_w_markLaurent α N).ann 25 2).head ((E_w_markLaurent α N).ann 25 2).grow 0) (bodyK Try.prog (E_w_markLaurent α N) 1 0 25 Try.f25 2) m (buildS w_markInt64S_l0_p [.i k, .i i]) (leaveLoop ((E_w_markLaurent α N).ann 25 2) 0 K) = w_markInt64S_l0 none k i m  (K (.exit 0) (buildS w_markInt64S_l0_o0 [.i k])) := by
  intro m
  induction m with
  | zero => intros; rfl
  | succ m ih =>
    rw [loopN_round]
    refine (w_markInt64S_l0_round N k i _ K).trans ?_
    simp only [ih]
    rfl
def E_w_markInt64S_l0 (α : Type) (N : Nat) : Env α := (E_w_markLaurent α N).addLoop2 25 2 (loopSum2 ((E_w_markLaurent α N).ann 25 2) 0 w_markInt64S_l0_p (fun l K => match l with
    | [.i k, .i i] => w_markInt64S_l0 none k i N  (K (.exit 0) (buildS w_markInt64S_l0_o0 [.i k]))
    | _ => none) ((E_w_markLaurent α N).ls 25 2))
theorem E_w_markInt64S_l0_ok {α : Type} (N : Nat) : EnvOk Try.prog (E_w_markInt64S_l0 α N) := (E_w_markLaurent_ok N).addLoop2 Try.func25 (by kernel_rfl) (loopSum_ok prog_mixed prog_names (E_w_markLaurent_ok N) Try.func25 (by kernel_rfl) (d := 1) (ro := 0) fun l K r h => by
  split at h
  · exact (w_markInt64S_l0_loop N _ _ K N ).trans h
  · cases h)

/-- laws.markInt64S -/
def w_markInt64S_a : SPat := ⟨[.nils, .int .i64], []⟩
def w_markInt64S_r0 : SPat := ⟨[.int .i64], []⟩
theorem w_markInt64S_run {α : Type} (N : Nat) (k : Int) (K : AV → Heap → Option α) :
    callK Try.prog (E_w_markInt64S_l0 α N) 1 25 0 (buildS w_markInt64S_a [.i k]).t (buildS w_markInt64S_a [.i k]).h K = w_markInt64S none N k (retK (buildS w_markInt64S_r0 [.i k]) K) := by kernel_rfl
def E_w_markInt64S (α : Type) (N : Nat) : Env α := (E_w_markInt64S_l0 α N).addFun 25 false 0 w_markInt64S_a (fun l K => match l with
    | [.i k] => w_markInt64S none N k (retK (buildS w_markInt64S_r0 [.i k]) K)
    | _ => none)
theorem E_w_markInt64S_ok {α : Type} (N : Nat) : EnvOk Try.prog (E_w_markInt64S α N) := (E_w_markInt64S_l0_ok N).addFun prog_mixed prog_names (d := 1) fun l K r h => by
  split at h
  · exact (w_markInt64S_run N _ K).trans h
  · cases h

/-- laws.markLaurent -/
def w_markLaurent_s2_a : SPat := ⟨[.agg [.vals [.int .i64, .nils]], .int .i64], []⟩
def w_markLaurent_s2_r0 : SPat := ⟨[.int .i64], []⟩
theorem w_markLaurent_s2_run {α : Type} (N : Nat) (a_0 : Int) (k : Int) (K : AV → Heap → Option α) :
    callK Try.prog (E_w_markInt64S α N) 1 9 0 (buildS w_markLaurent_s2_a [.i a_0, .i k]).t (buildS w_markLaurent_s2_a [.i a_0, .i k]).h K = w_markLaurent_s2 none N a_0 k (retK (buildS w_markLaurent_s2_r0 [.i k]) K) := by kernel_rfl
def E_w_markLaurent_s2 (α : Type) (N : Nat) : Env α := (E_w_markInt64S α N).addFun 9 false 0 w_markLaurent_s2_a (fun l K => match l with
    | [.i a_0, .i k] => w_markLaurent_s2 none N a_0 k (retK (buildS w_markLaurent_s2_r0 [.i k]) K)
    | _ => none)
theorem E_w_markLaurent_s2_ok {α : Type} (N : Nat) : EnvOk Try.prog (E_w_markLaurent_s2 α N) := (E_w_markInt64S_ok N).addFun prog_mixed prog_names (d := 1) fun l K r h => by
  split at h
  · exact (w_markLaurent_s2_run N _ _ K).trans h
  · cases h

def A_w_heldInt64S_l0 (α : Type) (N : Nat) : Env α := (E_w_markLaurent_s2 α N).addAnn 26 2 { head := [0, 1, 5], grow := [], out := [1], ret := [4] }
theorem A_w_heldInt64S_l0_ok {α : Type} (N : Nat) : EnvOk Try.prog (A_w_heldInt64S_l0 α N) := (E_w_markLaurent_s2_ok N).addAnn

/-- laws.heldInt64S, loop -/
def w_heldInt64S_l0_p : SPat := ⟨[.nils, .int .i64, .undef, .undef, .undef, .int .i64] ++ List.replicate 15 .undef, []⟩
def w_heldInt64S_l0_o0 : SPat := ⟨[.undef, .int .i64] ++ List.replicate 19 .undef, []⟩
theorem w_heldInt64S_l0_round {α : Type} (N : Nat) (k : Int) (i : Int) (kn : St → Option α) (K : AExit → St → Option α) :
    roundK Try.prog (A_w_heldInt64S_l0 α N) 1 0 26 Try.f26 2 0 (buildS w_heldInt64S_l0_p [.i k, .i i]) kn K = w_heldInt64S_l0_s none k i  (kn (buildS w_heldInt64S_l0_p [.i k, .i i])) (K (.exit 0) (buildS w_heldInt64S_l0_o0 [.i k])) := by kernel_rfl
theorem w_heldInt64S_l0_loop {α : Type} (N : Nat) (k : Int) (i : Int) (K : AExit → St → Option α) : ∀ (m : Nat),
    loopN (trimSt ((A_w_heldInt64S_l0 α N).ann 26 2).head ((A_w_heldInt64S_l0 α N).ann 26 2).grow 0) (bodyK Try.prog (A_w_heldInt64S_l0 α N) 1 0 26 Try.f26 2) m (buildS w_heldInt64S_l0_p [.i k, .i i]) (leaveLoop ((A_w_heldInt64S_l0 α N).ann 26 2) 0 K) = w_heldInt64S_l0 none k i m  (K (.exit 0) (buildS w_heldInt64S_l0_o0 [.i k])) := by
  intro m
  induction m with
  | zero => intros; rfl
  | succ m ih =>
    rw [loopN_round]
    refine (w_heldInt64S_l0_round N k i _ K).trans ?_
    simp only [ih]
    rfl
def E_w_heldInt64S_l0 (α : Type) (N : Nat) : Env α := (A_w_heldInt64S_l0 α N).addLoop2 26 2 (loopSum2 ((A_w_heldInt64S_l0 α N).ann 26 2) 0 w_heldInt64S_l0_p (fun l K => match l with
    | [.i k, .i i] => w_heldInt64S_l0 none k i N  (K (.exit 0) (buildS w_heldInt64S_l0_o0 [.i k]))
    | _ => none) ((A_w_heldInt64S_l0 α N).ls 26 2))
theorem E_w_heldInt64S_l0_ok {α : Type} (N : Nat) : EnvOk Try.prog (E_w_heldInt64S_l0 α N) := (A_w_heldInt64S_l0_ok N).addLoop2 Try.func26 (by kernel_rfl) (loopSum_ok prog_mixed prog_names (A_w_heldInt64S_l0_ok N) Try.func26 (by kernel_rfl) (d := 1) (ro := 0) fun l K r h => by
  split at h
  · exact (w_heldInt64S_l0_loop N _ _ K N ).trans h
  · cases h)

/-- laws.heldInt64S -/
def w_heldInt64S_a : SPat := ⟨[.nils, .int .i64], []⟩
def w_heldInt64S_r0 : SPat := ⟨[.int .i64], []⟩
theorem w_heldInt64S_run {α : Type} (N : Nat) (k : Int) (K : AV → Heap → Option α) :
    callK Try.prog (E_w_heldInt64S_l0 α N) 1 26 0 (buildS w_heldInt64S_a [.i k]).t (buildS w_heldInt64S_a [.i k]).h K = w_heldInt64S none N k (retK (buildS w_heldInt64S_r0 [.i k]) K) := by kernel_rfl
def E_w_heldInt64S (α : Type) (N : Nat) : Env α := (E_w_heldInt64S_l0 α N).addFun 26 true 0 w_heldInt64S_a (fun l K => match l with
    | [.i k] => w_heldInt64S none N k (retK (buildS w_heldInt64S_r0 [.i k]) K)
    | _ => none)
theorem E_w_heldInt64S_ok {α : Type} (N : Nat) : EnvOk Try.prog (E_w_heldInt64S α N) := (E_w_heldInt64S_l0_ok N).addFun prog_mixed prog_names (d := 1) fun l K r h => by
  split at h
  · exact (w_heldInt64S_run N _ K).trans h
  · cases h

/-- laws.heldLaurent -/
def w_heldLaurent_a : SPat := ⟨[.agg [.vals [.int .i64, .nils]], .int .i64], []⟩
def w_heldLaurent_r0 : SPat := ⟨[.int .i64], []⟩
theorem w_heldLaurent_run {α : Type} (N : Nat) (a_0 : Int) (k : Int) (K : AV → Heap → Option α) :
    callK Try.prog (E_w_heldInt64S α N) 1 10 0 (buildS w_heldLaurent_a [.i a_0, .i k]).t (buildS w_heldLaurent_a [.i a_0, .i k]).h K = w_heldLaurent none N a_0 k (fun r__ => retK (buildS w_heldLaurent_r0 [.i r__]) K) := by kernel_rfl
def E_w_heldLaurent (α : Type) (N : Nat) : Env α := (E_w_heldInt64S α N).addFun 10 true 0 w_heldLaurent_a (fun l K => match l with
    | [.i a_0, .i k] => w_heldLaurent none N a_0 k (fun r__ => retK (buildS w_heldLaurent_r0 [.i r__]) K)
    | _ => none)
theorem E_w_heldLaurent_ok {α : Type} (N : Nat) : EnvOk Try.prog (E_w_heldLaurent α N) := (E_w_heldInt64S_ok N).addFun prog_mixed prog_names (d := 1) fun l K r h => by
  split at h
  · exact (w_heldLaurent_run N _ _ K).trans h
  · cases h

/-- laws.eqInt64S, loop -/
def w_eqInt64S_l0_s3_p : SPat := ⟨[.sliceV 0 0 0 1 false, .nils, .undef, .undef, .undef, .int .i64] ++ List.replicate 20 .undef, [[.vec .i64]]⟩
def w_eqInt64S_l0_s3_o0 : SPat := ⟨[] ++ List.replicate 26 .undef, [[.vec .i64]]⟩
theorem w_eqInt64S_l0_s3_round {α : Type} (N : Nat) (a_n : Nat) (a_l : Nat) (a_c : Nat) (i : Int) (h0 : List Int) (kn : St → Option α) (K : AExit → St → Option α) :
    roundK Try.prog (E_w_heldLaurent α N) 1 1 24 Try.f24 4 1 (buildS w_eqInt64S_l0_s3_p [.n a_n, .n a_l, .n a_c, .i i, .l h0]) kn K = w_eqInt64S_l0_s3_s none a_n a_l a_c i h0  (kn (buildS w_eqInt64S_l0_s3_p [.n a_n, .n a_l, .n a_c, .i i, .l h0])) (K (.exit 0) (buildS w_eqInt64S_l0_s3_o0 [.l h0])) := by kernel_rfl
theorem w_eqInt64S_l0_s3_loop {α : Type} (N : Nat) (a_n : Nat) (a_l : Nat) (a_c : Nat) (i : Int) (h0 : List Int) (K : AExit → St → Option α) : ∀ (m : Nat),
    loopN (trimSt ((E_w_heldLaurent α N).ann 24 4).head ((E_w_heldLaurent α N).ann 24 4).grow 1) (bodyK Try.prog (E_w_heldLaurent α N) 1 1 24 Try.f24 4) m (buildS w_eqInt64S_l0_s3_p [.n a_n, .n a_l, .n a_c, .i i, .l h0]) (leaveLoop ((E_w_heldLaurent α N).ann 24 4) 1 K) = w_eqInt64S_l0_s3 none a_n a_l a_c i h0 m  (K (.exit 0) (buildS w_eqInt64S_l0_s3_o0 [.l h0])) := by
  intro m
  induction m with
  | zero => intros; rfl
  | succ m ih =>
    rw [loopN_round]
    refine (w_eqInt64S_l0_s3_round N a_n a_l a_c i h0 _ K).trans ?_
    simp only [ih]
    rfl
def E_w_eqInt64S_l0_s3 (α : Type) (N : Nat) : Env α := (E_w_heldLaurent α N).addLoop2 24 4 (loopSum2 ((E_w_heldLaurent α N).ann 24 4) 1 w_eqInt64S_l0_s3_p (fun l K => match l with
    | [.n a_n, .n a_l, .n a_c, .i i, .l h0] => w_eqInt64S_l0_s3 none a_n a_l a_c i h0 N  (K (.exit 0) (buildS w_eqInt64S_l0_s3_o0 [.l h0]))
    | _ => none) ((E_w_heldLaurent α N).ls 24 4))
theorem E_w_eqInt64S_l0_s3_ok {α : Type} (N : Nat) : EnvOk Try.prog (E_w_eqInt64S_l0_s3 α N) := (E_w_heldLaurent_ok N).addLoop2 Try.func24 (by kernel_rfl) (loopSum_ok prog_mixed prog_names (E_w_heldLaurent_ok N) Try.func24 (by kernel_rfl) (d := 1) (ro := 1) fun l K r h => by
  split at h
  · exact (w_eqInt64S_l0_s3_loop N _ _ _ _ _ K N ).trans h
  · cases h)

/-- laws.eqInt64S -/
def w_eqInt64S_s5_a : SPat := ⟨[.sliceV 0 0 0 1 false, .nils], [[.vec .i64]]⟩
def w_eqInt64S_s5_r0 : SPat := ⟨[.bool], [[.vec .i64]]⟩
theorem w_eqInt64S_s5_run {α : Type} (N : Nat) (a_n : Nat) (a_l : Nat) (a_c : Nat) (h0 : List Int) (K : AV → Heap → Option α) :
    callK Try.prog (E_w_eqInt64S_l0_s3 α N) 1 24 1 (buildS w_eqInt64S_s5_a [.n a_n, .n a_l, .n a_c, .l h0]).t (buildS w_eqInt64S_s5_a [.n a_n, .n a_l, .n a_c, .l h0]).h K = w_eqInt64S_s5 none N a_n a_l a_c h0 (fun r__ => retK (buildS w_eqInt64S_s5_r0 [.b r__, .l h0]) K) := by kernel_rfl
def E_w_eqInt64S_s5 (α : Type) (N : Nat) : Env α := (E_w_eqInt64S_l0_s3 α N).addFun 24 true 1 w_eqInt64S_s5_a (fun l K => match l with
    | [.n a_n, .n a_l, .n a_c, .l h0] => w_eqInt64S_s5 none N a_n a_l a_c h0 (fun r__ => retK (buildS w_eqInt64S_s5_r0 [.b r__, .l h0]) K)
    | _ => none)
theorem E_w_eqInt64S_s5_ok {α : Type} (N : Nat) : EnvOk Try.prog (E_w_eqInt64S_s5 α N) := (E_w_eqInt64S_l0_s3_ok N).addFun prog_mixed prog_names (d := 1) fun l K r h => by
  split at h
  · exact (w_eqInt64S_s5_run N _ _ _ _ K).trans h
  · cases h

/-- laws.eqLaurent -/
def w_eqLaurent_s3_a : SPat := ⟨[.agg [.vals [.int .i64, .sliceV 0 0 0 1 false]], .agg [.vals [.int .i64, .nils]]], [[.vec .i64]]⟩
def w_eqLaurent_s3_r0 : SPat := ⟨[.bool], [[.vec .i64]]⟩
theorem w_eqLaurent_s3_run {α : Type} (N : Nat) (a_0 : Int) (a_1_n : Nat) (a_1_l : Nat) (a_1_c : Nat) (b_0 : Int) (h0 : List Int) (K : AV → Heap → Option α) :
    callK Try.prog (E_w_eqInt64S_s5 α N) 1 8 1 (buildS w_eqLaurent_s3_a [.i a_0, .n a_1_n, .n a_1_l, .n a_1_c, .i b_0, .l h0]).t (buildS w_eqLaurent_s3_a [.i a_0, .n a_1_n, .n a_1_l, .n a_1_c, .i b_0, .l h0]).h K = w_eqLaurent_s3 none N a_0 a_1_n a_1_l a_1_c b_0 h0 (fun r__ => retK (buildS w_eqLaurent_s3_r0 [.b r__, .l h0]) K) := by kernel_rfl
def E_w_eqLaurent_s3 (α : Type) (N : Nat) : Env α := (E_w_eqInt64S_s5 α N).addFun 8 true 1 w_eqLaurent_s3_a (fun l K => match l with
    | [.i a_0, .n a_1_n, .n a_1_l, .n a_1_c, .i b_0, .l h0] => w_eqLaurent_s3 none N a_0 a_1_n a_1_l a_1_c b_0 h0 (fun r__ => retK (buildS w_eqLaurent_s3_r0 [.b r__, .l h0]) K)
    | _ => none)
theorem E_w_eqLaurent_s3_ok {α : Type} (N : Nat) : EnvOk Try.prog (E_w_eqLaurent_s3 α N) := (E_w_eqInt64S_s5_ok N).addFun prog_mixed prog_names (d := 1) fun l K r h => by
  split at h
  · exact (w_eqLaurent_s3_run N _ _ _ _ _ _ K).trans h
  · cases h

/-- laws.markInt64S, loop -/
def w_markInt64S_l0_s3_p : SPat := ⟨[.sliceV 0 0 0 1 false, .int .i64, .undef, .undef, .undef, .int .i64] ++ List.replicate 13 .undef, [[.vec .i64]]⟩
def w_markInt64S_l0_s3_o0 : SPat := ⟨[.undef, .int .i64] ++ List.replicate 17 .undef, [[.vec .i64]]⟩
theorem w_markInt64S_l0_s3_round {α : Type} (N : Nat) (a_n : Nat) (a_l : Nat) (a_c : Nat) (k : Int) (i : Int) (h0 : List Int) (kn : St → Option α) (K : AExit → St → Option α) :
    roundK Try.prog (E_w_eqLaurent_s3 α N) 1 0 25 Try.f25 2 1 (buildS w_markInt64S_l0_s3_p [.n a_n, .n a_l, .n a_c, .i k, .i i, .l h0]) kn K = w_markInt64S_l0_s3_s none a_n a_l a_c k i h0 (fun k i h0 => kn (buildS w_markInt64S_l0_s3_p [.n a_n, .n a_l, .n a_c, .i k, .i i, .l h0])) (fun k_ h0_ => K (.exit 0) (buildS w_markInt64S_l0_s3_o0 [.i k_, .l h0_])) := by kernel_rfl
theorem w_markInt64S_l0_s3_loop {α : Type} (N : Nat) (a_n : Nat) (a_l : Nat) (a_c : Nat) (K : AExit → St → Option α) : ∀ (m : Nat) (k : Int) (i : Int) (h0 : List Int),
    loopN (trimSt ((E_w_eqLaurent_s3 α N).ann 25 2).head ((E_w_eqLaurent_s3 α N).ann 25 2).grow 1) (bodyK Try.prog (E_w_eqLaurent_s3 α N) 1 0 25 Try.f25 2) m (buildS w_markInt64S_l0_s3_p [.n a_n, .n a_l, .n a_c, .i k, .i i, .l h0]) (leaveLoop ((E_w_eqLaurent_s3 α N).ann 25 2) 1 K) = w_markInt64S_l0_s3 none a_n a_l a_c m k i h0 (fun k_ h0_ => K (.exit 0) (buildS w_markInt64S_l0_s3_o0 [.i k_, .l h0_])) := by
  intro m
  induction m with
  | zero => intros; rfl
  | succ m ih =>
    intro k i h0
    rw [loopN_round]
    refine (w_markInt64S_l0_s3_round N a_n a_l a_c k i h0 _ K).trans ?_
    simp only [ih]
    rfl
def E_w_markInt64S_l0_s3 (α : Type) (N : Nat) : Env α := (E_w_eqLaurent_s3 α N).addLoop2 25 2 (loopSum2 ((E_w_eqLaurent_s3 α N).ann 25 2) 0 w_markInt64S_l0_s3_p (fun l K => match l with
    | [.n a_n, .n a_l, .n a_c, .i k, .i i, .l h0] => w_markInt64S_l0_s3 none a_n a_l a_c N k i h0 (fun k_ h0_ => K (.exit 0) (buildS w_markInt64S_l0_s3_o0 [.i k_, .l h0_]))
    | _ => none) ((E_w_eqLaurent_s3 α N).ls 25 2))
theorem E_w_markInt64S_l0_s3_ok {α : Type} (N : Nat) : EnvOk Try.prog (E_w_markInt64S_l0_s3 α N) := (E_w_eqLaurent_s3_ok N).addLoop2 Try.func25 (by kernel_rfl) (loopSum_ok prog_mixed prog_names (E_w_eqLaurent_s3_ok N) Try.func25 (by kernel_rfl) (d := 1) (ro := 0) fun l K r h => by
  split at h
  · exact (w_markInt64S_l0_s3_loop N _ _ _ K N _ _ _).trans h
  · cases h)

/-- laws.markInt64S -/
def w_markInt64S_s3_a : SPat := ⟨[.sliceV 0 0 0 1 false, .int .i64], [[.vec .i64]]⟩
def w_markInt64S_s3_r0 : SPat := ⟨[.int .i64], [[.vec .i64]]⟩
theorem w_markInt64S_s3_run {α : Type} (N : Nat) (a_n : Nat) (a_l : Nat) (a_c : Nat) (k : Int) (h0 : List Int) (K : AV → Heap → Option α) :
    callK Try.prog (E_w_markInt64S_l0_s3 α N) 1 25 0 (buildS w_markInt64S_s3_a [.n a_n, .n a_l, .n a_c, .i k, .l h0]).t (buildS w_markInt64S_s3_a [.n a_n, .n a_l, .n a_c, .i k, .l h0]).h K = w_markInt64S_s3 none N a_n a_l a_c k h0 (fun r__ h0_ => retK (buildS w_markInt64S_s3_r0 [.i r__, .l h0_]) K) := by kernel_rfl
def E_w_markInt64S_s3 (α : Type) (N : Nat) : Env α := (E_w_markInt64S_l0_s3 α N).addFun 25 false 0 w_markInt64S_s3_a (fun l K => match l with
    | [.n a_n, .n a_l, .n a_c, .i k, .l h0] => w_markInt64S_s3 none N a_n a_l a_c k h0 (fun r__ h0_ => retK (buildS w_markInt64S_s3_r0 [.i r__, .l h0_]) K)
    | _ => none)
theorem E_w_markInt64S_s3_ok {α : Type} (N : Nat) : EnvOk Try.prog (E_w_markInt64S_s3 α N) := (E_w_markInt64S_l0_s3_ok N).addFun prog_mixed prog_names (d := 1) fun l K r h => by
  split at h
  · exact (w_markInt64S_s3_run N _ _ _ _ _ K).trans h
  · cases h

/-- laws.markLaurent -/
def w_markLaurent_s3_a : SPat := ⟨[.agg [.vals [.int .i64, .sliceV 0 0 0 1 false]], .int .i64], [[.vec .i64]]⟩
def w_markLaurent_s3_r0 : SPat := ⟨[.int .i64], [[.vec .i64]]⟩
theorem w_markLaurent_s3_run {α : Type} (N : Nat) (a_0 : Int) (a_1_n : Nat) (a_1_l : Nat) (a_1_c : Nat) (k : Int) (h0 : List Int) (K : AV → Heap → Option α) :
    callK Try.prog (E_w_markInt64S_s3 α N) 1 9 0 (buildS w_markLaurent_s3_a [.i a_0, .n a_1_n, .n a_1_l, .n a_1_c, .i k, .l h0]).t (buildS w_markLaurent_s3_a [.i a_0, .n a_1_n, .n a_1_l, .n a_1_c, .i k, .l h0]).h K = w_markLaurent_s3 none N a_0 a_1_n a_1_l a_1_c k h0 (fun r__ h0_ => retK (buildS w_markLaurent_s3_r0 [.i r__, .l h0_]) K) := by kernel_rfl
def E_w_markLaurent_s3 (α : Type) (N : Nat) : Env α := (E_w_markInt64S_s3 α N).addFun 9 false 0 w_markLaurent_s3_a (fun l K => match l with
    | [.i a_0, .n a_1_n, .n a_1_l, .n a_1_c, .i k, .l h0] => w_markLaurent_s3 none N a_0 a_1_n a_1_l a_1_c k h0 (fun r__ h0_ => retK (buildS w_markLaurent_s3_r0 [.i r__, .l h0_]) K)
    | _ => none)
theorem E_w_markLaurent_s3_ok {α : Type} (N : Nat) : EnvOk Try.prog (E_w_markLaurent_s3 α N) := (E_w_markInt64S_s3_ok N).addFun prog_mixed prog_names (d := 1) fun l K r h => by
  split at h
  · exact (w_markLaurent_s3_run N _ _ _ _ _ _ K).trans h
  · cases h

/-- laws.heldInt64S, loop -/
def w_heldInt64S_l0_s3_p : SPat := ⟨[.sliceV 0 0 0 1 false, .int .i64, .undef, .undef, .undef, .int .i64] ++ List.replicate 15 .undef, [[.vec .i64]]⟩
def w_heldInt64S_l0_s3_o0 : SPat := ⟨[.undef, .undef, .undef, .undef, .intC .i64 (-1)] ++ List.replicate 16 .undef, [[.vec .i64]]⟩
def w_heldInt64S_l0_s3_o1 : SPat := ⟨[.undef, .int .i64] ++ List.replicate 19 .undef, [[.vec .i64]]⟩
theorem w_heldInt64S_l0_s3_round {α : Type} (N : Nat) (a_n : Nat) (a_l : Nat) (a_c : Nat) (k : Int) (i : Int) (h0 : List Int) (kn : St → Option α) (K : AExit → St → Option α) :
    roundK Try.prog (E_w_markLaurent_s3 α N) 1 1 26 Try.f26 2 1 (buildS w_heldInt64S_l0_s3_p [.n a_n, .n a_l, .n a_c, .i k, .i i, .l h0]) kn K = w_heldInt64S_l0_s3_s none a_n a_l a_c h0 k i (fun k i => kn (buildS w_heldInt64S_l0_s3_p [.n a_n, .n a_l, .n a_c, .i k, .i i, .l h0])) (K .ret (buildS w_heldInt64S_l0_s3_o0 [.l h0])) (fun k_ => K (.exit 0) (buildS w_heldInt64S_l0_s3_o1 [.i k_, .l h0])) := by kernel_rfl
theorem w_heldInt64S_l0_s3_loop {α : Type} (N : Nat) (a_n : Nat) (a_l : Nat) (a_c : Nat) (h0 : List Int) (K : AExit → St → Option α) : ∀ (m : Nat) (k : Int) (i : Int),
    loopN (trimSt ((E_w_markLaurent_s3 α N).ann 26 2).head ((E_w_markLaurent_s3 α N).ann 26 2).grow 1) (bodyK Try.prog (E_w_markLaurent_s3 α N) 1 1 26 Try.f26 2) m (buildS w_heldInt64S_l0_s3_p [.n a_n, .n a_l, .n a_c, .i k, .i i, .l h0]) (leaveLoop ((E_w_markLaurent_s3 α N).ann 26 2) 1 K) = w_heldInt64S_l0_s3 none a_n a_l a_c h0 m k i (K .ret (buildS w_heldInt64S_l0_s3_o0 [.l h0])) (fun k_ => K (.exit 0) (buildS w_heldInt64S_l0_s3_o1 [.i k_, .l h0])) := by
  intro m
  induction m with
  | zero => intros; rfl
  | succ m ih =>
    intro k i
    rw [loopN_round]
    refine (w_heldInt64S_l0_s3_round N a_n a_l a_c k i h0 _ K).trans ?_
    simp only [ih]
    rfl
def E_w_heldInt64S_l0_s3 (α : Type) (N : Nat) : Env α := (E_w_markLaurent_s3 α N).addLoop2 26 2 (loopSum2 ((E_w_markLaurent_s3 α N).ann 26 2) 1 w_heldInt64S_l0_s3_p (fun l K => match l with
    | [.n a_n, .n a_l, .n a_c, .i k, .i i, .l h0] => w_heldInt64S_l0_s3 none a_n a_l a_c h0 N k i (K .ret (buildS w_heldInt64S_l0_s3_o0 [.l h0])) (fun k_ => K (.exit 0) (buildS w_heldInt64S_l0_s3_o1 [.i k_, .l h0]))
    | _ => none) ((E_w_markLaurent_s3 α N).ls 26 2))
theorem E_w_heldInt64S_l0_s3_ok {α : Type} (N : Nat) : EnvOk Try.prog (E_w_heldInt64S_l0_s3 α N) := (E_w_markLaurent_s3_ok N).addLoop2 Try.func26 (by kernel_rfl) (loopSum_ok prog_mixed prog_names (E_w_markLaurent_s3_ok N) Try.func26 (by kernel_rfl) (d := 1) (ro := 1) fun l K r h => by
  split at h
  · exact (w_heldInt64S_l0_s3_loop N _ _ _ _ K N _ _).trans h
  · cases h)

/-- laws.heldInt64S -/
def w_heldInt64S_s3_a : SPat := ⟨[.sliceV 0 0 0 1 false, .int .i64], [[.vec .i64]]⟩
def w_heldInt64S_s3_r0 : SPat := ⟨[.int .i64], [[.vec .i64]]⟩
theorem w_heldInt64S_s3_run {α : Type} (N : Nat) (a_n : Nat) (a_l : Nat) (a_c : Nat) (k : Int) (h0 : List Int) (K : AV → Heap → Option α) :
    callK Try.prog (E_w_heldInt64S_l0_s3 α N) 1 26 1 (buildS w_heldInt64S_s3_a [.n a_n, .n a_l, .n a_c, .i k, .l h0]).t (buildS w_heldInt64S_s3_a [.n a_n, .n a_l, .n a_c, .i k, .l h0]).h K = w_heldInt64S_s3 none N a_n a_l a_c k h0 (fun r__ => retK (buildS w_heldInt64S_s3_r0 [.i r__, .l h0]) K) := by kernel_rfl
def E_w_heldInt64S_s3 (α : Type) (N : Nat) : Env α := (E_w_heldInt64S_l0_s3 α N).addFun 26 true 1 w_heldInt64S_s3_a (fun l K => match l with
    | [.n a_n, .n a_l, .n a_c, .i k, .l h0] => w_heldInt64S_s3 none N a_n a_l a_c k h0 (fun r__ => retK (buildS w_heldInt64S_s3_r0 [.i r__, .l h0]) K)
    | _ => none)
theorem E_w_heldInt64S_s3_ok {α : Type} (N : Nat) : EnvOk Try.prog (E_w_heldInt64S_s3 α N) := (E_w_heldInt64S_l0_s3_ok N).addFun prog_mixed prog_names (d := 1) fun l K r h => by
  split at h
  · exact (w_heldInt64S_s3_run N _ _ _ _ _ K).trans h
  · cases h

/-- laws.heldLaurent -/
def w_heldLaurent_s2_a : SPat := ⟨[.agg [.vals [.int .i64, .sliceV 0 0 0 1 false]], .int .i64], [[.vec .i64]]⟩
def w_heldLaurent_s2_r0 : SPat := ⟨[.int .i64], [[.vec .i64]]⟩
theorem w_heldLaurent_s2_run {α : Type} (N : Nat) (a_0 : Int) (a_1_n : Nat) (a_1_l : Nat) (a_1_c : Nat) (k : Int) (h0 : List Int) (K : AV → Heap → Option α) :
    callK Try.prog (E_w_heldInt64S_s3 α N) 1 10 1 (buildS w_heldLaurent_s2_a [.i a_0, .n a_1_n, .n a_1_l, .n a_1_c, .i k, .l h0]).t (buildS w_heldLaurent_s2_a [.i a_0, .n a_1_n, .n a_1_l, .n a_1_c, .i k, .l h0]).h K = w_heldLaurent_s2 none N a_0 a_1_n a_1_l a_1_c k h0 (fun r__ => retK (buildS w_heldLaurent_s2_r0 [.i r__, .l h0]) K) := by kernel_rfl
def E_w_heldLaurent_s2 (α : Type) (N : Nat) : Env α := (E_w_heldInt64S_s3 α N).addFun 10 true 1 w_heldLaurent_s2_a (fun l K => match l with
    | [.i a_0, .n a_1_n, .n a_1_l, .n a_1_c, .i k, .l h0] => w_heldLaurent_s2 none N a_0 a_1_n a_1_l a_1_c k h0 (fun r__ => retK (buildS w_heldLaurent_s2_r0 [.i r__, .l h0]) K)
    | _ => none)
theorem E_w_heldLaurent_s2_ok {α : Type} (N : Nat) : EnvOk Try.prog (E_w_heldLaurent_s2 α N) := (E_w_heldInt64S_s3_ok N).addFun prog_mixed prog_names (d := 1) fun l K r h => by
  split at h
  · exact (w_heldLaurent_s2_run N _ _ _ _ _ _ K).trans h
  · cases h

/-- laws.eqInt64S, loop -/
def w_eqInt64S_l0_s10_p : SPat := ⟨[.nils, .sliceV 0 0 0 1 true, .undef, .undef, .undef, .int .i64] ++ List.replicate 20 .undef, [[.vec .i64]]⟩
def w_eqInt64S_l0_s10_o0 : SPat := ⟨[] ++ List.replicate 26 .undef, [[.vec .i64]]⟩
theorem w_eqInt64S_l0_s10_round {α : Type} (N : Nat) (b_n : Nat) (b_l : Nat) (b_c : Nat) (i : Int) (h0 : List Int) (kn : St → Option α) (K : AExit → St → Option α) :
    roundK Try.prog (E_w_heldLaurent_s2 α N) 1 1 24 Try.f24 4 1 (buildS w_eqInt64S_l0_s10_p [.n b_n, .n b_l, .n b_c, .i i, .l h0]) kn K = w_eqInt64S_l0_s10_s none b_n b_l b_c i h0  (kn (buildS w_eqInt64S_l0_s10_p [.n b_n, .n b_l, .n b_c, .i i, .l h0])) (K (.exit 0) (buildS w_eqInt64S_l0_s10_o0 [.l h0])) := by kernel_rfl
theorem w_eqInt64S_l0_s10_loop {α : Type} (N : Nat) (b_n : Nat) (b_l : Nat) (b_c : Nat) (i : Int) (h0 : List Int) (K : AExit → St → Option α) : ∀ (m : Nat),
    loopN (trimSt ((E_w_heldLaurent_s2 α N).ann 24 4).head ((E_w_heldLaurent_s2 α N).ann 24 4).grow 1) (bodyK Try.prog (E_w_heldLaurent_s2 α N) 1 1 24 Try.f24 4) m (buildS w_eqInt64S_l0_s10_p [.n b_n, .n b_l, .n b_c, .i i, .l h0]) (leaveLoop ((E_w_heldLaurent_s2 α N).ann 24 4) 1 K) = w_eqInt64S_l0_s10 none b_n b_l b_c i h0 m  (K (.exit 0) (buildS w_eqInt64S_l0_s10_o0 [.l h0])) := by
  intro m
  induction m with
  | zero => intros; rfl
  | succ m ih =>
    rw [loopN_round]
    refine (w_eqInt64S_l0_s10_round N b_n b_l b_c i h0 _ K).trans ?_
    simp only [ih]
    rfl
def E_w_eqInt64S_l0_s10 (α : Type) (N : Nat) : Env α := (E_w_heldLaurent_s2 α N).addLoop2 24 4 (loopSum2 ((E_w_heldLaurent_s2 α N).ann 24 4) 1 w_eqInt64S_l0_s10_p (fun l K => match l with
    | [.n b_n, .n b_l, .n b_c, .i i, .l h0] => w_eqInt64S_l0_s10 none b_n b_l b_c i h0 N  (K (.exit 0) (buildS w_eqInt64S_l0_s10_o0 [.l h0]))
    | _ => none) ((E_w_heldLaurent_s2 α N).ls 24 4))
theorem E_w_eqInt64S_l0_s10_ok {α : Type} (N : Nat) : EnvOk Try.prog (E_w_eqInt64S_l0_s10 α N) := (E_w_heldLaurent_s2_ok N).addLoop2 Try.func24 (by kernel_rfl) (loopSum_ok prog_mixed prog_names (E_w_heldLaurent_s2_ok N) Try.func24 (by kernel_rfl) (d := 1) (ro := 1) fun l K r h => by
  split at h
  · exact (w_eqInt64S_l0_s10_loop N _ _ _ _ _ K N ).trans h
  · cases h)

/-- laws.eqInt64S -/
def w_eqInt64S_s12_a : SPat := ⟨[.nils, .sliceV 0 0 0 1 true], [[.vec .i64]]⟩
def w_eqInt64S_s12_r0 : SPat := ⟨[.bool], [[.vec .i64]]⟩
theorem w_eqInt64S_s12_run {α : Type} (N : Nat) (b_n : Nat) (b_l : Nat) (b_c : Nat) (h0 : List Int) (K : AV → Heap → Option α) :
    callK Try.prog (E_w_eqInt64S_l0_s10 α N) 1 24 1 (buildS w_eqInt64S_s12_a [.n b_n, .n b_l, .n b_c, .l h0]).t (buildS w_eqInt64S_s12_a [.n b_n, .n b_l, .n b_c, .l h0]).h K = w_eqInt64S_s12 none N b_n b_l b_c h0 (fun r__ => retK (buildS w_eqInt64S_s12_r0 [.b r__, .l h0]) K) := by kernel_rfl
def E_w_eqInt64S_s12 (α : Type) (N : Nat) : Env α := (E_w_eqInt64S_l0_s10 α N).addFun 24 true 1 w_eqInt64S_s12_a (fun l K => match l with
    | [.n b_n, .n b_l, .n b_c, .l h0] => w_eqInt64S_s12 none N b_n b_l b_c h0 (fun r__ => retK (buildS w_eqInt64S_s12_r0 [.b r__, .l h0]) K)
    | _ => none)
theorem E_w_eqInt64S_s12_ok {α : Type} (N : Nat) : EnvOk Try.prog (E_w_eqInt64S_s12 α N) := (E_w_eqInt64S_l0_s10_ok N).addFun prog_mixed prog_names (d := 1) fun l K r h => by
  split at h
  · exact (w_eqInt64S_s12_run N _ _ _ _ K).trans h
  · cases h

/-- laws.eqLaurent -/
def w_eqLaurent_s4_a : SPat := ⟨[.agg [.vals [.int .i64, .nils]], .agg [.vals [.int .i64, .sliceV 0 0 0 1 true]]], [[.vec .i64]]⟩
def w_eqLaurent_s4_r0 : SPat := ⟨[.bool], [[.vec .i64]]⟩
theorem w_eqLaurent_s4_run {α : Type} (N : Nat) (a_0 : Int) (b_0 : Int) (b_1_n : Nat) (b_1_l : Nat) (b_1_c : Nat) (h0 : List Int) (K : AV → Heap → Option α) :
    callK Try.prog (E_w_eqInt64S_s12 α N) 1 8 1 (buildS w_eqLaurent_s4_a [.i a_0, .i b_0, .n b_1_n, .n b_1_l, .n b_1_c, .l h0]).t (buildS w_eqLaurent_s4_a [.i a_0, .i b_0, .n b_1_n, .n b_1_l, .n b_1_c, .l h0]).h K = w_eqLaurent_s4 none N a_0 b_0 b_1_n b_1_l b_1_c h0 (fun r__ => retK (buildS w_eqLaurent_s4_r0 [.b r__, .l h0]) K) := by kernel_rfl
def E_w_eqLaurent_s4 (α : Type) (N : Nat) : Env α := (E_w_eqInt64S_s12 α N).addFun 8 true 1 w_eqLaurent_s4_a (fun l K => match l with
    | [.i a_0, .i b_0, .n b_1_n, .n b_1_l, .n b_1_c, .l h0] => w_eqLaurent_s4 none N a_0 b_0 b_1_n b_1_l b_1_c h0 (fun r__ => retK (buildS w_eqLaurent_s4_r0 [.b r__, .l h0]) K)
    | _ => none)
theorem E_w_eqLaurent_s4_ok {α : Type} (N : Nat) : EnvOk Try.prog (E_w_eqLaurent_s4 α N) := (E_w_eqInt64S_s12_ok N).addFun prog_mixed prog_names (d := 1) fun l K r h => by
  split at h
  · exact (w_eqLaurent_s4_run N _ _ _ _ _ _ K).trans h
  · cases h

/-- laws.eqInt64S, loop -/
def w_eqInt64S_l0_s13_p : SPat := ⟨[.sliceV 0 0 0 1 false, .sliceV 1 0 0 1 true, .undef, .undef, .undef, .int .i64] ++ List.replicate 20 .undef, [[.vec .i64], [.vec .i64]]⟩
def w_eqInt64S_l0_s13_o0 : SPat := ⟨[.undef, .undef, .undef, .undef, .boolC false] ++ List.replicate 21 .undef, [[.vec .i64], [.vec .i64]]⟩
def w_eqInt64S_l0_s13_o1 : SPat := ⟨[] ++ List.replicate 26 .undef, [[.vec .i64], [.vec .i64]]⟩
theorem w_eqInt64S_l0_s13_round {α : Type} (N : Nat) (a_n : Nat) (a_l : Nat) (a_c : Nat) (b_n : Nat) (b_l : Nat) (b_c : Nat) (i : Int) (h0 : List Int) (h1 : List Int) (kn : St → Option α) (K : AExit → St → Option α) :
    roundK Try.prog (E_w_eqLaurent_s4 α N) 1 2 24 Try.f24 4 2 (buildS w_eqInt64S_l0_s13_p [.n a_n, .n a_l, .n a_c, .n b_n, .n b_l, .n b_c, .i i, .l h0, .l h1]) kn K = w_eqInt64S_l0_s13_s none a_n a_l a_c b_n b_l b_c h0 h1 i (fun i => kn (buildS w_eqInt64S_l0_s13_p [.n a_n, .n a_l, .n a_c, .n b_n, .n b_l, .n b_c, .i i, .l h0, .l h1])) (K .ret (buildS w_eqInt64S_l0_s13_o0 [.l h0, .l h1])) (K (.exit 0) (buildS w_eqInt64S_l0_s13_o1 [.l h0, .l h1])) := by kernel_rfl
theorem w_eqInt64S_l0_s13_loop {α : Type} (N : Nat) (a_n : Nat) (a_l : Nat) (a_c : Nat) (b_n : Nat) (b_l : Nat) (b_c : Nat) (h0 : List Int) (h1 : List Int) (K : AExit → St → Option α) : ∀ (m : Nat) (i : Int),
    loopN (trimSt ((E_w_eqLaurent_s4 α N).ann 24 4).head ((E_w_eqLaurent_s4 α N).ann 24 4).grow 2) (bodyK Try.prog (E_w_eqLaurent_s4 α N) 1 2 24 Try.f24 4) m (buildS w_eqInt64S_l0_s13_p [.n a_n, .n a_l, .n a_c, .n b_n, .n b_l, .n b_c, .i i, .l h0, .l h1]) (leaveLoop ((E_w_eqLaurent_s4 α N).ann 24 4) 2 K) = w_eqInt64S_l0_s13 none a_n a_l a_c b_n b_l b_c h0 h1 m i (K .ret (buildS w_eqInt64S_l0_s13_o0 [.l h0, .l h1])) (K (.exit 0) (buildS w_eqInt64S_l0_s13_o1 [.l h0, .l h1])) := by
  intro m
  induction m with
  | zero => intros; rfl
  | succ m ih =>
    intro i
    rw [loopN_round]
    refine (w_eqInt64S_l0_s13_round N a_n a_l a_c b_n b_l b_c i h0 h1 _ K).trans ?_
    simp only [ih]
    rfl
def E_w_eqInt64S_l0_s13 (α : Type) (N : Nat) : Env α := (E_w_eqLaurent_s4 α N).addLoop2 24 4 (loopSum2 ((E_w_eqLaurent_s4 α N).ann 24 4) 2 w_eqInt64S_l0_s13_p (fun l K => match l with
    | [.n a_n, .n a_l, .n a_c, .n b_n, .n b_l, .n b_c, .i i, .l h0, .l h1] => w_eqInt64S_l0_s13 none a_n a_l a_c b_n b_l b_c h0 h1 N i (K .ret (buildS w_eqInt64S_l0_s13_o0 [.l h0, .l h1])) (K (.exit 0) (buildS w_eqInt64S_l0_s13_o1 [.l h0, .l h1]))
    | _ => none) ((E_w_eqLaurent_s4 α N).ls 24 4))
theorem E_w_eqInt64S_l0_s13_ok {α : Type} (N : Nat) : EnvOk Try.prog (E_w_eqInt64S_l0_s13 α N) := (E_w_eqLaurent_s4_ok N).addLoop2 Try.func24 (by kernel_rfl) (loopSum_ok prog_mixed prog_names (E_w_eqLaurent_s4_ok N) Try.func24 (by kernel_rfl) (d := 1) (ro := 2) fun l K r h => by
  split at h
  · exact (w_eqInt64S_l0_s13_loop N _ _ _ _ _ _ _ _ K N _).trans h
  · cases h)

/-- laws.eqInt64S -/
def w_eqInt64S_s15_a : SPat := ⟨[.sliceV 0 0 0 1 false, .sliceV 1 0 0 1 true], [[.vec .i64], [.vec .i64]]⟩
def w_eqInt64S_s15_r0 : SPat := ⟨[.bool], [[.vec .i64], [.vec .i64]]⟩
theorem w_eqInt64S_s15_run {α : Type} (N : Nat) (a_n : Nat) (a_l : Nat) (a_c : Nat) (b_n : Nat) (b_l : Nat) (b_c : Nat) (h0 : List Int) (h1 : List Int) (K : AV → Heap → Option α) :
    callK Try.prog (E_w_eqInt64S_l0_s13 α N) 1 24 2 (buildS w_eqInt64S_s15_a [.n a_n, .n a_l, .n a_c, .n b_n, .n b_l, .n b_c, .l h0, .l h1]).t (buildS w_eqInt64S_s15_a [.n a_n, .n a_l, .n a_c, .n b_n, .n b_l, .n b_c, .l h0, .l h1]).h K = w_eqInt64S_s15 none N a_n a_l a_c b_n b_l b_c h0 h1 (fun r__ => retK (buildS w_eqInt64S_s15_r0 [.b r__, .l h0, .l h1]) K) := by kernel_rfl
def E_w_eqInt64S_s15 (α : Type) (N : Nat) : Env α := (E_w_eqInt64S_l0_s13 α N).addFun 24 true 2 w_eqInt64S_s15_a (fun l K => match l with
    | [.n a_n, .n a_l, .n a_c, .n b_n, .n b_l, .n b_c, .l h0, .l h1] => w_eqInt64S_s15 none N a_n a_l a_c b_n b_l b_c h0 h1 (fun r__ => retK (buildS w_eqInt64S_s15_r0 [.b r__, .l h0, .l h1]) K)
    | _ => none)
theorem E_w_eqInt64S_s15_ok {α : Type} (N : Nat) : EnvOk Try.prog (E_w_eqInt64S_s15 α N) := (E_w_eqInt64S_l0_s13_ok N).addFun prog_mixed prog_names (d := 1) fun l K r h => by
  split at h
  · exact (w_eqInt64S_s15_run N _ _ _ _ _ _ _ _ K).trans h
  · cases h

/-- laws.eqLaurent -/
def w_eqLaurent_s5_a : SPat := ⟨[.agg [.vals [.int .i64, .sliceV 0 0 0 1 false]], .agg [.vals [.int .i64, .sliceV 1 0 0 1 true]]], [[.vec .i64], [.vec .i64]]⟩
def w_eqLaurent_s5_r0 : SPat := ⟨[.bool], [[.vec .i64], [.vec .i64]]⟩
theorem w_eqLaurent_s5_run {α : Type} (N : Nat) (a_0 : Int) (a_1_n : Nat) (a_1_l : Nat) (a_1_c : Nat) (b_0 : Int) (b_1_n : Nat) (b_1_l : Nat) (b_1_c : Nat) (h0 : List Int) (h1 : List Int) (K : AV → Heap → Option α) :
    callK Try.prog (E_w_eqInt64S_s15 α N) 1 8 2 (buildS w_eqLaurent_s5_a [.i a_0, .n a_1_n, .n a_1_l, .n a_1_c, .i b_0, .n b_1_n, .n b_1_l, .n b_1_c, .l h0, .l h1]).t (buildS w_eqLaurent_s5_a [.i a_0, .n a_1_n, .n a_1_l, .n a_1_c, .i b_0, .n b_1_n, .n b_1_l, .n b_1_c, .l h0, .l h1]).h K = w_eqLaurent_s5 none N a_0 a_1_n a_1_l a_1_c b_0 b_1_n b_1_l b_1_c h0 h1 (fun r__ => retK (buildS w_eqLaurent_s5_r0 [.b r__, .l h0, .l h1]) K) := by kernel_rfl
def E_w_eqLaurent_s5 (α : Type) (N : Nat) : Env α := (E_w_eqInt64S_s15 α N).addFun 8 true 2 w_eqLaurent_s5_a (fun l K => match l with
    | [.i a_0, .n a_1_n, .n a_1_l, .n a_1_c, .i b_0, .n b_1_n, .n b_1_l, .n b_1_c, .l h0, .l h1] => w_eqLaurent_s5 none N a_0 a_1_n a_1_l a_1_c b_0 b_1_n b_1_l b_1_c h0 h1 (fun r__ => retK (buildS w_eqLaurent_s5_r0 [.b r__, .l h0, .l h1]) K)
    | _ => none)
theorem E_w_eqLaurent_s5_ok {α : Type} (N : Nat) : EnvOk Try.prog (E_w_eqLaurent_s5 α N) := (E_w_eqInt64S_s15_ok N).addFun prog_mixed prog_names (d := 1) fun l K r h => by
  split at h
  · exact (w_eqLaurent_s5_run N _ _ _ _ _ _ _ _ _ _ K).trans h
  · cases h

/-- laws.eqInt64S, loop -/
def w_eqInt64S_l0_s4_p : SPat := ⟨[.nils, .sliceV 0 0 0 1 false, .undef, .undef, .undef, .int .i64] ++ List.replicate 20 .undef, [[.vec .i64]]⟩
def w_eqInt64S_l0_s4_o0 : SPat := ⟨[] ++ List.replicate 26 .undef, [[.vec .i64]]⟩
theorem w_eqInt64S_l0_s4_round {α : Type} (N : Nat) (b_n : Nat) (b_l : Nat) (b_c : Nat) (i : Int) (h0 : List Int) (kn : St → Option α) (K : AExit → St → Option α) :
    roundK Try.prog (E_w_eqLaurent_s5 α N) 1 1 24 Try.f24 4 1 (buildS w_eqInt64S_l0_s4_p [.n b_n, .n b_l, .n b_c, .i i, .l h0]) kn K = w_eqInt64S_l0_s4_s none b_n b_l b_c i h0  (kn (buildS w_eqInt64S_l0_s4_p [.n b_n, .n b_l, .n b_c, .i i, .l h0])) (K (.exit 0) (buildS w_eqInt64S_l0_s4_o0 [.l h0])) := by kernel_rfl
theorem w_eqInt64S_l0_s4_loop {α : Type} (N : Nat) (b_n : Nat) (b_l : Nat) (b_c : Nat) (i : Int) (h0 : List Int) (K : AExit → St → Option α) : ∀ (m : Nat),
    loopN (trimSt ((E_w_eqLaurent_s5 α N).ann 24 4).head ((E_w_eqLaurent_s5 α N).ann 24 4).grow 1) (bodyK Try.prog (E_w_eqLaurent_s5 α N) 1 1 24 Try.f24 4) m (buildS w_eqInt64S_l0_s4_p [.n b_n, .n b_l, .n b_c, .i i, .l h0]) (leaveLoop ((E_w_eqLaurent_s5 α N).ann 24 4) 1 K) = w_eqInt64S_l0_s4 none b_n b_l b_c i h0 m  (K (.exit 0) (buildS w_eqInt64S_l0_s4_o0 [.l h0])) := by
  intro m
  induction m with
  | zero => intros; rfl
  | succ m ih =>
    rw [loopN_round]
    refine (w_eqInt64S_l0_s4_round N b_n b_l b_c i h0 _ K).trans ?_
    simp only [ih]
    rfl
def E_w_eqInt64S_l0_s4 (α : Type) (N : Nat) : Env α := (E_w_eqLaurent_s5 α N).addLoop2 24 4 (loopSum2 ((E_w_eqLaurent_s5 α N).ann 24 4) 1 w_eqInt64S_l0_s4_p (fun l K => match l with
    | [.n b_n, .n b_l, .n b_c, .i i, .l h0] => w_eqInt64S_l0_s4 none b_n b_l b_c i h0 N  (K (.exit 0) (buildS w_eqInt64S_l0_s4_o0 [.l h0]))
    | _ => none) ((E_w_eqLaurent_s5 α N).ls 24 4))
theorem E_w_eqInt64S_l0_s4_ok {α : Type} (N : Nat) : EnvOk Try.prog (E_w_eqInt64S_l0_s4 α N) := (E_w_eqLaurent_s5_ok N).addLoop2 Try.func24 (by kernel_rfl) (loopSum_ok prog_mixed prog_names (E_w_eqLaurent_s5_ok N) Try.func24 (by kernel_rfl) (d := 1) (ro := 1) fun l K r h => by
  split at h
  · exact (w_eqInt64S_l0_s4_loop N _ _ _ _ _ K N ).trans h
  · cases h)

/-- laws.eqInt64S -/
def w_eqInt64S_s6_a : SPat := ⟨[.nils, .sliceV 0 0 0 1 false], [[.vec .i64]]⟩
def w_eqInt64S_s6_r0 : SPat := ⟨[.bool], [[.vec .i64]]⟩
theorem w_eqInt64S_s6_run {α : Type} (N : Nat) (b_n : Nat) (b_l : Nat) (b_c : Nat) (h0 : List Int) (K : AV → Heap → Option α) :
    callK Try.prog (E_w_eqInt64S_l0_s4 α N) 1 24 1 (buildS w_eqInt64S_s6_a [.n b_n, .n b_l, .n b_c, .l h0]).t (buildS w_eqInt64S_s6_a [.n b_n, .n b_l, .n b_c, .l h0]).h K = w_eqInt64S_s6 none N b_n b_l b_c h0 (fun r__ => retK (buildS w_eqInt64S_s6_r0 [.b r__, .l h0]) K) := by kernel_rfl
def E_w_eqInt64S_s6 (α : Type) (N : Nat) : Env α := (E_w_eqInt64S_l0_s4 α N).addFun 24 true 1 w_eqInt64S_s6_a (fun l K => match l with
    | [.n b_n, .n b_l, .n b_c, .l h0] => w_eqInt64S_s6 none N b_n b_l b_c h0 (fun r__ => retK (buildS w_eqInt64S_s6_r0 [.b r__, .l h0]) K)
    | _ => none)
theorem E_w_eqInt64S_s6_ok {α : Type} (N : Nat) : EnvOk Try.prog (E_w_eqInt64S_s6 α N) := (E_w_eqInt64S_l0_s4_ok N).addFun prog_mixed prog_names (d := 1) fun l K r h => by
  split at h
  · exact (w_eqInt64S_s6_run N _ _ _ _ K).trans h
  · cases h

/-- laws.eqLaurent -/
def w_eqLaurent_s6_a : SPat := ⟨[.agg [.vals [.int .i64, .nils]], .agg [.vals [.int .i64, .sliceV 0 0 0 1 false]]], [[.vec .i64]]⟩
def w_eqLaurent_s6_r0 : SPat := ⟨[.bool], [[.vec .i64]]⟩
theorem w_eqLaurent_s6_run {α : Type} (N : Nat) (a_0 : Int) (b_0 : Int) (b_1_n : Nat) (b_1_l : Nat) (b_1_c : Nat) (h0 : List Int) (K : AV → Heap → Option α) :
    callK Try.prog (E_w_eqInt64S_s6 α N) 1 8 1 (buildS w_eqLaurent_s6_a [.i a_0, .i b_0, .n b_1_n, .n b_1_l, .n b_1_c, .l h0]).t (buildS w_eqLaurent_s6_a [.i a_0, .i b_0, .n b_1_n, .n b_1_l, .n b_1_c, .l h0]).h K = w_eqLaurent_s6 none N a_0 b_0 b_1_n b_1_l b_1_c h0 (fun r__ => retK (buildS w_eqLaurent_s6_r0 [.b r__, .l h0]) K) := by kernel_rfl
def E_w_eqLaurent_s6 (α : Type) (N : Nat) : Env α := (E_w_eqInt64S_s6 α N).addFun 8 true 1 w_eqLaurent_s6_a (fun l K => match l with
    | [.i a_0, .i b_0, .n b_1_n, .n b_1_l, .n b_1_c, .l h0] => w_eqLaurent_s6 none N a_0 b_0 b_1_n b_1_l b_1_c h0 (fun r__ => retK (buildS w_eqLaurent_s6_r0 [.b r__, .l h0]) K)
    | _ => none)
theorem E_w_eqLaurent_s6_ok {α : Type} (N : Nat) : EnvOk Try.prog (E_w_eqLaurent_s6 α N) := (E_w_eqInt64S_s6_ok N).addFun prog_mixed prog_names (d := 1) fun l K r h => by
  split at h
  · exact (w_eqLaurent_s6_run N _ _ _ _ _ _ K).trans h
  · cases h

/-- laws.eqInt64S, loop -/
def w_eqInt64S_l0_s5_p : SPat := ⟨[.sliceV 0 0 0 1 false, .sliceV 1 0 0 1 false, .undef, .undef, .undef, .int .i64] ++ List.replicate 20 .undef, [[.vec .i64], [.vec .i64]]⟩
def w_eqInt64S_l0_s5_o0 : SPat := ⟨[.undef, .undef, .undef, .undef, .boolC false] ++ List.replicate 21 .undef, [[.vec .i64], [.vec .i64]]⟩
def w_eqInt64S_l0_s5_o1 : SPat := ⟨[] ++ List.replicate 26 .undef, [[.vec .i64], [.vec .i64]]⟩
theorem w_eqInt64S_l0_s5_round {α : Type} (N : Nat) (a_n : Nat) (a_l : Nat) (a_c : Nat) (b_n : Nat) (b_l : Nat) (b_c : Nat) (i : Int) (h0 : List Int) (h1 : List Int) (kn : St → Option α) (K : AExit → St → Option α) :
    roundK Try.prog (E_w_eqLaurent_s6 α N) 1 2 24 Try.f24 4 2 (buildS w_eqInt64S_l0_s5_p [.n a_n, .n a_l, .n a_c, .n b_n, .n b_l, .n b_c, .i i, .l h0, .l h1]) kn K = w_eqInt64S_l0_s5_s none a_n a_l a_c b_n b_l b_c h0 h1 i (fun i => kn (buildS w_eqInt64S_l0_s5_p [.n a_n, .n a_l, .n a_c, .n b_n, .n b_l, .n b_c, .i i, .l h0, .l h1])) (K .ret (buildS w_eqInt64S_l0_s5_o0 [.l h0, .l h1])) (K (.exit 0) (buildS w_eqInt64S_l0_s5_o1 [.l h0, .l h1])) := by kernel_rfl
theorem w_eqInt64S_l0_s5_loop {α : Type} (N : Nat) (a_n : Nat) (a_l : Nat) (a_c : Nat) (b_n : Nat) (b_l : Nat) (b_c : Nat) (h0 : List Int) (h1 : List Int) (K : AExit → St → Option α) : ∀ (m : Nat) (i : Int),
    loopN (trimSt ((E_w_eqLaurent_s6 α N).ann 24 4).head ((E_w_eqLaurent_s6 α N).ann 24 4).grow 2) (bodyK Try.prog (E_w_eqLaurent_s6 α N) 1 2 24 Try.f24 4) m (buildS w_eqInt64S_l0_s5_p [.n a_n, .n a_l, .n a_c, .n b_n, .n b_l, .n b_c, .i i, .l h0, .l h1]) (leaveLoop ((E_w_eqLaurent_s6 α N).ann 24 4) 2 K) = w_eqInt64S_l0_s5 none a_n a_l a_c b_n b_l b_c h0 h1 m i (K .ret (buildS w_eqInt64S_l0_s5_o0 [.l h0, .l h1])) (K (.exit 0) (buildS w_eqInt64S_l0_s5_o1 [.l h0, .l h1])) := by
  intro m
  induction m with
  | zero => intros; rfl
  | succ m ih =>
    intro i
    rw [loopN_round]
    refine (w_eqInt64S_l0_s5_round N a_n a_l a_c b_n b_l b_c i h0 h1 _ K).trans ?_
    simp only [ih]
    rfl
def E_w_eqInt64S_l0_s5 (α : Type) (N : Nat) : Env α := (E_w_eqLaurent_s6 α N).addLoop2 24 4 (loopSum2 ((E_w_eqLaurent_s6 α N).ann 24 4) 2 w_eqInt64S_l0_s5_p (fun l K => match l with
    | [.n a_n, .n a_l, .n a_c, .n b_n, .n b_l, .n b_c, .i i, .l h0, .l h1] => w_eqInt64S_l0_s5 none a_n a_l a_c b_n b_l b_c h0 h1 N i (K .ret (buildS w_eqInt64S_l0_s5_o0 [.l h0, .l h1])) (K (.exit 0) (buildS w_eqInt64S_l0_s5_o1 [.l h0, .l h1]))
    | _ => none) ((E_w_eqLaurent_s6 α N).ls 24 4))
theorem E_w_eqInt64S_l0_s5_ok {α : Type} (N : Nat) : EnvOk Try.prog (E_w_eqInt64S_l0_s5 α N) := (E_w_eqLaurent_s6_ok N).addLoop2 Try.func24 (by kernel_rfl) (loopSum_ok prog_mixed prog_names (E_w_eqLaurent_s6_ok N) Try.func24 (by kernel_rfl) (d := 1) (ro := 2) fun l K r h => by
  split at h
  · exact (w_eqInt64S_l0_s5_loop N _ _ _ _ _ _ _ _ K N _).trans h
  · cases h)

/-- laws.eqInt64S -/
def w_eqInt64S_s7_a : SPat := ⟨[.sliceV 0 0 0 1 false, .sliceV 1 0 0 1 false], [[.vec .i64], [.vec .i64]]⟩
def w_eqInt64S_s7_r0 : SPat := ⟨[.bool], [[.vec .i64], [.vec .i64]]⟩
theorem w_eqInt64S_s7_run {α : Type} (N : Nat) (a_n : Nat) (a_l : Nat) (a_c : Nat) (b_n : Nat) (b_l : Nat) (b_c : Nat) (h0 : List Int) (h1 : List Int) (K : AV → Heap → Option α) :
    callK Try.prog (E_w_eqInt64S_l0_s5 α N) 1 24 2 (buildS w_eqInt64S_s7_a [.n a_n, .n a_l, .n a_c, .n b_n, .n b_l, .n b_c, .l h0, .l h1]).t (buildS w_eqInt64S_s7_a [.n a_n, .n a_l, .n a_c, .n b_n, .n b_l, .n b_c, .l h0, .l h1]).h K = w_eqInt64S_s7 none N a_n a_l a_c b_n b_l b_c h0 h1 (fun r__ => retK (buildS w_eqInt64S_s7_r0 [.b r__, .l h0, .l h1]) K) := by kernel_rfl
def E_w_eqInt64S_s7 (α : Type) (N : Nat) : Env α := (E_w_eqInt64S_l0_s5 α N).addFun 24 true 2 w_eqInt64S_s7_a (fun l K => match l with
    | [.n a_n, .n a_l, .n a_c, .n b_n, .n b_l, .n b_c, .l h0, .l h1] => w_eqInt64S_s7 none N a_n a_l a_c b_n b_l b_c h0 h1 (fun r__ => retK (buildS w_eqInt64S_s7_r0 [.b r__, .l h0, .l h1]) K)
    | _ => none)
theorem E_w_eqInt64S_s7_ok {α : Type} (N : Nat) : EnvOk Try.prog (E_w_eqInt64S_s7 α N) := (E_w_eqInt64S_l0_s5_ok N).addFun prog_mixed prog_names (d := 1) fun l K r h => by
  split at h
  · exact (w_eqInt64S_s7_run N _ _ _ _ _ _ _ _ K).trans h
  · cases h

/-- laws.eqLaurent -/
def w_eqLaurent_s7_a : SPat := ⟨[.agg [.vals [.int .i64, .sliceV 0 0 0 1 false]], .agg [.vals [.int .i64, .sliceV 1 0 0 1 false]]], [[.vec .i64], [.vec .i64]]⟩
def w_eqLaurent_s7_r0 : SPat := ⟨[.bool], [[.vec .i64], [.vec .i64]]⟩
theorem w_eqLaurent_s7_run {α : Type} (N : Nat) (a_0 : Int) (a_1_n : Nat) (a_1_l : Nat) (a_1_c : Nat) (b_0 : Int) (b_1_n : Nat) (b_1_l : Nat) (b_1_c : Nat) (h0 : List Int) (h1 : List Int) (K : AV → Heap → Option α) :
    callK Try.prog (E_w_eqInt64S_s7 α N) 1 8 2 (buildS w_eqLaurent_s7_a [.i a_0, .n a_1_n, .n a_1_l, .n a_1_c, .i b_0, .n b_1_n, .n b_1_l, .n b_1_c, .l h0, .l h1]).t (buildS w_eqLaurent_s7_a [.i a_0, .n a_1_n, .n a_1_l, .n a_1_c, .i b_0, .n b_1_n, .n b_1_l, .n b_1_c, .l h0, .l h1]).h K = w_eqLaurent_s7 none N a_0 a_1_n a_1_l a_1_c b_0 b_1_n b_1_l b_1_c h0 h1 (fun r__ => retK (buildS w_eqLaurent_s7_r0 [.b r__, .l h0, .l h1]) K) := by kernel_rfl
def E_w_eqLaurent_s7 (α : Type) (N : Nat) : Env α := (E_w_eqInt64S_s7 α N).addFun 8 true 2 w_eqLaurent_s7_a (fun l K => match l with
    | [.i a_0, .n a_1_n, .n a_1_l, .n a_1_c, .i b_0, .n b_1_n, .n b_1_l, .n b_1_c, .l h0, .l h1] => w_eqLaurent_s7 none N a_0 a_1_n a_1_l a_1_c b_0 b_1_n b_1_l b_1_c h0 h1 (fun r__ => retK (buildS w_eqLaurent_s7_r0 [.b r__, .l h0, .l h1]) K)
    | _ => none)
theorem E_w_eqLaurent_s7_ok {α : Type} (N : Nat) : EnvOk Try.prog (E_w_eqLaurent_s7 α N) := (E_w_eqInt64S_s7_ok N).addFun prog_mixed prog_names (d := 1) fun l K r h => by
  split at h
  · exact (w_eqLaurent_s7_run N _ _ _ _ _ _ _ _ _ _ K).trans h
  · cases h

end Go.AM
