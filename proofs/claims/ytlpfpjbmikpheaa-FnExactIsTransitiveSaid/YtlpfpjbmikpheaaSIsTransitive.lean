/- A part of a proof about the given program: an abstract machine, what the given functions come to, and plain laws. -/
import Derived.Test.YtlpfpjbmikpheaaAMEnv2
import Derived.Test.YtlpfpjbmikpheaaDIsPlaces
import Derived.Test.YtlpfpjbmikpheaaDIsMosaic
import Derived.Test.YtlpfpjbmikpheaaDIsTransitive
import Derived.Test.YtlpfpjbmikpheaaProg
set_option maxRecDepth 100000
namespace Go.AM
open Go.Proofs

def E0 (α : Type) (N : Nat) : Env α := Env.base (fun _ _ => {}) N
theorem E0_ok {α : Type} (N : Nat) : EnvOk Try.prog (E0 α N) := .base
theorem prog_mixed : Try.prog.follows .mixedOrders = true := by kernel_rfl
theorem prog_names : NamesOk Try.prog := .of_all (by kernel_rfl)
/-- laws.szPlacesS -/
def w_szPlacesS_a : SPat := ⟨[.sliceV 0 0 0 4 false, .int .i64], [[.intsV .u8]]⟩
def w_szPlacesS_r0 : SPat := ⟨[.int .i64], [[.intsV .u8]]⟩
theorem w_szPlacesS_run {α : Type} (N : Nat) (a_n : Nat) (a_l : Nat) (a_c : Nat) (left : Int) (h0_n : Nat) (h0 : Nat → Int) (K : AV → Heap → Option α) :
    callK Try.prog (E0 α N) 1 40 1 (buildS w_szPlacesS_a [.n a_n, .n a_l, .n a_c, .i left, .n h0_n, .f h0]).t (buildS w_szPlacesS_a [.n a_n, .n a_l, .n a_c, .i left, .n h0_n, .f h0]).h K = w_szPlacesS none N a_n a_l a_c left h0_n h0 (fun r__ => retK (buildS w_szPlacesS_r0 [.i r__, .n h0_n, .f h0]) K) := by kernel_rfl
def E_w_szPlacesS (α : Type) (N : Nat) : Env α := (E0 α N).addFun 40 true 1 w_szPlacesS_a (fun l K => match l with
    | [.n a_n, .n a_l, .n a_c, .i left, .n h0_n, .f h0] => w_szPlacesS none N a_n a_l a_c left h0_n h0 (fun r__ => retK (buildS w_szPlacesS_r0 [.i r__, .n h0_n, .f h0]) K)
    | _ => none)
theorem E_w_szPlacesS_ok {α : Type} (N : Nat) : EnvOk Try.prog (E_w_szPlacesS α N) := (E0_ok N).addFun prog_mixed prog_names (d := 1) fun l K r h => by
  split at h
  · exact (w_szPlacesS_run N _ _ _ _ _ _ K).trans h
  · cases h

def A_w_toPlacesS_l0 (α : Type) (N : Nat) : Env α := (E_w_szPlacesS α N).addAnn 42 3 { head := [0, 3, 4], grow := [], out := [3], ret := [2] }
theorem A_w_toPlacesS_l0_ok {α : Type} (N : Nat) : EnvOk Try.prog (A_w_toPlacesS_l0 α N) := (E_w_szPlacesS_ok N).addAnn

def A_w_toPlaces_l0 (α : Type) (N : Nat) : Env α := (A_w_toPlacesS_l0 α N).addAnn 17 3 { head := [1, 2, 3, 4], grow := [], out := [2, 3], ret := [2] }
theorem A_w_toPlaces_l0_ok {α : Type} (N : Nat) : EnvOk Try.prog (A_w_toPlaces_l0 α N) := (A_w_toPlacesS_l0_ok N).addAnn

/-- laws.toPlaces, loop -/
def w_toPlaces_l0_p : SPat := ⟨[.undef, .ptr ⟨0, 0, 0, 4⟩, .ptr ⟨1, 0, 0, 4⟩, .ptr ⟨2, 0, 0, 4⟩, .int .i64] ++ List.replicate 10 .undef, [[.ints .u8 4], [.ints .u8 4], [.ints .u8 4]]⟩
def w_toPlaces_l0_o0 : SPat := ⟨[.undef, .undef, .ptr ⟨1, 0, 0, 4⟩, .ptr ⟨2, 0, 0, 4⟩] ++ List.replicate 11 .undef, [[.ints .u8 4], [.ints .u8 4], [.ints .u8 4]]⟩
theorem w_toPlaces_l0_round {α : Type} (N : Nat) (i : Int) (h0 : Nat → Int) (h1 : Nat → Int) (h2 : Nat → Int) (kn : St → Option α) (K : AExit → St → Option α) :
    roundK Try.prog (A_w_toPlaces_l0 α N) 1 0 17 Try.f17 3 3 (buildS w_toPlaces_l0_p [.i i, .f h0, .f h1, .f h2]) kn K = w_toPlaces_l0_s none h0 h1 i h2 (fun i h2 => kn (buildS w_toPlaces_l0_p [.i i, .f h0, .f h1, .f h2])) (fun h2_ => K (.exit 0) (buildS w_toPlaces_l0_o0 [.f h0, .f h1, .f h2_])) := by kernel_rfl
theorem w_toPlaces_l0_loop {α : Type} (N : Nat) (h0 : Nat → Int) (h1 : Nat → Int) (K : AExit → St → Option α) : ∀ (m : Nat) (i : Int) (h2 : Nat → Int),
    loopN (trimSt ((A_w_toPlaces_l0 α N).ann 17 3).head ((A_w_toPlaces_l0 α N).ann 17 3).grow 3) (bodyK Try.prog (A_w_toPlaces_l0 α N) 1 0 17 Try.f17 3) m (buildS w_toPlaces_l0_p [.i i, .f h0, .f h1, .f h2]) (leaveLoop ((A_w_toPlaces_l0 α N).ann 17 3) 3 K) = w_toPlaces_l0 none h0 h1 m i h2 (fun h2_ => K (.exit 0) (buildS w_toPlaces_l0_o0 [.f h0, .f h1, .f h2_])) := by
  intro m
  induction m with
  | zero => intros; rfl
  | succ m ih =>
    intro i h2
    rw [loopN_round]
    refine (w_toPlaces_l0_round N i h0 h1 h2 _ K).trans ?_
    simp only [ih]
    rfl
def E_w_toPlaces_l0 (α : Type) (N : Nat) : Env α := (A_w_toPlaces_l0 α N).addLoop2 17 3 (loopSum2 ((A_w_toPlaces_l0 α N).ann 17 3) 0 w_toPlaces_l0_p (fun l K => match l with
    | [.i i, .f h0, .f h1, .f h2] => w_toPlaces_l0 none h0 h1 N i h2 (fun h2_ => K (.exit 0) (buildS w_toPlaces_l0_o0 [.f h0, .f h1, .f h2_]))
    | _ => none) ((A_w_toPlaces_l0 α N).ls 17 3))
theorem E_w_toPlaces_l0_ok {α : Type} (N : Nat) : EnvOk Try.prog (E_w_toPlaces_l0 α N) := (A_w_toPlaces_l0_ok N).addLoop2 Try.func17 (by kernel_rfl) (loopSum_ok prog_mixed prog_names (A_w_toPlaces_l0_ok N) Try.func17 (by kernel_rfl) (d := 1) (ro := 0) fun l K r h => by
  split at h
  · exact (w_toPlaces_l0_loop N _ _ K N _ _).trans h
  · cases h)

/-- laws.toPlaces -/
def w_toPlaces_a : SPat := ⟨[.agg [.ints .u8 4]], []⟩
def w_toPlaces_r0 : SPat := ⟨[.agg [.ints .u8 4]], []⟩
theorem w_toPlaces_run {α : Type} (N : Nat) (a : Nat → Int) (K : AV → Heap → Option α) :
    callK Try.prog (E_w_toPlaces_l0 α N) 1 17 0 (buildS w_toPlaces_a [.f a]).t (buildS w_toPlaces_a [.f a]).h K = w_toPlaces none N a (fun r__ => retK (buildS w_toPlaces_r0 [.f r__]) K) := by kernel_rfl
def E_w_toPlaces (α : Type) (N : Nat) : Env α := (E_w_toPlaces_l0 α N).addFun 17 true 0 w_toPlaces_a (fun l K => match l with
    | [.f a] => w_toPlaces none N a (fun r__ => retK (buildS w_toPlaces_r0 [.f r__]) K)
    | _ => none)
theorem E_w_toPlaces_ok {α : Type} (N : Nat) : EnvOk Try.prog (E_w_toPlaces α N) := (E_w_toPlaces_l0_ok N).addFun prog_mixed prog_names (d := 1) fun l K r h => by
  split at h
  · exact (w_toPlaces_run N _ K).trans h
  · cases h

/-- laws.toPlacesS, loop -/
def w_toPlacesS_l0_p : SPat := ⟨[.sliceV 0 0 0 4 false, .undef, .undef, .sliceV 1 0 0 4 true, .int .i64] ++ List.replicate 18 .undef, [[.intsV .u8], [.intsV .u8]]⟩
def w_toPlacesS_l0_o0 : SPat := ⟨[.undef, .undef, .undef, .sliceV 1 0 0 4 true] ++ List.replicate 19 .undef, [[.intsV .u8], [.intsV .u8]]⟩
theorem w_toPlacesS_l0_round {α : Type} (N : Nat) (a_n : Nat) (a_l : Nat) (a_c : Nat) (out_n : Nat) (out_l : Nat) (out_c : Nat) (i : Int) (h0_n : Nat) (h0 : Nat → Int) (h1_n : Nat) (h1 : Nat → Int) (kn : St → Option α) (K : AExit → St → Option α) :
    roundK Try.prog (E_w_toPlaces α N) 1 1 42 Try.f42 3 2 (buildS w_toPlacesS_l0_p [.n a_n, .n a_l, .n a_c, .n out_n, .n out_l, .n out_c, .i i, .n h0_n, .f h0, .n h1_n, .f h1]) kn K = w_toPlacesS_l0_s none N a_n a_l a_c out_n out_l out_c h0_n h0 h1_n i h1 (fun i h1 => kn (buildS w_toPlacesS_l0_p [.n a_n, .n a_l, .n a_c, .n out_n, .n out_l, .n out_c, .i i, .n h0_n, .f h0, .n h1_n, .f h1])) (fun h1_ => K (.exit 0) (buildS w_toPlacesS_l0_o0 [.n out_n, .n out_l, .n out_c, .n h0_n, .f h0, .n h1_n, .f h1_])) := by kernel_rfl
theorem w_toPlacesS_l0_loop {α : Type} (N : Nat) (a_n : Nat) (a_l : Nat) (a_c : Nat) (out_n : Nat) (out_l : Nat) (out_c : Nat) (h0_n : Nat) (h0 : Nat → Int) (h1_n : Nat) (K : AExit → St → Option α) : ∀ (m : Nat) (i : Int) (h1 : Nat → Int),
    loopN (trimSt ((E_w_toPlaces α N).ann 42 3).head ((E_w_toPlaces α N).ann 42 3).grow 2) (bodyK Try.prog (E_w_toPlaces α N) 1 1 42 Try.f42 3) m (buildS w_toPlacesS_l0_p [.n a_n, .n a_l, .n a_c, .n out_n, .n out_l, .n out_c, .i i, .n h0_n, .f h0, .n h1_n, .f h1]) (leaveLoop ((E_w_toPlaces α N).ann 42 3) 2 K) = w_toPlacesS_l0 none N a_n a_l a_c out_n out_l out_c h0_n h0 h1_n m i h1 (fun h1_ => K (.exit 0) (buildS w_toPlacesS_l0_o0 [.n out_n, .n out_l, .n out_c, .n h0_n, .f h0, .n h1_n, .f h1_])) := by
  intro m
  induction m with
  | zero => intros; rfl
  | succ m ih =>
    intro i h1
    rw [loopN_round]
    refine (w_toPlacesS_l0_round N a_n a_l a_c out_n out_l out_c i h0_n h0 h1_n h1 _ K).trans ?_
    simp only [ih]
    rfl
def E_w_toPlacesS_l0 (α : Type) (N : Nat) : Env α := (E_w_toPlaces α N).addLoop2 42 3 (loopSum2 ((E_w_toPlaces α N).ann 42 3) 1 w_toPlacesS_l0_p (fun l K => match l with
    | [.n a_n, .n a_l, .n a_c, .n out_n, .n out_l, .n out_c, .i i, .n h0_n, .f h0, .n h1_n, .f h1] => w_toPlacesS_l0 none N a_n a_l a_c out_n out_l out_c h0_n h0 h1_n N i h1 (fun h1_ => K (.exit 0) (buildS w_toPlacesS_l0_o0 [.n out_n, .n out_l, .n out_c, .n h0_n, .f h0, .n h1_n, .f h1_]))
    | _ => none) ((E_w_toPlaces α N).ls 42 3))
theorem E_w_toPlacesS_l0_ok {α : Type} (N : Nat) : EnvOk Try.prog (E_w_toPlacesS_l0 α N) := (E_w_toPlaces_ok N).addLoop2 Try.func42 (by kernel_rfl) (loopSum_ok prog_mixed prog_names (E_w_toPlaces_ok N) Try.func42 (by kernel_rfl) (d := 1) (ro := 1) fun l K r h => by
  split at h
  · exact (w_toPlacesS_l0_loop N _ _ _ _ _ _ _ _ _ K N _ _).trans h
  · cases h)

/-- laws.toPlacesS -/
def w_toPlacesS_a : SPat := ⟨[.sliceV 0 0 0 4 false], [[.intsV .u8]]⟩
def w_toPlacesS_r0 : SPat := ⟨[.sliceV 1 0 0 4 true], [[.intsV .u8], [.intsV .u8]]⟩
theorem w_toPlacesS_run {α : Type} (N : Nat) (a_n : Nat) (a_l : Nat) (a_c : Nat) (h0_n : Nat) (h0 : Nat → Int) (K : AV → Heap → Option α) :
    callK Try.prog (E_w_toPlacesS_l0 α N) 1 42 1 (buildS w_toPlacesS_a [.n a_n, .n a_l, .n a_c, .n h0_n, .f h0]).t (buildS w_toPlacesS_a [.n a_n, .n a_l, .n a_c, .n h0_n, .f h0]).h K = w_toPlacesS none N a_n a_l a_c h0_n h0 (fun r_n_ r_l_ r_c_ h1_n_ h1_ => retK (buildS w_toPlacesS_r0 [.n r_n_, .n r_l_, .n r_c_, .n h0_n, .f h0, .n h1_n_, .f h1_]) K) := by kernel_rfl
def E_w_toPlacesS (α : Type) (N : Nat) : Env α := (E_w_toPlacesS_l0 α N).addFun 42 true 1 w_toPlacesS_a (fun l K => match l with
    | [.n a_n, .n a_l, .n a_c, .n h0_n, .f h0] => w_toPlacesS none N a_n a_l a_c h0_n h0 (fun r_n_ r_l_ r_c_ h1_n_ h1_ => retK (buildS w_toPlacesS_r0 [.n r_n_, .n r_l_, .n r_c_, .n h0_n, .f h0, .n h1_n_, .f h1_]) K)
    | _ => none)
theorem E_w_toPlacesS_ok {α : Type} (N : Nat) : EnvOk Try.prog (E_w_toPlacesS α N) := (E_w_toPlacesS_l0_ok N).addFun prog_mixed prog_names (d := 1) fun l K r h => by
  split at h
  · exact (w_toPlacesS_run N _ _ _ _ _ K).trans h
  · cases h

/-- spec.l01In -/
def s_l01In_a : SPat := ⟨[.int .i64, .int .i64, .int .i64], []⟩
def s_l01In_r0 : SPat := ⟨[.bool], []⟩
theorem s_l01In_run {α : Type} (N : Nat) (n : Int) (low : Int) (high : Int) (K : AV → Heap → Option α) :
    callK Try.prog (E_w_toPlacesS α N) 1 63 0 (buildS s_l01In_a [.i n, .i low, .i high]).t (buildS s_l01In_a [.i n, .i low, .i high]).h K = s_l01In none N n low high (fun r__ => retK (buildS s_l01In_r0 [.b r__]) K) := by kernel_rfl
def E_s_l01In (α : Type) (N : Nat) : Env α := (E_w_toPlacesS α N).addFun 63 true 0 s_l01In_a (fun l K => match l with
    | [.i n, .i low, .i high] => s_l01In none N n low high (fun r__ => retK (buildS s_l01In_r0 [.b r__]) K)
    | _ => none)
theorem E_s_l01In_ok {α : Type} (N : Nat) : EnvOk Try.prog (E_s_l01In α N) := (E_w_toPlacesS_ok N).addFun prog_mixed prog_names (d := 1) fun l K r h => by
  split at h
  · exact (s_l01In_run N _ _ _ K).trans h
  · cases h

def A_s_l08List_l0 (α : Type) (N : Nat) : Env α := (E_s_l01In α N).addAnn 72 4 { head := [0, 1, 5], grow := [], out := [], ret := [4] }
theorem A_s_l08List_l0_ok {α : Type} (N : Nat) : EnvOk Try.prog (A_s_l08List_l0 α N) := (E_s_l01In_ok N).addAnn

def A_s_l08Is_l0 (α : Type) (N : Nat) : Env α := (A_s_l08List_l0 α N).addAnn 48 5 { head := [1, 2, 5, 6], grow := [], out := [], ret := [4] }
theorem A_s_l08Is_l0_ok {α : Type} (N : Nat) : EnvOk Try.prog (A_s_l08Is_l0 α N) := (A_s_l08List_l0_ok N).addAnn

/-- spec.l08Is, loop -/
def s_l08Is_l0_p : SPat := ⟨[.undef, .int .i64, .ptr ⟨0, 0, 0, 4⟩, .undef, .undef, .ptr ⟨1, 0, 0, 4⟩, .int .i64] ++ List.replicate 32 .undef, [[.ints .u8 4], [.bools 4]]⟩
def s_l08Is_l0_o0 : SPat := ⟨[.undef, .undef, .undef, .undef, .boolC false] ++ List.replicate 34 .undef, [[.ints .u8 4], [.bools 4]]⟩
def s_l08Is_l0_o1 : SPat := ⟨[] ++ List.replicate 39 .undef, [[.ints .u8 4], [.bools 4]]⟩
theorem s_l08Is_l0_round {α : Type} (N : Nat) (k : Int) (x : Int) (h0 : Nat → Int) (h1 : Nat → Bool) (kn : St → Option α) (K : AExit → St → Option α) :
    roundK Try.prog (A_s_l08Is_l0 α N) 1 0 48 Try.f48 5 2 (buildS s_l08Is_l0_p [.i k, .i x, .f h0, .g h1]) kn K = s_l08Is_l0_s none k h0 x h1 (fun x h1 => kn (buildS s_l08Is_l0_p [.i k, .i x, .f h0, .g h1])) (fun h1_ => K .ret (buildS s_l08Is_l0_o0 [.f h0, .g h1_])) (fun h1_ => K (.exit 0) (buildS s_l08Is_l0_o1 [.f h0, .g h1_])) := by kernel_rfl
theorem s_l08Is_l0_loop {α : Type} (N : Nat) (k : Int) (h0 : Nat → Int) (K : AExit → St → Option α) : ∀ (m : Nat) (x : Int) (h1 : Nat → Bool),
    loopN (trimSt ((A_s_l08Is_l0 α N).ann 48 5).head ((A_s_l08Is_l0 α N).ann 48 5).grow 2) (bodyK Try.prog (A_s_l08Is_l0 α N) 1 0 48 Try.f48 5) m (buildS s_l08Is_l0_p [.i k, .i x, .f h0, .g h1]) (leaveLoop ((A_s_l08Is_l0 α N).ann 48 5) 2 K) = s_l08Is_l0 none k h0 m x h1 (fun h1_ => K .ret (buildS s_l08Is_l0_o0 [.f h0, .g h1_])) (fun h1_ => K (.exit 0) (buildS s_l08Is_l0_o1 [.f h0, .g h1_])) := by
  intro m
  induction m with
  | zero => intros; rfl
  | succ m ih =>
    intro x h1
    rw [loopN_round]
    refine (s_l08Is_l0_round N k x h0 h1 _ K).trans ?_
    simp only [ih]
    rfl
def E_s_l08Is_l0 (α : Type) (N : Nat) : Env α := (A_s_l08Is_l0 α N).addLoop2 48 5 (loopSum2 ((A_s_l08Is_l0 α N).ann 48 5) 0 s_l08Is_l0_p (fun l K => match l with
    | [.i k, .i x, .f h0, .g h1] => s_l08Is_l0 none k h0 N x h1 (fun h1_ => K .ret (buildS s_l08Is_l0_o0 [.f h0, .g h1_])) (fun h1_ => K (.exit 0) (buildS s_l08Is_l0_o1 [.f h0, .g h1_]))
    | _ => none) ((A_s_l08Is_l0 α N).ls 48 5))
theorem E_s_l08Is_l0_ok {α : Type} (N : Nat) : EnvOk Try.prog (E_s_l08Is_l0 α N) := (A_s_l08Is_l0_ok N).addLoop2 Try.func48 (by kernel_rfl) (loopSum_ok prog_mixed prog_names (A_s_l08Is_l0_ok N) Try.func48 (by kernel_rfl) (d := 1) (ro := 0) fun l K r h => by
  split at h
  · exact (s_l08Is_l0_loop N _ _ K N _ _).trans h
  · cases h)

/-- spec.l08Is -/
def s_l08Is_a : SPat := ⟨[.agg [.ints .u8 4], .int .i64], []⟩
def s_l08Is_r0 : SPat := ⟨[.bool], []⟩
theorem s_l08Is_run {α : Type} (N : Nat) (q : Nat → Int) (k : Int) (K : AV → Heap → Option α) :
    callK Try.prog (E_s_l08Is_l0 α N) 1 48 0 (buildS s_l08Is_a [.f q, .i k]).t (buildS s_l08Is_a [.f q, .i k]).h K = s_l08Is none N q k (fun r__ => retK (buildS s_l08Is_r0 [.b r__]) K) := by kernel_rfl
def E_s_l08Is (α : Type) (N : Nat) : Env α := (E_s_l08Is_l0 α N).addFun 48 true 0 s_l08Is_a (fun l K => match l with
    | [.f q, .i k] => s_l08Is none N q k (fun r__ => retK (buildS s_l08Is_r0 [.b r__]) K)
    | _ => none)
theorem E_s_l08Is_ok {α : Type} (N : Nat) : EnvOk Try.prog (E_s_l08Is α N) := (E_s_l08Is_l0_ok N).addFun prog_mixed prog_names (d := 1) fun l K r h => by
  split at h
  · exact (s_l08Is_run N _ _ K).trans h
  · cases h

/-- spec.l08List, loop -/
def s_l08List_l0_p : SPat := ⟨[.int .i64, .sliceV 0 0 0 4 true, .undef, .undef, .undef, .int .i64] ++ List.replicate 16 .undef, [[.intsV .u8]]⟩
def s_l08List_l0_o0 : SPat := ⟨[.undef, .undef, .undef, .undef, .intC .i64 2] ++ List.replicate 17 .undef, [[.intsV .u8]]⟩
def s_l08List_l0_o1 : SPat := ⟨[] ++ List.replicate 22 .undef, [[.intsV .u8]]⟩
theorem s_l08List_l0_round {α : Type} (N : Nat) (k : Int) (list_n : Nat) (list_l : Nat) (list_c : Nat) (i : Int) (h0_n : Nat) (h0 : Nat → Int) (kn : St → Option α) (K : AExit → St → Option α) :
    roundK Try.prog (E_s_l08Is α N) 1 1 72 Try.f72 4 1 (buildS s_l08List_l0_p [.i k, .n list_n, .n list_l, .n list_c, .i i, .n h0_n, .f h0]) kn K = s_l08List_l0_s none N k list_n list_l list_c h0_n h0 i (fun i => kn (buildS s_l08List_l0_p [.i k, .n list_n, .n list_l, .n list_c, .i i, .n h0_n, .f h0])) (K .ret (buildS s_l08List_l0_o0 [.n h0_n, .f h0])) (K (.exit 0) (buildS s_l08List_l0_o1 [.n h0_n, .f h0])) := by kernel_rfl
theorem s_l08List_l0_loop {α : Type} (N : Nat) (k : Int) (list_n : Nat) (list_l : Nat) (list_c : Nat) (h0_n : Nat) (h0 : Nat → Int) (K : AExit → St → Option α) : ∀ (m : Nat) (i : Int),
    loopN (trimSt ((E_s_l08Is α N).ann 72 4).head ((E_s_l08Is α N).ann 72 4).grow 1) (bodyK Try.prog (E_s_l08Is α N) 1 1 72 Try.f72 4) m (buildS s_l08List_l0_p [.i k, .n list_n, .n list_l, .n list_c, .i i, .n h0_n, .f h0]) (leaveLoop ((E_s_l08Is α N).ann 72 4) 1 K) = s_l08List_l0 none N k list_n list_l list_c h0_n h0 m i (K .ret (buildS s_l08List_l0_o0 [.n h0_n, .f h0])) (K (.exit 0) (buildS s_l08List_l0_o1 [.n h0_n, .f h0])) := by
  intro m
  induction m with
  | zero => intros; rfl
  | succ m ih =>
    intro i
    rw [loopN_round]
    refine (s_l08List_l0_round N k list_n list_l list_c i h0_n h0 _ K).trans ?_
    simp only [ih]
    rfl
def E_s_l08List_l0 (α : Type) (N : Nat) : Env α := (E_s_l08Is α N).addLoop2 72 4 (loopSum2 ((E_s_l08Is α N).ann 72 4) 1 s_l08List_l0_p (fun l K => match l with
    | [.i k, .n list_n, .n list_l, .n list_c, .i i, .n h0_n, .f h0] => s_l08List_l0 none N k list_n list_l list_c h0_n h0 N i (K .ret (buildS s_l08List_l0_o0 [.n h0_n, .f h0])) (K (.exit 0) (buildS s_l08List_l0_o1 [.n h0_n, .f h0]))
    | _ => none) ((E_s_l08Is α N).ls 72 4))
theorem E_s_l08List_l0_ok {α : Type} (N : Nat) : EnvOk Try.prog (E_s_l08List_l0 α N) := (E_s_l08Is_ok N).addLoop2 Try.func72 (by kernel_rfl) (loopSum_ok prog_mixed prog_names (E_s_l08Is_ok N) Try.func72 (by kernel_rfl) (d := 1) (ro := 1) fun l K r h => by
  split at h
  · exact (s_l08List_l0_loop N _ _ _ _ _ _ K N _).trans h
  · cases h)

/-- spec.l08List -/
def s_l08List_a : SPat := ⟨[.int .i64, .sliceV 0 0 0 4 true], [[.intsV .u8]]⟩
def s_l08List_r0 : SPat := ⟨[.int .i64], [[.intsV .u8]]⟩
theorem s_l08List_run {α : Type} (N : Nat) (k : Int) (list_n : Nat) (list_l : Nat) (list_c : Nat) (h0_n : Nat) (h0 : Nat → Int) (K : AV → Heap → Option α) :
    callK Try.prog (E_s_l08List_l0 α N) 1 72 1 (buildS s_l08List_a [.i k, .n list_n, .n list_l, .n list_c, .n h0_n, .f h0]).t (buildS s_l08List_a [.i k, .n list_n, .n list_l, .n list_c, .n h0_n, .f h0]).h K = s_l08List none N k list_n list_l list_c h0_n h0 (fun r__ => retK (buildS s_l08List_r0 [.i r__, .n h0_n, .f h0]) K) := by kernel_rfl
def E_s_l08List (α : Type) (N : Nat) : Env α := (E_s_l08List_l0 α N).addFun 72 true 1 s_l08List_a (fun l K => match l with
    | [.i k, .n list_n, .n list_l, .n list_c, .n h0_n, .f h0] => s_l08List none N k list_n list_l list_c h0_n h0 (fun r__ => retK (buildS s_l08List_r0 [.i r__, .n h0_n, .f h0]) K)
    | _ => none)
theorem E_s_l08List_ok {α : Type} (N : Nat) : EnvOk Try.prog (E_s_l08List α N) := (E_s_l08List_l0_ok N).addFun prog_mixed prog_names (d := 1) fun l K r h => by
  split at h
  · exact (s_l08List_run N _ _ _ _ _ _ K).trans h
  · cases h

def A_s_l08Reaches_l0 (α : Type) (N : Nat) : Env α := (E_s_l08List α N).addAnn 73 3 { head := [0, 1, 5, 6, 7], grow := [6], out := [0, 6], ret := [4] }
theorem A_s_l08Reaches_l0_ok {α : Type} (N : Nat) : EnvOk Try.prog (A_s_l08Reaches_l0 α N) := (E_s_l08List_ok N).addAnn

def A_s_l08Reaches_l1 (α : Type) (N : Nat) : Env α := (A_s_l08Reaches_l0 α N).addAnn 73 6 { head := [0, 1, 5, 6, 7, 8], grow := [6], out := [0, 1, 5, 6, 7], ret := [4] }
theorem A_s_l08Reaches_l1_ok {α : Type} (N : Nat) : EnvOk Try.prog (A_s_l08Reaches_l1 α N) := (A_s_l08Reaches_l0_ok N).addAnn

/-- spec.l08Reaches, loop -/
def s_l08Reaches_l1_p : SPat := ⟨[.int .i64, .sliceV 0 0 0 4 true, .undef, .undef, .undef, .ptr ⟨2, 0, 0, 4⟩, .sliceV 1 0 0 1 false, .int .i64, .int .i64] ++ List.replicate 39 .undef, [[.intsV .u8], [.vec .i64], [.bools 4]]⟩
def s_l08Reaches_l1_o0 : SPat := ⟨[.int .i64, .sliceV 0 0 0 4 true, .undef, .undef, .undef, .ptr ⟨2, 0, 0, 4⟩, .sliceV 1 0 0 1 false, .int .i64] ++ List.replicate 40 .undef, [[.intsV .u8], [.vec .i64], [.bools 4]]⟩
theorem s_l08Reaches_l1_round {α : Type} (N : Nat) (k : Int) (list_n : Nat) (list_l : Nat) (list_c : Nat) (queue_n : Nat) (queue_l : Nat) (queue_c : Nat) (i : Int) (j : Int) (h0_n : Nat) (h0 : Nat → Int) (h1 : List Int) (h2 : Nat → Bool) (kn : St → Option α) (K : AExit → St → Option α) :
    roundK Try.prog (A_s_l08Reaches_l1 α N) 1 1 73 Try.f73 6 3 (buildS s_l08Reaches_l1_p [.i k, .n list_n, .n list_l, .n list_c, .n queue_n, .n queue_l, .n queue_c, .i i, .i j, .n h0_n, .f h0, .l h1, .g h2]) kn K = s_l08Reaches_l1_s none k list_n list_l list_c i h0_n h0 queue_n queue_l queue_c j h1 h2 (fun queue_n queue_l queue_c j h1 h2 => kn (buildS s_l08Reaches_l1_p [.i k, .n list_n, .n list_l, .n list_c, .n queue_n, .n queue_l, .n queue_c, .i i, .i j, .n h0_n, .f h0, .l h1, .g h2])) (fun queue_n_ queue_l_ queue_c_ h1_ h2_ => K (.exit 2) (buildS s_l08Reaches_l1_o0 [.i k, .n list_n, .n list_l, .n list_c, .n queue_n_, .n queue_l_, .n queue_c_, .i i, .n h0_n, .f h0, .l h1_, .g h2_])) := by kernel_rfl
theorem s_l08Reaches_l1_loop {α : Type} (N : Nat) (k : Int) (list_n : Nat) (list_l : Nat) (list_c : Nat) (i : Int) (h0_n : Nat) (h0 : Nat → Int) (K : AExit → St → Option α) : ∀ (m : Nat) (queue_n : Nat) (queue_l : Nat) (queue_c : Nat) (j : Int) (h1 : List Int) (h2 : Nat → Bool),
    loopN (trimSt ((A_s_l08Reaches_l1 α N).ann 73 6).head ((A_s_l08Reaches_l1 α N).ann 73 6).grow 3) (bodyK Try.prog (A_s_l08Reaches_l1 α N) 1 1 73 Try.f73 6) m (buildS s_l08Reaches_l1_p [.i k, .n list_n, .n list_l, .n list_c, .n queue_n, .n queue_l, .n queue_c, .i i, .i j, .n h0_n, .f h0, .l h1, .g h2]) (leaveLoop ((A_s_l08Reaches_l1 α N).ann 73 6) 3 K) = s_l08Reaches_l1 none k list_n list_l list_c i h0_n h0 m queue_n queue_l queue_c j h1 h2 (fun queue_n_ queue_l_ queue_c_ h1_ h2_ => K (.exit 2) (buildS s_l08Reaches_l1_o0 [.i k, .n list_n, .n list_l, .n list_c, .n queue_n_, .n queue_l_, .n queue_c_, .i i, .n h0_n, .f h0, .l h1_, .g h2_])) := by
  intro m
  induction m with
  | zero => intros; rfl
  | succ m ih =>
    intro queue_n queue_l queue_c j h1 h2
    rw [loopN_round]
    refine (s_l08Reaches_l1_round N k list_n list_l list_c queue_n queue_l queue_c i j h0_n h0 h1 h2 _ K).trans ?_
    simp only [ih]
    rfl
def E_s_l08Reaches_l1 (α : Type) (N : Nat) : Env α := (A_s_l08Reaches_l1 α N).addLoop2 73 6 (loopSum2 ((A_s_l08Reaches_l1 α N).ann 73 6) 1 s_l08Reaches_l1_p (fun l K => match l with
    | [.i k, .n list_n, .n list_l, .n list_c, .n queue_n, .n queue_l, .n queue_c, .i i, .i j, .n h0_n, .f h0, .l h1, .g h2] => s_l08Reaches_l1 none k list_n list_l list_c i h0_n h0 N queue_n queue_l queue_c j h1 h2 (fun queue_n_ queue_l_ queue_c_ h1_ h2_ => K (.exit 2) (buildS s_l08Reaches_l1_o0 [.i k, .n list_n, .n list_l, .n list_c, .n queue_n_, .n queue_l_, .n queue_c_, .i i, .n h0_n, .f h0, .l h1_, .g h2_]))
    | _ => none) ((A_s_l08Reaches_l1 α N).ls 73 6))
theorem E_s_l08Reaches_l1_ok {α : Type} (N : Nat) : EnvOk Try.prog (E_s_l08Reaches_l1 α N) := (A_s_l08Reaches_l1_ok N).addLoop2 Try.func73 (by kernel_rfl) (loopSum_ok prog_mixed prog_names (A_s_l08Reaches_l1_ok N) Try.func73 (by kernel_rfl) (d := 1) (ro := 1) fun l K r h => by
  split at h
  · exact (s_l08Reaches_l1_loop N _ _ _ _ _ _ _ K N _ _ _ _ _ _).trans h
  · cases h)

/-- spec.l08Reaches, loop -/
def s_l08Reaches_l0_p : SPat := ⟨[.int .i64, .sliceV 0 0 0 4 true, .undef, .undef, .undef, .ptr ⟨2, 0, 0, 4⟩, .sliceV 1 0 0 1 false, .int .i64] ++ List.replicate 40 .undef, [[.intsV .u8], [.vec .i64], [.bools 4]]⟩
def s_l08Reaches_l0_o0 : SPat := ⟨[.int .i64, .undef, .undef, .undef, .undef, .undef, .sliceV 1 0 0 1 false] ++ List.replicate 41 .undef, [[.intsV .u8], [.vec .i64], [.bools 4]]⟩
theorem s_l08Reaches_l0_round {α : Type} (N : Nat) (k : Int) (list_n : Nat) (list_l : Nat) (list_c : Nat) (queue_n : Nat) (queue_l : Nat) (queue_c : Nat) (i : Int) (h0_n : Nat) (h0 : Nat → Int) (h1 : List Int) (h2 : Nat → Bool) (kn : St → Option α) (K : AExit → St → Option α) :
    roundK Try.prog (E_s_l08Reaches_l1 α N) 1 1 73 Try.f73 3 3 (buildS s_l08Reaches_l0_p [.i k, .n list_n, .n list_l, .n list_c, .n queue_n, .n queue_l, .n queue_c, .i i, .n h0_n, .f h0, .l h1, .g h2]) kn K = s_l08Reaches_l0_s none N k list_n list_l list_c h0_n h0 queue_n queue_l queue_c i h1 h2 (fun queue_n queue_l queue_c i h1 h2 => kn (buildS s_l08Reaches_l0_p [.i k, .n list_n, .n list_l, .n list_c, .n queue_n, .n queue_l, .n queue_c, .i i, .n h0_n, .f h0, .l h1, .g h2])) (fun queue_n_ queue_l_ queue_c_ h1_ h2_ => K (.exit 0) (buildS s_l08Reaches_l0_o0 [.i k, .n queue_n_, .n queue_l_, .n queue_c_, .n h0_n, .f h0, .l h1_, .g h2_])) := by kernel_rfl
theorem s_l08Reaches_l0_loop {α : Type} (N : Nat) (k : Int) (list_n : Nat) (list_l : Nat) (list_c : Nat) (h0_n : Nat) (h0 : Nat → Int) (K : AExit → St → Option α) : ∀ (m : Nat) (queue_n : Nat) (queue_l : Nat) (queue_c : Nat) (i : Int) (h1 : List Int) (h2 : Nat → Bool),
    loopN (trimSt ((E_s_l08Reaches_l1 α N).ann 73 3).head ((E_s_l08Reaches_l1 α N).ann 73 3).grow 3) (bodyK Try.prog (E_s_l08Reaches_l1 α N) 1 1 73 Try.f73 3) m (buildS s_l08Reaches_l0_p [.i k, .n list_n, .n list_l, .n list_c, .n queue_n, .n queue_l, .n queue_c, .i i, .n h0_n, .f h0, .l h1, .g h2]) (leaveLoop ((E_s_l08Reaches_l1 α N).ann 73 3) 3 K) = s_l08Reaches_l0 none N k list_n list_l list_c h0_n h0 m queue_n queue_l queue_c i h1 h2 (fun queue_n_ queue_l_ queue_c_ h1_ h2_ => K (.exit 0) (buildS s_l08Reaches_l0_o0 [.i k, .n queue_n_, .n queue_l_, .n queue_c_, .n h0_n, .f h0, .l h1_, .g h2_])) := by
  intro m
  induction m with
  | zero => intros; rfl
  | succ m ih =>
    intro queue_n queue_l queue_c i h1 h2
    rw [loopN_round]
    refine (s_l08Reaches_l0_round N k list_n list_l list_c queue_n queue_l queue_c i h0_n h0 h1 h2 _ K).trans ?_
    simp only [ih]
    rfl
def E_s_l08Reaches_l0 (α : Type) (N : Nat) : Env α := (E_s_l08Reaches_l1 α N).addLoop2 73 3 (loopSum2 ((E_s_l08Reaches_l1 α N).ann 73 3) 1 s_l08Reaches_l0_p (fun l K => match l with
    | [.i k, .n list_n, .n list_l, .n list_c, .n queue_n, .n queue_l, .n queue_c, .i i, .n h0_n, .f h0, .l h1, .g h2] => s_l08Reaches_l0 none N k list_n list_l list_c h0_n h0 N queue_n queue_l queue_c i h1 h2 (fun queue_n_ queue_l_ queue_c_ h1_ h2_ => K (.exit 0) (buildS s_l08Reaches_l0_o0 [.i k, .n queue_n_, .n queue_l_, .n queue_c_, .n h0_n, .f h0, .l h1_, .g h2_]))
    | _ => none) ((E_s_l08Reaches_l1 α N).ls 73 3))
theorem E_s_l08Reaches_l0_ok {α : Type} (N : Nat) : EnvOk Try.prog (E_s_l08Reaches_l0 α N) := (E_s_l08Reaches_l1_ok N).addLoop2 Try.func73 (by kernel_rfl) (loopSum_ok prog_mixed prog_names (E_s_l08Reaches_l1_ok N) Try.func73 (by kernel_rfl) (d := 1) (ro := 1) fun l K r h => by
  split at h
  · exact (s_l08Reaches_l0_loop N _ _ _ _ _ _ K N _ _ _ _ _ _).trans h
  · cases h)

/-- spec.l08Reaches -/
def s_l08Reaches_a : SPat := ⟨[.int .i64, .sliceV 0 0 0 4 true], [[.intsV .u8]]⟩
def s_l08Reaches_r0 : SPat := ⟨[.bool], [[.intsV .u8]]⟩
theorem s_l08Reaches_run {α : Type} (N : Nat) (k : Int) (list_n : Nat) (list_l : Nat) (list_c : Nat) (h0_n : Nat) (h0 : Nat → Int) (K : AV → Heap → Option α) :
    callK Try.prog (E_s_l08Reaches_l0 α N) 1 73 1 (buildS s_l08Reaches_a [.i k, .n list_n, .n list_l, .n list_c, .n h0_n, .f h0]).t (buildS s_l08Reaches_a [.i k, .n list_n, .n list_l, .n list_c, .n h0_n, .f h0]).h K = s_l08Reaches none N k list_n list_l list_c h0_n h0 (fun r__ => retK (buildS s_l08Reaches_r0 [.b r__, .n h0_n, .f h0]) K) := by kernel_rfl
def E_s_l08Reaches (α : Type) (N : Nat) : Env α := (E_s_l08Reaches_l0 α N).addFun 73 true 1 s_l08Reaches_a (fun l K => match l with
    | [.i k, .n list_n, .n list_l, .n list_c, .n h0_n, .f h0] => s_l08Reaches none N k list_n list_l list_c h0_n h0 (fun r__ => retK (buildS s_l08Reaches_r0 [.b r__, .n h0_n, .f h0]) K)
    | _ => none)
theorem E_s_l08Reaches_ok {α : Type} (N : Nat) : EnvOk Try.prog (E_s_l08Reaches α N) := (E_s_l08Reaches_l0_ok N).addFun prog_mixed prog_names (d := 1) fun l K r h => by
  split at h
  · exact (s_l08Reaches_run N _ _ _ _ _ _ K).trans h
  · cases h

/-- spec.IsTransitive -/
def s_IsTransitive_a : SPat := ⟨[.int .i64, .sliceV 0 0 0 4 true], [[.intsV .u8]]⟩
def s_IsTransitive_r0 : SPat := ⟨[.tuple [.bool, .int .i64]], [[.intsV .u8]]⟩
theorem s_IsTransitive_run {α : Type} (N : Nat) (k : Int) (list_n : Nat) (list_l : Nat) (list_c : Nat) (h0_n : Nat) (h0 : Nat → Int) (K : AV → Heap → Option α) :
    callK Try.prog (E_s_l08Reaches α N) 1 41 1 (buildS s_IsTransitive_a [.i k, .n list_n, .n list_l, .n list_c, .n h0_n, .f h0]).t (buildS s_IsTransitive_a [.i k, .n list_n, .n list_l, .n list_c, .n h0_n, .f h0]).h K = s_IsTransitive none N k list_n list_l list_c h0_n h0 (fun r_0_ r_1_ => retK (buildS s_IsTransitive_r0 [.b r_0_, .i r_1_, .n h0_n, .f h0]) K) := by kernel_rfl
def E_s_IsTransitive (α : Type) (N : Nat) : Env α := (E_s_l08Reaches α N).addFun 41 true 1 s_IsTransitive_a (fun l K => match l with
    | [.i k, .n list_n, .n list_l, .n list_c, .n h0_n, .f h0] => s_IsTransitive none N k list_n list_l list_c h0_n h0 (fun r_0_ r_1_ => retK (buildS s_IsTransitive_r0 [.b r_0_, .i r_1_, .n h0_n, .f h0]) K)
    | _ => none)
theorem E_s_IsTransitive_ok {α : Type} (N : Nat) : EnvOk Try.prog (E_s_IsTransitive α N) := (E_s_l08Reaches_ok N).addFun prog_mixed prog_names (d := 1) fun l K r h => by
  split at h
  · exact (s_IsTransitive_run N _ _ _ _ _ _ K).trans h
  · cases h

/-- impl.within -/
def i_within_a : SPat := ⟨[.int .i64, .int .i64, .int .i64], []⟩
def i_within_r0 : SPat := ⟨[.bool], []⟩
theorem i_within_run {α : Type} (N : Nat) (x : Int) (low : Int) (high : Int) (K : AV → Heap → Option α) :
    callK Try.prog (E_s_IsTransitive α N) 1 47 0 (buildS i_within_a [.i x, .i low, .i high]).t (buildS i_within_a [.i x, .i low, .i high]).h K = i_within none N x low high (fun r__ => retK (buildS i_within_r0 [.b r__]) K) := by kernel_rfl
def E_i_within (α : Type) (N : Nat) : Env α := (E_s_IsTransitive α N).addFun 47 true 0 i_within_a (fun l K => match l with
    | [.i x, .i low, .i high] => i_within none N x low high (fun r__ => retK (buildS i_within_r0 [.b r__]) K)
    | _ => none)
theorem E_i_within_ok {α : Type} (N : Nat) : EnvOk Try.prog (E_i_within α N) := (E_s_IsTransitive_ok N).addFun prog_mixed prog_names (d := 1) fun l K r h => by
  split at h
  · exact (i_within_run N _ _ _ K).trans h
  · cases h

def A_slices_IndexFunc_i_Places_i_Places_l0 (α : Type) (N : Nat) : Env α := (E_i_within α N).addAnn 89 2 { head := [0, 1, 7, 8], grow := [], out := [], ret := [4] }
theorem A_slices_IndexFunc_i_Places_i_Places_l0_ok {α : Type} (N : Nat) : EnvOk Try.prog (A_slices_IndexFunc_i_Places_i_Places_l0 α N) := (E_i_within_ok N).addAnn

def A_i_isOrder_l0 (α : Type) (N : Nat) : Env α := (A_slices_IndexFunc_i_Places_i_Places_l0 α N).addAnn 49 3 { head := [1, 5, 8, 9, 10], grow := [], out := [1, 5], ret := [4] }
theorem A_i_isOrder_l0_ok {α : Type} (N : Nat) : EnvOk Try.prog (A_i_isOrder_l0 α N) := (A_slices_IndexFunc_i_Places_i_Places_l0_ok N).addAnn

/-- impl.isOrder, loop -/
def i_isOrder_l0_p : SPat := ⟨[.undef, .int .i64, .undef, .undef, .undef, .int .i64, .undef, .undef, .slice ⟨0, 0, 0, 4⟩ 4 4 1 true, .intC .i64 4, .int .i64] ++ List.replicate 30 .undef, [[.ints .u8 4]]⟩
def i_isOrder_l0_o0 : SPat := ⟨[.undef, .undef, .undef, .undef, .boolC false] ++ List.replicate 36 .undef, [[.ints .u8 4]]⟩
def i_isOrder_l0_o1 : SPat := ⟨[.undef, .int .i64, .undef, .undef, .undef, .int .i64] ++ List.replicate 35 .undef, [[.ints .u8 4]]⟩
theorem i_isOrder_l0_round {α : Type} (N : Nat) (n : Int) (seen : Int) (t10 : Int) (h0 : Nat → Int) (kn : St → Option α) (K : AExit → St → Option α) :
    roundK Try.prog (A_i_isOrder_l0 α N) 1 1 49 Try.f49 3 1 (buildS i_isOrder_l0_p [.i n, .i seen, .i t10, .f h0]) kn K = i_isOrder_l0_s none n h0 seen t10 (fun seen t10 => kn (buildS i_isOrder_l0_p [.i n, .i seen, .i t10, .f h0])) (K .ret (buildS i_isOrder_l0_o0 [.f h0])) (fun seen_ => K (.exit 0) (buildS i_isOrder_l0_o1 [.i n, .i seen_, .f h0])) := by kernel_rfl
theorem i_isOrder_l0_loop {α : Type} (N : Nat) (n : Int) (h0 : Nat → Int) (K : AExit → St → Option α) : ∀ (m : Nat) (seen : Int) (t10 : Int),
    loopN (trimSt ((A_i_isOrder_l0 α N).ann 49 3).head ((A_i_isOrder_l0 α N).ann 49 3).grow 1) (bodyK Try.prog (A_i_isOrder_l0 α N) 1 1 49 Try.f49 3) m (buildS i_isOrder_l0_p [.i n, .i seen, .i t10, .f h0]) (leaveLoop ((A_i_isOrder_l0 α N).ann 49 3) 1 K) = i_isOrder_l0 none n h0 m seen t10 (K .ret (buildS i_isOrder_l0_o0 [.f h0])) (fun seen_ => K (.exit 0) (buildS i_isOrder_l0_o1 [.i n, .i seen_, .f h0])) := by
  intro m
  induction m with
  | zero => intros; rfl
  | succ m ih =>
    intro seen t10
    rw [loopN_round]
    refine (i_isOrder_l0_round N n seen t10 h0 _ K).trans ?_
    simp only [ih]
    rfl
def E_i_isOrder_l0 (α : Type) (N : Nat) : Env α := (A_i_isOrder_l0 α N).addLoop2 49 3 (loopSum2 ((A_i_isOrder_l0 α N).ann 49 3) 1 i_isOrder_l0_p (fun l K => match l with
    | [.i n, .i seen, .i t10, .f h0] => i_isOrder_l0 none n h0 N seen t10 (K .ret (buildS i_isOrder_l0_o0 [.f h0])) (fun seen_ => K (.exit 0) (buildS i_isOrder_l0_o1 [.i n, .i seen_, .f h0]))
    | _ => none) ((A_i_isOrder_l0 α N).ls 49 3))
theorem E_i_isOrder_l0_ok {α : Type} (N : Nat) : EnvOk Try.prog (E_i_isOrder_l0 α N) := (A_i_isOrder_l0_ok N).addLoop2 Try.func49 (by kernel_rfl) (loopSum_ok prog_mixed prog_names (A_i_isOrder_l0_ok N) Try.func49 (by kernel_rfl) (d := 1) (ro := 1) fun l K r h => by
  split at h
  · exact (i_isOrder_l0_loop N _ _ K N _ _).trans h
  · cases h)

/-- impl.isOrder -/
def i_isOrder_a : SPat := ⟨[.slice ⟨0, 0, 0, 4⟩ 4 4 1 true, .int .i64], [[.ints .u8 4]]⟩
def i_isOrder_r0 : SPat := ⟨[.bool], [[.ints .u8 4]]⟩
theorem i_isOrder_run {α : Type} (N : Nat) (n : Int) (h0 : Nat → Int) (K : AV → Heap → Option α) :
    callK Try.prog (E_i_isOrder_l0 α N) 1 49 1 (buildS i_isOrder_a [.i n, .f h0]).t (buildS i_isOrder_a [.i n, .f h0]).h K = i_isOrder none N n h0 (fun r__ => retK (buildS i_isOrder_r0 [.b r__, .f h0]) K) := by kernel_rfl
def E_i_isOrder (α : Type) (N : Nat) : Env α := (E_i_isOrder_l0 α N).addFun 49 true 1 i_isOrder_a (fun l K => match l with
    | [.i n, .f h0] => i_isOrder none N n h0 (fun r__ => retK (buildS i_isOrder_r0 [.b r__, .f h0]) K)
    | _ => none)
theorem E_i_isOrder_ok {α : Type} (N : Nat) : EnvOk Try.prog (E_i_isOrder α N) := (E_i_isOrder_l0_ok N).addFun prog_mixed prog_names (d := 1) fun l K r h => by
  split at h
  · exact (i_isOrder_run N _ _ K).trans h
  · cases h

/-- impl.IsPlaces -/
def i_IsPlaces_a : SPat := ⟨[.agg [.ints .u8 4], .int .i64], []⟩
def i_IsPlaces_r0 : SPat := ⟨[.bool], []⟩
theorem i_IsPlaces_run {α : Type} (N : Nat) (q : Nat → Int) (k : Int) (K : AV → Heap → Option α) :
    callK Try.prog (E_i_isOrder α N) 1 18 0 (buildS i_IsPlaces_a [.f q, .i k]).t (buildS i_IsPlaces_a [.f q, .i k]).h K = i_IsPlaces none N q k (fun r__ => retK (buildS i_IsPlaces_r0 [.b r__]) K) := by kernel_rfl
def E_i_IsPlaces (α : Type) (N : Nat) : Env α := (E_i_isOrder α N).addFun 18 true 0 i_IsPlaces_a (fun l K => match l with
    | [.f q, .i k] => i_IsPlaces none N q k (fun r__ => retK (buildS i_IsPlaces_r0 [.b r__]) K)
    | _ => none)
theorem E_i_IsPlaces_ok {α : Type} (N : Nat) : EnvOk Try.prog (E_i_IsPlaces α N) := (E_i_isOrder_ok N).addFun prog_mixed prog_names (d := 1) fun l K r h => by
  split at h
  · exact (i_IsPlaces_run N _ _ K).trans h
  · cases h

/-- impl.arePlaces$1 -/
def i_arePlaces_1_a : SPat := ⟨[.agg [.ints .u8 4], .ptr ⟨0, 0, 0, 1⟩], [[.vals [.int .i64]]]⟩
def i_arePlaces_1_r0 : SPat := ⟨[.bool], [[.vals [.int .i64]]]⟩
theorem i_arePlaces_1_run {α : Type} (N : Nat) (q : Nat → Int) (h0 : Int) (K : AV → Heap → Option α) :
    callK Try.prog (E_i_IsPlaces α N) 1 85 1 (buildS i_arePlaces_1_a [.f q, .i h0]).t (buildS i_arePlaces_1_a [.f q, .i h0]).h K = i_arePlaces_1 none N q h0 (fun r__ => retK (buildS i_arePlaces_1_r0 [.b r__, .i h0]) K) := by kernel_rfl
def E_i_arePlaces_1 (α : Type) (N : Nat) : Env α := (E_i_IsPlaces α N).addFun 85 true 1 i_arePlaces_1_a (fun l K => match l with
    | [.f q, .i h0] => i_arePlaces_1 none N q h0 (fun r__ => retK (buildS i_arePlaces_1_r0 [.b r__, .i h0]) K)
    | _ => none)
theorem E_i_arePlaces_1_ok {α : Type} (N : Nat) : EnvOk Try.prog (E_i_arePlaces_1 α N) := (E_i_IsPlaces_ok N).addFun prog_mixed prog_names (d := 1) fun l K r h => by
  split at h
  · exact (i_arePlaces_1_run N _ _ K).trans h
  · cases h

/-- slices.IndexFunc[[]impl.Places,impl.Places], loop -/
def slices_IndexFunc_i_Places_i_Places_l0_p : SPat := ⟨[.sliceV 0 0 0 4 true, .func 85 [.ptr ⟨1, 0, 0, 1⟩], .undef, .undef, .undef, .undef, .undef, .int .i64, .int .i64] ++ List.replicate 10 .undef, [[.intsV .u8], [.vals [.int .i64]]]⟩
def slices_IndexFunc_i_Places_i_Places_l0_o0 : SPat := ⟨[.undef, .undef, .undef, .undef, .int .i64] ++ List.replicate 14 .undef, [[.intsV .u8], [.vals [.int .i64]]]⟩
def slices_IndexFunc_i_Places_i_Places_l0_o1 : SPat := ⟨[] ++ List.replicate 19 .undef, [[.intsV .u8], [.vals [.int .i64]]]⟩
theorem slices_IndexFunc_i_Places_i_Places_l0_round {α : Type} (N : Nat) (s_n : Nat) (s_l : Nat) (s_c : Nat) (t7 : Int) (t8 : Int) (h0_n : Nat) (h0 : Nat → Int) (h1 : Int) (kn : St → Option α) (K : AExit → St → Option α) :
    roundK Try.prog (E_i_arePlaces_1 α N) 1 2 89 Try.f89 2 2 (buildS slices_IndexFunc_i_Places_i_Places_l0_p [.n s_n, .n s_l, .n s_c, .i t7, .i t8, .n h0_n, .f h0, .i h1]) kn K = slices_IndexFunc_i_Places_i_Places_l0_s none N s_n s_l s_c t7 h0_n h0 h1 t8 (fun t8 => kn (buildS slices_IndexFunc_i_Places_i_Places_l0_p [.n s_n, .n s_l, .n s_c, .i t7, .i t8, .n h0_n, .f h0, .i h1])) (fun t4_ => K .ret (buildS slices_IndexFunc_i_Places_i_Places_l0_o0 [.i t4_, .n h0_n, .f h0, .i h1])) (K (.exit 0) (buildS slices_IndexFunc_i_Places_i_Places_l0_o1 [.n h0_n, .f h0, .i h1])) := by kernel_rfl
theorem slices_IndexFunc_i_Places_i_Places_l0_loop {α : Type} (N : Nat) (s_n : Nat) (s_l : Nat) (s_c : Nat) (t7 : Int) (h0_n : Nat) (h0 : Nat → Int) (h1 : Int) (K : AExit → St → Option α) : ∀ (m : Nat) (t8 : Int),
    loopN (trimSt ((E_i_arePlaces_1 α N).ann 89 2).head ((E_i_arePlaces_1 α N).ann 89 2).grow 2) (bodyK Try.prog (E_i_arePlaces_1 α N) 1 2 89 Try.f89 2) m (buildS slices_IndexFunc_i_Places_i_Places_l0_p [.n s_n, .n s_l, .n s_c, .i t7, .i t8, .n h0_n, .f h0, .i h1]) (leaveLoop ((E_i_arePlaces_1 α N).ann 89 2) 2 K) = slices_IndexFunc_i_Places_i_Places_l0 none N s_n s_l s_c t7 h0_n h0 h1 m t8 (fun t4_ => K .ret (buildS slices_IndexFunc_i_Places_i_Places_l0_o0 [.i t4_, .n h0_n, .f h0, .i h1])) (K (.exit 0) (buildS slices_IndexFunc_i_Places_i_Places_l0_o1 [.n h0_n, .f h0, .i h1])) := by
  intro m
  induction m with
  | zero => intros; rfl
  | succ m ih =>
    intro t8
    rw [loopN_round]
    refine (slices_IndexFunc_i_Places_i_Places_l0_round N s_n s_l s_c t7 t8 h0_n h0 h1 _ K).trans ?_
    simp only [ih]
    rfl
def E_slices_IndexFunc_i_Places_i_Places_l0 (α : Type) (N : Nat) : Env α := (E_i_arePlaces_1 α N).addLoop2 89 2 (loopSum2 ((E_i_arePlaces_1 α N).ann 89 2) 2 slices_IndexFunc_i_Places_i_Places_l0_p (fun l K => match l with
    | [.n s_n, .n s_l, .n s_c, .i t7, .i t8, .n h0_n, .f h0, .i h1] => slices_IndexFunc_i_Places_i_Places_l0 none N s_n s_l s_c t7 h0_n h0 h1 N t8 (fun t4_ => K .ret (buildS slices_IndexFunc_i_Places_i_Places_l0_o0 [.i t4_, .n h0_n, .f h0, .i h1])) (K (.exit 0) (buildS slices_IndexFunc_i_Places_i_Places_l0_o1 [.n h0_n, .f h0, .i h1]))
    | _ => none) ((E_i_arePlaces_1 α N).ls 89 2))
theorem E_slices_IndexFunc_i_Places_i_Places_l0_ok {α : Type} (N : Nat) : EnvOk Try.prog (E_slices_IndexFunc_i_Places_i_Places_l0 α N) := (E_i_arePlaces_1_ok N).addLoop2 Try.func89 (by kernel_rfl) (loopSum_ok prog_mixed prog_names (E_i_arePlaces_1_ok N) Try.func89 (by kernel_rfl) (d := 1) (ro := 2) fun l K r h => by
  split at h
  · exact (slices_IndexFunc_i_Places_i_Places_l0_loop N _ _ _ _ _ _ _ K N _).trans h
  · cases h)

/-- slices.IndexFunc[[]impl.Places,impl.Places] -/
def slices_IndexFunc_i_Places_i_Places_a : SPat := ⟨[.sliceV 0 0 0 4 true, .func 85 [.ptr ⟨1, 0, 0, 1⟩]], [[.intsV .u8], [.vals [.int .i64]]]⟩
def slices_IndexFunc_i_Places_i_Places_r0 : SPat := ⟨[.int .i64], [[.intsV .u8], [.vals [.int .i64]]]⟩
theorem slices_IndexFunc_i_Places_i_Places_run {α : Type} (N : Nat) (s_n : Nat) (s_l : Nat) (s_c : Nat) (h0_n : Nat) (h0 : Nat → Int) (h1 : Int) (K : AV → Heap → Option α) :
    callK Try.prog (E_slices_IndexFunc_i_Places_i_Places_l0 α N) 1 89 2 (buildS slices_IndexFunc_i_Places_i_Places_a [.n s_n, .n s_l, .n s_c, .n h0_n, .f h0, .i h1]).t (buildS slices_IndexFunc_i_Places_i_Places_a [.n s_n, .n s_l, .n s_c, .n h0_n, .f h0, .i h1]).h K = slices_IndexFunc_i_Places_i_Places none N s_n s_l s_c h0_n h0 h1 (fun r__ => retK (buildS slices_IndexFunc_i_Places_i_Places_r0 [.i r__, .n h0_n, .f h0, .i h1]) K) := by kernel_rfl
def E_slices_IndexFunc_i_Places_i_Places (α : Type) (N : Nat) : Env α := (E_slices_IndexFunc_i_Places_i_Places_l0 α N).addFun 89 true 2 slices_IndexFunc_i_Places_i_Places_a (fun l K => match l with
    | [.n s_n, .n s_l, .n s_c, .n h0_n, .f h0, .i h1] => slices_IndexFunc_i_Places_i_Places none N s_n s_l s_c h0_n h0 h1 (fun r__ => retK (buildS slices_IndexFunc_i_Places_i_Places_r0 [.i r__, .n h0_n, .f h0, .i h1]) K)
    | _ => none)
theorem E_slices_IndexFunc_i_Places_i_Places_ok {α : Type} (N : Nat) : EnvOk Try.prog (E_slices_IndexFunc_i_Places_i_Places α N) := (E_slices_IndexFunc_i_Places_i_Places_l0_ok N).addFun prog_mixed prog_names (d := 1) fun l K r h => by
  split at h
  · exact (slices_IndexFunc_i_Places_i_Places_run N _ _ _ _ _ _ K).trans h
  · cases h

/-- slices.ContainsFunc[[]impl.Places,impl.Places] -/
def slices_ContainsFunc_i_Places_i_Places_a : SPat := ⟨[.sliceV 0 0 0 4 true, .func 85 [.ptr ⟨1, 0, 0, 1⟩]], [[.intsV .u8], [.vals [.int .i64]]]⟩
def slices_ContainsFunc_i_Places_i_Places_r0 : SPat := ⟨[.bool], [[.intsV .u8], [.vals [.int .i64]]]⟩
theorem slices_ContainsFunc_i_Places_i_Places_run {α : Type} (N : Nat) (s_n : Nat) (s_l : Nat) (s_c : Nat) (h0_n : Nat) (h0 : Nat → Int) (h1 : Int) (K : AV → Heap → Option α) :
    callK Try.prog (E_slices_IndexFunc_i_Places_i_Places α N) 1 84 2 (buildS slices_ContainsFunc_i_Places_i_Places_a [.n s_n, .n s_l, .n s_c, .n h0_n, .f h0, .i h1]).t (buildS slices_ContainsFunc_i_Places_i_Places_a [.n s_n, .n s_l, .n s_c, .n h0_n, .f h0, .i h1]).h K = slices_ContainsFunc_i_Places_i_Places none N s_n s_l s_c h0_n h0 h1 (fun r__ => retK (buildS slices_ContainsFunc_i_Places_i_Places_r0 [.b r__, .n h0_n, .f h0, .i h1]) K) := by kernel_rfl
def E_slices_ContainsFunc_i_Places_i_Places (α : Type) (N : Nat) : Env α := (E_slices_IndexFunc_i_Places_i_Places α N).addFun 84 true 2 slices_ContainsFunc_i_Places_i_Places_a (fun l K => match l with
    | [.n s_n, .n s_l, .n s_c, .n h0_n, .f h0, .i h1] => slices_ContainsFunc_i_Places_i_Places none N s_n s_l s_c h0_n h0 h1 (fun r__ => retK (buildS slices_ContainsFunc_i_Places_i_Places_r0 [.b r__, .n h0_n, .f h0, .i h1]) K)
    | _ => none)
theorem E_slices_ContainsFunc_i_Places_i_Places_ok {α : Type} (N : Nat) : EnvOk Try.prog (E_slices_ContainsFunc_i_Places_i_Places α N) := (E_slices_IndexFunc_i_Places_i_Places_ok N).addFun prog_mixed prog_names (d := 1) fun l K r h => by
  split at h
  · exact (slices_ContainsFunc_i_Places_i_Places_run N _ _ _ _ _ _ K).trans h
  · cases h

/-- impl.arePlaces -/
def i_arePlaces_a : SPat := ⟨[.sliceV 0 0 0 4 true, .int .i64], [[.intsV .u8]]⟩
def i_arePlaces_r0 : SPat := ⟨[.bool], [[.intsV .u8]]⟩
theorem i_arePlaces_run {α : Type} (N : Nat) (list_n : Nat) (list_l : Nat) (list_c : Nat) (k : Int) (h0_n : Nat) (h0 : Nat → Int) (K : AV → Heap → Option α) :
    callK Try.prog (E_slices_ContainsFunc_i_Places_i_Places α N) 1 74 1 (buildS i_arePlaces_a [.n list_n, .n list_l, .n list_c, .i k, .n h0_n, .f h0]).t (buildS i_arePlaces_a [.n list_n, .n list_l, .n list_c, .i k, .n h0_n, .f h0]).h K = i_arePlaces none N list_n list_l list_c k h0_n h0 (fun r__ => retK (buildS i_arePlaces_r0 [.b r__, .n h0_n, .f h0]) K) := by kernel_rfl
def E_i_arePlaces (α : Type) (N : Nat) : Env α := (E_slices_ContainsFunc_i_Places_i_Places α N).addFun 74 true 1 i_arePlaces_a (fun l K => match l with
    | [.n list_n, .n list_l, .n list_c, .i k, .n h0_n, .f h0] => i_arePlaces none N list_n list_l list_c k h0_n h0 (fun r__ => retK (buildS i_arePlaces_r0 [.b r__, .n h0_n, .f h0]) K)
    | _ => none)
theorem E_i_arePlaces_ok {α : Type} (N : Nat) : EnvOk Try.prog (E_i_arePlaces α N) := (E_slices_ContainsFunc_i_Places_i_Places_ok N).addFun prog_mixed prog_names (d := 1) fun l K r h => by
  split at h
  · exact (i_arePlaces_run N _ _ _ _ _ _ K).trans h
  · cases h

def A_i_isTransitive_l0 (α : Type) (N : Nat) : Env α := (E_i_arePlaces α N).addAnn 75 3 { head := [0, 1, 5, 9, 10], grow := [], out := [0, 5], ret := [4] }
theorem A_i_isTransitive_l0_ok {α : Type} (N : Nat) : EnvOk Try.prog (A_i_isTransitive_l0 α N) := (E_i_arePlaces_ok N).addAnn

def A_i_isTransitive_l1 (α : Type) (N : Nat) : Env α := (A_i_isTransitive_l0 α N).addAnn 75 5 { head := [0, 1, 5, 9, 10, 12, 13], grow := [], out := [0, 1, 5, 9, 10], ret := [4] }
theorem A_i_isTransitive_l1_ok {α : Type} (N : Nat) : EnvOk Try.prog (A_i_isTransitive_l1 α N) := (A_i_isTransitive_l0_ok N).addAnn

def A_i_isTransitive_l2 (α : Type) (N : Nat) : Env α := (A_i_isTransitive_l1 α N).addAnn 75 8 { head := [0, 1, 5, 6, 9, 10, 12, 13, 16, 17, 18], grow := [], out := [0, 1, 5, 9, 10, 12, 13], ret := [4] }
theorem A_i_isTransitive_l2_ok {α : Type} (N : Nat) : EnvOk Try.prog (A_i_isTransitive_l2 α N) := (A_i_isTransitive_l1_ok N).addAnn

/-- impl.isTransitive, loop -/
def i_isTransitive_l2_p : SPat := ⟨[.int .i64, .sliceV 0 0 0 4 true, .undef, .undef, .undef, .int .i64, .int .i64, .undef, .undef, .int .i64, .int .i64, .undef, .int .i64, .int .i64, .undef, .undef, .sliceV 0 0 0 4 true, .int .i64, .int .i64] ++ List.replicate 22 .undef, [[.intsV .u8]]⟩
def i_isTransitive_l2_o0 : SPat := ⟨[.int .i64, .sliceV 0 0 0 4 true, .undef, .undef, .undef, .int .i64, .undef, .undef, .undef, .int .i64, .int .i64, .undef, .int .i64, .int .i64] ++ List.replicate 27 .undef, [[.intsV .u8]]⟩
theorem i_isTransitive_l2_round {α : Type} (N : Nat) (k : Int) (list_n : Nat) (list_l : Nat) (list_c : Nat) (reached : Int) (x : Int) (t9 : Int) (t10 : Int) (t12 : Int) (t13 : Int) (t16_n : Nat) (t16_l : Nat) (t16_c : Nat) (t17 : Int) (t18 : Int) (h0_n : Nat) (h0 : Nat → Int) (kn : St → Option α) (K : AExit → St → Option α) :
    roundK Try.prog (A_i_isTransitive_l2 α N) 1 1 75 Try.f75 8 1 (buildS i_isTransitive_l2_p [.i k, .n list_n, .n list_l, .n list_c, .i reached, .i x, .i t9, .i t10, .i t12, .i t13, .n t16_n, .n t16_l, .n t16_c, .i t17, .i t18, .n h0_n, .f h0]) kn K = i_isTransitive_l2_s none k list_n list_l list_c x t9 t10 t12 t13 t16_n t16_l t16_c t17 h0_n h0 reached t18 (fun reached t18 => kn (buildS i_isTransitive_l2_p [.i k, .n list_n, .n list_l, .n list_c, .i reached, .i x, .i t9, .i t10, .i t12, .i t13, .n t16_n, .n t16_l, .n t16_c, .i t17, .i t18, .n h0_n, .f h0])) (fun reached_ => K (.exit 4) (buildS i_isTransitive_l2_o0 [.i k, .n list_n, .n list_l, .n list_c, .i reached_, .i t9, .i t10, .i t12, .i t13, .n h0_n, .f h0])) := by kernel_rfl
theorem i_isTransitive_l2_loop {α : Type} (N : Nat) (k : Int) (list_n : Nat) (list_l : Nat) (list_c : Nat) (x : Int) (t9 : Int) (t10 : Int) (t12 : Int) (t13 : Int) (t16_n : Nat) (t16_l : Nat) (t16_c : Nat) (t17 : Int) (h0_n : Nat) (h0 : Nat → Int) (K : AExit → St → Option α) : ∀ (m : Nat) (reached : Int) (t18 : Int),
    loopN (trimSt ((A_i_isTransitive_l2 α N).ann 75 8).head ((A_i_isTransitive_l2 α N).ann 75 8).grow 1) (bodyK Try.prog (A_i_isTransitive_l2 α N) 1 1 75 Try.f75 8) m (buildS i_isTransitive_l2_p [.i k, .n list_n, .n list_l, .n list_c, .i reached, .i x, .i t9, .i t10, .i t12, .i t13, .n t16_n, .n t16_l, .n t16_c, .i t17, .i t18, .n h0_n, .f h0]) (leaveLoop ((A_i_isTransitive_l2 α N).ann 75 8) 1 K) = i_isTransitive_l2 none k list_n list_l list_c x t9 t10 t12 t13 t16_n t16_l t16_c t17 h0_n h0 m reached t18 (fun reached_ => K (.exit 4) (buildS i_isTransitive_l2_o0 [.i k, .n list_n, .n list_l, .n list_c, .i reached_, .i t9, .i t10, .i t12, .i t13, .n h0_n, .f h0])) := by
  intro m
  induction m with
  | zero => intros; rfl
  | succ m ih =>
    intro reached t18
    rw [loopN_round]
    refine (i_isTransitive_l2_round N k list_n list_l list_c reached x t9 t10 t12 t13 t16_n t16_l t16_c t17 t18 h0_n h0 _ K).trans ?_
    simp only [ih]
    rfl
def E_i_isTransitive_l2 (α : Type) (N : Nat) : Env α := (A_i_isTransitive_l2 α N).addLoop2 75 8 (loopSum2 ((A_i_isTransitive_l2 α N).ann 75 8) 1 i_isTransitive_l2_p (fun l K => match l with
    | [.i k, .n list_n, .n list_l, .n list_c, .i reached, .i x, .i t9, .i t10, .i t12, .i t13, .n t16_n, .n t16_l, .n t16_c, .i t17, .i t18, .n h0_n, .f h0] => i_isTransitive_l2 none k list_n list_l list_c x t9 t10 t12 t13 t16_n t16_l t16_c t17 h0_n h0 N reached t18 (fun reached_ => K (.exit 4) (buildS i_isTransitive_l2_o0 [.i k, .n list_n, .n list_l, .n list_c, .i reached_, .i t9, .i t10, .i t12, .i t13, .n h0_n, .f h0]))
    | _ => none) ((A_i_isTransitive_l2 α N).ls 75 8))
theorem E_i_isTransitive_l2_ok {α : Type} (N : Nat) : EnvOk Try.prog (E_i_isTransitive_l2 α N) := (A_i_isTransitive_l2_ok N).addLoop2 Try.func75 (by kernel_rfl) (loopSum_ok prog_mixed prog_names (A_i_isTransitive_l2_ok N) Try.func75 (by kernel_rfl) (d := 1) (ro := 1) fun l K r h => by
  split at h
  · exact (i_isTransitive_l2_loop N _ _ _ _ _ _ _ _ _ _ _ _ _ _ _ K N _ _).trans h
  · cases h)

/-- impl.isTransitive, loop -/
def i_isTransitive_l1_p : SPat := ⟨[.int .i64, .sliceV 0 0 0 4 true, .undef, .undef, .undef, .int .i64, .undef, .undef, .undef, .int .i64, .int .i64, .undef, .int .i64, .int .i64] ++ List.replicate 27 .undef, [[.intsV .u8]]⟩
def i_isTransitive_l1_o0 : SPat := ⟨[.int .i64, .sliceV 0 0 0 4 true, .undef, .undef, .undef, .int .i64, .undef, .undef, .undef, .int .i64, .int .i64] ++ List.replicate 30 .undef, [[.intsV .u8]]⟩
theorem i_isTransitive_l1_round {α : Type} (N : Nat) (k : Int) (list_n : Nat) (list_l : Nat) (list_c : Nat) (reached : Int) (t9 : Int) (t10 : Int) (t12 : Int) (t13 : Int) (h0_n : Nat) (h0 : Nat → Int) (kn : St → Option α) (K : AExit → St → Option α) :
    roundK Try.prog (E_i_isTransitive_l2 α N) 1 1 75 Try.f75 5 1 (buildS i_isTransitive_l1_p [.i k, .n list_n, .n list_l, .n list_c, .i reached, .i t9, .i t10, .i t12, .i t13, .n h0_n, .f h0]) kn K = i_isTransitive_l1_s none N k list_n list_l list_c t9 t10 t12 h0_n h0 reached t13 (fun reached t13 => kn (buildS i_isTransitive_l1_p [.i k, .n list_n, .n list_l, .n list_c, .i reached, .i t9, .i t10, .i t12, .i t13, .n h0_n, .f h0])) (fun reached_ => K (.exit 2) (buildS i_isTransitive_l1_o0 [.i k, .n list_n, .n list_l, .n list_c, .i reached_, .i t9, .i t10, .n h0_n, .f h0])) := by kernel_rfl
theorem i_isTransitive_l1_loop {α : Type} (N : Nat) (k : Int) (list_n : Nat) (list_l : Nat) (list_c : Nat) (t9 : Int) (t10 : Int) (t12 : Int) (h0_n : Nat) (h0 : Nat → Int) (K : AExit → St → Option α) : ∀ (m : Nat) (reached : Int) (t13 : Int),
    loopN (trimSt ((E_i_isTransitive_l2 α N).ann 75 5).head ((E_i_isTransitive_l2 α N).ann 75 5).grow 1) (bodyK Try.prog (E_i_isTransitive_l2 α N) 1 1 75 Try.f75 5) m (buildS i_isTransitive_l1_p [.i k, .n list_n, .n list_l, .n list_c, .i reached, .i t9, .i t10, .i t12, .i t13, .n h0_n, .f h0]) (leaveLoop ((E_i_isTransitive_l2 α N).ann 75 5) 1 K) = i_isTransitive_l1 none N k list_n list_l list_c t9 t10 t12 h0_n h0 m reached t13 (fun reached_ => K (.exit 2) (buildS i_isTransitive_l1_o0 [.i k, .n list_n, .n list_l, .n list_c, .i reached_, .i t9, .i t10, .n h0_n, .f h0])) := by
  intro m
  induction m with
  | zero => intros; rfl
  | succ m ih =>
    intro reached t13
    rw [loopN_round]
    refine (i_isTransitive_l1_round N k list_n list_l list_c reached t9 t10 t12 t13 h0_n h0 _ K).trans ?_
    simp only [ih]
    rfl
def E_i_isTransitive_l1 (α : Type) (N : Nat) : Env α := (E_i_isTransitive_l2 α N).addLoop2 75 5 (loopSum2 ((E_i_isTransitive_l2 α N).ann 75 5) 1 i_isTransitive_l1_p (fun l K => match l with
    | [.i k, .n list_n, .n list_l, .n list_c, .i reached, .i t9, .i t10, .i t12, .i t13, .n h0_n, .f h0] => i_isTransitive_l1 none N k list_n list_l list_c t9 t10 t12 h0_n h0 N reached t13 (fun reached_ => K (.exit 2) (buildS i_isTransitive_l1_o0 [.i k, .n list_n, .n list_l, .n list_c, .i reached_, .i t9, .i t10, .n h0_n, .f h0]))
    | _ => none) ((E_i_isTransitive_l2 α N).ls 75 5))
theorem E_i_isTransitive_l1_ok {α : Type} (N : Nat) : EnvOk Try.prog (E_i_isTransitive_l1 α N) := (E_i_isTransitive_l2_ok N).addLoop2 Try.func75 (by kernel_rfl) (loopSum_ok prog_mixed prog_names (E_i_isTransitive_l2_ok N) Try.func75 (by kernel_rfl) (d := 1) (ro := 1) fun l K r h => by
  split at h
  · exact (i_isTransitive_l1_loop N _ _ _ _ _ _ _ _ _ K N _ _).trans h
  · cases h)

/-- impl.isTransitive, loop -/
def i_isTransitive_l0_p : SPat := ⟨[.int .i64, .sliceV 0 0 0 4 true, .undef, .undef, .undef, .int .i64, .undef, .undef, .undef, .int .i64, .int .i64] ++ List.replicate 30 .undef, [[.intsV .u8]]⟩
def i_isTransitive_l0_o0 : SPat := ⟨[.int .i64, .undef, .undef, .undef, .undef, .int .i64] ++ List.replicate 35 .undef, [[.intsV .u8]]⟩
theorem i_isTransitive_l0_round {α : Type} (N : Nat) (k : Int) (list_n : Nat) (list_l : Nat) (list_c : Nat) (reached : Int) (t9 : Int) (t10 : Int) (h0_n : Nat) (h0 : Nat → Int) (kn : St → Option α) (K : AExit → St → Option α) :
    roundK Try.prog (E_i_isTransitive_l1 α N) 1 1 75 Try.f75 3 1 (buildS i_isTransitive_l0_p [.i k, .n list_n, .n list_l, .n list_c, .i reached, .i t9, .i t10, .n h0_n, .f h0]) kn K = i_isTransitive_l0_s none N k list_n list_l list_c t9 h0_n h0 reached t10 (fun reached t10 => kn (buildS i_isTransitive_l0_p [.i k, .n list_n, .n list_l, .n list_c, .i reached, .i t9, .i t10, .n h0_n, .f h0])) (fun reached_ => K (.exit 0) (buildS i_isTransitive_l0_o0 [.i k, .i reached_, .n h0_n, .f h0])) := by kernel_rfl
theorem i_isTransitive_l0_loop {α : Type} (N : Nat) (k : Int) (list_n : Nat) (list_l : Nat) (list_c : Nat) (t9 : Int) (h0_n : Nat) (h0 : Nat → Int) (K : AExit → St → Option α) : ∀ (m : Nat) (reached : Int) (t10 : Int),
    loopN (trimSt ((E_i_isTransitive_l1 α N).ann 75 3).head ((E_i_isTransitive_l1 α N).ann 75 3).grow 1) (bodyK Try.prog (E_i_isTransitive_l1 α N) 1 1 75 Try.f75 3) m (buildS i_isTransitive_l0_p [.i k, .n list_n, .n list_l, .n list_c, .i reached, .i t9, .i t10, .n h0_n, .f h0]) (leaveLoop ((E_i_isTransitive_l1 α N).ann 75 3) 1 K) = i_isTransitive_l0 none N k list_n list_l list_c t9 h0_n h0 m reached t10 (fun reached_ => K (.exit 0) (buildS i_isTransitive_l0_o0 [.i k, .i reached_, .n h0_n, .f h0])) := by
  intro m
  induction m with
  | zero => intros; rfl
  | succ m ih =>
    intro reached t10
    rw [loopN_round]
    refine (i_isTransitive_l0_round N k list_n list_l list_c reached t9 t10 h0_n h0 _ K).trans ?_
    simp only [ih]
    rfl
def E_i_isTransitive_l0 (α : Type) (N : Nat) : Env α := (E_i_isTransitive_l1 α N).addLoop2 75 3 (loopSum2 ((E_i_isTransitive_l1 α N).ann 75 3) 1 i_isTransitive_l0_p (fun l K => match l with
    | [.i k, .n list_n, .n list_l, .n list_c, .i reached, .i t9, .i t10, .n h0_n, .f h0] => i_isTransitive_l0 none N k list_n list_l list_c t9 h0_n h0 N reached t10 (fun reached_ => K (.exit 0) (buildS i_isTransitive_l0_o0 [.i k, .i reached_, .n h0_n, .f h0]))
    | _ => none) ((E_i_isTransitive_l1 α N).ls 75 3))
theorem E_i_isTransitive_l0_ok {α : Type} (N : Nat) : EnvOk Try.prog (E_i_isTransitive_l0 α N) := (E_i_isTransitive_l1_ok N).addLoop2 Try.func75 (by kernel_rfl) (loopSum_ok prog_mixed prog_names (E_i_isTransitive_l1_ok N) Try.func75 (by kernel_rfl) (d := 1) (ro := 1) fun l K r h => by
  split at h
  · exact (i_isTransitive_l0_loop N _ _ _ _ _ _ _ K N _ _).trans h
  · cases h)

/-- impl.isTransitive -/
def i_isTransitive_a : SPat := ⟨[.int .i64, .sliceV 0 0 0 4 true], [[.intsV .u8]]⟩
def i_isTransitive_r0 : SPat := ⟨[.bool], [[.intsV .u8]]⟩
theorem i_isTransitive_run {α : Type} (N : Nat) (k : Int) (list_n : Nat) (list_l : Nat) (list_c : Nat) (h0_n : Nat) (h0 : Nat → Int) (K : AV → Heap → Option α) :
    callK Try.prog (E_i_isTransitive_l0 α N) 1 75 1 (buildS i_isTransitive_a [.i k, .n list_n, .n list_l, .n list_c, .n h0_n, .f h0]).t (buildS i_isTransitive_a [.i k, .n list_n, .n list_l, .n list_c, .n h0_n, .f h0]).h K = i_isTransitive none N k list_n list_l list_c h0_n h0 (fun r__ => retK (buildS i_isTransitive_r0 [.b r__, .n h0_n, .f h0]) K) := by kernel_rfl
def E_i_isTransitive (α : Type) (N : Nat) : Env α := (E_i_isTransitive_l0 α N).addFun 75 true 1 i_isTransitive_a (fun l K => match l with
    | [.i k, .n list_n, .n list_l, .n list_c, .n h0_n, .f h0] => i_isTransitive none N k list_n list_l list_c h0_n h0 (fun r__ => retK (buildS i_isTransitive_r0 [.b r__, .n h0_n, .f h0]) K)
    | _ => none)
theorem E_i_isTransitive_ok {α : Type} (N : Nat) : EnvOk Try.prog (E_i_isTransitive α N) := (E_i_isTransitive_l0_ok N).addFun prog_mixed prog_names (d := 1) fun l K r h => by
  split at h
  · exact (i_isTransitive_run N _ _ _ _ _ _ K).trans h
  · cases h

/-- impl.IsTransitive -/
def i_IsTransitive_a : SPat := ⟨[.int .i64, .sliceV 0 0 0 4 true], [[.intsV .u8]]⟩
def i_IsTransitive_r0 : SPat := ⟨[.tuple [.bool, .int .i64]], [[.intsV .u8]]⟩
theorem i_IsTransitive_run {α : Type} (N : Nat) (k : Int) (list_n : Nat) (list_l : Nat) (list_c : Nat) (h0_n : Nat) (h0 : Nat → Int) (K : AV → Heap → Option α) :
    callK Try.prog (E_i_isTransitive α N) 1 43 1 (buildS i_IsTransitive_a [.i k, .n list_n, .n list_l, .n list_c, .n h0_n, .f h0]).t (buildS i_IsTransitive_a [.i k, .n list_n, .n list_l, .n list_c, .n h0_n, .f h0]).h K = i_IsTransitive none N k list_n list_l list_c h0_n h0 (fun r_0_ r_1_ => retK (buildS i_IsTransitive_r0 [.b r_0_, .i r_1_, .n h0_n, .f h0]) K) := by kernel_rfl
def E_i_IsTransitive (α : Type) (N : Nat) : Env α := (E_i_isTransitive α N).addFun 43 true 1 i_IsTransitive_a (fun l K => match l with
    | [.i k, .n list_n, .n list_l, .n list_c, .n h0_n, .f h0] => i_IsTransitive none N k list_n list_l list_c h0_n h0 (fun r_0_ r_1_ => retK (buildS i_IsTransitive_r0 [.b r_0_, .i r_1_, .n h0_n, .f h0]) K)
    | _ => none)
theorem E_i_IsTransitive_ok {α : Type} (N : Nat) : EnvOk Try.prog (E_i_IsTransitive α N) := (E_i_isTransitive_ok N).addFun prog_mixed prog_names (d := 1) fun l K r h => by
  split at h
  · exact (i_IsTransitive_run N _ _ _ _ _ _ K).trans h
  · cases h

def A_w_eqPlacesS_l0 (α : Type) (N : Nat) : Env α := (E_i_IsTransitive α N).addAnn 44 4 { head := [0, 1, 5], grow := [], out := [], ret := [4] }
theorem A_w_eqPlacesS_l0_ok {α : Type} (N : Nat) : EnvOk Try.prog (A_w_eqPlacesS_l0 α N) := (E_i_IsTransitive_ok N).addAnn

def A_w_eqPlaces_l0 (α : Type) (N : Nat) : Env α := (A_w_eqPlacesS_l0 α N).addAnn 76 2 { head := [2, 3, 5], grow := [], out := [], ret := [4] }
theorem A_w_eqPlaces_l0_ok {α : Type} (N : Nat) : EnvOk Try.prog (A_w_eqPlaces_l0 α N) := (A_w_eqPlacesS_l0_ok N).addAnn

/-- laws.eqPlaces, loop -/
def w_eqPlaces_l0_p : SPat := ⟨[.undef, .undef, .ptr ⟨0, 0, 0, 4⟩, .ptr ⟨1, 0, 0, 4⟩, .undef, .int .i64] ++ List.replicate 11 .undef, [[.ints .u8 4], [.ints .u8 4]]⟩
def w_eqPlaces_l0_o0 : SPat := ⟨[.undef, .undef, .undef, .undef, .boolC false] ++ List.replicate 12 .undef, [[.ints .u8 4], [.ints .u8 4]]⟩
def w_eqPlaces_l0_o1 : SPat := ⟨[] ++ List.replicate 17 .undef, [[.ints .u8 4], [.ints .u8 4]]⟩
theorem w_eqPlaces_l0_round {α : Type} (N : Nat) (i : Int) (h0 : Nat → Int) (h1 : Nat → Int) (kn : St → Option α) (K : AExit → St → Option α) :
    roundK Try.prog (A_w_eqPlaces_l0 α N) 1 0 76 Try.f76 2 2 (buildS w_eqPlaces_l0_p [.i i, .f h0, .f h1]) kn K = w_eqPlaces_l0_s none h0 h1 i (fun i => kn (buildS w_eqPlaces_l0_p [.i i, .f h0, .f h1])) (K .ret (buildS w_eqPlaces_l0_o0 [.f h0, .f h1])) (K (.exit 0) (buildS w_eqPlaces_l0_o1 [.f h0, .f h1])) := by kernel_rfl
theorem w_eqPlaces_l0_loop {α : Type} (N : Nat) (h0 : Nat → Int) (h1 : Nat → Int) (K : AExit → St → Option α) : ∀ (m : Nat) (i : Int),
    loopN (trimSt ((A_w_eqPlaces_l0 α N).ann 76 2).head ((A_w_eqPlaces_l0 α N).ann 76 2).grow 2) (bodyK Try.prog (A_w_eqPlaces_l0 α N) 1 0 76 Try.f76 2) m (buildS w_eqPlaces_l0_p [.i i, .f h0, .f h1]) (leaveLoop ((A_w_eqPlaces_l0 α N).ann 76 2) 2 K) = w_eqPlaces_l0 none h0 h1 m i (K .ret (buildS w_eqPlaces_l0_o0 [.f h0, .f h1])) (K (.exit 0) (buildS w_eqPlaces_l0_o1 [.f h0, .f h1])) := by
  intro m
  induction m with
  | zero => intros; rfl
  | succ m ih =>
    intro i
    rw [loopN_round]
    refine (w_eqPlaces_l0_round N i h0 h1 _ K).trans ?_
    simp only [ih]
    rfl
def E_w_eqPlaces_l0 (α : Type) (N : Nat) : Env α := (A_w_eqPlaces_l0 α N).addLoop2 76 2 (loopSum2 ((A_w_eqPlaces_l0 α N).ann 76 2) 0 w_eqPlaces_l0_p (fun l K => match l with
    | [.i i, .f h0, .f h1] => w_eqPlaces_l0 none h0 h1 N i (K .ret (buildS w_eqPlaces_l0_o0 [.f h0, .f h1])) (K (.exit 0) (buildS w_eqPlaces_l0_o1 [.f h0, .f h1]))
    | _ => none) ((A_w_eqPlaces_l0 α N).ls 76 2))
theorem E_w_eqPlaces_l0_ok {α : Type} (N : Nat) : EnvOk Try.prog (E_w_eqPlaces_l0 α N) := (A_w_eqPlaces_l0_ok N).addLoop2 Try.func76 (by kernel_rfl) (loopSum_ok prog_mixed prog_names (A_w_eqPlaces_l0_ok N) Try.func76 (by kernel_rfl) (d := 1) (ro := 0) fun l K r h => by
  split at h
  · exact (w_eqPlaces_l0_loop N _ _ K N _).trans h
  · cases h)

/-- laws.eqPlaces -/
def w_eqPlaces_a : SPat := ⟨[.agg [.ints .u8 4], .agg [.ints .u8 4]], []⟩
def w_eqPlaces_r0 : SPat := ⟨[.bool], []⟩
theorem w_eqPlaces_run {α : Type} (N : Nat) (a : Nat → Int) (b : Nat → Int) (K : AV → Heap → Option α) :
    callK Try.prog (E_w_eqPlaces_l0 α N) 1 76 0 (buildS w_eqPlaces_a [.f a, .f b]).t (buildS w_eqPlaces_a [.f a, .f b]).h K = w_eqPlaces none N a b (fun r__ => retK (buildS w_eqPlaces_r0 [.b r__]) K) := by kernel_rfl
def E_w_eqPlaces (α : Type) (N : Nat) : Env α := (E_w_eqPlaces_l0 α N).addFun 76 true 0 w_eqPlaces_a (fun l K => match l with
    | [.f a, .f b] => w_eqPlaces none N a b (fun r__ => retK (buildS w_eqPlaces_r0 [.b r__]) K)
    | _ => none)
theorem E_w_eqPlaces_ok {α : Type} (N : Nat) : EnvOk Try.prog (E_w_eqPlaces α N) := (E_w_eqPlaces_l0_ok N).addFun prog_mixed prog_names (d := 1) fun l K r h => by
  split at h
  · exact (w_eqPlaces_run N _ _ K).trans h
  · cases h

/-- laws.eqPlacesS, loop -/
def w_eqPlacesS_l0_p : SPat := ⟨[.sliceV 0 0 0 4 true, .sliceV 1 0 0 4 true, .undef, .undef, .undef, .int .i64] ++ List.replicate 21 .undef, [[.intsV .u8], [.intsV .u8]]⟩
def w_eqPlacesS_l0_o0 : SPat := ⟨[.undef, .undef, .undef, .undef, .boolC false] ++ List.replicate 22 .undef, [[.intsV .u8], [.intsV .u8]]⟩
def w_eqPlacesS_l0_o1 : SPat := ⟨[] ++ List.replicate 27 .undef, [[.intsV .u8], [.intsV .u8]]⟩
theorem w_eqPlacesS_l0_round {α : Type} (N : Nat) (a_n : Nat) (a_l : Nat) (a_c : Nat) (b_n : Nat) (b_l : Nat) (b_c : Nat) (i : Int) (h0_n : Nat) (h0 : Nat → Int) (h1_n : Nat) (h1 : Nat → Int) (kn : St → Option α) (K : AExit → St → Option α) :
    roundK Try.prog (E_w_eqPlaces α N) 1 2 44 Try.f44 4 2 (buildS w_eqPlacesS_l0_p [.n a_n, .n a_l, .n a_c, .n b_n, .n b_l, .n b_c, .i i, .n h0_n, .f h0, .n h1_n, .f h1]) kn K = w_eqPlacesS_l0_s none N a_n a_l a_c b_n b_l b_c h0_n h0 h1_n h1 i (fun i => kn (buildS w_eqPlacesS_l0_p [.n a_n, .n a_l, .n a_c, .n b_n, .n b_l, .n b_c, .i i, .n h0_n, .f h0, .n h1_n, .f h1])) (K .ret (buildS w_eqPlacesS_l0_o0 [.n h0_n, .f h0, .n h1_n, .f h1])) (K (.exit 0) (buildS w_eqPlacesS_l0_o1 [.n h0_n, .f h0, .n h1_n, .f h1])) := by kernel_rfl
theorem w_eqPlacesS_l0_loop {α : Type} (N : Nat) (a_n : Nat) (a_l : Nat) (a_c : Nat) (b_n : Nat) (b_l : Nat) (b_c : Nat) (h0_n : Nat) (h0 : Nat → Int) (h1_n : Nat) (h1 : Nat → Int) (K : AExit → St → Option α) : ∀ (m : Nat) (i : Int),
    loopN (trimSt ((E_w_eqPlaces α N).ann 44 4).head ((E_w_eqPlaces α N).ann 44 4).grow 2) (bodyK Try.prog (E_w_eqPlaces α N) 1 2 44 Try.f44 4) m (buildS w_eqPlacesS_l0_p [.n a_n, .n a_l, .n a_c, .n b_n, .n b_l, .n b_c, .i i, .n h0_n, .f h0, .n h1_n, .f h1]) (leaveLoop ((E_w_eqPlaces α N).ann 44 4) 2 K) = w_eqPlacesS_l0 none N a_n a_l a_c b_n b_l b_c h0_n h0 h1_n h1 m i (K .ret (buildS w_eqPlacesS_l0_o0 [.n h0_n, .f h0, .n h1_n, .f h1])) (K (.exit 0) (buildS w_eqPlacesS_l0_o1 [.n h0_n, .f h0, .n h1_n, .f h1])) := by
  intro m
  induction m with
  | zero => intros; rfl
  | succ m ih =>
    intro i
    rw [loopN_round]
    refine (w_eqPlacesS_l0_round N a_n a_l a_c b_n b_l b_c i h0_n h0 h1_n h1 _ K).trans ?_
    simp only [ih]
    rfl
def E_w_eqPlacesS_l0 (α : Type) (N : Nat) : Env α := (E_w_eqPlaces α N).addLoop2 44 4 (loopSum2 ((E_w_eqPlaces α N).ann 44 4) 2 w_eqPlacesS_l0_p (fun l K => match l with
    | [.n a_n, .n a_l, .n a_c, .n b_n, .n b_l, .n b_c, .i i, .n h0_n, .f h0, .n h1_n, .f h1] => w_eqPlacesS_l0 none N a_n a_l a_c b_n b_l b_c h0_n h0 h1_n h1 N i (K .ret (buildS w_eqPlacesS_l0_o0 [.n h0_n, .f h0, .n h1_n, .f h1])) (K (.exit 0) (buildS w_eqPlacesS_l0_o1 [.n h0_n, .f h0, .n h1_n, .f h1]))
    | _ => none) ((E_w_eqPlaces α N).ls 44 4))
theorem E_w_eqPlacesS_l0_ok {α : Type} (N : Nat) : EnvOk Try.prog (E_w_eqPlacesS_l0 α N) := (E_w_eqPlaces_ok N).addLoop2 Try.func44 (by kernel_rfl) (loopSum_ok prog_mixed prog_names (E_w_eqPlaces_ok N) Try.func44 (by kernel_rfl) (d := 1) (ro := 2) fun l K r h => by
  split at h
  · exact (w_eqPlacesS_l0_loop N _ _ _ _ _ _ _ _ _ _ K N _).trans h
  · cases h)

/-- laws.eqPlacesS -/
def w_eqPlacesS_a : SPat := ⟨[.sliceV 0 0 0 4 true, .sliceV 1 0 0 4 true], [[.intsV .u8], [.intsV .u8]]⟩
def w_eqPlacesS_r0 : SPat := ⟨[.bool], [[.intsV .u8], [.intsV .u8]]⟩
theorem w_eqPlacesS_run {α : Type} (N : Nat) (a_n : Nat) (a_l : Nat) (a_c : Nat) (b_n : Nat) (b_l : Nat) (b_c : Nat) (h0_n : Nat) (h0 : Nat → Int) (h1_n : Nat) (h1 : Nat → Int) (K : AV → Heap → Option α) :
    callK Try.prog (E_w_eqPlacesS_l0 α N) 1 44 2 (buildS w_eqPlacesS_a [.n a_n, .n a_l, .n a_c, .n b_n, .n b_l, .n b_c, .n h0_n, .f h0, .n h1_n, .f h1]).t (buildS w_eqPlacesS_a [.n a_n, .n a_l, .n a_c, .n b_n, .n b_l, .n b_c, .n h0_n, .f h0, .n h1_n, .f h1]).h K = w_eqPlacesS none N a_n a_l a_c b_n b_l b_c h0_n h0 h1_n h1 (fun r__ => retK (buildS w_eqPlacesS_r0 [.b r__, .n h0_n, .f h0, .n h1_n, .f h1]) K) := by kernel_rfl
def E_w_eqPlacesS (α : Type) (N : Nat) : Env α := (E_w_eqPlacesS_l0 α N).addFun 44 true 2 w_eqPlacesS_a (fun l K => match l with
    | [.n a_n, .n a_l, .n a_c, .n b_n, .n b_l, .n b_c, .n h0_n, .f h0, .n h1_n, .f h1] => w_eqPlacesS none N a_n a_l a_c b_n b_l b_c h0_n h0 h1_n h1 (fun r__ => retK (buildS w_eqPlacesS_r0 [.b r__, .n h0_n, .f h0, .n h1_n, .f h1]) K)
    | _ => none)
theorem E_w_eqPlacesS_ok {α : Type} (N : Nat) : EnvOk Try.prog (E_w_eqPlacesS α N) := (E_w_eqPlacesS_l0_ok N).addFun prog_mixed prog_names (d := 1) fun l K r h => by
  split at h
  · exact (w_eqPlacesS_run N _ _ _ _ _ _ _ _ _ _ K).trans h
  · cases h

/-- laws.FnExactIsTransitive -/
def w_FnExactIsTransitive_a : SPat := ⟨[.int .i64, .sliceV 0 0 0 4 false], [[.intsV .u8]]⟩
def w_FnExactIsTransitive_r0 : SPat := ⟨[.bool], [[.intsV .u8]]⟩
theorem w_FnExactIsTransitive_run {α : Type} (N : Nat) (aK : Int) (aList_n : Nat) (aList_l : Nat) (aList_c : Nat) (h0_n : Nat) (h0 : Nat → Int) (K : AV → Heap → Option α) :
    callK Try.prog (E_w_eqPlacesS α N) 1 12 1 (buildS w_FnExactIsTransitive_a [.i aK, .n aList_n, .n aList_l, .n aList_c, .n h0_n, .f h0]).t (buildS w_FnExactIsTransitive_a [.i aK, .n aList_n, .n aList_l, .n aList_c, .n h0_n, .f h0]).h K = w_FnExactIsTransitive none N aK aList_n aList_l aList_c h0_n h0 (fun r__ => retK (buildS w_FnExactIsTransitive_r0 [.b r__, .n h0_n, .f h0]) K) := by kernel_rfl
def E_w_FnExactIsTransitive (α : Type) (N : Nat) : Env α := (E_w_eqPlacesS α N).addFun 12 true 1 w_FnExactIsTransitive_a (fun l K => match l with
    | [.i aK, .n aList_n, .n aList_l, .n aList_c, .n h0_n, .f h0] => w_FnExactIsTransitive none N aK aList_n aList_l aList_c h0_n h0 (fun r__ => retK (buildS w_FnExactIsTransitive_r0 [.b r__, .n h0_n, .f h0]) K)
    | _ => none)
theorem E_w_FnExactIsTransitive_ok {α : Type} (N : Nat) : EnvOk Try.prog (E_w_FnExactIsTransitive α N) := (E_w_eqPlacesS_ok N).addFun prog_mixed prog_names (d := 1) fun l K r h => by
  split at h
  · exact (w_FnExactIsTransitive_run N _ _ _ _ _ _ K).trans h
  · cases h
end Go.AM
