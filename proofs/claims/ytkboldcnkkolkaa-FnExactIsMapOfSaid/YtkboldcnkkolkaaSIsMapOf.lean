/- A part of a proof about the given program: an abstract machine, what the given functions come to, and plain laws. -/
import Derived.Test.YtkboldcnkkolkaaAMEnv2
import Derived.Test.YtkboldcnkkolkaaDIsTransitive
import Derived.Test.YtkboldcnkkolkaaDLowerState
import Derived.Test.YtkboldcnkkolkaaDIsPlaces
import Derived.Test.YtkboldcnkkolkaaDIsMosaic
import Derived.Test.YtkboldcnkkolkaaDRelationsOf
import Derived.Test.YtkboldcnkkolkaaDIsMapOf
import Derived.Test.YtkboldcnkkolkaaProg
set_option maxRecDepth 100000
namespace Go.AM
open Go.Proofs

def E0 (α : Type) (N : Nat) : Env α := Env.base (fun _ _ => {}) N
theorem E0_ok {α : Type} (N : Nat) : EnvOk Try.prog (E0 α N) := .base
theorem prog_mixed : Try.prog.follows .mixedOrders = true := by kernel_rfl
theorem prog_names : NamesOk Try.prog := .of_all (by kernel_rfl)
/-- laws.szPlacesS -/
def w_szPlacesS_a : SPat := ⟨[.sliceV 0 0 0 4 false, .int .i64], [[.intsV .u8]]⟩
def w_szPlacesS_r0 : SPat := ⟨[.int .i64], [[.intsV .u8]]⟩
theorem w_szPlacesS_run {α : Type} (N : Nat) (a_n : Nat) (a_l : Nat) (a_c : Nat) (left : Int) (h0_n : Nat) (h0 : Nat → Int) (K : AV → Heap → Option α) :
    callK Try.prog (E0 α N) 1 15 1 (buildS w_szPlacesS_a [.n a_n, .n a_l, .n a_c, .i left, .n h0_n, .f h0]).t (buildS w_szPlacesS_a [.n a_n, .n a_l, .n a_c, .i left, .n h0_n, .f h0]).h K = w_szPlacesS none N a_n a_l a_c left h0_n h0 (fun r__ => retK (buildS w_szPlacesS_r0 [.i r__, .n h0_n, .f h0]) K) := by kernel_rfl
def E_w_szPlacesS (α : Type) (N : Nat) : Env α := (E0 α N).addFun 15 true 1 w_szPlacesS_a (fun l K => match l with
    | [.n a_n, .n a_l, .n a_c, .i left, .n h0_n, .f h0] => w_szPlacesS none N a_n a_l a_c left h0_n h0 (fun r__ => retK (buildS w_szPlacesS_r0 [.i r__, .n h0_n, .f h0]) K)
    | _ => none)
theorem E_w_szPlacesS_ok {α : Type} (N : Nat) : EnvOk Try.prog (E_w_szPlacesS α N) := (E0_ok N).addFun prog_mixed prog_names (d := 1) fun l K r h => by
  split at h
  · exact (w_szPlacesS_run N _ _ _ _ _ _ K).trans h
  · cases h

def A_w_toByteA8_l0 (α : Type) (N : Nat) : Env α := (E_w_szPlacesS α N).addAnn 55 3 { head := [1, 2, 3, 4], grow := [], out := [2, 3], ret := [2] }
theorem A_w_toByteA8_l0_ok {α : Type} (N : Nat) : EnvOk Try.prog (A_w_toByteA8_l0 α N) := (E_w_szPlacesS_ok N).addAnn

/-- laws.toByteA8, loop -/
def w_toByteA8_l0_p : SPat := ⟨[.undef, .ptr ⟨⟨0, 0⟩, 0, 0, 8⟩, .ptr ⟨⟨1, 0⟩, 0, 0, 8⟩, .ptr ⟨⟨2, 0⟩, 0, 0, 8⟩, .int .i64] ++ List.replicate 10 .undef, [[.ints .u8 8], [.ints .u8 8], [.ints .u8 8]]⟩
def w_toByteA8_l0_o0 : SPat := ⟨[.undef, .undef, .ptr ⟨⟨1, 0⟩, 0, 0, 8⟩, .ptr ⟨⟨2, 0⟩, 0, 0, 8⟩] ++ List.replicate 11 .undef, [[.ints .u8 8], [.ints .u8 8], [.ints .u8 8]]⟩
theorem w_toByteA8_l0_round {α : Type} (N : Nat) (i : Int) (h0 : Nat → Int) (h1 : Nat → Int) (h2 : Nat → Int) (kn : St → Option α) (K : AExit → St → Option α) :
    roundK Try.prog (A_w_toByteA8_l0 α N) 1 0 55 Try.f55 3 3 (buildS w_toByteA8_l0_p [.i i, .f h0, .f h1, .f h2]) kn K = w_toByteA8_l0_s none h0 h1 i h2 (fun i h2 => kn (buildS w_toByteA8_l0_p [.i i, .f h0, .f h1, .f h2])) (fun h2_ => K (.exit 0) (buildS w_toByteA8_l0_o0 [.f h0, .f h1, .f h2_])) := by kernel_rfl
theorem w_toByteA8_l0_loop {α : Type} (N : Nat) (h0 : Nat → Int) (h1 : Nat → Int) (K : AExit → St → Option α) : ∀ (m : Nat) (i : Int) (h2 : Nat → Int),
    loopN (trimSt ((A_w_toByteA8_l0 α N).ann 55 3).head ((A_w_toByteA8_l0 α N).ann 55 3).grow 3) (bodyK Try.prog (A_w_toByteA8_l0 α N) 1 0 55 Try.f55 3) m (buildS w_toByteA8_l0_p [.i i, .f h0, .f h1, .f h2]) (leaveLoop ((A_w_toByteA8_l0 α N).ann 55 3) 3 K) = w_toByteA8_l0 none h0 h1 m i h2 (fun h2_ => K (.exit 0) (buildS w_toByteA8_l0_o0 [.f h0, .f h1, .f h2_])) := by
  intro m
  induction m with
  | zero => intros; rfl
  | succ m ih =>
    intro i h2
    rw [loopN_round]
    refine (w_toByteA8_l0_round N i h0 h1 h2 _ K).trans ?_
    simp only [ih]
    rfl
def E_w_toByteA8_l0 (α : Type) (N : Nat) : Env α := (A_w_toByteA8_l0 α N).addLoop2 55 3 (loopSum2 ((A_w_toByteA8_l0 α N).ann 55 3) 0 w_toByteA8_l0_p (fun l K => match l with
    | [.i i, .f h0, .f h1, .f h2] => w_toByteA8_l0 none h0 h1 N i h2 (fun h2_ => K (.exit 0) (buildS w_toByteA8_l0_o0 [.f h0, .f h1, .f h2_]))
    | _ => none) ((A_w_toByteA8_l0 α N).ls 55 3))
theorem E_w_toByteA8_l0_ok {α : Type} (N : Nat) : EnvOk Try.prog (E_w_toByteA8_l0 α N) := (A_w_toByteA8_l0_ok N).addLoop2 Try.func55 (by kernel_rfl) (loopSum_ok prog_mixed prog_names (A_w_toByteA8_l0_ok N) Try.func55 (by kernel_rfl) (d := 1) (ro := 0) fun l K r h => by
  split at h
  · exact (w_toByteA8_l0_loop N _ _ K N _ _).trans h
  · cases h)

/-- laws.toByteA8 -/
def w_toByteA8_a : SPat := ⟨[.agg [.ints .u8 8]], []⟩
def w_toByteA8_r0 : SPat := ⟨[.agg [.ints .u8 8]], []⟩
theorem w_toByteA8_run {α : Type} (N : Nat) (a : Nat → Int) (K : AV → Heap → Option α) :
    callK Try.prog (E_w_toByteA8_l0 α N) 1 55 0 (buildS w_toByteA8_a [.f a]).t (buildS w_toByteA8_a [.f a]).h K = w_toByteA8 none N a (fun r__ => retK (buildS w_toByteA8_r0 [.f r__]) K) := by kernel_rfl
def E_w_toByteA8 (α : Type) (N : Nat) : Env α := (E_w_toByteA8_l0 α N).addFun 55 true 0 w_toByteA8_a (fun l K => match l with
    | [.f a] => w_toByteA8 none N a (fun r__ => retK (buildS w_toByteA8_r0 [.f r__]) K)
    | _ => none)
theorem E_w_toByteA8_ok {α : Type} (N : Nat) : EnvOk Try.prog (E_w_toByteA8 α N) := (E_w_toByteA8_l0_ok N).addFun prog_mixed prog_names (d := 1) fun l K r h => by
  split at h
  · exact (w_toByteA8_run N _ K).trans h
  · cases h

/-- laws.toGrid -/
def w_toGrid_a : SPat := ⟨[.agg [.vals [.int .i64], .ints .u8 8, .ints .u8 8]], []⟩
def w_toGrid_r0 : SPat := ⟨[.agg [.vals [.int .i64], .ints .u8 8, .ints .u8 8]], []⟩
theorem w_toGrid_run {α : Type} (N : Nat) (a_0 : Int) (a_1 : Nat → Int) (a_2 : Nat → Int) (K : AV → Heap → Option α) :
    callK Try.prog (E_w_toByteA8 α N) 1 17 0 (buildS w_toGrid_a [.i a_0, .f a_1, .f a_2]).t (buildS w_toGrid_a [.i a_0, .f a_1, .f a_2]).h K = w_toGrid none N a_0 a_1 a_2 (fun r_1_ r_2_ => retK (buildS w_toGrid_r0 [.i a_0, .f r_1_, .f r_2_]) K) := by kernel_rfl
def E_w_toGrid (α : Type) (N : Nat) : Env α := (E_w_toByteA8 α N).addFun 17 true 0 w_toGrid_a (fun l K => match l with
    | [.i a_0, .f a_1, .f a_2] => w_toGrid none N a_0 a_1 a_2 (fun r_1_ r_2_ => retK (buildS w_toGrid_r0 [.i a_0, .f r_1_, .f r_2_]) K)
    | _ => none)
theorem E_w_toGrid_ok {α : Type} (N : Nat) : EnvOk Try.prog (E_w_toGrid α N) := (E_w_toByteA8_ok N).addFun prog_mixed prog_names (d := 1) fun l K r h => by
  split at h
  · exact (w_toGrid_run N _ _ _ K).trans h
  · cases h

def A_w_toPlacesS_l0 (α : Type) (N : Nat) : Env α := (E_w_toGrid α N).addAnn 18 3 { head := [0, 3, 4], grow := [], out := [3], ret := [2] }
theorem A_w_toPlacesS_l0_ok {α : Type} (N : Nat) : EnvOk Try.prog (A_w_toPlacesS_l0 α N) := (E_w_toGrid_ok N).addAnn

def A_w_toPlaces_l0 (α : Type) (N : Nat) : Env α := (A_w_toPlacesS_l0 α N).addAnn 56 3 { head := [1, 2, 3, 4], grow := [], out := [2, 3], ret := [2] }
theorem A_w_toPlaces_l0_ok {α : Type} (N : Nat) : EnvOk Try.prog (A_w_toPlaces_l0 α N) := (A_w_toPlacesS_l0_ok N).addAnn

/-- laws.toPlaces, loop -/
def w_toPlaces_l0_p : SPat := ⟨[.undef, .ptr ⟨⟨0, 0⟩, 0, 0, 4⟩, .ptr ⟨⟨1, 0⟩, 0, 0, 4⟩, .ptr ⟨⟨2, 0⟩, 0, 0, 4⟩, .int .i64] ++ List.replicate 10 .undef, [[.ints .u8 4], [.ints .u8 4], [.ints .u8 4]]⟩
def w_toPlaces_l0_o0 : SPat := ⟨[.undef, .undef, .ptr ⟨⟨1, 0⟩, 0, 0, 4⟩, .ptr ⟨⟨2, 0⟩, 0, 0, 4⟩] ++ List.replicate 11 .undef, [[.ints .u8 4], [.ints .u8 4], [.ints .u8 4]]⟩
theorem w_toPlaces_l0_round {α : Type} (N : Nat) (i : Int) (h0 : Nat → Int) (h1 : Nat → Int) (h2 : Nat → Int) (kn : St → Option α) (K : AExit → St → Option α) :
    roundK Try.prog (A_w_toPlaces_l0 α N) 1 0 56 Try.f56 3 3 (buildS w_toPlaces_l0_p [.i i, .f h0, .f h1, .f h2]) kn K = w_toPlaces_l0_s none h0 h1 i h2 (fun i h2 => kn (buildS w_toPlaces_l0_p [.i i, .f h0, .f h1, .f h2])) (fun h2_ => K (.exit 0) (buildS w_toPlaces_l0_o0 [.f h0, .f h1, .f h2_])) := by kernel_rfl
theorem w_toPlaces_l0_loop {α : Type} (N : Nat) (h0 : Nat → Int) (h1 : Nat → Int) (K : AExit → St → Option α) : ∀ (m : Nat) (i : Int) (h2 : Nat → Int),
    loopN (trimSt ((A_w_toPlaces_l0 α N).ann 56 3).head ((A_w_toPlaces_l0 α N).ann 56 3).grow 3) (bodyK Try.prog (A_w_toPlaces_l0 α N) 1 0 56 Try.f56 3) m (buildS w_toPlaces_l0_p [.i i, .f h0, .f h1, .f h2]) (leaveLoop ((A_w_toPlaces_l0 α N).ann 56 3) 3 K) = w_toPlaces_l0 none h0 h1 m i h2 (fun h2_ => K (.exit 0) (buildS w_toPlaces_l0_o0 [.f h0, .f h1, .f h2_])) := by
  intro m
  induction m with
  | zero => intros; rfl
  | succ m ih =>
    intro i h2
    rw [loopN_round]
    refine (w_toPlaces_l0_round N i h0 h1 h2 _ K).trans ?_
    simp only [ih]
    rfl
def E_w_toPlaces_l0 (α : Type) (N : Nat) : Env α := (A_w_toPlaces_l0 α N).addLoop2 56 3 (loopSum2 ((A_w_toPlaces_l0 α N).ann 56 3) 0 w_toPlaces_l0_p (fun l K => match l with
    | [.i i, .f h0, .f h1, .f h2] => w_toPlaces_l0 none h0 h1 N i h2 (fun h2_ => K (.exit 0) (buildS w_toPlaces_l0_o0 [.f h0, .f h1, .f h2_]))
    | _ => none) ((A_w_toPlaces_l0 α N).ls 56 3))
theorem E_w_toPlaces_l0_ok {α : Type} (N : Nat) : EnvOk Try.prog (E_w_toPlaces_l0 α N) := (A_w_toPlaces_l0_ok N).addLoop2 Try.func56 (by kernel_rfl) (loopSum_ok prog_mixed prog_names (A_w_toPlaces_l0_ok N) Try.func56 (by kernel_rfl) (d := 1) (ro := 0) fun l K r h => by
  split at h
  · exact (w_toPlaces_l0_loop N _ _ K N _ _).trans h
  · cases h)

/-- laws.toPlaces -/
def w_toPlaces_a : SPat := ⟨[.agg [.ints .u8 4]], []⟩
def w_toPlaces_r0 : SPat := ⟨[.agg [.ints .u8 4]], []⟩
theorem w_toPlaces_run {α : Type} (N : Nat) (a : Nat → Int) (K : AV → Heap → Option α) :
    callK Try.prog (E_w_toPlaces_l0 α N) 1 56 0 (buildS w_toPlaces_a [.f a]).t (buildS w_toPlaces_a [.f a]).h K = w_toPlaces none N a (fun r__ => retK (buildS w_toPlaces_r0 [.f r__]) K) := by kernel_rfl
def E_w_toPlaces (α : Type) (N : Nat) : Env α := (E_w_toPlaces_l0 α N).addFun 56 true 0 w_toPlaces_a (fun l K => match l with
    | [.f a] => w_toPlaces none N a (fun r__ => retK (buildS w_toPlaces_r0 [.f r__]) K)
    | _ => none)
theorem E_w_toPlaces_ok {α : Type} (N : Nat) : EnvOk Try.prog (E_w_toPlaces α N) := (E_w_toPlaces_l0_ok N).addFun prog_mixed prog_names (d := 1) fun l K r h => by
  split at h
  · exact (w_toPlaces_run N _ K).trans h
  · cases h

/-- laws.toPlacesS, loop -/
def w_toPlacesS_l0_p : SPat := ⟨[.sliceV 0 0 0 4 false, .undef, .undef, .sliceV 1 0 0 4 true, .int .i64] ++ List.replicate 18 .undef, [[.intsV .u8], [.intsV .u8]]⟩
def w_toPlacesS_l0_o0 : SPat := ⟨[.undef, .undef, .undef, .sliceV 1 0 0 4 true] ++ List.replicate 19 .undef, [[.intsV .u8], [.intsV .u8]]⟩
theorem w_toPlacesS_l0_round {α : Type} (N : Nat) (a_n : Nat) (a_l : Nat) (a_c : Nat) (out_n : Nat) (out_l : Nat) (out_c : Nat) (i : Int) (h0_n : Nat) (h0 : Nat → Int) (h1_n : Nat) (h1 : Nat → Int) (kn : St → Option α) (K : AExit → St → Option α) :
    roundK Try.prog (E_w_toPlaces α N) 1 1 18 Try.f18 3 2 (buildS w_toPlacesS_l0_p [.n a_n, .n a_l, .n a_c, .n out_n, .n out_l, .n out_c, .i i, .n h0_n, .f h0, .n h1_n, .f h1]) kn K = w_toPlacesS_l0_s none N a_n a_l a_c out_n out_l out_c h0_n h0 h1_n i h1 (fun i h1 => kn (buildS w_toPlacesS_l0_p [.n a_n, .n a_l, .n a_c, .n out_n, .n out_l, .n out_c, .i i, .n h0_n, .f h0, .n h1_n, .f h1])) (fun h1_ => K (.exit 0) (buildS w_toPlacesS_l0_o0 [.n out_n, .n out_l, .n out_c, .n h0_n, .f h0, .n h1_n, .f h1_])) := by kernel_rfl
theorem w_toPlacesS_l0_loop {α : Type} (N : Nat) (a_n : Nat) (a_l : Nat) (a_c : Nat) (out_n : Nat) (out_l : Nat) (out_c : Nat) (h0_n : Nat) (h0 : Nat → Int) (h1_n : Nat) (K : AExit → St → Option α) : ∀ (m : Nat) (i : Int) (h1 : Nat → Int),
    loopN (trimSt ((E_w_toPlaces α N).ann 18 3).head ((E_w_toPlaces α N).ann 18 3).grow 2) (bodyK Try.prog (E_w_toPlaces α N) 1 1 18 Try.f18 3) m (buildS w_toPlacesS_l0_p [.n a_n, .n a_l, .n a_c, .n out_n, .n out_l, .n out_c, .i i, .n h0_n, .f h0, .n h1_n, .f h1]) (leaveLoop ((E_w_toPlaces α N).ann 18 3) 2 K) = w_toPlacesS_l0 none N a_n a_l a_c out_n out_l out_c h0_n h0 h1_n m i h1 (fun h1_ => K (.exit 0) (buildS w_toPlacesS_l0_o0 [.n out_n, .n out_l, .n out_c, .n h0_n, .f h0, .n h1_n, .f h1_])) := by
  intro m
  induction m with
  | zero => intros; rfl
  | succ m ih =>
    intro i h1
    rw [loopN_round]
    refine (w_toPlacesS_l0_round N a_n a_l a_c out_n out_l out_c i h0_n h0 h1_n h1 _ K).trans ?_
    simp only [ih]
    rfl
def E_w_toPlacesS_l0 (α : Type) (N : Nat) : Env α := (E_w_toPlaces α N).addLoop2 18 3 (loopSum2 ((E_w_toPlaces α N).ann 18 3) 1 w_toPlacesS_l0_p (fun l K => match l with
    | [.n a_n, .n a_l, .n a_c, .n out_n, .n out_l, .n out_c, .i i, .n h0_n, .f h0, .n h1_n, .f h1] => w_toPlacesS_l0 none N a_n a_l a_c out_n out_l out_c h0_n h0 h1_n N i h1 (fun h1_ => K (.exit 0) (buildS w_toPlacesS_l0_o0 [.n out_n, .n out_l, .n out_c, .n h0_n, .f h0, .n h1_n, .f h1_]))
    | _ => none) ((E_w_toPlaces α N).ls 18 3))
theorem E_w_toPlacesS_l0_ok {α : Type} (N : Nat) : EnvOk Try.prog (E_w_toPlacesS_l0 α N) := (E_w_toPlaces_ok N).addLoop2 Try.func18 (by kernel_rfl) (loopSum_ok prog_mixed prog_names (E_w_toPlaces_ok N) Try.func18 (by kernel_rfl) (d := 1) (ro := 1) fun l K r h => by
  split at h
  · exact (w_toPlacesS_l0_loop N _ _ _ _ _ _ _ _ _ K N _ _).trans h
  · cases h)

/-- laws.toPlacesS -/
def w_toPlacesS_a : SPat := ⟨[.sliceV 0 0 0 4 false], [[.intsV .u8]]⟩
def w_toPlacesS_r0 : SPat := ⟨[.sliceV 1 0 0 4 true], [[.intsV .u8], [.intsV .u8]]⟩
theorem w_toPlacesS_run {α : Type} (N : Nat) (a_n : Nat) (a_l : Nat) (a_c : Nat) (h0_n : Nat) (h0 : Nat → Int) (K : AV → Heap → Option α) :
    callK Try.prog (E_w_toPlacesS_l0 α N) 1 18 1 (buildS w_toPlacesS_a [.n a_n, .n a_l, .n a_c, .n h0_n, .f h0]).t (buildS w_toPlacesS_a [.n a_n, .n a_l, .n a_c, .n h0_n, .f h0]).h K = w_toPlacesS none N a_n a_l a_c h0_n h0 (fun r_n_ r_l_ r_c_ h1_n_ h1_ => retK (buildS w_toPlacesS_r0 [.n r_n_, .n r_l_, .n r_c_, .n h0_n, .f h0, .n h1_n_, .f h1_]) K) := by kernel_rfl
def E_w_toPlacesS (α : Type) (N : Nat) : Env α := (E_w_toPlacesS_l0 α N).addFun 18 true 1 w_toPlacesS_a (fun l K => match l with
    | [.n a_n, .n a_l, .n a_c, .n h0_n, .f h0] => w_toPlacesS none N a_n a_l a_c h0_n h0 (fun r_n_ r_l_ r_c_ h1_n_ h1_ => retK (buildS w_toPlacesS_r0 [.n r_n_, .n r_l_, .n r_c_, .n h0_n, .f h0, .n h1_n_, .f h1_]) K)
    | _ => none)
theorem E_w_toPlacesS_ok {α : Type} (N : Nat) : EnvOk Try.prog (E_w_toPlacesS α N) := (E_w_toPlacesS_l0_ok N).addFun prog_mixed prog_names (d := 1) fun l K r h => by
  split at h
  · exact (w_toPlacesS_run N _ _ _ _ _ K).trans h
  · cases h

/-- spec.l01In -/
def s_l01In_a : SPat := ⟨[.int .i64, .int .i64, .int .i64], []⟩
def s_l01In_r0 : SPat := ⟨[.bool], []⟩
theorem s_l01In_run {α : Type} (N : Nat) (n : Int) (low : Int) (high : Int) (K : AV → Heap → Option α) :
    callK Try.prog (E_w_toPlacesS α N) 1 98 0 (buildS s_l01In_a [.i n, .i low, .i high]).t (buildS s_l01In_a [.i n, .i low, .i high]).h K = s_l01In none N n low high (fun r__ => retK (buildS s_l01In_r0 [.b r__]) K) := by kernel_rfl
def E_s_l01In (α : Type) (N : Nat) : Env α := (E_w_toPlacesS α N).addFun 98 true 0 s_l01In_a (fun l K => match l with
    | [.i n, .i low, .i high] => s_l01In none N n low high (fun r__ => retK (buildS s_l01In_r0 [.b r__]) K)
    | _ => none)
theorem E_s_l01In_ok {α : Type} (N : Nat) : EnvOk Try.prog (E_s_l01In α N) := (E_w_toPlacesS_ok N).addFun prog_mixed prog_names (d := 1) fun l K r h => by
  split at h
  · exact (s_l01In_run N _ _ _ K).trans h
  · cases h

def A_s_l01Perm_l0 (α : Type) (N : Nat) : Env α := (E_s_l01In α N).addAnn 114 3 { head := [1, 2, 5, 6], grow := [], out := [], ret := [4] }
theorem A_s_l01Perm_l0_ok {α : Type} (N : Nat) : EnvOk Try.prog (A_s_l01Perm_l0 α N) := (E_s_l01In_ok N).addAnn

/-- spec.l01Perm, loop -/
def s_l01Perm_l0_p : SPat := ⟨[.undef, .int .i64, .ptr ⟨⟨0, 0⟩, 0, 0, 8⟩, .undef, .undef, .ptr ⟨⟨1, 0⟩, 0, 0, 8⟩, .int .i64] ++ List.replicate 29 .undef, [[.ints .u8 8], [.bools 8]]⟩
def s_l01Perm_l0_o0 : SPat := ⟨[.undef, .undef, .undef, .undef, .boolC false] ++ List.replicate 31 .undef, [[.ints .u8 8], [.bools 8]]⟩
def s_l01Perm_l0_o1 : SPat := ⟨[] ++ List.replicate 36 .undef, [[.ints .u8 8], [.bools 8]]⟩
theorem s_l01Perm_l0_round {α : Type} (N : Nat) (n : Int) (i : Int) (h0 : Nat → Int) (h1 : Nat → Bool) (kn : St → Option α) (K : AExit → St → Option α) :
    roundK Try.prog (A_s_l01Perm_l0 α N) 1 0 114 Try.f114 3 2 (buildS s_l01Perm_l0_p [.i n, .i i, .f h0, .g h1]) kn K = s_l01Perm_l0_s none n h0 i h1 (fun i h1 => kn (buildS s_l01Perm_l0_p [.i n, .i i, .f h0, .g h1])) (fun h1_ => K .ret (buildS s_l01Perm_l0_o0 [.f h0, .g h1_])) (fun h1_ => K (.exit 0) (buildS s_l01Perm_l0_o1 [.f h0, .g h1_])) := by kernel_rfl
theorem s_l01Perm_l0_loop {α : Type} (N : Nat) (n : Int) (h0 : Nat → Int) (K : AExit → St → Option α) : ∀ (m : Nat) (i : Int) (h1 : Nat → Bool),
    loopN (trimSt ((A_s_l01Perm_l0 α N).ann 114 3).head ((A_s_l01Perm_l0 α N).ann 114 3).grow 2) (bodyK Try.prog (A_s_l01Perm_l0 α N) 1 0 114 Try.f114 3) m (buildS s_l01Perm_l0_p [.i n, .i i, .f h0, .g h1]) (leaveLoop ((A_s_l01Perm_l0 α N).ann 114 3) 2 K) = s_l01Perm_l0 none n h0 m i h1 (fun h1_ => K .ret (buildS s_l01Perm_l0_o0 [.f h0, .g h1_])) (fun h1_ => K (.exit 0) (buildS s_l01Perm_l0_o1 [.f h0, .g h1_])) := by
  intro m
  induction m with
  | zero => intros; rfl
  | succ m ih =>
    intro i h1
    rw [loopN_round]
    refine (s_l01Perm_l0_round N n i h0 h1 _ K).trans ?_
    simp only [ih]
    rfl
def E_s_l01Perm_l0 (α : Type) (N : Nat) : Env α := (A_s_l01Perm_l0 α N).addLoop2 114 3 (loopSum2 ((A_s_l01Perm_l0 α N).ann 114 3) 0 s_l01Perm_l0_p (fun l K => match l with
    | [.i n, .i i, .f h0, .g h1] => s_l01Perm_l0 none n h0 N i h1 (fun h1_ => K .ret (buildS s_l01Perm_l0_o0 [.f h0, .g h1_])) (fun h1_ => K (.exit 0) (buildS s_l01Perm_l0_o1 [.f h0, .g h1_]))
    | _ => none) ((A_s_l01Perm_l0 α N).ls 114 3))
theorem E_s_l01Perm_l0_ok {α : Type} (N : Nat) : EnvOk Try.prog (E_s_l01Perm_l0 α N) := (A_s_l01Perm_l0_ok N).addLoop2 Try.func114 (by kernel_rfl) (loopSum_ok prog_mixed prog_names (A_s_l01Perm_l0_ok N) Try.func114 (by kernel_rfl) (d := 1) (ro := 0) fun l K r h => by
  split at h
  · exact (s_l01Perm_l0_loop N _ _ K N _ _).trans h
  · cases h)

/-- spec.l01Perm -/
def s_l01Perm_a : SPat := ⟨[.agg [.ints .u8 8], .int .i64], []⟩
def s_l01Perm_r0 : SPat := ⟨[.bool], []⟩
theorem s_l01Perm_run {α : Type} (N : Nat) (list : Nat → Int) (n : Int) (K : AV → Heap → Option α) :
    callK Try.prog (E_s_l01Perm_l0 α N) 1 114 0 (buildS s_l01Perm_a [.f list, .i n]).t (buildS s_l01Perm_a [.f list, .i n]).h K = s_l01Perm none N list n (fun r__ => retK (buildS s_l01Perm_r0 [.b r__]) K) := by kernel_rfl
def E_s_l01Perm (α : Type) (N : Nat) : Env α := (E_s_l01Perm_l0 α N).addFun 114 true 0 s_l01Perm_a (fun l K => match l with
    | [.f list, .i n] => s_l01Perm none N list n (fun r__ => retK (buildS s_l01Perm_r0 [.b r__]) K)
    | _ => none)
theorem E_s_l01Perm_ok {α : Type} (N : Nat) : EnvOk Try.prog (E_s_l01Perm α N) := (E_s_l01Perm_l0_ok N).addFun prog_mixed prog_names (d := 1) fun l K r h => by
  split at h
  · exact (s_l01Perm_run N _ _ K).trans h
  · cases h

def A_s_l01Is_l0 (α : Type) (N : Nat) : Env α := (E_s_l01Perm α N).addAnn 52 4 { head := [1, 3], grow := [], out := [], ret := [2] }
theorem A_s_l01Is_l0_ok {α : Type} (N : Nat) : EnvOk Try.prog (A_s_l01Is_l0 α N) := (E_s_l01Perm_ok N).addAnn

/-- spec.l01Is, loop -/
def s_l01Is_l0_p : SPat := ⟨[.undef, .ptr ⟨⟨0, 0⟩, 0, 0, 1⟩, .undef, .int .i64] ++ List.replicate 35 .undef, [[.vals [.int .i64], .ints .u8 8, .ints .u8 8]]⟩
def s_l01Is_l0_o0 : SPat := ⟨[.undef, .undef, .boolC false] ++ List.replicate 36 .undef, [[.vals [.int .i64], .ints .u8 8, .ints .u8 8]]⟩
def s_l01Is_l0_o1 : SPat := ⟨[] ++ List.replicate 39 .undef, [[.vals [.int .i64], .ints .u8 8, .ints .u8 8]]⟩
theorem s_l01Is_l0_round {α : Type} (N : Nat) (i : Int) (h0_0 : Int) (h0_1 : Nat → Int) (h0_2 : Nat → Int) (kn : St → Option α) (K : AExit → St → Option α) :
    roundK Try.prog (A_s_l01Is_l0 α N) 1 0 52 Try.f52 4 1 (buildS s_l01Is_l0_p [.i i, .i h0_0, .f h0_1, .f h0_2]) kn K = s_l01Is_l0_s none h0_0 h0_1 h0_2 i (fun i => kn (buildS s_l01Is_l0_p [.i i, .i h0_0, .f h0_1, .f h0_2])) (K .ret (buildS s_l01Is_l0_o0 [.i h0_0, .f h0_1, .f h0_2])) (K (.exit 0) (buildS s_l01Is_l0_o1 [.i h0_0, .f h0_1, .f h0_2])) := by kernel_rfl
theorem s_l01Is_l0_loop {α : Type} (N : Nat) (h0_0 : Int) (h0_1 : Nat → Int) (h0_2 : Nat → Int) (K : AExit → St → Option α) : ∀ (m : Nat) (i : Int),
    loopN (trimSt ((A_s_l01Is_l0 α N).ann 52 4).head ((A_s_l01Is_l0 α N).ann 52 4).grow 1) (bodyK Try.prog (A_s_l01Is_l0 α N) 1 0 52 Try.f52 4) m (buildS s_l01Is_l0_p [.i i, .i h0_0, .f h0_1, .f h0_2]) (leaveLoop ((A_s_l01Is_l0 α N).ann 52 4) 1 K) = s_l01Is_l0 none h0_0 h0_1 h0_2 m i (K .ret (buildS s_l01Is_l0_o0 [.i h0_0, .f h0_1, .f h0_2])) (K (.exit 0) (buildS s_l01Is_l0_o1 [.i h0_0, .f h0_1, .f h0_2])) := by
  intro m
  induction m with
  | zero => intros; rfl
  | succ m ih =>
    intro i
    rw [loopN_round]
    refine (s_l01Is_l0_round N i h0_0 h0_1 h0_2 _ K).trans ?_
    simp only [ih]
    rfl
def E_s_l01Is_l0 (α : Type) (N : Nat) : Env α := (A_s_l01Is_l0 α N).addLoop2 52 4 (loopSum2 ((A_s_l01Is_l0 α N).ann 52 4) 0 s_l01Is_l0_p (fun l K => match l with
    | [.i i, .i h0_0, .f h0_1, .f h0_2] => s_l01Is_l0 none h0_0 h0_1 h0_2 N i (K .ret (buildS s_l01Is_l0_o0 [.i h0_0, .f h0_1, .f h0_2])) (K (.exit 0) (buildS s_l01Is_l0_o1 [.i h0_0, .f h0_1, .f h0_2]))
    | _ => none) ((A_s_l01Is_l0 α N).ls 52 4))
theorem E_s_l01Is_l0_ok {α : Type} (N : Nat) : EnvOk Try.prog (E_s_l01Is_l0 α N) := (A_s_l01Is_l0_ok N).addLoop2 Try.func52 (by kernel_rfl) (loopSum_ok prog_mixed prog_names (A_s_l01Is_l0_ok N) Try.func52 (by kernel_rfl) (d := 1) (ro := 0) fun l K r h => by
  split at h
  · exact (s_l01Is_l0_loop N _ _ _ K N _).trans h
  · cases h)

/-- spec.l01Is -/
def s_l01Is_a : SPat := ⟨[.agg [.vals [.int .i64], .ints .u8 8, .ints .u8 8]], []⟩
def s_l01Is_r0 : SPat := ⟨[.bool], []⟩
theorem s_l01Is_run {α : Type} (N : Nat) (g_0 : Int) (g_1 : Nat → Int) (g_2 : Nat → Int) (K : AV → Heap → Option α) :
    callK Try.prog (E_s_l01Is_l0 α N) 1 52 0 (buildS s_l01Is_a [.i g_0, .f g_1, .f g_2]).t (buildS s_l01Is_a [.i g_0, .f g_1, .f g_2]).h K = s_l01Is none N g_0 g_1 g_2 (fun r__ => retK (buildS s_l01Is_r0 [.b r__]) K) := by kernel_rfl
def E_s_l01Is (α : Type) (N : Nat) : Env α := (E_s_l01Is_l0 α N).addFun 52 true 0 s_l01Is_a (fun l K => match l with
    | [.i g_0, .f g_1, .f g_2] => s_l01Is none N g_0 g_1 g_2 (fun r__ => retK (buildS s_l01Is_r0 [.b r__]) K)
    | _ => none)
theorem E_s_l01Is_ok {α : Type} (N : Nat) : EnvOk Try.prog (E_s_l01Is α N) := (E_s_l01Is_l0_ok N).addFun prog_mixed prog_names (d := 1) fun l K r h => by
  split at h
  · exact (s_l01Is_run N _ _ _ K).trans h
  · cases h

def A_s_l08List_l0 (α : Type) (N : Nat) : Env α := (E_s_l01Is α N).addAnn 53 4 { head := [0, 1, 5], grow := [], out := [], ret := [4] }
theorem A_s_l08List_l0_ok {α : Type} (N : Nat) : EnvOk Try.prog (A_s_l08List_l0 α N) := (E_s_l01Is_ok N).addAnn

def A_s_l08Is_l0 (α : Type) (N : Nat) : Env α := (A_s_l08List_l0 α N).addAnn 115 5 { head := [1, 2, 5, 6], grow := [], out := [], ret := [4] }
theorem A_s_l08Is_l0_ok {α : Type} (N : Nat) : EnvOk Try.prog (A_s_l08Is_l0 α N) := (A_s_l08List_l0_ok N).addAnn

/-- spec.l08Is, loop -/
def s_l08Is_l0_p : SPat := ⟨[.undef, .int .i64, .ptr ⟨⟨0, 0⟩, 0, 0, 4⟩, .undef, .undef, .ptr ⟨⟨1, 0⟩, 0, 0, 4⟩, .int .i64] ++ List.replicate 32 .undef, [[.ints .u8 4], [.bools 4]]⟩
def s_l08Is_l0_o0 : SPat := ⟨[.undef, .undef, .undef, .undef, .boolC false] ++ List.replicate 34 .undef, [[.ints .u8 4], [.bools 4]]⟩
def s_l08Is_l0_o1 : SPat := ⟨[] ++ List.replicate 39 .undef, [[.ints .u8 4], [.bools 4]]⟩
theorem s_l08Is_l0_round {α : Type} (N : Nat) (k : Int) (x : Int) (h0 : Nat → Int) (h1 : Nat → Bool) (kn : St → Option α) (K : AExit → St → Option α) :
    roundK Try.prog (A_s_l08Is_l0 α N) 1 0 115 Try.f115 5 2 (buildS s_l08Is_l0_p [.i k, .i x, .f h0, .g h1]) kn K = s_l08Is_l0_s none k h0 x h1 (fun x h1 => kn (buildS s_l08Is_l0_p [.i k, .i x, .f h0, .g h1])) (fun h1_ => K .ret (buildS s_l08Is_l0_o0 [.f h0, .g h1_])) (fun h1_ => K (.exit 0) (buildS s_l08Is_l0_o1 [.f h0, .g h1_])) := by kernel_rfl
theorem s_l08Is_l0_loop {α : Type} (N : Nat) (k : Int) (h0 : Nat → Int) (K : AExit → St → Option α) : ∀ (m : Nat) (x : Int) (h1 : Nat → Bool),
    loopN (trimSt ((A_s_l08Is_l0 α N).ann 115 5).head ((A_s_l08Is_l0 α N).ann 115 5).grow 2) (bodyK Try.prog (A_s_l08Is_l0 α N) 1 0 115 Try.f115 5) m (buildS s_l08Is_l0_p [.i k, .i x, .f h0, .g h1]) (leaveLoop ((A_s_l08Is_l0 α N).ann 115 5) 2 K) = s_l08Is_l0 none k h0 m x h1 (fun h1_ => K .ret (buildS s_l08Is_l0_o0 [.f h0, .g h1_])) (fun h1_ => K (.exit 0) (buildS s_l08Is_l0_o1 [.f h0, .g h1_])) := by
  intro m
  induction m with
  | zero => intros; rfl
  | succ m ih =>
    intro x h1
    rw [loopN_round]
    refine (s_l08Is_l0_round N k x h0 h1 _ K).trans ?_
    simp only [ih]
    rfl
def E_s_l08Is_l0 (α : Type) (N : Nat) : Env α := (A_s_l08Is_l0 α N).addLoop2 115 5 (loopSum2 ((A_s_l08Is_l0 α N).ann 115 5) 0 s_l08Is_l0_p (fun l K => match l with
    | [.i k, .i x, .f h0, .g h1] => s_l08Is_l0 none k h0 N x h1 (fun h1_ => K .ret (buildS s_l08Is_l0_o0 [.f h0, .g h1_])) (fun h1_ => K (.exit 0) (buildS s_l08Is_l0_o1 [.f h0, .g h1_]))
    | _ => none) ((A_s_l08Is_l0 α N).ls 115 5))
theorem E_s_l08Is_l0_ok {α : Type} (N : Nat) : EnvOk Try.prog (E_s_l08Is_l0 α N) := (A_s_l08Is_l0_ok N).addLoop2 Try.func115 (by kernel_rfl) (loopSum_ok prog_mixed prog_names (A_s_l08Is_l0_ok N) Try.func115 (by kernel_rfl) (d := 1) (ro := 0) fun l K r h => by
  split at h
  · exact (s_l08Is_l0_loop N _ _ K N _ _).trans h
  · cases h)

/-- spec.l08Is -/
def s_l08Is_a : SPat := ⟨[.agg [.ints .u8 4], .int .i64], []⟩
def s_l08Is_r0 : SPat := ⟨[.bool], []⟩
theorem s_l08Is_run {α : Type} (N : Nat) (q : Nat → Int) (k : Int) (K : AV → Heap → Option α) :
    callK Try.prog (E_s_l08Is_l0 α N) 1 115 0 (buildS s_l08Is_a [.f q, .i k]).t (buildS s_l08Is_a [.f q, .i k]).h K = s_l08Is none N q k (fun r__ => retK (buildS s_l08Is_r0 [.b r__]) K) := by kernel_rfl
def E_s_l08Is (α : Type) (N : Nat) : Env α := (E_s_l08Is_l0 α N).addFun 115 true 0 s_l08Is_a (fun l K => match l with
    | [.f q, .i k] => s_l08Is none N q k (fun r__ => retK (buildS s_l08Is_r0 [.b r__]) K)
    | _ => none)
theorem E_s_l08Is_ok {α : Type} (N : Nat) : EnvOk Try.prog (E_s_l08Is α N) := (E_s_l08Is_l0_ok N).addFun prog_mixed prog_names (d := 1) fun l K r h => by
  split at h
  · exact (s_l08Is_run N _ _ K).trans h
  · cases h

/-- spec.l08List, loop -/
def s_l08List_l0_p : SPat := ⟨[.int .i64, .sliceV 0 0 0 4 true, .undef, .undef, .undef, .int .i64] ++ List.replicate 16 .undef, [[.intsV .u8]]⟩
def s_l08List_l0_o0 : SPat := ⟨[.undef, .undef, .undef, .undef, .intC .i64 2] ++ List.replicate 17 .undef, [[.intsV .u8]]⟩
def s_l08List_l0_o1 : SPat := ⟨[] ++ List.replicate 22 .undef, [[.intsV .u8]]⟩
theorem s_l08List_l0_round {α : Type} (N : Nat) (k : Int) (list_n : Nat) (list_l : Nat) (list_c : Nat) (i : Int) (h0_n : Nat) (h0 : Nat → Int) (kn : St → Option α) (K : AExit → St → Option α) :
    roundK Try.prog (E_s_l08Is α N) 1 1 53 Try.f53 4 1 (buildS s_l08List_l0_p [.i k, .n list_n, .n list_l, .n list_c, .i i, .n h0_n, .f h0]) kn K = s_l08List_l0_s none N k list_n list_l list_c h0_n h0 i (fun i => kn (buildS s_l08List_l0_p [.i k, .n list_n, .n list_l, .n list_c, .i i, .n h0_n, .f h0])) (K .ret (buildS s_l08List_l0_o0 [.n h0_n, .f h0])) (K (.exit 0) (buildS s_l08List_l0_o1 [.n h0_n, .f h0])) := by kernel_rfl
theorem s_l08List_l0_loop {α : Type} (N : Nat) (k : Int) (list_n : Nat) (list_l : Nat) (list_c : Nat) (h0_n : Nat) (h0 : Nat → Int) (K : AExit → St → Option α) : ∀ (m : Nat) (i : Int),
    loopN (trimSt ((E_s_l08Is α N).ann 53 4).head ((E_s_l08Is α N).ann 53 4).grow 1) (bodyK Try.prog (E_s_l08Is α N) 1 1 53 Try.f53 4) m (buildS s_l08List_l0_p [.i k, .n list_n, .n list_l, .n list_c, .i i, .n h0_n, .f h0]) (leaveLoop ((E_s_l08Is α N).ann 53 4) 1 K) = s_l08List_l0 none N k list_n list_l list_c h0_n h0 m i (K .ret (buildS s_l08List_l0_o0 [.n h0_n, .f h0])) (K (.exit 0) (buildS s_l08List_l0_o1 [.n h0_n, .f h0])) := by
  intro m
  induction m with
  | zero => intros; rfl
  | succ m ih =>
    intro i
    rw [loopN_round]
    refine (s_l08List_l0_round N k list_n list_l list_c i h0_n h0 _ K).trans ?_
    simp only [ih]
    rfl
def E_s_l08List_l0 (α : Type) (N : Nat) : Env α := (E_s_l08Is α N).addLoop2 53 4 (loopSum2 ((E_s_l08Is α N).ann 53 4) 1 s_l08List_l0_p (fun l K => match l with
    | [.i k, .n list_n, .n list_l, .n list_c, .i i, .n h0_n, .f h0] => s_l08List_l0 none N k list_n list_l list_c h0_n h0 N i (K .ret (buildS s_l08List_l0_o0 [.n h0_n, .f h0])) (K (.exit 0) (buildS s_l08List_l0_o1 [.n h0_n, .f h0]))
    | _ => none) ((E_s_l08Is α N).ls 53 4))
theorem E_s_l08List_l0_ok {α : Type} (N : Nat) : EnvOk Try.prog (E_s_l08List_l0 α N) := (E_s_l08Is_ok N).addLoop2 Try.func53 (by kernel_rfl) (loopSum_ok prog_mixed prog_names (E_s_l08Is_ok N) Try.func53 (by kernel_rfl) (d := 1) (ro := 1) fun l K r h => by
  split at h
  · exact (s_l08List_l0_loop N _ _ _ _ _ _ K N _).trans h
  · cases h)

/-- spec.l08List -/
def s_l08List_a : SPat := ⟨[.int .i64, .sliceV 0 0 0 4 true], [[.intsV .u8]]⟩
def s_l08List_r0 : SPat := ⟨[.int .i64], [[.intsV .u8]]⟩
theorem s_l08List_run {α : Type} (N : Nat) (k : Int) (list_n : Nat) (list_l : Nat) (list_c : Nat) (h0_n : Nat) (h0 : Nat → Int) (K : AV → Heap → Option α) :
    callK Try.prog (E_s_l08List_l0 α N) 1 53 1 (buildS s_l08List_a [.i k, .n list_n, .n list_l, .n list_c, .n h0_n, .f h0]).t (buildS s_l08List_a [.i k, .n list_n, .n list_l, .n list_c, .n h0_n, .f h0]).h K = s_l08List none N k list_n list_l list_c h0_n h0 (fun r__ => retK (buildS s_l08List_r0 [.i r__, .n h0_n, .f h0]) K) := by kernel_rfl
def E_s_l08List (α : Type) (N : Nat) : Env α := (E_s_l08List_l0 α N).addFun 53 true 1 s_l08List_a (fun l K => match l with
    | [.i k, .n list_n, .n list_l, .n list_c, .n h0_n, .f h0] => s_l08List none N k list_n list_l list_c h0_n h0 (fun r__ => retK (buildS s_l08List_r0 [.i r__, .n h0_n, .f h0]) K)
    | _ => none)
theorem E_s_l08List_ok {α : Type} (N : Nat) : EnvOk Try.prog (E_s_l08List α N) := (E_s_l08List_l0_ok N).addFun prog_mixed prog_names (d := 1) fun l K r h => by
  split at h
  · exact (s_l08List_run N _ _ _ _ _ _ K).trans h
  · cases h

def A_s_l08Map_l0 (α : Type) (N : Nat) : Env α := (E_s_l08List α N).addAnn 54 2 { head := [1, 2, 3, 7], grow := [], out := [], ret := [6] }
theorem A_s_l08Map_l0_ok {α : Type} (N : Nat) : EnvOk Try.prog (A_s_l08Map_l0 α N) := (E_s_l08List_ok N).addAnn

def A_s_l08Relation_l0 (α : Type) (N : Nat) : Env α := (A_s_l08Map_l0 α N).addAnn 67 3 { head := [1, 2, 5, 6], grow := [5], out := [5], ret := [4] }
theorem A_s_l08Relation_l0_ok {α : Type} (N : Nat) : EnvOk Try.prog (A_s_l08Relation_l0 α N) := (A_s_l08Map_l0_ok N).addAnn

/-- spec.l08Relation, loop -/
def s_l08Relation_l0_p : SPat := ⟨[.undef, .int .i64, .ptr ⟨⟨0, 0⟩, 0, 0, 1⟩, .undef, .undef, .sliceV 1 0 0 1 false, .int .i64] ++ List.replicate 27 .undef, [[.vals [.int .i64], .ints .u8 8, .ints .u8 8], [.vec .i64]]⟩
def s_l08Relation_l0_o0 : SPat := ⟨[.undef, .undef, .undef, .undef, .undef, .sliceV 1 0 0 1 false] ++ List.replicate 28 .undef, [[.vals [.int .i64], .ints .u8 8, .ints .u8 8], [.vec .i64]]⟩
theorem s_l08Relation_l0_round {α : Type} (N : Nat) (r_ : Int) (out_n : Nat) (out_l : Nat) (out_c : Nat) (i : Int) (h0_0 : Int) (h0_1 : Nat → Int) (h0_2 : Nat → Int) (h1 : List Int) (kn : St → Option α) (K : AExit → St → Option α) :
    roundK Try.prog (A_s_l08Relation_l0 α N) 1 0 67 Try.f67 3 2 (buildS s_l08Relation_l0_p [.i r_, .n out_n, .n out_l, .n out_c, .i i, .i h0_0, .f h0_1, .f h0_2, .l h1]) kn K = s_l08Relation_l0_s none r_ h0_0 h0_1 h0_2 out_n out_l out_c i h1 (fun out_n out_l out_c i h1 => kn (buildS s_l08Relation_l0_p [.i r_, .n out_n, .n out_l, .n out_c, .i i, .i h0_0, .f h0_1, .f h0_2, .l h1])) (fun out_n_ out_l_ out_c_ h1_ => K (.exit 0) (buildS s_l08Relation_l0_o0 [.n out_n_, .n out_l_, .n out_c_, .i h0_0, .f h0_1, .f h0_2, .l h1_])) := by kernel_rfl
theorem s_l08Relation_l0_loop {α : Type} (N : Nat) (r_ : Int) (h0_0 : Int) (h0_1 : Nat → Int) (h0_2 : Nat → Int) (K : AExit → St → Option α) : ∀ (m : Nat) (out_n : Nat) (out_l : Nat) (out_c : Nat) (i : Int) (h1 : List Int),
    loopN (trimSt ((A_s_l08Relation_l0 α N).ann 67 3).head ((A_s_l08Relation_l0 α N).ann 67 3).grow 2) (bodyK Try.prog (A_s_l08Relation_l0 α N) 1 0 67 Try.f67 3) m (buildS s_l08Relation_l0_p [.i r_, .n out_n, .n out_l, .n out_c, .i i, .i h0_0, .f h0_1, .f h0_2, .l h1]) (leaveLoop ((A_s_l08Relation_l0 α N).ann 67 3) 2 K) = s_l08Relation_l0 none r_ h0_0 h0_1 h0_2 m out_n out_l out_c i h1 (fun out_n_ out_l_ out_c_ h1_ => K (.exit 0) (buildS s_l08Relation_l0_o0 [.n out_n_, .n out_l_, .n out_c_, .i h0_0, .f h0_1, .f h0_2, .l h1_])) := by
  intro m
  induction m with
  | zero => intros; rfl
  | succ m ih =>
    intro out_n out_l out_c i h1
    rw [loopN_round]
    refine (s_l08Relation_l0_round N r_ out_n out_l out_c i h0_0 h0_1 h0_2 h1 _ K).trans ?_
    simp only [ih]
    rfl
def E_s_l08Relation_l0 (α : Type) (N : Nat) : Env α := (A_s_l08Relation_l0 α N).addLoop2 67 3 (loopSum2 ((A_s_l08Relation_l0 α N).ann 67 3) 0 s_l08Relation_l0_p (fun l K => match l with
    | [.i r_, .n out_n, .n out_l, .n out_c, .i i, .i h0_0, .f h0_1, .f h0_2, .l h1] => s_l08Relation_l0 none r_ h0_0 h0_1 h0_2 N out_n out_l out_c i h1 (fun out_n_ out_l_ out_c_ h1_ => K (.exit 0) (buildS s_l08Relation_l0_o0 [.n out_n_, .n out_l_, .n out_c_, .i h0_0, .f h0_1, .f h0_2, .l h1_]))
    | _ => none) ((A_s_l08Relation_l0 α N).ls 67 3))
theorem E_s_l08Relation_l0_ok {α : Type} (N : Nat) : EnvOk Try.prog (E_s_l08Relation_l0 α N) := (A_s_l08Relation_l0_ok N).addLoop2 Try.func67 (by kernel_rfl) (loopSum_ok prog_mixed prog_names (A_s_l08Relation_l0_ok N) Try.func67 (by kernel_rfl) (d := 1) (ro := 0) fun l K r h => by
  split at h
  · exact (s_l08Relation_l0_loop N _ _ _ _ K N _ _ _ _ _).trans h
  · cases h)

/-- spec.l08Relation -/
def s_l08Relation_a : SPat := ⟨[.agg [.vals [.int .i64], .ints .u8 8, .ints .u8 8], .int .i64], []⟩
def s_l08Relation_r0 : SPat := ⟨[.sliceV 0 0 0 1 false], [[.vec .i64]]⟩
theorem s_l08Relation_run {α : Type} (N : Nat) (g_0 : Int) (g_1 : Nat → Int) (g_2 : Nat → Int) (r_ : Int) (K : AV → Heap → Option α) :
    callK Try.prog (E_s_l08Relation_l0 α N) 1 67 0 (buildS s_l08Relation_a [.i g_0, .f g_1, .f g_2, .i r_]).t (buildS s_l08Relation_a [.i g_0, .f g_1, .f g_2, .i r_]).h K = s_l08Relation none N g_0 g_1 g_2 r_ (fun r_n_ r_l_ r_c_ h0_ => retK (buildS s_l08Relation_r0 [.n r_n_, .n r_l_, .n r_c_, .l h0_]) K) := by kernel_rfl
def E_s_l08Relation (α : Type) (N : Nat) : Env α := (E_s_l08Relation_l0 α N).addFun 67 true 0 s_l08Relation_a (fun l K => match l with
    | [.i g_0, .f g_1, .f g_2, .i r_] => s_l08Relation none N g_0 g_1 g_2 r_ (fun r_n_ r_l_ r_c_ h0_ => retK (buildS s_l08Relation_r0 [.n r_n_, .n r_l_, .n r_c_, .l h0_]) K)
    | _ => none)
theorem E_s_l08Relation_ok {α : Type} (N : Nat) : EnvOk Try.prog (E_s_l08Relation α N) := (E_s_l08Relation_l0_ok N).addFun prog_mixed prog_names (d := 1) fun l K r h => by
  split at h
  · exact (s_l08Relation_run N _ _ _ _ K).trans h
  · cases h

def A_s_l08Same_l0 (α : Type) (N : Nat) : Env α := (E_s_l08Relation α N).addAnn 117 3 { head := [0, 2, 3, 4], grow := [], out := [2, 3], ret := [2] }
theorem A_s_l08Same_l0_ok {α : Type} (N : Nat) : EnvOk Try.prog (A_s_l08Same_l0 α N) := (E_s_l08Relation_ok N).addAnn

/-- spec.l08Same, loop -/
def s_l08Same_l0_p : SPat := ⟨[.int .i64, .undef, .ptr ⟨⟨0, 0⟩, 0, 0, 4⟩, .ptr ⟨⟨1, 0⟩, 0, 0, 4⟩, .int .i64] ++ List.replicate 11 .undef, [[.ints .u8 4], [.ints .u8 4]]⟩
def s_l08Same_l0_o0 : SPat := ⟨[.undef, .undef, .ptr ⟨⟨0, 0⟩, 0, 0, 4⟩, .ptr ⟨⟨1, 0⟩, 0, 0, 4⟩] ++ List.replicate 12 .undef, [[.ints .u8 4], [.ints .u8 4]]⟩
theorem s_l08Same_l0_round {α : Type} (N : Nat) (k : Int) (x : Int) (h0 : Nat → Int) (h1 : Nat → Int) (kn : St → Option α) (K : AExit → St → Option α) :
    roundK Try.prog (A_s_l08Same_l0 α N) 1 0 117 Try.f117 3 2 (buildS s_l08Same_l0_p [.i k, .i x, .f h0, .f h1]) kn K = s_l08Same_l0_s none k h0 x h1 (fun x h1 => kn (buildS s_l08Same_l0_p [.i k, .i x, .f h0, .f h1])) (fun h1_ => K (.exit 0) (buildS s_l08Same_l0_o0 [.f h0, .f h1_])) := by kernel_rfl
theorem s_l08Same_l0_loop {α : Type} (N : Nat) (k : Int) (h0 : Nat → Int) (K : AExit → St → Option α) : ∀ (m : Nat) (x : Int) (h1 : Nat → Int),
    loopN (trimSt ((A_s_l08Same_l0 α N).ann 117 3).head ((A_s_l08Same_l0 α N).ann 117 3).grow 2) (bodyK Try.prog (A_s_l08Same_l0 α N) 1 0 117 Try.f117 3) m (buildS s_l08Same_l0_p [.i k, .i x, .f h0, .f h1]) (leaveLoop ((A_s_l08Same_l0 α N).ann 117 3) 2 K) = s_l08Same_l0 none k h0 m x h1 (fun h1_ => K (.exit 0) (buildS s_l08Same_l0_o0 [.f h0, .f h1_])) := by
  intro m
  induction m with
  | zero => intros; rfl
  | succ m ih =>
    intro x h1
    rw [loopN_round]
    refine (s_l08Same_l0_round N k x h0 h1 _ K).trans ?_
    simp only [ih]
    rfl
def E_s_l08Same_l0 (α : Type) (N : Nat) : Env α := (A_s_l08Same_l0 α N).addLoop2 117 3 (loopSum2 ((A_s_l08Same_l0 α N).ann 117 3) 0 s_l08Same_l0_p (fun l K => match l with
    | [.i k, .i x, .f h0, .f h1] => s_l08Same_l0 none k h0 N x h1 (fun h1_ => K (.exit 0) (buildS s_l08Same_l0_o0 [.f h0, .f h1_]))
    | _ => none) ((A_s_l08Same_l0 α N).ls 117 3))
theorem E_s_l08Same_l0_ok {α : Type} (N : Nat) : EnvOk Try.prog (E_s_l08Same_l0 α N) := (A_s_l08Same_l0_ok N).addLoop2 Try.func117 (by kernel_rfl) (loopSum_ok prog_mixed prog_names (A_s_l08Same_l0_ok N) Try.func117 (by kernel_rfl) (d := 1) (ro := 0) fun l K r h => by
  split at h
  · exact (s_l08Same_l0_loop N _ _ K N _ _).trans h
  · cases h)

/-- spec.l08Same -/
def s_l08Same_a : SPat := ⟨[.int .i64], []⟩
def s_l08Same_r0 : SPat := ⟨[.agg [.ints .u8 4]], []⟩
theorem s_l08Same_run {α : Type} (N : Nat) (k : Int) (K : AV → Heap → Option α) :
    callK Try.prog (E_s_l08Same_l0 α N) 1 117 0 (buildS s_l08Same_a [.i k]).t (buildS s_l08Same_a [.i k]).h K = s_l08Same none N k (fun r__ => retK (buildS s_l08Same_r0 [.f r__]) K) := by kernel_rfl
def E_s_l08Same (α : Type) (N : Nat) : Env α := (E_s_l08Same_l0 α N).addFun 117 true 0 s_l08Same_a (fun l K => match l with
    | [.i k] => s_l08Same none N k (fun r__ => retK (buildS s_l08Same_r0 [.f r__]) K)
    | _ => none)
theorem E_s_l08Same_ok {α : Type} (N : Nat) : EnvOk Try.prog (E_s_l08Same α N) := (E_s_l08Same_l0_ok N).addFun prog_mixed prog_names (d := 1) fun l K r h => by
  split at h
  · exact (s_l08Same_run N _ K).trans h
  · cases h

def A_s_l08Product_l0 (α : Type) (N : Nat) : Env α := (E_s_l08Same α N).addAnn 116 3 { head := [0, 1, 2, 6, 7, 8], grow := [], out := [6, 7], ret := [6] }
theorem A_s_l08Product_l0_ok {α : Type} (N : Nat) : EnvOk Try.prog (A_s_l08Product_l0 α N) := (E_s_l08Same_ok N).addAnn

def A_s_l08Then_l0 (α : Type) (N : Nat) : Env α := (A_s_l08Product_l0 α N).addAnn 150 3 { head := [2, 3, 4, 6, 7, 8], grow := [], out := [6, 7], ret := [6] }
theorem A_s_l08Then_l0_ok {α : Type} (N : Nat) : EnvOk Try.prog (A_s_l08Then_l0 α N) := (A_s_l08Product_l0_ok N).addAnn

/-- spec.l08Then, loop -/
def s_l08Then_l0_p : SPat := ⟨[.undef, .undef, .int .i64, .ptr ⟨⟨0, 0⟩, 0, 0, 4⟩, .ptr ⟨⟨1, 0⟩, 0, 0, 4⟩, .undef, .ptr ⟨⟨2, 0⟩, 0, 0, 4⟩, .ptr ⟨⟨3, 0⟩, 0, 0, 4⟩, .int .i64] ++ List.replicate 14 .undef, [[.ints .u8 4], [.ints .u8 4], [.ints .u8 4], [.ints .u8 4]]⟩
def s_l08Then_l0_o0 : SPat := ⟨[.undef, .undef, .undef, .undef, .undef, .undef, .ptr ⟨⟨2, 0⟩, 0, 0, 4⟩, .ptr ⟨⟨3, 0⟩, 0, 0, 4⟩] ++ List.replicate 15 .undef, [[.ints .u8 4], [.ints .u8 4], [.ints .u8 4], [.ints .u8 4]]⟩
theorem s_l08Then_l0_round {α : Type} (N : Nat) (k : Int) (x : Int) (h0 : Nat → Int) (h1 : Nat → Int) (h2 : Nat → Int) (h3 : Nat → Int) (kn : St → Option α) (K : AExit → St → Option α) :
    roundK Try.prog (A_s_l08Then_l0 α N) 1 0 150 Try.f150 3 4 (buildS s_l08Then_l0_p [.i k, .i x, .f h0, .f h1, .f h2, .f h3]) kn K = s_l08Then_l0_s none k h0 h1 h2 x h3 (fun x h3 => kn (buildS s_l08Then_l0_p [.i k, .i x, .f h0, .f h1, .f h2, .f h3])) (fun h3_ => K (.exit 0) (buildS s_l08Then_l0_o0 [.f h0, .f h1, .f h2, .f h3_])) := by kernel_rfl
theorem s_l08Then_l0_loop {α : Type} (N : Nat) (k : Int) (h0 : Nat → Int) (h1 : Nat → Int) (h2 : Nat → Int) (K : AExit → St → Option α) : ∀ (m : Nat) (x : Int) (h3 : Nat → Int),
    loopN (trimSt ((A_s_l08Then_l0 α N).ann 150 3).head ((A_s_l08Then_l0 α N).ann 150 3).grow 4) (bodyK Try.prog (A_s_l08Then_l0 α N) 1 0 150 Try.f150 3) m (buildS s_l08Then_l0_p [.i k, .i x, .f h0, .f h1, .f h2, .f h3]) (leaveLoop ((A_s_l08Then_l0 α N).ann 150 3) 4 K) = s_l08Then_l0 none k h0 h1 h2 m x h3 (fun h3_ => K (.exit 0) (buildS s_l08Then_l0_o0 [.f h0, .f h1, .f h2, .f h3_])) := by
  intro m
  induction m with
  | zero => intros; rfl
  | succ m ih =>
    intro x h3
    rw [loopN_round]
    refine (s_l08Then_l0_round N k x h0 h1 h2 h3 _ K).trans ?_
    simp only [ih]
    rfl
def E_s_l08Then_l0 (α : Type) (N : Nat) : Env α := (A_s_l08Then_l0 α N).addLoop2 150 3 (loopSum2 ((A_s_l08Then_l0 α N).ann 150 3) 0 s_l08Then_l0_p (fun l K => match l with
    | [.i k, .i x, .f h0, .f h1, .f h2, .f h3] => s_l08Then_l0 none k h0 h1 h2 N x h3 (fun h3_ => K (.exit 0) (buildS s_l08Then_l0_o0 [.f h0, .f h1, .f h2, .f h3_]))
    | _ => none) ((A_s_l08Then_l0 α N).ls 150 3))
theorem E_s_l08Then_l0_ok {α : Type} (N : Nat) : EnvOk Try.prog (E_s_l08Then_l0 α N) := (A_s_l08Then_l0_ok N).addLoop2 Try.func150 (by kernel_rfl) (loopSum_ok prog_mixed prog_names (A_s_l08Then_l0_ok N) Try.func150 (by kernel_rfl) (d := 1) (ro := 0) fun l K r h => by
  split at h
  · exact (s_l08Then_l0_loop N _ _ _ _ K N _ _).trans h
  · cases h)

/-- spec.l08Then -/
def s_l08Then_a : SPat := ⟨[.agg [.ints .u8 4], .agg [.ints .u8 4], .int .i64], []⟩
def s_l08Then_r0 : SPat := ⟨[.agg [.ints .u8 4]], []⟩
theorem s_l08Then_run {α : Type} (N : Nat) (p : Nat → Int) (q : Nat → Int) (k : Int) (K : AV → Heap → Option α) :
    callK Try.prog (E_s_l08Then_l0 α N) 1 150 0 (buildS s_l08Then_a [.f p, .f q, .i k]).t (buildS s_l08Then_a [.f p, .f q, .i k]).h K = s_l08Then none N p q k (fun r__ => retK (buildS s_l08Then_r0 [.f r__]) K) := by kernel_rfl
def E_s_l08Then (α : Type) (N : Nat) : Env α := (E_s_l08Then_l0 α N).addFun 150 true 0 s_l08Then_a (fun l K => match l with
    | [.f p, .f q, .i k] => s_l08Then none N p q k (fun r__ => retK (buildS s_l08Then_r0 [.f r__]) K)
    | _ => none)
theorem E_s_l08Then_ok {α : Type} (N : Nat) : EnvOk Try.prog (E_s_l08Then α N) := (E_s_l08Then_l0_ok N).addFun prog_mixed prog_names (d := 1) fun l K r h => by
  split at h
  · exact (s_l08Then_run N _ _ _ K).trans h
  · cases h

/-- spec.l08Product, loop -/
def s_l08Product_l0_p : SPat := ⟨[.sliceV 1 0 0 1 false, .sliceV 0 0 0 4 true, .int .i64, .undef, .undef, .undef, .ptr ⟨⟨2, 0⟩, 0, 0, 4⟩, .ptr ⟨⟨3, 0⟩, 0, 0, 4⟩, .int .i64] ++ List.replicate 19 .undef, [[.intsV .u8], [.vec .i64], [.ints .u8 4], [.ints .u8 4]]⟩
def s_l08Product_l0_o0 : SPat := ⟨[.undef, .undef, .undef, .undef, .undef, .undef, .ptr ⟨⟨2, 0⟩, 0, 0, 4⟩, .ptr ⟨⟨3, 0⟩, 0, 0, 4⟩] ++ List.replicate 20 .undef, [[.intsV .u8], [.vec .i64], [.ints .u8 4], [.ints .u8 4]]⟩
theorem s_l08Product_l0_round {α : Type} (N : Nat) (columns_n : Nat) (columns_l : Nat) (columns_c : Nat) (list_n : Nat) (list_l : Nat) (list_c : Nat) (k : Int) (i : Int) (h0_n : Nat) (h0 : Nat → Int) (h1 : List Int) (h2 : Nat → Int) (h3 : Nat → Int) (kn : St → Option α) (K : AExit → St → Option α) :
    roundK Try.prog (E_s_l08Then α N) 1 2 116 Try.f116 3 4 (buildS s_l08Product_l0_p [.n columns_n, .n columns_l, .n columns_c, .n list_n, .n list_l, .n list_c, .i k, .i i, .n h0_n, .f h0, .l h1, .f h2, .f h3]) kn K = s_l08Product_l0_s none N columns_n columns_l columns_c list_n list_l list_c k h0_n h0 h1 h2 i h3 (fun i h3 => kn (buildS s_l08Product_l0_p [.n columns_n, .n columns_l, .n columns_c, .n list_n, .n list_l, .n list_c, .i k, .i i, .n h0_n, .f h0, .l h1, .f h2, .f h3])) (fun h3_ => K (.exit 0) (buildS s_l08Product_l0_o0 [.n h0_n, .f h0, .l h1, .f h2, .f h3_])) := by kernel_rfl
theorem s_l08Product_l0_loop {α : Type} (N : Nat) (columns_n : Nat) (columns_l : Nat) (columns_c : Nat) (list_n : Nat) (list_l : Nat) (list_c : Nat) (k : Int) (h0_n : Nat) (h0 : Nat → Int) (h1 : List Int) (h2 : Nat → Int) (K : AExit → St → Option α) : ∀ (m : Nat) (i : Int) (h3 : Nat → Int),
    loopN (trimSt ((E_s_l08Then α N).ann 116 3).head ((E_s_l08Then α N).ann 116 3).grow 4) (bodyK Try.prog (E_s_l08Then α N) 1 2 116 Try.f116 3) m (buildS s_l08Product_l0_p [.n columns_n, .n columns_l, .n columns_c, .n list_n, .n list_l, .n list_c, .i k, .i i, .n h0_n, .f h0, .l h1, .f h2, .f h3]) (leaveLoop ((E_s_l08Then α N).ann 116 3) 4 K) = s_l08Product_l0 none N columns_n columns_l columns_c list_n list_l list_c k h0_n h0 h1 h2 m i h3 (fun h3_ => K (.exit 0) (buildS s_l08Product_l0_o0 [.n h0_n, .f h0, .l h1, .f h2, .f h3_])) := by
  intro m
  induction m with
  | zero => intros; rfl
  | succ m ih =>
    intro i h3
    rw [loopN_round]
    refine (s_l08Product_l0_round N columns_n columns_l columns_c list_n list_l list_c k i h0_n h0 h1 h2 h3 _ K).trans ?_
    simp only [ih]
    rfl
def E_s_l08Product_l0 (α : Type) (N : Nat) : Env α := (E_s_l08Then α N).addLoop2 116 3 (loopSum2 ((E_s_l08Then α N).ann 116 3) 2 s_l08Product_l0_p (fun l K => match l with
    | [.n columns_n, .n columns_l, .n columns_c, .n list_n, .n list_l, .n list_c, .i k, .i i, .n h0_n, .f h0, .l h1, .f h2, .f h3] => s_l08Product_l0 none N columns_n columns_l columns_c list_n list_l list_c k h0_n h0 h1 h2 N i h3 (fun h3_ => K (.exit 0) (buildS s_l08Product_l0_o0 [.n h0_n, .f h0, .l h1, .f h2, .f h3_]))
    | _ => none) ((E_s_l08Then α N).ls 116 3))
theorem E_s_l08Product_l0_ok {α : Type} (N : Nat) : EnvOk Try.prog (E_s_l08Product_l0 α N) := (E_s_l08Then_ok N).addLoop2 Try.func116 (by kernel_rfl) (loopSum_ok prog_mixed prog_names (E_s_l08Then_ok N) Try.func116 (by kernel_rfl) (d := 1) (ro := 2) fun l K r h => by
  split at h
  · exact (s_l08Product_l0_loop N _ _ _ _ _ _ _ _ _ _ _ K N _ _).trans h
  · cases h)

/-- spec.l08Product -/
def s_l08Product_a : SPat := ⟨[.sliceV 1 0 0 1 false, .sliceV 0 0 0 4 true, .int .i64], [[.intsV .u8], [.vec .i64]]⟩
def s_l08Product_r0 : SPat := ⟨[.agg [.ints .u8 4]], [[.intsV .u8], [.vec .i64]]⟩
theorem s_l08Product_run {α : Type} (N : Nat) (columns_n : Nat) (columns_l : Nat) (columns_c : Nat) (list_n : Nat) (list_l : Nat) (list_c : Nat) (k : Int) (h0_n : Nat) (h0 : Nat → Int) (h1 : List Int) (K : AV → Heap → Option α) :
    callK Try.prog (E_s_l08Product_l0 α N) 1 116 2 (buildS s_l08Product_a [.n columns_n, .n columns_l, .n columns_c, .n list_n, .n list_l, .n list_c, .i k, .n h0_n, .f h0, .l h1]).t (buildS s_l08Product_a [.n columns_n, .n columns_l, .n columns_c, .n list_n, .n list_l, .n list_c, .i k, .n h0_n, .f h0, .l h1]).h K = s_l08Product none N columns_n columns_l columns_c list_n list_l list_c k h0_n h0 h1 (fun r__ => retK (buildS s_l08Product_r0 [.f r__, .n h0_n, .f h0, .l h1]) K) := by kernel_rfl
def E_s_l08Product (α : Type) (N : Nat) : Env α := (E_s_l08Product_l0 α N).addFun 116 true 2 s_l08Product_a (fun l K => match l with
    | [.n columns_n, .n columns_l, .n columns_c, .n list_n, .n list_l, .n list_c, .i k, .n h0_n, .f h0, .l h1] => s_l08Product none N columns_n columns_l columns_c list_n list_l list_c k h0_n h0 h1 (fun r__ => retK (buildS s_l08Product_r0 [.f r__, .n h0_n, .f h0, .l h1]) K)
    | _ => none)
theorem E_s_l08Product_ok {α : Type} (N : Nat) : EnvOk Try.prog (E_s_l08Product α N) := (E_s_l08Product_l0_ok N).addFun prog_mixed prog_names (d := 1) fun l K r h => by
  split at h
  · exact (s_l08Product_run N _ _ _ _ _ _ _ _ _ _ K).trans h
  · cases h

/-- spec.l08Map, loop -/
def s_l08Map_l0_p : SPat := ⟨[.undef, .int .i64, .sliceV 0 0 0 4 true, .ptr ⟨⟨1, 0⟩, 0, 0, 1⟩, .undef, .undef, .undef, .int .i64] ++ List.replicate 16 .undef, [[.intsV .u8], [.vals [.int .i64], .ints .u8 8, .ints .u8 8]]⟩
def s_l08Map_l0_o0 : SPat := ⟨[.undef, .undef, .undef, .undef, .undef, .undef, .boolC false] ++ List.replicate 17 .undef, [[.intsV .u8], [.vals [.int .i64], .ints .u8 8, .ints .u8 8]]⟩
def s_l08Map_l0_o1 : SPat := ⟨[] ++ List.replicate 24 .undef, [[.intsV .u8], [.vals [.int .i64], .ints .u8 8, .ints .u8 8]]⟩
theorem s_l08Map_l0_round {α : Type} (N : Nat) (k : Int) (list_n : Nat) (list_l : Nat) (list_c : Nat) (r_ : Int) (h0_n : Nat) (h0 : Nat → Int) (h1_0 : Int) (h1_1 : Nat → Int) (h1_2 : Nat → Int) (kn : St → Option α) (K : AExit → St → Option α) :
    roundK Try.prog (E_s_l08Product α N) 1 1 54 Try.f54 2 2 (buildS s_l08Map_l0_p [.i k, .n list_n, .n list_l, .n list_c, .i r_, .n h0_n, .f h0, .i h1_0, .f h1_1, .f h1_2]) kn K = s_l08Map_l0_s none N k list_n list_l list_c h0_n h0 h1_0 h1_1 h1_2 r_ (fun r_ => kn (buildS s_l08Map_l0_p [.i k, .n list_n, .n list_l, .n list_c, .i r_, .n h0_n, .f h0, .i h1_0, .f h1_1, .f h1_2])) (K .ret (buildS s_l08Map_l0_o0 [.n h0_n, .f h0, .i h1_0, .f h1_1, .f h1_2])) (K (.exit 0) (buildS s_l08Map_l0_o1 [.n h0_n, .f h0, .i h1_0, .f h1_1, .f h1_2])) := by kernel_rfl
theorem s_l08Map_l0_loop {α : Type} (N : Nat) (k : Int) (list_n : Nat) (list_l : Nat) (list_c : Nat) (h0_n : Nat) (h0 : Nat → Int) (h1_0 : Int) (h1_1 : Nat → Int) (h1_2 : Nat → Int) (K : AExit → St → Option α) : ∀ (m : Nat) (r_ : Int),
    loopN (trimSt ((E_s_l08Product α N).ann 54 2).head ((E_s_l08Product α N).ann 54 2).grow 2) (bodyK Try.prog (E_s_l08Product α N) 1 1 54 Try.f54 2) m (buildS s_l08Map_l0_p [.i k, .n list_n, .n list_l, .n list_c, .i r_, .n h0_n, .f h0, .i h1_0, .f h1_1, .f h1_2]) (leaveLoop ((E_s_l08Product α N).ann 54 2) 2 K) = s_l08Map_l0 none N k list_n list_l list_c h0_n h0 h1_0 h1_1 h1_2 m r_ (K .ret (buildS s_l08Map_l0_o0 [.n h0_n, .f h0, .i h1_0, .f h1_1, .f h1_2])) (K (.exit 0) (buildS s_l08Map_l0_o1 [.n h0_n, .f h0, .i h1_0, .f h1_1, .f h1_2])) := by
  intro m
  induction m with
  | zero => intros; rfl
  | succ m ih =>
    intro r_
    rw [loopN_round]
    refine (s_l08Map_l0_round N k list_n list_l list_c r_ h0_n h0 h1_0 h1_1 h1_2 _ K).trans ?_
    simp only [ih]
    rfl
def E_s_l08Map_l0 (α : Type) (N : Nat) : Env α := (E_s_l08Product α N).addLoop2 54 2 (loopSum2 ((E_s_l08Product α N).ann 54 2) 1 s_l08Map_l0_p (fun l K => match l with
    | [.i k, .n list_n, .n list_l, .n list_c, .i r_, .n h0_n, .f h0, .i h1_0, .f h1_1, .f h1_2] => s_l08Map_l0 none N k list_n list_l list_c h0_n h0 h1_0 h1_1 h1_2 N r_ (K .ret (buildS s_l08Map_l0_o0 [.n h0_n, .f h0, .i h1_0, .f h1_1, .f h1_2])) (K (.exit 0) (buildS s_l08Map_l0_o1 [.n h0_n, .f h0, .i h1_0, .f h1_1, .f h1_2]))
    | _ => none) ((E_s_l08Product α N).ls 54 2))
theorem E_s_l08Map_l0_ok {α : Type} (N : Nat) : EnvOk Try.prog (E_s_l08Map_l0 α N) := (E_s_l08Product_ok N).addLoop2 Try.func54 (by kernel_rfl) (loopSum_ok prog_mixed prog_names (E_s_l08Product_ok N) Try.func54 (by kernel_rfl) (d := 1) (ro := 1) fun l K r h => by
  split at h
  · exact (s_l08Map_l0_loop N _ _ _ _ _ _ _ _ _ K N _).trans h
  · cases h)

/-- spec.l08Map -/
def s_l08Map_a : SPat := ⟨[.agg [.vals [.int .i64], .ints .u8 8, .ints .u8 8], .int .i64, .sliceV 0 0 0 4 true], [[.intsV .u8]]⟩
def s_l08Map_r0 : SPat := ⟨[.bool], [[.intsV .u8]]⟩
theorem s_l08Map_run {α : Type} (N : Nat) (g_0 : Int) (g_1 : Nat → Int) (g_2 : Nat → Int) (k : Int) (list_n : Nat) (list_l : Nat) (list_c : Nat) (h0_n : Nat) (h0 : Nat → Int) (K : AV → Heap → Option α) :
    callK Try.prog (E_s_l08Map_l0 α N) 1 54 1 (buildS s_l08Map_a [.i g_0, .f g_1, .f g_2, .i k, .n list_n, .n list_l, .n list_c, .n h0_n, .f h0]).t (buildS s_l08Map_a [.i g_0, .f g_1, .f g_2, .i k, .n list_n, .n list_l, .n list_c, .n h0_n, .f h0]).h K = s_l08Map none N g_0 g_1 g_2 k list_n list_l list_c h0_n h0 (fun r__ => retK (buildS s_l08Map_r0 [.b r__, .n h0_n, .f h0]) K) := by kernel_rfl
def E_s_l08Map (α : Type) (N : Nat) : Env α := (E_s_l08Map_l0 α N).addFun 54 true 1 s_l08Map_a (fun l K => match l with
    | [.i g_0, .f g_1, .f g_2, .i k, .n list_n, .n list_l, .n list_c, .n h0_n, .f h0] => s_l08Map none N g_0 g_1 g_2 k list_n list_l list_c h0_n h0 (fun r__ => retK (buildS s_l08Map_r0 [.b r__, .n h0_n, .f h0]) K)
    | _ => none)
theorem E_s_l08Map_ok {α : Type} (N : Nat) : EnvOk Try.prog (E_s_l08Map α N) := (E_s_l08Map_l0_ok N).addFun prog_mixed prog_names (d := 1) fun l K r h => by
  split at h
  · exact (s_l08Map_run N _ _ _ _ _ _ _ _ _ K).trans h
  · cases h

/-- spec.IsMapOf -/
def s_IsMapOf_a : SPat := ⟨[.agg [.vals [.int .i64], .ints .u8 8, .ints .u8 8], .int .i64, .sliceV 0 0 0 4 true], [[.intsV .u8]]⟩
def s_IsMapOf_r0 : SPat := ⟨[.tuple [.bool, .int .i64]], [[.intsV .u8]]⟩
theorem s_IsMapOf_run {α : Type} (N : Nat) (g_0 : Int) (g_1 : Nat → Int) (g_2 : Nat → Int) (k : Int) (list_n : Nat) (list_l : Nat) (list_c : Nat) (h0_n : Nat) (h0 : Nat → Int) (K : AV → Heap → Option α) :
    callK Try.prog (E_s_l08Map α N) 1 16 1 (buildS s_IsMapOf_a [.i g_0, .f g_1, .f g_2, .i k, .n list_n, .n list_l, .n list_c, .n h0_n, .f h0]).t (buildS s_IsMapOf_a [.i g_0, .f g_1, .f g_2, .i k, .n list_n, .n list_l, .n list_c, .n h0_n, .f h0]).h K = s_IsMapOf none N g_0 g_1 g_2 k list_n list_l list_c h0_n h0 (fun r_0_ r_1_ => retK (buildS s_IsMapOf_r0 [.b r_0_, .i r_1_, .n h0_n, .f h0]) K) := by kernel_rfl
def E_s_IsMapOf (α : Type) (N : Nat) : Env α := (E_s_l08Map α N).addFun 16 true 1 s_IsMapOf_a (fun l K => match l with
    | [.i g_0, .f g_1, .f g_2, .i k, .n list_n, .n list_l, .n list_c, .n h0_n, .f h0] => s_IsMapOf none N g_0 g_1 g_2 k list_n list_l list_c h0_n h0 (fun r_0_ r_1_ => retK (buildS s_IsMapOf_r0 [.b r_0_, .i r_1_, .n h0_n, .f h0]) K)
    | _ => none)
theorem E_s_IsMapOf_ok {α : Type} (N : Nat) : EnvOk Try.prog (E_s_IsMapOf α N) := (E_s_l08Map_ok N).addFun prog_mixed prog_names (d := 1) fun l K r h => by
  split at h
  · exact (s_IsMapOf_run N _ _ _ _ _ _ _ _ _ K).trans h
  · cases h

/-- impl.within -/
def i_within_a : SPat := ⟨[.int .i64, .int .i64, .int .i64], []⟩
def i_within_r0 : SPat := ⟨[.bool], []⟩
theorem i_within_run {α : Type} (N : Nat) (x : Int) (low : Int) (high : Int) (K : AV → Heap → Option α) :
    callK Try.prog (E_s_IsMapOf α N) 1 118 0 (buildS i_within_a [.i x, .i low, .i high]).t (buildS i_within_a [.i x, .i low, .i high]).h K = i_within none N x low high (fun r__ => retK (buildS i_within_r0 [.b r__]) K) := by kernel_rfl
def E_i_within (α : Type) (N : Nat) : Env α := (E_s_IsMapOf α N).addFun 118 true 0 i_within_a (fun l K => match l with
    | [.i x, .i low, .i high] => i_within none N x low high (fun r__ => retK (buildS i_within_r0 [.b r__]) K)
    | _ => none)
theorem E_i_within_ok {α : Type} (N : Nat) : EnvOk Try.prog (E_i_within α N) := (E_s_IsMapOf_ok N).addFun prog_mixed prog_names (d := 1) fun l K r h => by
  split at h
  · exact (i_within_run N _ _ _ K).trans h
  · cases h

/-- (impl.Grid).n -/
def i_Grid_n_a : SPat := ⟨[.agg [.vals [.int .i64], .ints .u8 8, .ints .u8 8]], []⟩
def i_Grid_n_r0 : SPat := ⟨[.int .i64], []⟩
theorem i_Grid_n_run {α : Type} (N : Nat) (g_0 : Int) (g_1 : Nat → Int) (g_2 : Nat → Int) (K : AV → Heap → Option α) :
    callK Try.prog (E_i_within α N) 1 59 0 (buildS i_Grid_n_a [.i g_0, .f g_1, .f g_2]).t (buildS i_Grid_n_a [.i g_0, .f g_1, .f g_2]).h K = i_Grid_n none N g_0 g_1 g_2 (retK (buildS i_Grid_n_r0 [.i g_0]) K) := by kernel_rfl
def E_i_Grid_n (α : Type) (N : Nat) : Env α := (E_i_within α N).addFun 59 true 0 i_Grid_n_a (fun l K => match l with
    | [.i g_0, .f g_1, .f g_2] => i_Grid_n none N g_0 g_1 g_2 (retK (buildS i_Grid_n_r0 [.i g_0]) K)
    | _ => none)
theorem E_i_Grid_n_ok {α : Type} (N : Nat) : EnvOk Try.prog (E_i_Grid_n α N) := (E_i_within_ok N).addFun prog_mixed prog_names (d := 1) fun l K r h => by
  split at h
  · exact (i_Grid_n_run N _ _ _ K).trans h
  · cases h

def A_i_isOrder_l0 (α : Type) (N : Nat) : Env α := (E_i_Grid_n α N).addAnn 119 3 { head := [1, 5, 8, 9, 10], grow := [], out := [1, 5], ret := [4] }
theorem A_i_isOrder_l0_ok {α : Type} (N : Nat) : EnvOk Try.prog (A_i_isOrder_l0 α N) := (E_i_Grid_n_ok N).addAnn

/-- impl.isOrder, loop -/
def i_isOrder_l0_s2_p : SPat := ⟨[.undef, .int .i64, .undef, .undef, .undef, .int .i64, .undef, .undef, .slice ⟨⟨0, 0⟩, 1, 0, 8⟩ 8 8 1 true, .intC .i64 8, .int .i64] ++ List.replicate 30 .undef, [[.vals [.int .i64], .ints .u8 8, .ints .u8 8]]⟩
def i_isOrder_l0_s2_o0 : SPat := ⟨[.undef, .undef, .undef, .undef, .boolC false] ++ List.replicate 36 .undef, [[.vals [.int .i64], .ints .u8 8, .ints .u8 8]]⟩
def i_isOrder_l0_s2_o1 : SPat := ⟨[.undef, .int .i64, .undef, .undef, .undef, .int .i64] ++ List.replicate 35 .undef, [[.vals [.int .i64], .ints .u8 8, .ints .u8 8]]⟩
theorem i_isOrder_l0_s2_round {α : Type} (N : Nat) (n : Int) (seen : Int) (t10 : Int) (h0_0 : Int) (h0_1 : Nat → Int) (h0_2 : Nat → Int) (kn : St → Option α) (K : AExit → St → Option α) :
    roundK Try.prog (A_i_isOrder_l0 α N) 1 1 119 Try.f119 3 1 (buildS i_isOrder_l0_s2_p [.i n, .i seen, .i t10, .i h0_0, .f h0_1, .f h0_2]) kn K = i_isOrder_l0_s2_s none n h0_0 h0_1 h0_2 seen t10 (fun seen t10 => kn (buildS i_isOrder_l0_s2_p [.i n, .i seen, .i t10, .i h0_0, .f h0_1, .f h0_2])) (K .ret (buildS i_isOrder_l0_s2_o0 [.i h0_0, .f h0_1, .f h0_2])) (fun seen_ => K (.exit 0) (buildS i_isOrder_l0_s2_o1 [.i n, .i seen_, .i h0_0, .f h0_1, .f h0_2])) := by kernel_rfl
theorem i_isOrder_l0_s2_loop {α : Type} (N : Nat) (n : Int) (h0_0 : Int) (h0_1 : Nat → Int) (h0_2 : Nat → Int) (K : AExit → St → Option α) : ∀ (m : Nat) (seen : Int) (t10 : Int),
    loopN (trimSt ((A_i_isOrder_l0 α N).ann 119 3).head ((A_i_isOrder_l0 α N).ann 119 3).grow 1) (bodyK Try.prog (A_i_isOrder_l0 α N) 1 1 119 Try.f119 3) m (buildS i_isOrder_l0_s2_p [.i n, .i seen, .i t10, .i h0_0, .f h0_1, .f h0_2]) (leaveLoop ((A_i_isOrder_l0 α N).ann 119 3) 1 K) = i_isOrder_l0_s2 none n h0_0 h0_1 h0_2 m seen t10 (K .ret (buildS i_isOrder_l0_s2_o0 [.i h0_0, .f h0_1, .f h0_2])) (fun seen_ => K (.exit 0) (buildS i_isOrder_l0_s2_o1 [.i n, .i seen_, .i h0_0, .f h0_1, .f h0_2])) := by
  intro m
  induction m with
  | zero => intros; rfl
  | succ m ih =>
    intro seen t10
    rw [loopN_round]
    refine (i_isOrder_l0_s2_round N n seen t10 h0_0 h0_1 h0_2 _ K).trans ?_
    simp only [ih]
    rfl
def E_i_isOrder_l0_s2 (α : Type) (N : Nat) : Env α := (A_i_isOrder_l0 α N).addLoop2 119 3 (loopSum2 ((A_i_isOrder_l0 α N).ann 119 3) 1 i_isOrder_l0_s2_p (fun l K => match l with
    | [.i n, .i seen, .i t10, .i h0_0, .f h0_1, .f h0_2] => i_isOrder_l0_s2 none n h0_0 h0_1 h0_2 N seen t10 (K .ret (buildS i_isOrder_l0_s2_o0 [.i h0_0, .f h0_1, .f h0_2])) (fun seen_ => K (.exit 0) (buildS i_isOrder_l0_s2_o1 [.i n, .i seen_, .i h0_0, .f h0_1, .f h0_2]))
    | _ => none) ((A_i_isOrder_l0 α N).ls 119 3))
theorem E_i_isOrder_l0_s2_ok {α : Type} (N : Nat) : EnvOk Try.prog (E_i_isOrder_l0_s2 α N) := (A_i_isOrder_l0_ok N).addLoop2 Try.func119 (by kernel_rfl) (loopSum_ok prog_mixed prog_names (A_i_isOrder_l0_ok N) Try.func119 (by kernel_rfl) (d := 1) (ro := 1) fun l K r h => by
  split at h
  · exact (i_isOrder_l0_s2_loop N _ _ _ _ K N _ _).trans h
  · cases h)

/-- impl.isOrder -/
def i_isOrder_s2_a : SPat := ⟨[.slice ⟨⟨0, 0⟩, 1, 0, 8⟩ 8 8 1 true, .int .i64], [[.vals [.int .i64], .ints .u8 8, .ints .u8 8]]⟩
def i_isOrder_s2_r0 : SPat := ⟨[.bool], [[.vals [.int .i64], .ints .u8 8, .ints .u8 8]]⟩
theorem i_isOrder_s2_run {α : Type} (N : Nat) (n : Int) (h0_0 : Int) (h0_1 : Nat → Int) (h0_2 : Nat → Int) (K : AV → Heap → Option α) :
    callK Try.prog (E_i_isOrder_l0_s2 α N) 1 119 1 (buildS i_isOrder_s2_a [.i n, .i h0_0, .f h0_1, .f h0_2]).t (buildS i_isOrder_s2_a [.i n, .i h0_0, .f h0_1, .f h0_2]).h K = i_isOrder_s2 none N n h0_0 h0_1 h0_2 (fun r__ => retK (buildS i_isOrder_s2_r0 [.b r__, .i h0_0, .f h0_1, .f h0_2]) K) := by kernel_rfl
def E_i_isOrder_s2 (α : Type) (N : Nat) : Env α := (E_i_isOrder_l0_s2 α N).addFun 119 true 1 i_isOrder_s2_a (fun l K => match l with
    | [.i n, .i h0_0, .f h0_1, .f h0_2] => i_isOrder_s2 none N n h0_0 h0_1 h0_2 (fun r__ => retK (buildS i_isOrder_s2_r0 [.b r__, .i h0_0, .f h0_1, .f h0_2]) K)
    | _ => none)
theorem E_i_isOrder_s2_ok {α : Type} (N : Nat) : EnvOk Try.prog (E_i_isOrder_s2 α N) := (E_i_isOrder_l0_s2_ok N).addFun prog_mixed prog_names (d := 1) fun l K r h => by
  split at h
  · exact (i_isOrder_s2_run N _ _ _ _ K).trans h
  · cases h

/-- impl.isOrder, loop -/
def i_isOrder_l0_s3_p : SPat := ⟨[.undef, .int .i64, .undef, .undef, .undef, .int .i64, .undef, .undef, .slice ⟨⟨0, 0⟩, 2, 0, 8⟩ 8 8 1 true, .intC .i64 8, .int .i64] ++ List.replicate 30 .undef, [[.vals [.int .i64], .ints .u8 8, .ints .u8 8]]⟩
def i_isOrder_l0_s3_o0 : SPat := ⟨[.undef, .undef, .undef, .undef, .boolC false] ++ List.replicate 36 .undef, [[.vals [.int .i64], .ints .u8 8, .ints .u8 8]]⟩
def i_isOrder_l0_s3_o1 : SPat := ⟨[.undef, .int .i64, .undef, .undef, .undef, .int .i64] ++ List.replicate 35 .undef, [[.vals [.int .i64], .ints .u8 8, .ints .u8 8]]⟩
theorem i_isOrder_l0_s3_round {α : Type} (N : Nat) (n : Int) (seen : Int) (t10 : Int) (h0_0 : Int) (h0_1 : Nat → Int) (h0_2 : Nat → Int) (kn : St → Option α) (K : AExit → St → Option α) :
    roundK Try.prog (E_i_isOrder_s2 α N) 1 1 119 Try.f119 3 1 (buildS i_isOrder_l0_s3_p [.i n, .i seen, .i t10, .i h0_0, .f h0_1, .f h0_2]) kn K = i_isOrder_l0_s3_s none n h0_0 h0_1 h0_2 seen t10 (fun seen t10 => kn (buildS i_isOrder_l0_s3_p [.i n, .i seen, .i t10, .i h0_0, .f h0_1, .f h0_2])) (K .ret (buildS i_isOrder_l0_s3_o0 [.i h0_0, .f h0_1, .f h0_2])) (fun seen_ => K (.exit 0) (buildS i_isOrder_l0_s3_o1 [.i n, .i seen_, .i h0_0, .f h0_1, .f h0_2])) := by kernel_rfl
theorem i_isOrder_l0_s3_loop {α : Type} (N : Nat) (n : Int) (h0_0 : Int) (h0_1 : Nat → Int) (h0_2 : Nat → Int) (K : AExit → St → Option α) : ∀ (m : Nat) (seen : Int) (t10 : Int),
    loopN (trimSt ((E_i_isOrder_s2 α N).ann 119 3).head ((E_i_isOrder_s2 α N).ann 119 3).grow 1) (bodyK Try.prog (E_i_isOrder_s2 α N) 1 1 119 Try.f119 3) m (buildS i_isOrder_l0_s3_p [.i n, .i seen, .i t10, .i h0_0, .f h0_1, .f h0_2]) (leaveLoop ((E_i_isOrder_s2 α N).ann 119 3) 1 K) = i_isOrder_l0_s3 none n h0_0 h0_1 h0_2 m seen t10 (K .ret (buildS i_isOrder_l0_s3_o0 [.i h0_0, .f h0_1, .f h0_2])) (fun seen_ => K (.exit 0) (buildS i_isOrder_l0_s3_o1 [.i n, .i seen_, .i h0_0, .f h0_1, .f h0_2])) := by
  intro m
  induction m with
  | zero => intros; rfl
  | succ m ih =>
    intro seen t10
    rw [loopN_round]
    refine (i_isOrder_l0_s3_round N n seen t10 h0_0 h0_1 h0_2 _ K).trans ?_
    simp only [ih]
    rfl
def E_i_isOrder_l0_s3 (α : Type) (N : Nat) : Env α := (E_i_isOrder_s2 α N).addLoop2 119 3 (loopSum2 ((E_i_isOrder_s2 α N).ann 119 3) 1 i_isOrder_l0_s3_p (fun l K => match l with
    | [.i n, .i seen, .i t10, .i h0_0, .f h0_1, .f h0_2] => i_isOrder_l0_s3 none n h0_0 h0_1 h0_2 N seen t10 (K .ret (buildS i_isOrder_l0_s3_o0 [.i h0_0, .f h0_1, .f h0_2])) (fun seen_ => K (.exit 0) (buildS i_isOrder_l0_s3_o1 [.i n, .i seen_, .i h0_0, .f h0_1, .f h0_2]))
    | _ => none) ((E_i_isOrder_s2 α N).ls 119 3))
theorem E_i_isOrder_l0_s3_ok {α : Type} (N : Nat) : EnvOk Try.prog (E_i_isOrder_l0_s3 α N) := (E_i_isOrder_s2_ok N).addLoop2 Try.func119 (by kernel_rfl) (loopSum_ok prog_mixed prog_names (E_i_isOrder_s2_ok N) Try.func119 (by kernel_rfl) (d := 1) (ro := 1) fun l K r h => by
  split at h
  · exact (i_isOrder_l0_s3_loop N _ _ _ _ K N _ _).trans h
  · cases h)

/-- impl.isOrder -/
def i_isOrder_s3_a : SPat := ⟨[.slice ⟨⟨0, 0⟩, 2, 0, 8⟩ 8 8 1 true, .int .i64], [[.vals [.int .i64], .ints .u8 8, .ints .u8 8]]⟩
def i_isOrder_s3_r0 : SPat := ⟨[.bool], [[.vals [.int .i64], .ints .u8 8, .ints .u8 8]]⟩
theorem i_isOrder_s3_run {α : Type} (N : Nat) (n : Int) (h0_0 : Int) (h0_1 : Nat → Int) (h0_2 : Nat → Int) (K : AV → Heap → Option α) :
    callK Try.prog (E_i_isOrder_l0_s3 α N) 1 119 1 (buildS i_isOrder_s3_a [.i n, .i h0_0, .f h0_1, .f h0_2]).t (buildS i_isOrder_s3_a [.i n, .i h0_0, .f h0_1, .f h0_2]).h K = i_isOrder_s3 none N n h0_0 h0_1 h0_2 (fun r__ => retK (buildS i_isOrder_s3_r0 [.b r__, .i h0_0, .f h0_1, .f h0_2]) K) := by kernel_rfl
def E_i_isOrder_s3 (α : Type) (N : Nat) : Env α := (E_i_isOrder_l0_s3 α N).addFun 119 true 1 i_isOrder_s3_a (fun l K => match l with
    | [.i n, .i h0_0, .f h0_1, .f h0_2] => i_isOrder_s3 none N n h0_0 h0_1 h0_2 (fun r__ => retK (buildS i_isOrder_s3_r0 [.b r__, .i h0_0, .f h0_1, .f h0_2]) K)
    | _ => none)
theorem E_i_isOrder_s3_ok {α : Type} (N : Nat) : EnvOk Try.prog (E_i_isOrder_s3 α N) := (E_i_isOrder_l0_s3_ok N).addFun prog_mixed prog_names (d := 1) fun l K r h => by
  split at h
  · exact (i_isOrder_s3_run N _ _ _ _ K).trans h
  · cases h

def A_i_IsGrid_l0 (α : Type) (N : Nat) : Env α := (E_i_isOrder_s3 α N).addAnn 57 4 { head := [1, 25, 26], grow := [], out := [], ret := [2] }
theorem A_i_IsGrid_l0_ok {α : Type} (N : Nat) : EnvOk Try.prog (A_i_IsGrid_l0 α N) := (E_i_isOrder_s3_ok N).addAnn

/-- impl.IsGrid, loop -/
def i_IsGrid_l0_p : SPat := ⟨[.undef, .ptr ⟨⟨0, 0⟩, 0, 0, 1⟩, .undef, .undef, .undef, .undef, .undef, .undef, .undef, .undef, .undef, .undef, .undef, .undef, .undef, .undef, .undef, .undef, .undef, .undef, .undef, .undef, .undef, .undef, .undef, .int .i64, .int .i64] ++ List.replicate 12 .undef, [[.vals [.int .i64], .ints .u8 8, .ints .u8 8]]⟩
def i_IsGrid_l0_o0 : SPat := ⟨[.undef, .undef, .boolC false] ++ List.replicate 36 .undef, [[.vals [.int .i64], .ints .u8 8, .ints .u8 8]]⟩
def i_IsGrid_l0_o1 : SPat := ⟨[] ++ List.replicate 39 .undef, [[.vals [.int .i64], .ints .u8 8, .ints .u8 8]]⟩
theorem i_IsGrid_l0_round {α : Type} (N : Nat) (t25 : Int) (t26 : Int) (h0_0 : Int) (h0_1 : Nat → Int) (h0_2 : Nat → Int) (kn : St → Option α) (K : AExit → St → Option α) :
    roundK Try.prog (A_i_IsGrid_l0 α N) 1 0 57 Try.f57 4 1 (buildS i_IsGrid_l0_p [.i t25, .i t26, .i h0_0, .f h0_1, .f h0_2]) kn K = i_IsGrid_l0_s none t25 h0_0 h0_1 h0_2 t26 (fun t26 => kn (buildS i_IsGrid_l0_p [.i t25, .i t26, .i h0_0, .f h0_1, .f h0_2])) (K .ret (buildS i_IsGrid_l0_o0 [.i h0_0, .f h0_1, .f h0_2])) (K (.exit 0) (buildS i_IsGrid_l0_o1 [.i h0_0, .f h0_1, .f h0_2])) := by kernel_rfl
theorem i_IsGrid_l0_loop {α : Type} (N : Nat) (t25 : Int) (h0_0 : Int) (h0_1 : Nat → Int) (h0_2 : Nat → Int) (K : AExit → St → Option α) : ∀ (m : Nat) (t26 : Int),
    loopN (trimSt ((A_i_IsGrid_l0 α N).ann 57 4).head ((A_i_IsGrid_l0 α N).ann 57 4).grow 1) (bodyK Try.prog (A_i_IsGrid_l0 α N) 1 0 57 Try.f57 4) m (buildS i_IsGrid_l0_p [.i t25, .i t26, .i h0_0, .f h0_1, .f h0_2]) (leaveLoop ((A_i_IsGrid_l0 α N).ann 57 4) 1 K) = i_IsGrid_l0 none t25 h0_0 h0_1 h0_2 m t26 (K .ret (buildS i_IsGrid_l0_o0 [.i h0_0, .f h0_1, .f h0_2])) (K (.exit 0) (buildS i_IsGrid_l0_o1 [.i h0_0, .f h0_1, .f h0_2])) := by
  intro m
  induction m with
  | zero => intros; rfl
  | succ m ih =>
    intro t26
    rw [loopN_round]
    refine (i_IsGrid_l0_round N t25 t26 h0_0 h0_1 h0_2 _ K).trans ?_
    simp only [ih]
    rfl
def E_i_IsGrid_l0 (α : Type) (N : Nat) : Env α := (A_i_IsGrid_l0 α N).addLoop2 57 4 (loopSum2 ((A_i_IsGrid_l0 α N).ann 57 4) 0 i_IsGrid_l0_p (fun l K => match l with
    | [.i t25, .i t26, .i h0_0, .f h0_1, .f h0_2] => i_IsGrid_l0 none t25 h0_0 h0_1 h0_2 N t26 (K .ret (buildS i_IsGrid_l0_o0 [.i h0_0, .f h0_1, .f h0_2])) (K (.exit 0) (buildS i_IsGrid_l0_o1 [.i h0_0, .f h0_1, .f h0_2]))
    | _ => none) ((A_i_IsGrid_l0 α N).ls 57 4))
theorem E_i_IsGrid_l0_ok {α : Type} (N : Nat) : EnvOk Try.prog (E_i_IsGrid_l0 α N) := (A_i_IsGrid_l0_ok N).addLoop2 Try.func57 (by kernel_rfl) (loopSum_ok prog_mixed prog_names (A_i_IsGrid_l0_ok N) Try.func57 (by kernel_rfl) (d := 1) (ro := 0) fun l K r h => by
  split at h
  · exact (i_IsGrid_l0_loop N _ _ _ _ K N _).trans h
  · cases h)

/-- impl.IsGrid -/
def i_IsGrid_a : SPat := ⟨[.agg [.vals [.int .i64], .ints .u8 8, .ints .u8 8]], []⟩
def i_IsGrid_r0 : SPat := ⟨[.bool], []⟩
theorem i_IsGrid_run {α : Type} (N : Nat) (g_0 : Int) (g_1 : Nat → Int) (g_2 : Nat → Int) (K : AV → Heap → Option α) :
    callK Try.prog (E_i_IsGrid_l0 α N) 1 57 0 (buildS i_IsGrid_a [.i g_0, .f g_1, .f g_2]).t (buildS i_IsGrid_a [.i g_0, .f g_1, .f g_2]).h K = i_IsGrid none N g_0 g_1 g_2 (fun r__ => retK (buildS i_IsGrid_r0 [.b r__]) K) := by kernel_rfl
def E_i_IsGrid (α : Type) (N : Nat) : Env α := (E_i_IsGrid_l0 α N).addFun 57 true 0 i_IsGrid_a (fun l K => match l with
    | [.i g_0, .f g_1, .f g_2] => i_IsGrid none N g_0 g_1 g_2 (fun r__ => retK (buildS i_IsGrid_r0 [.b r__]) K)
    | _ => none)
theorem E_i_IsGrid_ok {α : Type} (N : Nat) : EnvOk Try.prog (E_i_IsGrid α N) := (E_i_IsGrid_l0_ok N).addFun prog_mixed prog_names (d := 1) fun l K r h => by
  split at h
  · exact (i_IsGrid_run N _ _ _ K).trans h
  · cases h

def A_slices_IndexFunc_i_Places_i_Places_l0 (α : Type) (N : Nat) : Env α := (E_i_IsGrid α N).addAnn 151 2 { head := [0, 1, 7, 8], grow := [], out := [], ret := [4] }
theorem A_slices_IndexFunc_i_Places_i_Places_l0_ok {α : Type} (N : Nat) : EnvOk Try.prog (A_slices_IndexFunc_i_Places_i_Places_l0 α N) := (E_i_IsGrid_ok N).addAnn

/-- impl.isOrder, loop -/
def i_isOrder_l0_p : SPat := ⟨[.undef, .int .i64, .undef, .undef, .undef, .int .i64, .undef, .undef, .slice ⟨⟨0, 0⟩, 0, 0, 4⟩ 4 4 1 true, .intC .i64 4, .int .i64] ++ List.replicate 30 .undef, [[.ints .u8 4]]⟩
def i_isOrder_l0_o0 : SPat := ⟨[.undef, .undef, .undef, .undef, .boolC false] ++ List.replicate 36 .undef, [[.ints .u8 4]]⟩
def i_isOrder_l0_o1 : SPat := ⟨[.undef, .int .i64, .undef, .undef, .undef, .int .i64] ++ List.replicate 35 .undef, [[.ints .u8 4]]⟩
theorem i_isOrder_l0_round {α : Type} (N : Nat) (n : Int) (seen : Int) (t10 : Int) (h0 : Nat → Int) (kn : St → Option α) (K : AExit → St → Option α) :
    roundK Try.prog (A_slices_IndexFunc_i_Places_i_Places_l0 α N) 1 1 119 Try.f119 3 1 (buildS i_isOrder_l0_p [.i n, .i seen, .i t10, .f h0]) kn K = i_isOrder_l0_s none n h0 seen t10 (fun seen t10 => kn (buildS i_isOrder_l0_p [.i n, .i seen, .i t10, .f h0])) (K .ret (buildS i_isOrder_l0_o0 [.f h0])) (fun seen_ => K (.exit 0) (buildS i_isOrder_l0_o1 [.i n, .i seen_, .f h0])) := by kernel_rfl
theorem i_isOrder_l0_loop {α : Type} (N : Nat) (n : Int) (h0 : Nat → Int) (K : AExit → St → Option α) : ∀ (m : Nat) (seen : Int) (t10 : Int),
    loopN (trimSt ((A_slices_IndexFunc_i_Places_i_Places_l0 α N).ann 119 3).head ((A_slices_IndexFunc_i_Places_i_Places_l0 α N).ann 119 3).grow 1) (bodyK Try.prog (A_slices_IndexFunc_i_Places_i_Places_l0 α N) 1 1 119 Try.f119 3) m (buildS i_isOrder_l0_p [.i n, .i seen, .i t10, .f h0]) (leaveLoop ((A_slices_IndexFunc_i_Places_i_Places_l0 α N).ann 119 3) 1 K) = i_isOrder_l0 none n h0 m seen t10 (K .ret (buildS i_isOrder_l0_o0 [.f h0])) (fun seen_ => K (.exit 0) (buildS i_isOrder_l0_o1 [.i n, .i seen_, .f h0])) := by
  intro m
  induction m with
  | zero => intros; rfl
  | succ m ih =>
    intro seen t10
    rw [loopN_round]
    refine (i_isOrder_l0_round N n seen t10 h0 _ K).trans ?_
    simp only [ih]
    rfl
def E_i_isOrder_l0 (α : Type) (N : Nat) : Env α := (A_slices_IndexFunc_i_Places_i_Places_l0 α N).addLoop2 119 3 (loopSum2 ((A_slices_IndexFunc_i_Places_i_Places_l0 α N).ann 119 3) 1 i_isOrder_l0_p (fun l K => match l with
    | [.i n, .i seen, .i t10, .f h0] => i_isOrder_l0 none n h0 N seen t10 (K .ret (buildS i_isOrder_l0_o0 [.f h0])) (fun seen_ => K (.exit 0) (buildS i_isOrder_l0_o1 [.i n, .i seen_, .f h0]))
    | _ => none) ((A_slices_IndexFunc_i_Places_i_Places_l0 α N).ls 119 3))
theorem E_i_isOrder_l0_ok {α : Type} (N : Nat) : EnvOk Try.prog (E_i_isOrder_l0 α N) := (A_slices_IndexFunc_i_Places_i_Places_l0_ok N).addLoop2 Try.func119 (by kernel_rfl) (loopSum_ok prog_mixed prog_names (A_slices_IndexFunc_i_Places_i_Places_l0_ok N) Try.func119 (by kernel_rfl) (d := 1) (ro := 1) fun l K r h => by
  split at h
  · exact (i_isOrder_l0_loop N _ _ K N _ _).trans h
  · cases h)

/-- impl.isOrder -/
def i_isOrder_a : SPat := ⟨[.slice ⟨⟨0, 0⟩, 0, 0, 4⟩ 4 4 1 true, .int .i64], [[.ints .u8 4]]⟩
def i_isOrder_r0 : SPat := ⟨[.bool], [[.ints .u8 4]]⟩
theorem i_isOrder_run {α : Type} (N : Nat) (n : Int) (h0 : Nat → Int) (K : AV → Heap → Option α) :
    callK Try.prog (E_i_isOrder_l0 α N) 1 119 1 (buildS i_isOrder_a [.i n, .f h0]).t (buildS i_isOrder_a [.i n, .f h0]).h K = i_isOrder none N n h0 (fun r__ => retK (buildS i_isOrder_r0 [.b r__, .f h0]) K) := by kernel_rfl
def E_i_isOrder (α : Type) (N : Nat) : Env α := (E_i_isOrder_l0 α N).addFun 119 true 1 i_isOrder_a (fun l K => match l with
    | [.i n, .f h0] => i_isOrder none N n h0 (fun r__ => retK (buildS i_isOrder_r0 [.b r__, .f h0]) K)
    | _ => none)
theorem E_i_isOrder_ok {α : Type} (N : Nat) : EnvOk Try.prog (E_i_isOrder α N) := (E_i_isOrder_l0_ok N).addFun prog_mixed prog_names (d := 1) fun l K r h => by
  split at h
  · exact (i_isOrder_run N _ _ K).trans h
  · cases h

/-- impl.IsPlaces -/
def i_IsPlaces_a : SPat := ⟨[.agg [.ints .u8 4], .int .i64], []⟩
def i_IsPlaces_r0 : SPat := ⟨[.bool], []⟩
theorem i_IsPlaces_run {α : Type} (N : Nat) (q : Nat → Int) (k : Int) (K : AV → Heap → Option α) :
    callK Try.prog (E_i_isOrder α N) 1 122 0 (buildS i_IsPlaces_a [.f q, .i k]).t (buildS i_IsPlaces_a [.f q, .i k]).h K = i_IsPlaces none N q k (fun r__ => retK (buildS i_IsPlaces_r0 [.b r__]) K) := by kernel_rfl
def E_i_IsPlaces (α : Type) (N : Nat) : Env α := (E_i_isOrder α N).addFun 122 true 0 i_IsPlaces_a (fun l K => match l with
    | [.f q, .i k] => i_IsPlaces none N q k (fun r__ => retK (buildS i_IsPlaces_r0 [.b r__]) K)
    | _ => none)
theorem E_i_IsPlaces_ok {α : Type} (N : Nat) : EnvOk Try.prog (E_i_IsPlaces α N) := (E_i_isOrder_ok N).addFun prog_mixed prog_names (d := 1) fun l K r h => by
  split at h
  · exact (i_IsPlaces_run N _ _ K).trans h
  · cases h

/-- impl.arePlaces$1 -/
def i_arePlaces_1_a : SPat := ⟨[.agg [.ints .u8 4], .ptr ⟨⟨0, 0⟩, 0, 0, 1⟩], [[.vals [.int .i64]]]⟩
def i_arePlaces_1_r0 : SPat := ⟨[.bool], [[.vals [.int .i64]]]⟩
theorem i_arePlaces_1_run {α : Type} (N : Nat) (q : Nat → Int) (h0 : Int) (K : AV → Heap → Option α) :
    callK Try.prog (E_i_IsPlaces α N) 1 121 1 (buildS i_arePlaces_1_a [.f q, .i h0]).t (buildS i_arePlaces_1_a [.f q, .i h0]).h K = i_arePlaces_1 none N q h0 (fun r__ => retK (buildS i_arePlaces_1_r0 [.b r__, .i h0]) K) := by kernel_rfl
def E_i_arePlaces_1 (α : Type) (N : Nat) : Env α := (E_i_IsPlaces α N).addFun 121 true 1 i_arePlaces_1_a (fun l K => match l with
    | [.f q, .i h0] => i_arePlaces_1 none N q h0 (fun r__ => retK (buildS i_arePlaces_1_r0 [.b r__, .i h0]) K)
    | _ => none)
theorem E_i_arePlaces_1_ok {α : Type} (N : Nat) : EnvOk Try.prog (E_i_arePlaces_1 α N) := (E_i_IsPlaces_ok N).addFun prog_mixed prog_names (d := 1) fun l K r h => by
  split at h
  · exact (i_arePlaces_1_run N _ _ K).trans h
  · cases h

/-- slices.IndexFunc[[]impl.Places,impl.Places], loop -/
def slices_IndexFunc_i_Places_i_Places_l0_p : SPat := ⟨[.sliceV 0 0 0 4 true, .func 121 [.ptr ⟨⟨1, 0⟩, 0, 0, 1⟩], .undef, .undef, .undef, .undef, .undef, .int .i64, .int .i64] ++ List.replicate 10 .undef, [[.intsV .u8], [.vals [.int .i64]]]⟩
def slices_IndexFunc_i_Places_i_Places_l0_o0 : SPat := ⟨[.undef, .undef, .undef, .undef, .int .i64] ++ List.replicate 14 .undef, [[.intsV .u8], [.vals [.int .i64]]]⟩
def slices_IndexFunc_i_Places_i_Places_l0_o1 : SPat := ⟨[] ++ List.replicate 19 .undef, [[.intsV .u8], [.vals [.int .i64]]]⟩
theorem slices_IndexFunc_i_Places_i_Places_l0_round {α : Type} (N : Nat) (s_n : Nat) (s_l : Nat) (s_c : Nat) (t7 : Int) (t8 : Int) (h0_n : Nat) (h0 : Nat → Int) (h1 : Int) (kn : St → Option α) (K : AExit → St → Option α) :
    roundK Try.prog (E_i_arePlaces_1 α N) 1 2 151 Try.f151 2 2 (buildS slices_IndexFunc_i_Places_i_Places_l0_p [.n s_n, .n s_l, .n s_c, .i t7, .i t8, .n h0_n, .f h0, .i h1]) kn K = slices_IndexFunc_i_Places_i_Places_l0_s none N s_n s_l s_c t7 h0_n h0 h1 t8 (fun t8 => kn (buildS slices_IndexFunc_i_Places_i_Places_l0_p [.n s_n, .n s_l, .n s_c, .i t7, .i t8, .n h0_n, .f h0, .i h1])) (fun t4_ => K .ret (buildS slices_IndexFunc_i_Places_i_Places_l0_o0 [.i t4_, .n h0_n, .f h0, .i h1])) (K (.exit 0) (buildS slices_IndexFunc_i_Places_i_Places_l0_o1 [.n h0_n, .f h0, .i h1])) := by kernel_rfl
theorem slices_IndexFunc_i_Places_i_Places_l0_loop {α : Type} (N : Nat) (s_n : Nat) (s_l : Nat) (s_c : Nat) (t7 : Int) (h0_n : Nat) (h0 : Nat → Int) (h1 : Int) (K : AExit → St → Option α) : ∀ (m : Nat) (t8 : Int),
    loopN (trimSt ((E_i_arePlaces_1 α N).ann 151 2).head ((E_i_arePlaces_1 α N).ann 151 2).grow 2) (bodyK Try.prog (E_i_arePlaces_1 α N) 1 2 151 Try.f151 2) m (buildS slices_IndexFunc_i_Places_i_Places_l0_p [.n s_n, .n s_l, .n s_c, .i t7, .i t8, .n h0_n, .f h0, .i h1]) (leaveLoop ((E_i_arePlaces_1 α N).ann 151 2) 2 K) = slices_IndexFunc_i_Places_i_Places_l0 none N s_n s_l s_c t7 h0_n h0 h1 m t8 (fun t4_ => K .ret (buildS slices_IndexFunc_i_Places_i_Places_l0_o0 [.i t4_, .n h0_n, .f h0, .i h1])) (K (.exit 0) (buildS slices_IndexFunc_i_Places_i_Places_l0_o1 [.n h0_n, .f h0, .i h1])) := by
  intro m
  induction m with
  | zero => intros; rfl
  | succ m ih =>
    intro t8
    rw [loopN_round]
    refine (slices_IndexFunc_i_Places_i_Places_l0_round N s_n s_l s_c t7 t8 h0_n h0 h1 _ K).trans ?_
    simp only [ih]
    rfl
def E_slices_IndexFunc_i_Places_i_Places_l0 (α : Type) (N : Nat) : Env α := (E_i_arePlaces_1 α N).addLoop2 151 2 (loopSum2 ((E_i_arePlaces_1 α N).ann 151 2) 2 slices_IndexFunc_i_Places_i_Places_l0_p (fun l K => match l with
    | [.n s_n, .n s_l, .n s_c, .i t7, .i t8, .n h0_n, .f h0, .i h1] => slices_IndexFunc_i_Places_i_Places_l0 none N s_n s_l s_c t7 h0_n h0 h1 N t8 (fun t4_ => K .ret (buildS slices_IndexFunc_i_Places_i_Places_l0_o0 [.i t4_, .n h0_n, .f h0, .i h1])) (K (.exit 0) (buildS slices_IndexFunc_i_Places_i_Places_l0_o1 [.n h0_n, .f h0, .i h1]))
    | _ => none) ((E_i_arePlaces_1 α N).ls 151 2))
theorem E_slices_IndexFunc_i_Places_i_Places_l0_ok {α : Type} (N : Nat) : EnvOk Try.prog (E_slices_IndexFunc_i_Places_i_Places_l0 α N) := (E_i_arePlaces_1_ok N).addLoop2 Try.func151 (by kernel_rfl) (loopSum_ok prog_mixed prog_names (E_i_arePlaces_1_ok N) Try.func151 (by kernel_rfl) (d := 1) (ro := 2) fun l K r h => by
  split at h
  · exact (slices_IndexFunc_i_Places_i_Places_l0_loop N _ _ _ _ _ _ _ K N _).trans h
  · cases h)

/-- slices.IndexFunc[[]impl.Places,impl.Places] -/
def slices_IndexFunc_i_Places_i_Places_a : SPat := ⟨[.sliceV 0 0 0 4 true, .func 121 [.ptr ⟨⟨1, 0⟩, 0, 0, 1⟩]], [[.intsV .u8], [.vals [.int .i64]]]⟩
def slices_IndexFunc_i_Places_i_Places_r0 : SPat := ⟨[.int .i64], [[.intsV .u8], [.vals [.int .i64]]]⟩
theorem slices_IndexFunc_i_Places_i_Places_run {α : Type} (N : Nat) (s_n : Nat) (s_l : Nat) (s_c : Nat) (h0_n : Nat) (h0 : Nat → Int) (h1 : Int) (K : AV → Heap → Option α) :
    callK Try.prog (E_slices_IndexFunc_i_Places_i_Places_l0 α N) 1 151 2 (buildS slices_IndexFunc_i_Places_i_Places_a [.n s_n, .n s_l, .n s_c, .n h0_n, .f h0, .i h1]).t (buildS slices_IndexFunc_i_Places_i_Places_a [.n s_n, .n s_l, .n s_c, .n h0_n, .f h0, .i h1]).h K = slices_IndexFunc_i_Places_i_Places none N s_n s_l s_c h0_n h0 h1 (fun r__ => retK (buildS slices_IndexFunc_i_Places_i_Places_r0 [.i r__, .n h0_n, .f h0, .i h1]) K) := by kernel_rfl
def E_slices_IndexFunc_i_Places_i_Places (α : Type) (N : Nat) : Env α := (E_slices_IndexFunc_i_Places_i_Places_l0 α N).addFun 151 true 2 slices_IndexFunc_i_Places_i_Places_a (fun l K => match l with
    | [.n s_n, .n s_l, .n s_c, .n h0_n, .f h0, .i h1] => slices_IndexFunc_i_Places_i_Places none N s_n s_l s_c h0_n h0 h1 (fun r__ => retK (buildS slices_IndexFunc_i_Places_i_Places_r0 [.i r__, .n h0_n, .f h0, .i h1]) K)
    | _ => none)
theorem E_slices_IndexFunc_i_Places_i_Places_ok {α : Type} (N : Nat) : EnvOk Try.prog (E_slices_IndexFunc_i_Places_i_Places α N) := (E_slices_IndexFunc_i_Places_i_Places_l0_ok N).addFun prog_mixed prog_names (d := 1) fun l K r h => by
  split at h
  · exact (slices_IndexFunc_i_Places_i_Places_run N _ _ _ _ _ _ K).trans h
  · cases h

/-- slices.ContainsFunc[[]impl.Places,impl.Places] -/
def slices_ContainsFunc_i_Places_i_Places_a : SPat := ⟨[.sliceV 0 0 0 4 true, .func 121 [.ptr ⟨⟨1, 0⟩, 0, 0, 1⟩]], [[.intsV .u8], [.vals [.int .i64]]]⟩
def slices_ContainsFunc_i_Places_i_Places_r0 : SPat := ⟨[.bool], [[.intsV .u8], [.vals [.int .i64]]]⟩
theorem slices_ContainsFunc_i_Places_i_Places_run {α : Type} (N : Nat) (s_n : Nat) (s_l : Nat) (s_c : Nat) (h0_n : Nat) (h0 : Nat → Int) (h1 : Int) (K : AV → Heap → Option α) :
    callK Try.prog (E_slices_IndexFunc_i_Places_i_Places α N) 1 120 2 (buildS slices_ContainsFunc_i_Places_i_Places_a [.n s_n, .n s_l, .n s_c, .n h0_n, .f h0, .i h1]).t (buildS slices_ContainsFunc_i_Places_i_Places_a [.n s_n, .n s_l, .n s_c, .n h0_n, .f h0, .i h1]).h K = slices_ContainsFunc_i_Places_i_Places none N s_n s_l s_c h0_n h0 h1 (fun r__ => retK (buildS slices_ContainsFunc_i_Places_i_Places_r0 [.b r__, .n h0_n, .f h0, .i h1]) K) := by kernel_rfl
def E_slices_ContainsFunc_i_Places_i_Places (α : Type) (N : Nat) : Env α := (E_slices_IndexFunc_i_Places_i_Places α N).addFun 120 true 2 slices_ContainsFunc_i_Places_i_Places_a (fun l K => match l with
    | [.n s_n, .n s_l, .n s_c, .n h0_n, .f h0, .i h1] => slices_ContainsFunc_i_Places_i_Places none N s_n s_l s_c h0_n h0 h1 (fun r__ => retK (buildS slices_ContainsFunc_i_Places_i_Places_r0 [.b r__, .n h0_n, .f h0, .i h1]) K)
    | _ => none)
theorem E_slices_ContainsFunc_i_Places_i_Places_ok {α : Type} (N : Nat) : EnvOk Try.prog (E_slices_ContainsFunc_i_Places_i_Places α N) := (E_slices_IndexFunc_i_Places_i_Places_ok N).addFun prog_mixed prog_names (d := 1) fun l K r h => by
  split at h
  · exact (slices_ContainsFunc_i_Places_i_Places_run N _ _ _ _ _ _ K).trans h
  · cases h

/-- impl.arePlaces -/
def i_arePlaces_a : SPat := ⟨[.sliceV 0 0 0 4 true, .int .i64], [[.intsV .u8]]⟩
def i_arePlaces_r0 : SPat := ⟨[.bool], [[.intsV .u8]]⟩
theorem i_arePlaces_run {α : Type} (N : Nat) (list_n : Nat) (list_l : Nat) (list_c : Nat) (k : Int) (h0_n : Nat) (h0 : Nat → Int) (K : AV → Heap → Option α) :
    callK Try.prog (E_slices_ContainsFunc_i_Places_i_Places α N) 1 58 1 (buildS i_arePlaces_a [.n list_n, .n list_l, .n list_c, .i k, .n h0_n, .f h0]).t (buildS i_arePlaces_a [.n list_n, .n list_l, .n list_c, .i k, .n h0_n, .f h0]).h K = i_arePlaces none N list_n list_l list_c k h0_n h0 (fun r__ => retK (buildS i_arePlaces_r0 [.b r__, .n h0_n, .f h0]) K) := by kernel_rfl
def E_i_arePlaces (α : Type) (N : Nat) : Env α := (E_slices_ContainsFunc_i_Places_i_Places α N).addFun 58 true 1 i_arePlaces_a (fun l K => match l with
    | [.n list_n, .n list_l, .n list_c, .i k, .n h0_n, .f h0] => i_arePlaces none N list_n list_l list_c k h0_n h0 (fun r__ => retK (buildS i_arePlaces_r0 [.b r__, .n h0_n, .f h0]) K)
    | _ => none)
theorem E_i_arePlaces_ok {α : Type} (N : Nat) : EnvOk Try.prog (E_i_arePlaces α N) := (E_slices_ContainsFunc_i_Places_i_Places_ok N).addFun prog_mixed prog_names (d := 1) fun l K r h => by
  split at h
  · exact (i_arePlaces_run N _ _ _ _ _ _ K).trans h
  · cases h

def A_i_Grid_relations_l0 (α : Type) (N : Nat) : Env α := (E_i_arePlaces α N).addAnn 61 3 { head := [1, 3, 10, 11], grow := [3], out := [3], ret := [2] }
theorem A_i_Grid_relations_l0_ok {α : Type} (N : Nat) : EnvOk Try.prog (A_i_Grid_relations_l0 α N) := (E_i_arePlaces_ok N).addAnn

def A_i_Grid_relations_l1 (α : Type) (N : Nat) : Env α := (A_i_Grid_relations_l0 α N).addAnn 61 7 { head := [1, 3, 4, 5, 10, 11, 16, 17], grow := [5], out := [1, 3, 5, 10, 11], ret := [2] }
theorem A_i_Grid_relations_l1_ok {α : Type} (N : Nat) : EnvOk Try.prog (A_i_Grid_relations_l1 α N) := (A_i_Grid_relations_l0_ok N).addAnn

/-- (impl.Grid).relations, loop -/
def i_Grid_relations_l1_p : SPat := ⟨[.undef, .ptr ⟨⟨0, 0⟩, 0, 0, 1⟩, .undef, .sliceV 2 0 0 1 false, .int .i64, .sliceV 3 0 0 1 false, .undef, .undef, .undef, .undef, .int .i64, .int .i64, .undef, .undef, .undef, .undef, .int .i64, .int .i64] ++ List.replicate 41 .undef, [[.vals [.int .i64], .ints .u8 8, .ints .u8 8], [.pool .i64], [.hdr 1], [.vec .i64]]⟩
def i_Grid_relations_l1_o0 : SPat := ⟨[.undef, .ptr ⟨⟨0, 0⟩, 0, 0, 1⟩, .undef, .sliceV 2 0 0 1 false, .undef, .sliceV 3 0 0 1 false, .undef, .undef, .undef, .undef, .int .i64, .int .i64] ++ List.replicate 47 .undef, [[.vals [.int .i64], .ints .u8 8, .ints .u8 8], [.pool .i64], [.hdr 1], [.vec .i64]]⟩
theorem i_Grid_relations_l1_round {α : Type} (N : Nat) (out_n : Nat) (out_l : Nat) (out_c : Nat) (r_ : Int) (list_n : Nat) (list_l : Nat) (list_c : Nat) (t10 : Int) (t11 : Int) (t16 : Int) (t17 : Int) (h0_0 : Int) (h0_1 : Nat → Int) (h0_2 : Nat → Int) (h1 : List (List Int)) (h2 : List (Nat × Nat)) (h3 : List Int) (kn : St → Option α) (K : AExit → St → Option α) :
    roundK Try.prog (A_i_Grid_relations_l1 α N) 1 0 61 Try.f61 7 4 (buildS i_Grid_relations_l1_p [.n out_n, .n out_l, .n out_c, .i r_, .n list_n, .n list_l, .n list_c, .i t10, .i t11, .i t16, .i t17, .i h0_0, .f h0_1, .f h0_2, .r h1, .p h2, .l h3]) kn K = i_Grid_relations_l1_s none out_n out_l out_c r_ t10 t11 t16 h0_0 h0_1 h0_2 h1 h2 list_n list_l list_c t17 h3 (fun list_n list_l list_c t17 h3 => kn (buildS i_Grid_relations_l1_p [.n out_n, .n out_l, .n out_c, .i r_, .n list_n, .n list_l, .n list_c, .i t10, .i t11, .i t16, .i t17, .i h0_0, .f h0_1, .f h0_2, .r h1, .p h2, .l h3])) (fun list_n_ list_l_ list_c_ h3_ => K (.exit 2) (buildS i_Grid_relations_l1_o0 [.n out_n, .n out_l, .n out_c, .n list_n_, .n list_l_, .n list_c_, .i t10, .i t11, .i h0_0, .f h0_1, .f h0_2, .r h1, .p h2, .l h3_])) := by kernel_rfl
theorem i_Grid_relations_l1_loop {α : Type} (N : Nat) (out_n : Nat) (out_l : Nat) (out_c : Nat) (r_ : Int) (t10 : Int) (t11 : Int) (t16 : Int) (h0_0 : Int) (h0_1 : Nat → Int) (h0_2 : Nat → Int) (h1 : List (List Int)) (h2 : List (Nat × Nat)) (K : AExit → St → Option α) : ∀ (m : Nat) (list_n : Nat) (list_l : Nat) (list_c : Nat) (t17 : Int) (h3 : List Int),
    loopN (trimSt ((A_i_Grid_relations_l1 α N).ann 61 7).head ((A_i_Grid_relations_l1 α N).ann 61 7).grow 4) (bodyK Try.prog (A_i_Grid_relations_l1 α N) 1 0 61 Try.f61 7) m (buildS i_Grid_relations_l1_p [.n out_n, .n out_l, .n out_c, .i r_, .n list_n, .n list_l, .n list_c, .i t10, .i t11, .i t16, .i t17, .i h0_0, .f h0_1, .f h0_2, .r h1, .p h2, .l h3]) (leaveLoop ((A_i_Grid_relations_l1 α N).ann 61 7) 4 K) = i_Grid_relations_l1 none out_n out_l out_c r_ t10 t11 t16 h0_0 h0_1 h0_2 h1 h2 m list_n list_l list_c t17 h3 (fun list_n_ list_l_ list_c_ h3_ => K (.exit 2) (buildS i_Grid_relations_l1_o0 [.n out_n, .n out_l, .n out_c, .n list_n_, .n list_l_, .n list_c_, .i t10, .i t11, .i h0_0, .f h0_1, .f h0_2, .r h1, .p h2, .l h3_])) := by
  intro m
  induction m with
  | zero => intros; rfl
  | succ m ih =>
    intro list_n list_l list_c t17 h3
    rw [loopN_round]
    refine (i_Grid_relations_l1_round N out_n out_l out_c r_ list_n list_l list_c t10 t11 t16 t17 h0_0 h0_1 h0_2 h1 h2 h3 _ K).trans ?_
    simp only [ih]
    rfl
def E_i_Grid_relations_l1 (α : Type) (N : Nat) : Env α := (A_i_Grid_relations_l1 α N).addLoop2 61 7 (loopSum2 ((A_i_Grid_relations_l1 α N).ann 61 7) 0 i_Grid_relations_l1_p (fun l K => match l with
    | [.n out_n, .n out_l, .n out_c, .i r_, .n list_n, .n list_l, .n list_c, .i t10, .i t11, .i t16, .i t17, .i h0_0, .f h0_1, .f h0_2, .r h1, .p h2, .l h3] => i_Grid_relations_l1 none out_n out_l out_c r_ t10 t11 t16 h0_0 h0_1 h0_2 h1 h2 N list_n list_l list_c t17 h3 (fun list_n_ list_l_ list_c_ h3_ => K (.exit 2) (buildS i_Grid_relations_l1_o0 [.n out_n, .n out_l, .n out_c, .n list_n_, .n list_l_, .n list_c_, .i t10, .i t11, .i h0_0, .f h0_1, .f h0_2, .r h1, .p h2, .l h3_]))
    | _ => none) ((A_i_Grid_relations_l1 α N).ls 61 7))
theorem E_i_Grid_relations_l1_ok {α : Type} (N : Nat) : EnvOk Try.prog (E_i_Grid_relations_l1 α N) := (A_i_Grid_relations_l1_ok N).addLoop2 Try.func61 (by kernel_rfl) (loopSum_ok prog_mixed prog_names (A_i_Grid_relations_l1_ok N) Try.func61 (by kernel_rfl) (d := 1) (ro := 0) fun l K r h => by
  split at h
  · exact (i_Grid_relations_l1_loop N _ _ _ _ _ _ _ _ _ _ _ _ K N _ _ _ _ _).trans h
  · cases h)

/-- (impl.Grid).relations, loop -/
def i_Grid_relations_l0_p : SPat := ⟨[.undef, .ptr ⟨⟨0, 0⟩, 0, 0, 1⟩, .undef, .sliceV 2 0 0 1 false, .undef, .undef, .undef, .undef, .undef, .undef, .int .i64, .int .i64] ++ List.replicate 47 .undef, [[.vals [.int .i64], .ints .u8 8, .ints .u8 8], [.pool .i64], [.hdr 1]]⟩
def i_Grid_relations_l0_o0 : SPat := ⟨[.undef, .undef, .undef, .sliceV 2 0 0 1 false] ++ List.replicate 55 .undef, [[.vals [.int .i64], .ints .u8 8, .ints .u8 8], [.pool .i64], [.hdr 1]]⟩
theorem i_Grid_relations_l0_round {α : Type} (N : Nat) (out_n : Nat) (out_l : Nat) (out_c : Nat) (t10 : Int) (t11 : Int) (h0_0 : Int) (h0_1 : Nat → Int) (h0_2 : Nat → Int) (h1 : List (List Int)) (h2 : List (Nat × Nat)) (kn : St → Option α) (K : AExit → St → Option α) :
    roundK Try.prog (E_i_Grid_relations_l1 α N) 1 0 61 Try.f61 3 3 (buildS i_Grid_relations_l0_p [.n out_n, .n out_l, .n out_c, .i t10, .i t11, .i h0_0, .f h0_1, .f h0_2, .r h1, .p h2]) kn K = i_Grid_relations_l0_s none N t10 h0_0 h0_1 h0_2 out_n out_l out_c t11 h1 h2 (fun out_n out_l out_c t11 h1 h2 => kn (buildS i_Grid_relations_l0_p [.n out_n, .n out_l, .n out_c, .i t10, .i t11, .i h0_0, .f h0_1, .f h0_2, .r h1, .p h2])) (fun out_n_ out_l_ out_c_ h1_ h2_ => K (.exit 0) (buildS i_Grid_relations_l0_o0 [.n out_n_, .n out_l_, .n out_c_, .i h0_0, .f h0_1, .f h0_2, .r h1_, .p h2_])) := by kernel_rfl
theorem i_Grid_relations_l0_loop {α : Type} (N : Nat) (t10 : Int) (h0_0 : Int) (h0_1 : Nat → Int) (h0_2 : Nat → Int) (K : AExit → St → Option α) : ∀ (m : Nat) (out_n : Nat) (out_l : Nat) (out_c : Nat) (t11 : Int) (h1 : List (List Int)) (h2 : List (Nat × Nat)),
    loopN (trimSt ((E_i_Grid_relations_l1 α N).ann 61 3).head ((E_i_Grid_relations_l1 α N).ann 61 3).grow 3) (bodyK Try.prog (E_i_Grid_relations_l1 α N) 1 0 61 Try.f61 3) m (buildS i_Grid_relations_l0_p [.n out_n, .n out_l, .n out_c, .i t10, .i t11, .i h0_0, .f h0_1, .f h0_2, .r h1, .p h2]) (leaveLoop ((E_i_Grid_relations_l1 α N).ann 61 3) 3 K) = i_Grid_relations_l0 none N t10 h0_0 h0_1 h0_2 m out_n out_l out_c t11 h1 h2 (fun out_n_ out_l_ out_c_ h1_ h2_ => K (.exit 0) (buildS i_Grid_relations_l0_o0 [.n out_n_, .n out_l_, .n out_c_, .i h0_0, .f h0_1, .f h0_2, .r h1_, .p h2_])) := by
  intro m
  induction m with
  | zero => intros; rfl
  | succ m ih =>
    intro out_n out_l out_c t11 h1 h2
    rw [loopN_round]
    refine (i_Grid_relations_l0_round N out_n out_l out_c t10 t11 h0_0 h0_1 h0_2 h1 h2 _ K).trans ?_
    simp only [ih]
    rfl
def E_i_Grid_relations_l0 (α : Type) (N : Nat) : Env α := (E_i_Grid_relations_l1 α N).addLoop2 61 3 (loopSum2 ((E_i_Grid_relations_l1 α N).ann 61 3) 0 i_Grid_relations_l0_p (fun l K => match l with
    | [.n out_n, .n out_l, .n out_c, .i t10, .i t11, .i h0_0, .f h0_1, .f h0_2, .r h1, .p h2] => i_Grid_relations_l0 none N t10 h0_0 h0_1 h0_2 N out_n out_l out_c t11 h1 h2 (fun out_n_ out_l_ out_c_ h1_ h2_ => K (.exit 0) (buildS i_Grid_relations_l0_o0 [.n out_n_, .n out_l_, .n out_c_, .i h0_0, .f h0_1, .f h0_2, .r h1_, .p h2_]))
    | _ => none) ((E_i_Grid_relations_l1 α N).ls 61 3))
theorem E_i_Grid_relations_l0_ok {α : Type} (N : Nat) : EnvOk Try.prog (E_i_Grid_relations_l0 α N) := (E_i_Grid_relations_l1_ok N).addLoop2 Try.func61 (by kernel_rfl) (loopSum_ok prog_mixed prog_names (E_i_Grid_relations_l1_ok N) Try.func61 (by kernel_rfl) (d := 1) (ro := 0) fun l K r h => by
  split at h
  · exact (i_Grid_relations_l0_loop N _ _ _ _ K N _ _ _ _ _ _).trans h
  · cases h)

/-- (impl.Grid).relations -/
def i_Grid_relations_a : SPat := ⟨[.agg [.vals [.int .i64], .ints .u8 8, .ints .u8 8]], []⟩
def i_Grid_relations_r0 : SPat := ⟨[.sliceV 0 0 0 1 false], [[.hdr 1], [.pool .i64]]⟩
theorem i_Grid_relations_run {α : Type} (N : Nat) (g_0 : Int) (g_1 : Nat → Int) (g_2 : Nat → Int) (K : AV → Heap → Option α) :
    callK Try.prog (E_i_Grid_relations_l0 α N) 1 61 0 (buildS i_Grid_relations_a [.i g_0, .f g_1, .f g_2]).t (buildS i_Grid_relations_a [.i g_0, .f g_1, .f g_2]).h K = i_Grid_relations none N g_0 g_1 g_2 (fun r_n_ r_l_ r_c_ h0_ h1_ => retK (buildS i_Grid_relations_r0 [.n r_n_, .n r_l_, .n r_c_, .p h0_, .r h1_]) K) := by kernel_rfl
def E_i_Grid_relations (α : Type) (N : Nat) : Env α := (E_i_Grid_relations_l0 α N).addFun 61 true 0 i_Grid_relations_a (fun l K => match l with
    | [.i g_0, .f g_1, .f g_2] => i_Grid_relations none N g_0 g_1 g_2 (fun r_n_ r_l_ r_c_ h0_ h1_ => retK (buildS i_Grid_relations_r0 [.n r_n_, .n r_l_, .n r_c_, .p h0_, .r h1_]) K)
    | _ => none)
theorem E_i_Grid_relations_ok {α : Type} (N : Nat) : EnvOk Try.prog (E_i_Grid_relations α N) := (E_i_Grid_relations_l0_ok N).addFun prog_mixed prog_names (d := 1) fun l K r h => by
  split at h
  · exact (i_Grid_relations_run N _ _ _ K).trans h
  · cases h

def A_slices_IndexFunc_int_int_l0 (α : Type) (N : Nat) : Env α := (E_i_Grid_relations α N).addAnn 123 2 { head := [0, 1, 7, 8], grow := [], out := [], ret := [4] }
theorem A_slices_IndexFunc_int_int_l0_ok {α : Type} (N : Nat) : EnvOk Try.prog (A_slices_IndexFunc_int_int_l0 α N) := (E_i_Grid_relations_ok N).addAnn

def A_i_unit_l0 (α : Type) (N : Nat) : Env α := (A_slices_IndexFunc_int_int_l0 α N).addAnn 64 3 { head := [2, 3, 6, 7], grow := [], out := [2, 3], ret := [2] }
theorem A_i_unit_l0_ok {α : Type} (N : Nat) : EnvOk Try.prog (A_i_unit_l0 α N) := (A_slices_IndexFunc_int_int_l0_ok N).addAnn

/-- impl.unit, loop -/
def i_unit_l0_p : SPat := ⟨[.undef, .undef, .ptr ⟨⟨0, 0⟩, 0, 0, 4⟩, .ptr ⟨⟨1, 0⟩, 0, 0, 4⟩, .undef, .undef, .int .i64, .int .i64] ++ List.replicate 8 .undef, [[.ints .u8 4], [.ints .u8 4]]⟩
def i_unit_l0_o0 : SPat := ⟨[.undef, .undef, .ptr ⟨⟨0, 0⟩, 0, 0, 4⟩, .ptr ⟨⟨1, 0⟩, 0, 0, 4⟩] ++ List.replicate 12 .undef, [[.ints .u8 4], [.ints .u8 4]]⟩
theorem i_unit_l0_round {α : Type} (N : Nat) (t6 : Int) (t7 : Int) (h0 : Nat → Int) (h1 : Nat → Int) (kn : St → Option α) (K : AExit → St → Option α) :
    roundK Try.prog (A_i_unit_l0 α N) 1 0 64 Try.f64 3 2 (buildS i_unit_l0_p [.i t6, .i t7, .f h0, .f h1]) kn K = i_unit_l0_s none t6 h0 t7 h1 (fun t7 h1 => kn (buildS i_unit_l0_p [.i t6, .i t7, .f h0, .f h1])) (fun h1_ => K (.exit 0) (buildS i_unit_l0_o0 [.f h0, .f h1_])) := by kernel_rfl
theorem i_unit_l0_loop {α : Type} (N : Nat) (t6 : Int) (h0 : Nat → Int) (K : AExit → St → Option α) : ∀ (m : Nat) (t7 : Int) (h1 : Nat → Int),
    loopN (trimSt ((A_i_unit_l0 α N).ann 64 3).head ((A_i_unit_l0 α N).ann 64 3).grow 2) (bodyK Try.prog (A_i_unit_l0 α N) 1 0 64 Try.f64 3) m (buildS i_unit_l0_p [.i t6, .i t7, .f h0, .f h1]) (leaveLoop ((A_i_unit_l0 α N).ann 64 3) 2 K) = i_unit_l0 none t6 h0 m t7 h1 (fun h1_ => K (.exit 0) (buildS i_unit_l0_o0 [.f h0, .f h1_])) := by
  intro m
  induction m with
  | zero => intros; rfl
  | succ m ih =>
    intro t7 h1
    rw [loopN_round]
    refine (i_unit_l0_round N t6 t7 h0 h1 _ K).trans ?_
    simp only [ih]
    rfl
def E_i_unit_l0 (α : Type) (N : Nat) : Env α := (A_i_unit_l0 α N).addLoop2 64 3 (loopSum2 ((A_i_unit_l0 α N).ann 64 3) 0 i_unit_l0_p (fun l K => match l with
    | [.i t6, .i t7, .f h0, .f h1] => i_unit_l0 none t6 h0 N t7 h1 (fun h1_ => K (.exit 0) (buildS i_unit_l0_o0 [.f h0, .f h1_]))
    | _ => none) ((A_i_unit_l0 α N).ls 64 3))
theorem E_i_unit_l0_ok {α : Type} (N : Nat) : EnvOk Try.prog (E_i_unit_l0 α N) := (A_i_unit_l0_ok N).addLoop2 Try.func64 (by kernel_rfl) (loopSum_ok prog_mixed prog_names (A_i_unit_l0_ok N) Try.func64 (by kernel_rfl) (d := 1) (ro := 0) fun l K r h => by
  split at h
  · exact (i_unit_l0_loop N _ _ K N _ _).trans h
  · cases h)

/-- impl.unit -/
def i_unit_a : SPat := ⟨[.int .i64], []⟩
def i_unit_r0 : SPat := ⟨[.agg [.ints .u8 4]], []⟩
theorem i_unit_run {α : Type} (N : Nat) (k : Int) (K : AV → Heap → Option α) :
    callK Try.prog (E_i_unit_l0 α N) 1 64 0 (buildS i_unit_a [.i k]).t (buildS i_unit_a [.i k]).h K = i_unit none N k (fun r__ => retK (buildS i_unit_r0 [.f r__]) K) := by kernel_rfl
def E_i_unit (α : Type) (N : Nat) : Env α := (E_i_unit_l0 α N).addFun 64 true 0 i_unit_a (fun l K => match l with
    | [.i k] => i_unit none N k (fun r__ => retK (buildS i_unit_r0 [.f r__]) K)
    | _ => none)
theorem E_i_unit_ok {α : Type} (N : Nat) : EnvOk Try.prog (E_i_unit α N) := (E_i_unit_l0_ok N).addFun prog_mixed prog_names (d := 1) fun l K r h => by
  split at h
  · exact (i_unit_run N _ K).trans h
  · cases h

def A_i_product_l0 (α : Type) (N : Nat) : Env α := (E_i_unit α N).addAnn 63 3 { head := [1, 6, 7, 12, 13, 14], grow := [], out := [6, 7], ret := [6] }
theorem A_i_product_l0_ok {α : Type} (N : Nat) : EnvOk Try.prog (A_i_product_l0 α N) := (E_i_unit_ok N).addAnn

def A_i_Places_then_l0 (α : Type) (N : Nat) : Env α := (A_i_product_l0 α N).addAnn 124 2 { head := [2, 3, 4, 6], grow := [], out := [2, 4], ret := [4] }
theorem A_i_Places_then_l0_ok {α : Type} (N : Nat) : EnvOk Try.prog (A_i_Places_then_l0 α N) := (A_i_product_l0_ok N).addAnn

/-- (impl.Places).then, loop -/
def i_Places_then_l0_p : SPat := ⟨[.undef, .undef, .ptr ⟨⟨0, 0⟩, 0, 0, 4⟩, .ptr ⟨⟨1, 0⟩, 0, 0, 4⟩, .ptr ⟨⟨2, 0⟩, 0, 0, 4⟩, .undef, .int .i64] ++ List.replicate 11 .undef, [[.ints .u8 4], [.ints .u8 4], [.ints .u8 4]]⟩
def i_Places_then_l0_o0 : SPat := ⟨[.undef, .undef, .ptr ⟨⟨0, 0⟩, 0, 0, 4⟩, .undef, .ptr ⟨⟨2, 0⟩, 0, 0, 4⟩] ++ List.replicate 13 .undef, [[.ints .u8 4], [.ints .u8 4], [.ints .u8 4]]⟩
theorem i_Places_then_l0_round {α : Type} (N : Nat) (t6 : Int) (h0 : Nat → Int) (h1 : Nat → Int) (h2 : Nat → Int) (kn : St → Option α) (K : AExit → St → Option α) :
    roundK Try.prog (A_i_Places_then_l0 α N) 1 0 124 Try.f124 2 3 (buildS i_Places_then_l0_p [.i t6, .f h0, .f h1, .f h2]) kn K = i_Places_then_l0_s none h1 h2 t6 h0 (fun t6 h0 => kn (buildS i_Places_then_l0_p [.i t6, .f h0, .f h1, .f h2])) (fun h0_ => K (.exit 0) (buildS i_Places_then_l0_o0 [.f h0_, .f h1, .f h2])) := by kernel_rfl
theorem i_Places_then_l0_loop {α : Type} (N : Nat) (h1 : Nat → Int) (h2 : Nat → Int) (K : AExit → St → Option α) : ∀ (m : Nat) (t6 : Int) (h0 : Nat → Int),
    loopN (trimSt ((A_i_Places_then_l0 α N).ann 124 2).head ((A_i_Places_then_l0 α N).ann 124 2).grow 3) (bodyK Try.prog (A_i_Places_then_l0 α N) 1 0 124 Try.f124 2) m (buildS i_Places_then_l0_p [.i t6, .f h0, .f h1, .f h2]) (leaveLoop ((A_i_Places_then_l0 α N).ann 124 2) 3 K) = i_Places_then_l0 none h1 h2 m t6 h0 (fun h0_ => K (.exit 0) (buildS i_Places_then_l0_o0 [.f h0_, .f h1, .f h2])) := by
  intro m
  induction m with
  | zero => intros; rfl
  | succ m ih =>
    intro t6 h0
    rw [loopN_round]
    refine (i_Places_then_l0_round N t6 h0 h1 h2 _ K).trans ?_
    simp only [ih]
    rfl
def E_i_Places_then_l0 (α : Type) (N : Nat) : Env α := (A_i_Places_then_l0 α N).addLoop2 124 2 (loopSum2 ((A_i_Places_then_l0 α N).ann 124 2) 0 i_Places_then_l0_p (fun l K => match l with
    | [.i t6, .f h0, .f h1, .f h2] => i_Places_then_l0 none h1 h2 N t6 h0 (fun h0_ => K (.exit 0) (buildS i_Places_then_l0_o0 [.f h0_, .f h1, .f h2]))
    | _ => none) ((A_i_Places_then_l0 α N).ls 124 2))
theorem E_i_Places_then_l0_ok {α : Type} (N : Nat) : EnvOk Try.prog (E_i_Places_then_l0 α N) := (A_i_Places_then_l0_ok N).addLoop2 Try.func124 (by kernel_rfl) (loopSum_ok prog_mixed prog_names (A_i_Places_then_l0_ok N) Try.func124 (by kernel_rfl) (d := 1) (ro := 0) fun l K r h => by
  split at h
  · exact (i_Places_then_l0_loop N _ _ K N _ _).trans h
  · cases h)

/-- (impl.Places).then -/
def i_Places_then_a : SPat := ⟨[.agg [.ints .u8 4], .agg [.ints .u8 4]], []⟩
def i_Places_then_r0 : SPat := ⟨[.agg [.ints .u8 4]], []⟩
theorem i_Places_then_run {α : Type} (N : Nat) (p : Nat → Int) (q : Nat → Int) (K : AV → Heap → Option α) :
    callK Try.prog (E_i_Places_then_l0 α N) 1 124 0 (buildS i_Places_then_a [.f p, .f q]).t (buildS i_Places_then_a [.f p, .f q]).h K = i_Places_then none N p q (fun r__ => retK (buildS i_Places_then_r0 [.f r__]) K) := by kernel_rfl
def E_i_Places_then (α : Type) (N : Nat) : Env α := (E_i_Places_then_l0 α N).addFun 124 true 0 i_Places_then_a (fun l K => match l with
    | [.f p, .f q] => i_Places_then none N p q (fun r__ => retK (buildS i_Places_then_r0 [.f r__]) K)
    | _ => none)
theorem E_i_Places_then_ok {α : Type} (N : Nat) : EnvOk Try.prog (E_i_Places_then α N) := (E_i_Places_then_l0_ok N).addFun prog_mixed prog_names (d := 1) fun l K r h => by
  split at h
  · exact (i_Places_then_run N _ _ K).trans h
  · cases h

/-- impl.product, loop -/
def i_product_l0_p : SPat := ⟨[.undef, .sliceV 0 0 0 4 true, .undef, .undef, .undef, .undef, .ptr ⟨⟨2, 0⟩, 0, 0, 4⟩, .ptr ⟨⟨3, 0⟩, 0, 0, 4⟩, .undef, .undef, .undef, .undef, .sliceR 1 1 false, .int .i64, .int .i64] ++ List.replicate 11 .undef, [[.intsV .u8], [.pool .i64], [.ints .u8 4], [.ints .u8 4]]⟩
def i_product_l0_o0 : SPat := ⟨[.undef, .undef, .undef, .undef, .undef, .undef, .ptr ⟨⟨2, 0⟩, 0, 0, 4⟩, .ptr ⟨⟨3, 0⟩, 0, 0, 4⟩] ++ List.replicate 18 .undef, [[.intsV .u8], [.pool .i64], [.ints .u8 4], [.ints .u8 4]]⟩
theorem i_product_l0_round {α : Type} (N : Nat) (list_n : Nat) (list_l : Nat) (list_c : Nat) (t12_r : Nat) (t12_o : Nat) (t12_n : Nat) (t12_l : Nat) (t12_c : Nat) (t13 : Int) (t14 : Int) (h0_n : Nat) (h0 : Nat → Int) (h1 : List (List Int)) (h2 : Nat → Int) (h3 : Nat → Int) (kn : St → Option α) (K : AExit → St → Option α) :
    roundK Try.prog (E_i_Places_then α N) 1 2 63 Try.f63 3 4 (buildS i_product_l0_p [.n list_n, .n list_l, .n list_c, .n t12_r, .n t12_o, .n t12_n, .n t12_l, .n t12_c, .i t13, .i t14, .n h0_n, .f h0, .r h1, .f h2, .f h3]) kn K = i_product_l0_s none N list_n list_l list_c t12_r t12_o t12_n t12_l t12_c t13 h0_n h0 h1 h2 t14 h3 (fun t14 h3 => kn (buildS i_product_l0_p [.n list_n, .n list_l, .n list_c, .n t12_r, .n t12_o, .n t12_n, .n t12_l, .n t12_c, .i t13, .i t14, .n h0_n, .f h0, .r h1, .f h2, .f h3])) (fun h3_ => K (.exit 0) (buildS i_product_l0_o0 [.n h0_n, .f h0, .r h1, .f h2, .f h3_])) := by kernel_rfl
theorem i_product_l0_loop {α : Type} (N : Nat) (list_n : Nat) (list_l : Nat) (list_c : Nat) (t12_r : Nat) (t12_o : Nat) (t12_n : Nat) (t12_l : Nat) (t12_c : Nat) (t13 : Int) (h0_n : Nat) (h0 : Nat → Int) (h1 : List (List Int)) (h2 : Nat → Int) (K : AExit → St → Option α) : ∀ (m : Nat) (t14 : Int) (h3 : Nat → Int),
    loopN (trimSt ((E_i_Places_then α N).ann 63 3).head ((E_i_Places_then α N).ann 63 3).grow 4) (bodyK Try.prog (E_i_Places_then α N) 1 2 63 Try.f63 3) m (buildS i_product_l0_p [.n list_n, .n list_l, .n list_c, .n t12_r, .n t12_o, .n t12_n, .n t12_l, .n t12_c, .i t13, .i t14, .n h0_n, .f h0, .r h1, .f h2, .f h3]) (leaveLoop ((E_i_Places_then α N).ann 63 3) 4 K) = i_product_l0 none N list_n list_l list_c t12_r t12_o t12_n t12_l t12_c t13 h0_n h0 h1 h2 m t14 h3 (fun h3_ => K (.exit 0) (buildS i_product_l0_o0 [.n h0_n, .f h0, .r h1, .f h2, .f h3_])) := by
  intro m
  induction m with
  | zero => intros; rfl
  | succ m ih =>
    intro t14 h3
    rw [loopN_round]
    refine (i_product_l0_round N list_n list_l list_c t12_r t12_o t12_n t12_l t12_c t13 t14 h0_n h0 h1 h2 h3 _ K).trans ?_
    simp only [ih]
    rfl
def E_i_product_l0 (α : Type) (N : Nat) : Env α := (E_i_Places_then α N).addLoop2 63 3 (loopSum2 ((E_i_Places_then α N).ann 63 3) 2 i_product_l0_p (fun l K => match l with
    | [.n list_n, .n list_l, .n list_c, .n t12_r, .n t12_o, .n t12_n, .n t12_l, .n t12_c, .i t13, .i t14, .n h0_n, .f h0, .r h1, .f h2, .f h3] => i_product_l0 none N list_n list_l list_c t12_r t12_o t12_n t12_l t12_c t13 h0_n h0 h1 h2 N t14 h3 (fun h3_ => K (.exit 0) (buildS i_product_l0_o0 [.n h0_n, .f h0, .r h1, .f h2, .f h3_]))
    | _ => none) ((E_i_Places_then α N).ls 63 3))
theorem E_i_product_l0_ok {α : Type} (N : Nat) : EnvOk Try.prog (E_i_product_l0 α N) := (E_i_Places_then_ok N).addLoop2 Try.func63 (by kernel_rfl) (loopSum_ok prog_mixed prog_names (E_i_Places_then_ok N) Try.func63 (by kernel_rfl) (d := 1) (ro := 2) fun l K r h => by
  split at h
  · exact (i_product_l0_loop N _ _ _ _ _ _ _ _ _ _ _ _ _ K N _ _).trans h
  · cases h)

/-- impl.product -/
def i_product_a : SPat := ⟨[.int .i64, .sliceV 0 0 0 4 true, .sliceR 1 1 false], [[.intsV .u8], [.pool .i64]]⟩
def i_product_r0 : SPat := ⟨[.agg [.ints .u8 4]], [[.intsV .u8], [.pool .i64]]⟩
theorem i_product_run {α : Type} (N : Nat) (k : Int) (list_n : Nat) (list_l : Nat) (list_c : Nat) (columns_r : Nat) (columns_o : Nat) (columns_n : Nat) (columns_l : Nat) (columns_c : Nat) (h0_n : Nat) (h0 : Nat → Int) (h1 : List (List Int)) (K : AV → Heap → Option α) :
    callK Try.prog (E_i_product_l0 α N) 1 63 2 (buildS i_product_a [.i k, .n list_n, .n list_l, .n list_c, .n columns_r, .n columns_o, .n columns_n, .n columns_l, .n columns_c, .n h0_n, .f h0, .r h1]).t (buildS i_product_a [.i k, .n list_n, .n list_l, .n list_c, .n columns_r, .n columns_o, .n columns_n, .n columns_l, .n columns_c, .n h0_n, .f h0, .r h1]).h K = i_product none N k list_n list_l list_c columns_r columns_o columns_n columns_l columns_c h0_n h0 h1 (fun r__ => retK (buildS i_product_r0 [.f r__, .n h0_n, .f h0, .r h1]) K) := by kernel_rfl
def E_i_product (α : Type) (N : Nat) : Env α := (E_i_product_l0 α N).addFun 63 true 2 i_product_a (fun l K => match l with
    | [.i k, .n list_n, .n list_l, .n list_c, .n columns_r, .n columns_o, .n columns_n, .n columns_l, .n columns_c, .n h0_n, .f h0, .r h1] => i_product none N k list_n list_l list_c columns_r columns_o columns_n columns_l columns_c h0_n h0 h1 (fun r__ => retK (buildS i_product_r0 [.f r__, .n h0_n, .f h0, .r h1]) K)
    | _ => none)
theorem E_i_product_ok {α : Type} (N : Nat) : EnvOk Try.prog (E_i_product α N) := (E_i_product_l0_ok N).addFun prog_mixed prog_names (d := 1) fun l K r h => by
  split at h
  · exact (i_product_run N _ _ _ _ _ _ _ _ _ _ _ _ K).trans h
  · cases h

/-- impl.IsMapOf$1 -/
def i_IsMapOf_1_a : SPat := ⟨[.sliceR 0 1 false, .ptr ⟨⟨1, 0⟩, 0, 0, 1⟩, .ptr ⟨⟨2, 0⟩, 0, 0, 1⟩], [[.pool .i64], [.vals [.int .i64]], [.vals [.sliceV 3 0 0 4 true]], [.intsV .u8]]⟩
def i_IsMapOf_1_r0 : SPat := ⟨[.bool], [[.pool .i64], [.vals [.int .i64]], [.vals [.sliceV 3 0 0 4 true]], [.intsV .u8]]⟩
theorem i_IsMapOf_1_run {α : Type} (N : Nat) (columns_r : Nat) (columns_o : Nat) (columns_n : Nat) (columns_l : Nat) (columns_c : Nat) (h0 : List (List Int)) (h1 : Int) (h2_n : Nat) (h2_l : Nat) (h2_c : Nat) (h3_n : Nat) (h3 : Nat → Int) (K : AV → Heap → Option α) :
    callK Try.prog (E_i_product α N) 1 62 4 (buildS i_IsMapOf_1_a [.n columns_r, .n columns_o, .n columns_n, .n columns_l, .n columns_c, .r h0, .i h1, .n h2_n, .n h2_l, .n h2_c, .n h3_n, .f h3]).t (buildS i_IsMapOf_1_a [.n columns_r, .n columns_o, .n columns_n, .n columns_l, .n columns_c, .r h0, .i h1, .n h2_n, .n h2_l, .n h2_c, .n h3_n, .f h3]).h K = i_IsMapOf_1 none N columns_r columns_o columns_n columns_l columns_c h0 h1 h2_n h2_l h2_c h3_n h3 (fun r__ => retK (buildS i_IsMapOf_1_r0 [.b r__, .r h0, .i h1, .n h2_n, .n h2_l, .n h2_c, .n h3_n, .f h3]) K) := by kernel_rfl
def E_i_IsMapOf_1 (α : Type) (N : Nat) : Env α := (E_i_product α N).addFun 62 true 4 i_IsMapOf_1_a (fun l K => match l with
    | [.n columns_r, .n columns_o, .n columns_n, .n columns_l, .n columns_c, .r h0, .i h1, .n h2_n, .n h2_l, .n h2_c, .n h3_n, .f h3] => i_IsMapOf_1 none N columns_r columns_o columns_n columns_l columns_c h0 h1 h2_n h2_l h2_c h3_n h3 (fun r__ => retK (buildS i_IsMapOf_1_r0 [.b r__, .r h0, .i h1, .n h2_n, .n h2_l, .n h2_c, .n h3_n, .f h3]) K)
    | _ => none)
theorem E_i_IsMapOf_1_ok {α : Type} (N : Nat) : EnvOk Try.prog (E_i_IsMapOf_1 α N) := (E_i_product_ok N).addFun prog_mixed prog_names (d := 1) fun l K r h => by
  split at h
  · exact (i_IsMapOf_1_run N _ _ _ _ _ _ _ _ _ _ _ _ K).trans h
  · cases h

/-- slices.IndexFunc[[][]int,[]int], loop -/
def slices_IndexFunc_int_int_l0_p : SPat := ⟨[.sliceV 0 0 0 1 false, .func 62 [.ptr ⟨⟨1, 0⟩, 0, 0, 1⟩, .ptr ⟨⟨2, 0⟩, 0, 0, 1⟩], .undef, .undef, .undef, .undef, .undef, .int .i64, .int .i64] ++ List.replicate 10 .undef, [[.hdr 3], [.vals [.int .i64]], [.vals [.sliceV 4 0 0 4 true]], [.pool .i64], [.intsV .u8]]⟩
def slices_IndexFunc_int_int_l0_o0 : SPat := ⟨[.undef, .undef, .undef, .undef, .int .i64] ++ List.replicate 14 .undef, [[.hdr 3], [.vals [.int .i64]], [.vals [.sliceV 4 0 0 4 true]], [.pool .i64], [.intsV .u8]]⟩
def slices_IndexFunc_int_int_l0_o1 : SPat := ⟨[] ++ List.replicate 19 .undef, [[.hdr 3], [.vals [.int .i64]], [.vals [.sliceV 4 0 0 4 true]], [.pool .i64], [.intsV .u8]]⟩
theorem slices_IndexFunc_int_int_l0_round {α : Type} (N : Nat) (s_n : Nat) (s_l : Nat) (s_c : Nat) (t7 : Int) (t8 : Int) (h0 : List (Nat × Nat)) (h1 : Int) (h2_n : Nat) (h2_l : Nat) (h2_c : Nat) (h3 : List (List Int)) (h4_n : Nat) (h4 : Nat → Int) (kn : St → Option α) (K : AExit → St → Option α) :
    roundK Try.prog (E_i_IsMapOf_1 α N) 1 5 123 Try.f123 2 5 (buildS slices_IndexFunc_int_int_l0_p [.n s_n, .n s_l, .n s_c, .i t7, .i t8, .p h0, .i h1, .n h2_n, .n h2_l, .n h2_c, .r h3, .n h4_n, .f h4]) kn K = slices_IndexFunc_int_int_l0_s none N s_n s_l s_c t7 h0 h1 h2_n h2_l h2_c h3 h4_n h4 t8 (fun t8 => kn (buildS slices_IndexFunc_int_int_l0_p [.n s_n, .n s_l, .n s_c, .i t7, .i t8, .p h0, .i h1, .n h2_n, .n h2_l, .n h2_c, .r h3, .n h4_n, .f h4])) (fun t4_ => K .ret (buildS slices_IndexFunc_int_int_l0_o0 [.i t4_, .p h0, .i h1, .n h2_n, .n h2_l, .n h2_c, .r h3, .n h4_n, .f h4])) (K (.exit 0) (buildS slices_IndexFunc_int_int_l0_o1 [.p h0, .i h1, .n h2_n, .n h2_l, .n h2_c, .r h3, .n h4_n, .f h4])) := by kernel_rfl
theorem slices_IndexFunc_int_int_l0_loop {α : Type} (N : Nat) (s_n : Nat) (s_l : Nat) (s_c : Nat) (t7 : Int) (h0 : List (Nat × Nat)) (h1 : Int) (h2_n : Nat) (h2_l : Nat) (h2_c : Nat) (h3 : List (List Int)) (h4_n : Nat) (h4 : Nat → Int) (K : AExit → St → Option α) : ∀ (m : Nat) (t8 : Int),
    loopN (trimSt ((E_i_IsMapOf_1 α N).ann 123 2).head ((E_i_IsMapOf_1 α N).ann 123 2).grow 5) (bodyK Try.prog (E_i_IsMapOf_1 α N) 1 5 123 Try.f123 2) m (buildS slices_IndexFunc_int_int_l0_p [.n s_n, .n s_l, .n s_c, .i t7, .i t8, .p h0, .i h1, .n h2_n, .n h2_l, .n h2_c, .r h3, .n h4_n, .f h4]) (leaveLoop ((E_i_IsMapOf_1 α N).ann 123 2) 5 K) = slices_IndexFunc_int_int_l0 none N s_n s_l s_c t7 h0 h1 h2_n h2_l h2_c h3 h4_n h4 m t8 (fun t4_ => K .ret (buildS slices_IndexFunc_int_int_l0_o0 [.i t4_, .p h0, .i h1, .n h2_n, .n h2_l, .n h2_c, .r h3, .n h4_n, .f h4])) (K (.exit 0) (buildS slices_IndexFunc_int_int_l0_o1 [.p h0, .i h1, .n h2_n, .n h2_l, .n h2_c, .r h3, .n h4_n, .f h4])) := by
  intro m
  induction m with
  | zero => intros; rfl
  | succ m ih =>
    intro t8
    rw [loopN_round]
    refine (slices_IndexFunc_int_int_l0_round N s_n s_l s_c t7 t8 h0 h1 h2_n h2_l h2_c h3 h4_n h4 _ K).trans ?_
    simp only [ih]
    rfl
def E_slices_IndexFunc_int_int_l0 (α : Type) (N : Nat) : Env α := (E_i_IsMapOf_1 α N).addLoop2 123 2 (loopSum2 ((E_i_IsMapOf_1 α N).ann 123 2) 5 slices_IndexFunc_int_int_l0_p (fun l K => match l with
    | [.n s_n, .n s_l, .n s_c, .i t7, .i t8, .p h0, .i h1, .n h2_n, .n h2_l, .n h2_c, .r h3, .n h4_n, .f h4] => slices_IndexFunc_int_int_l0 none N s_n s_l s_c t7 h0 h1 h2_n h2_l h2_c h3 h4_n h4 N t8 (fun t4_ => K .ret (buildS slices_IndexFunc_int_int_l0_o0 [.i t4_, .p h0, .i h1, .n h2_n, .n h2_l, .n h2_c, .r h3, .n h4_n, .f h4])) (K (.exit 0) (buildS slices_IndexFunc_int_int_l0_o1 [.p h0, .i h1, .n h2_n, .n h2_l, .n h2_c, .r h3, .n h4_n, .f h4]))
    | _ => none) ((E_i_IsMapOf_1 α N).ls 123 2))
theorem E_slices_IndexFunc_int_int_l0_ok {α : Type} (N : Nat) : EnvOk Try.prog (E_slices_IndexFunc_int_int_l0 α N) := (E_i_IsMapOf_1_ok N).addLoop2 Try.func123 (by kernel_rfl) (loopSum_ok prog_mixed prog_names (E_i_IsMapOf_1_ok N) Try.func123 (by kernel_rfl) (d := 1) (ro := 5) fun l K r h => by
  split at h
  · exact (slices_IndexFunc_int_int_l0_loop N _ _ _ _ _ _ _ _ _ _ _ _ K N _).trans h
  · cases h)

/-- slices.IndexFunc[[][]int,[]int] -/
def slices_IndexFunc_int_int_a : SPat := ⟨[.sliceV 0 0 0 1 false, .func 62 [.ptr ⟨⟨1, 0⟩, 0, 0, 1⟩, .ptr ⟨⟨2, 0⟩, 0, 0, 1⟩]], [[.hdr 3], [.vals [.int .i64]], [.vals [.sliceV 4 0 0 4 true]], [.pool .i64], [.intsV .u8]]⟩
def slices_IndexFunc_int_int_r0 : SPat := ⟨[.int .i64], [[.hdr 3], [.vals [.int .i64]], [.vals [.sliceV 4 0 0 4 true]], [.pool .i64], [.intsV .u8]]⟩
theorem slices_IndexFunc_int_int_run {α : Type} (N : Nat) (s_n : Nat) (s_l : Nat) (s_c : Nat) (h0 : List (Nat × Nat)) (h1 : Int) (h2_n : Nat) (h2_l : Nat) (h2_c : Nat) (h3 : List (List Int)) (h4_n : Nat) (h4 : Nat → Int) (K : AV → Heap → Option α) :
    callK Try.prog (E_slices_IndexFunc_int_int_l0 α N) 1 123 5 (buildS slices_IndexFunc_int_int_a [.n s_n, .n s_l, .n s_c, .p h0, .i h1, .n h2_n, .n h2_l, .n h2_c, .r h3, .n h4_n, .f h4]).t (buildS slices_IndexFunc_int_int_a [.n s_n, .n s_l, .n s_c, .p h0, .i h1, .n h2_n, .n h2_l, .n h2_c, .r h3, .n h4_n, .f h4]).h K = slices_IndexFunc_int_int none N s_n s_l s_c h0 h1 h2_n h2_l h2_c h3 h4_n h4 (fun r__ => retK (buildS slices_IndexFunc_int_int_r0 [.i r__, .p h0, .i h1, .n h2_n, .n h2_l, .n h2_c, .r h3, .n h4_n, .f h4]) K) := by kernel_rfl
def E_slices_IndexFunc_int_int (α : Type) (N : Nat) : Env α := (E_slices_IndexFunc_int_int_l0 α N).addFun 123 true 5 slices_IndexFunc_int_int_a (fun l K => match l with
    | [.n s_n, .n s_l, .n s_c, .p h0, .i h1, .n h2_n, .n h2_l, .n h2_c, .r h3, .n h4_n, .f h4] => slices_IndexFunc_int_int none N s_n s_l s_c h0 h1 h2_n h2_l h2_c h3 h4_n h4 (fun r__ => retK (buildS slices_IndexFunc_int_int_r0 [.i r__, .p h0, .i h1, .n h2_n, .n h2_l, .n h2_c, .r h3, .n h4_n, .f h4]) K)
    | _ => none)
theorem E_slices_IndexFunc_int_int_ok {α : Type} (N : Nat) : EnvOk Try.prog (E_slices_IndexFunc_int_int α N) := (E_slices_IndexFunc_int_int_l0_ok N).addFun prog_mixed prog_names (d := 1) fun l K r h => by
  split at h
  · exact (slices_IndexFunc_int_int_run N _ _ _ _ _ _ _ _ _ _ _ K).trans h
  · cases h

/-- slices.ContainsFunc[[][]int,[]int] -/
def slices_ContainsFunc_int_int_a : SPat := ⟨[.sliceV 1 0 0 1 false, .func 62 [.ptr ⟨⟨2, 0⟩, 0, 0, 1⟩, .ptr ⟨⟨3, 0⟩, 0, 0, 1⟩]], [[.intsV .u8], [.hdr 4], [.vals [.int .i64]], [.vals [.sliceV 0 0 0 4 true]], [.pool .i64]]⟩
def slices_ContainsFunc_int_int_r0 : SPat := ⟨[.bool], [[.intsV .u8], [.hdr 4], [.vals [.int .i64]], [.vals [.sliceV 0 0 0 4 true]], [.pool .i64]]⟩
theorem slices_ContainsFunc_int_int_run {α : Type} (N : Nat) (s_n : Nat) (s_l : Nat) (s_c : Nat) (h0_n : Nat) (h0 : Nat → Int) (h1 : List (Nat × Nat)) (h2 : Int) (h3_n : Nat) (h3_l : Nat) (h3_c : Nat) (h4 : List (List Int)) (K : AV → Heap → Option α) :
    callK Try.prog (E_slices_IndexFunc_int_int α N) 1 60 5 (buildS slices_ContainsFunc_int_int_a [.n s_n, .n s_l, .n s_c, .n h0_n, .f h0, .p h1, .i h2, .n h3_n, .n h3_l, .n h3_c, .r h4]).t (buildS slices_ContainsFunc_int_int_a [.n s_n, .n s_l, .n s_c, .n h0_n, .f h0, .p h1, .i h2, .n h3_n, .n h3_l, .n h3_c, .r h4]).h K = slices_ContainsFunc_int_int none N s_n s_l s_c h0_n h0 h1 h2 h3_n h3_l h3_c h4 (fun r__ => retK (buildS slices_ContainsFunc_int_int_r0 [.b r__, .n h0_n, .f h0, .p h1, .i h2, .n h3_n, .n h3_l, .n h3_c, .r h4]) K) := by kernel_rfl
def E_slices_ContainsFunc_int_int (α : Type) (N : Nat) : Env α := (E_slices_IndexFunc_int_int α N).addFun 60 true 5 slices_ContainsFunc_int_int_a (fun l K => match l with
    | [.n s_n, .n s_l, .n s_c, .n h0_n, .f h0, .p h1, .i h2, .n h3_n, .n h3_l, .n h3_c, .r h4] => slices_ContainsFunc_int_int none N s_n s_l s_c h0_n h0 h1 h2 h3_n h3_l h3_c h4 (fun r__ => retK (buildS slices_ContainsFunc_int_int_r0 [.b r__, .n h0_n, .f h0, .p h1, .i h2, .n h3_n, .n h3_l, .n h3_c, .r h4]) K)
    | _ => none)
theorem E_slices_ContainsFunc_int_int_ok {α : Type} (N : Nat) : EnvOk Try.prog (E_slices_ContainsFunc_int_int α N) := (E_slices_IndexFunc_int_int_ok N).addFun prog_mixed prog_names (d := 1) fun l K r h => by
  split at h
  · exact (slices_ContainsFunc_int_int_run N _ _ _ _ _ _ _ _ _ _ _ K).trans h
  · cases h

/-- impl.IsMapOf -/
def i_IsMapOf_a : SPat := ⟨[.agg [.vals [.int .i64], .ints .u8 8, .ints .u8 8], .int .i64, .sliceV 0 0 0 4 true], [[.intsV .u8]]⟩
def i_IsMapOf_r0 : SPat := ⟨[.tuple [.bool, .int .i64]], [[.intsV .u8]]⟩
theorem i_IsMapOf_run {α : Type} (N : Nat) (g_0 : Int) (g_1 : Nat → Int) (g_2 : Nat → Int) (k : Int) (list_n : Nat) (list_l : Nat) (list_c : Nat) (h0_n : Nat) (h0 : Nat → Int) (K : AV → Heap → Option α) :
    callK Try.prog (E_slices_ContainsFunc_int_int α N) 1 19 1 (buildS i_IsMapOf_a [.i g_0, .f g_1, .f g_2, .i k, .n list_n, .n list_l, .n list_c, .n h0_n, .f h0]).t (buildS i_IsMapOf_a [.i g_0, .f g_1, .f g_2, .i k, .n list_n, .n list_l, .n list_c, .n h0_n, .f h0]).h K = i_IsMapOf none N g_0 g_1 g_2 k list_n list_l list_c h0_n h0 (fun r_0_ r_1_ => retK (buildS i_IsMapOf_r0 [.b r_0_, .i r_1_, .n h0_n, .f h0]) K) := by kernel_rfl
def E_i_IsMapOf (α : Type) (N : Nat) : Env α := (E_slices_ContainsFunc_int_int α N).addFun 19 true 1 i_IsMapOf_a (fun l K => match l with
    | [.i g_0, .f g_1, .f g_2, .i k, .n list_n, .n list_l, .n list_c, .n h0_n, .f h0] => i_IsMapOf none N g_0 g_1 g_2 k list_n list_l list_c h0_n h0 (fun r_0_ r_1_ => retK (buildS i_IsMapOf_r0 [.b r_0_, .i r_1_, .n h0_n, .f h0]) K)
    | _ => none)
theorem E_i_IsMapOf_ok {α : Type} (N : Nat) : EnvOk Try.prog (E_i_IsMapOf α N) := (E_slices_ContainsFunc_int_int_ok N).addFun prog_mixed prog_names (d := 1) fun l K r h => by
  split at h
  · exact (i_IsMapOf_run N _ _ _ _ _ _ _ _ _ K).trans h
  · cases h

def A_w_eqPlacesS_l0 (α : Type) (N : Nat) : Env α := (E_i_IsMapOf α N).addAnn 20 4 { head := [0, 1, 5], grow := [], out := [], ret := [4] }
theorem A_w_eqPlacesS_l0_ok {α : Type} (N : Nat) : EnvOk Try.prog (A_w_eqPlacesS_l0 α N) := (E_i_IsMapOf_ok N).addAnn

def A_w_eqPlaces_l0 (α : Type) (N : Nat) : Env α := (A_w_eqPlacesS_l0 α N).addAnn 65 2 { head := [2, 3, 5], grow := [], out := [], ret := [4] }
theorem A_w_eqPlaces_l0_ok {α : Type} (N : Nat) : EnvOk Try.prog (A_w_eqPlaces_l0 α N) := (A_w_eqPlacesS_l0_ok N).addAnn

/-- laws.eqPlaces, loop -/
def w_eqPlaces_l0_p : SPat := ⟨[.undef, .undef, .ptr ⟨⟨0, 0⟩, 0, 0, 4⟩, .ptr ⟨⟨1, 0⟩, 0, 0, 4⟩, .undef, .int .i64] ++ List.replicate 11 .undef, [[.ints .u8 4], [.ints .u8 4]]⟩
def w_eqPlaces_l0_o0 : SPat := ⟨[.undef, .undef, .undef, .undef, .boolC false] ++ List.replicate 12 .undef, [[.ints .u8 4], [.ints .u8 4]]⟩
def w_eqPlaces_l0_o1 : SPat := ⟨[] ++ List.replicate 17 .undef, [[.ints .u8 4], [.ints .u8 4]]⟩
theorem w_eqPlaces_l0_round {α : Type} (N : Nat) (i : Int) (h0 : Nat → Int) (h1 : Nat → Int) (kn : St → Option α) (K : AExit → St → Option α) :
    roundK Try.prog (A_w_eqPlaces_l0 α N) 1 0 65 Try.f65 2 2 (buildS w_eqPlaces_l0_p [.i i, .f h0, .f h1]) kn K = w_eqPlaces_l0_s none h0 h1 i (fun i => kn (buildS w_eqPlaces_l0_p [.i i, .f h0, .f h1])) (K .ret (buildS w_eqPlaces_l0_o0 [.f h0, .f h1])) (K (.exit 0) (buildS w_eqPlaces_l0_o1 [.f h0, .f h1])) := by kernel_rfl
theorem w_eqPlaces_l0_loop {α : Type} (N : Nat) (h0 : Nat → Int) (h1 : Nat → Int) (K : AExit → St → Option α) : ∀ (m : Nat) (i : Int),
    loopN (trimSt ((A_w_eqPlaces_l0 α N).ann 65 2).head ((A_w_eqPlaces_l0 α N).ann 65 2).grow 2) (bodyK Try.prog (A_w_eqPlaces_l0 α N) 1 0 65 Try.f65 2) m (buildS w_eqPlaces_l0_p [.i i, .f h0, .f h1]) (leaveLoop ((A_w_eqPlaces_l0 α N).ann 65 2) 2 K) = w_eqPlaces_l0 none h0 h1 m i (K .ret (buildS w_eqPlaces_l0_o0 [.f h0, .f h1])) (K (.exit 0) (buildS w_eqPlaces_l0_o1 [.f h0, .f h1])) := by
  intro m
  induction m with
  | zero => intros; rfl
  | succ m ih =>
    intro i
    rw [loopN_round]
    refine (w_eqPlaces_l0_round N i h0 h1 _ K).trans ?_
    simp only [ih]
    rfl
def E_w_eqPlaces_l0 (α : Type) (N : Nat) : Env α := (A_w_eqPlaces_l0 α N).addLoop2 65 2 (loopSum2 ((A_w_eqPlaces_l0 α N).ann 65 2) 0 w_eqPlaces_l0_p (fun l K => match l with
    | [.i i, .f h0, .f h1] => w_eqPlaces_l0 none h0 h1 N i (K .ret (buildS w_eqPlaces_l0_o0 [.f h0, .f h1])) (K (.exit 0) (buildS w_eqPlaces_l0_o1 [.f h0, .f h1]))
    | _ => none) ((A_w_eqPlaces_l0 α N).ls 65 2))
theorem E_w_eqPlaces_l0_ok {α : Type} (N : Nat) : EnvOk Try.prog (E_w_eqPlaces_l0 α N) := (A_w_eqPlaces_l0_ok N).addLoop2 Try.func65 (by kernel_rfl) (loopSum_ok prog_mixed prog_names (A_w_eqPlaces_l0_ok N) Try.func65 (by kernel_rfl) (d := 1) (ro := 0) fun l K r h => by
  split at h
  · exact (w_eqPlaces_l0_loop N _ _ K N _).trans h
  · cases h)

/-- laws.eqPlaces -/
def w_eqPlaces_a : SPat := ⟨[.agg [.ints .u8 4], .agg [.ints .u8 4]], []⟩
def w_eqPlaces_r0 : SPat := ⟨[.bool], []⟩
theorem w_eqPlaces_run {α : Type} (N : Nat) (a : Nat → Int) (b : Nat → Int) (K : AV → Heap → Option α) :
    callK Try.prog (E_w_eqPlaces_l0 α N) 1 65 0 (buildS w_eqPlaces_a [.f a, .f b]).t (buildS w_eqPlaces_a [.f a, .f b]).h K = w_eqPlaces none N a b (fun r__ => retK (buildS w_eqPlaces_r0 [.b r__]) K) := by kernel_rfl
def E_w_eqPlaces (α : Type) (N : Nat) : Env α := (E_w_eqPlaces_l0 α N).addFun 65 true 0 w_eqPlaces_a (fun l K => match l with
    | [.f a, .f b] => w_eqPlaces none N a b (fun r__ => retK (buildS w_eqPlaces_r0 [.b r__]) K)
    | _ => none)
theorem E_w_eqPlaces_ok {α : Type} (N : Nat) : EnvOk Try.prog (E_w_eqPlaces α N) := (E_w_eqPlaces_l0_ok N).addFun prog_mixed prog_names (d := 1) fun l K r h => by
  split at h
  · exact (w_eqPlaces_run N _ _ K).trans h
  · cases h

/-- laws.eqPlacesS, loop -/
def w_eqPlacesS_l0_p : SPat := ⟨[.sliceV 0 0 0 4 true, .sliceV 1 0 0 4 true, .undef, .undef, .undef, .int .i64] ++ List.replicate 21 .undef, [[.intsV .u8], [.intsV .u8]]⟩
def w_eqPlacesS_l0_o0 : SPat := ⟨[.undef, .undef, .undef, .undef, .boolC false] ++ List.replicate 22 .undef, [[.intsV .u8], [.intsV .u8]]⟩
def w_eqPlacesS_l0_o1 : SPat := ⟨[] ++ List.replicate 27 .undef, [[.intsV .u8], [.intsV .u8]]⟩
theorem w_eqPlacesS_l0_round {α : Type} (N : Nat) (a_n : Nat) (a_l : Nat) (a_c : Nat) (b_n : Nat) (b_l : Nat) (b_c : Nat) (i : Int) (h0_n : Nat) (h0 : Nat → Int) (h1_n : Nat) (h1 : Nat → Int) (kn : St → Option α) (K : AExit → St → Option α) :
    roundK Try.prog (E_w_eqPlaces α N) 1 2 20 Try.f20 4 2 (buildS w_eqPlacesS_l0_p [.n a_n, .n a_l, .n a_c, .n b_n, .n b_l, .n b_c, .i i, .n h0_n, .f h0, .n h1_n, .f h1]) kn K = w_eqPlacesS_l0_s none N a_n a_l a_c b_n b_l b_c h0_n h0 h1_n h1 i (fun i => kn (buildS w_eqPlacesS_l0_p [.n a_n, .n a_l, .n a_c, .n b_n, .n b_l, .n b_c, .i i, .n h0_n, .f h0, .n h1_n, .f h1])) (K .ret (buildS w_eqPlacesS_l0_o0 [.n h0_n, .f h0, .n h1_n, .f h1])) (K (.exit 0) (buildS w_eqPlacesS_l0_o1 [.n h0_n, .f h0, .n h1_n, .f h1])) := by kernel_rfl
theorem w_eqPlacesS_l0_loop {α : Type} (N : Nat) (a_n : Nat) (a_l : Nat) (a_c : Nat) (b_n : Nat) (b_l : Nat) (b_c : Nat) (h0_n : Nat) (h0 : Nat → Int) (h1_n : Nat) (h1 : Nat → Int) (K : AExit → St → Option α) : ∀ (m : Nat) (i : Int),
    loopN (trimSt ((E_w_eqPlaces α N).ann 20 4).head ((E_w_eqPlaces α N).ann 20 4).grow 2) (bodyK Try.prog (E_w_eqPlaces α N) 1 2 20 Try.f20 4) m (buildS w_eqPlacesS_l0_p [.n a_n, .n a_l, .n a_c, .n b_n, .n b_l, .n b_c, .i i, .n h0_n, .f h0, .n h1_n, .f h1]) (leaveLoop ((E_w_eqPlaces α N).ann 20 4) 2 K) = w_eqPlacesS_l0 none N a_n a_l a_c b_n b_l b_c h0_n h0 h1_n h1 m i (K .ret (buildS w_eqPlacesS_l0_o0 [.n h0_n, .f h0, .n h1_n, .f h1])) (K (.exit 0) (buildS w_eqPlacesS_l0_o1 [.n h0_n, .f h0, .n h1_n, .f h1])) := by
  intro m
  induction m with
  | zero => intros; rfl
  | succ m ih =>
    intro i
    rw [loopN_round]
    refine (w_eqPlacesS_l0_round N a_n a_l a_c b_n b_l b_c i h0_n h0 h1_n h1 _ K).trans ?_
    simp only [ih]
    rfl
def E_w_eqPlacesS_l0 (α : Type) (N : Nat) : Env α := (E_w_eqPlaces α N).addLoop2 20 4 (loopSum2 ((E_w_eqPlaces α N).ann 20 4) 2 w_eqPlacesS_l0_p (fun l K => match l with
    | [.n a_n, .n a_l, .n a_c, .n b_n, .n b_l, .n b_c, .i i, .n h0_n, .f h0, .n h1_n, .f h1] => w_eqPlacesS_l0 none N a_n a_l a_c b_n b_l b_c h0_n h0 h1_n h1 N i (K .ret (buildS w_eqPlacesS_l0_o0 [.n h0_n, .f h0, .n h1_n, .f h1])) (K (.exit 0) (buildS w_eqPlacesS_l0_o1 [.n h0_n, .f h0, .n h1_n, .f h1]))
    | _ => none) ((E_w_eqPlaces α N).ls 20 4))
theorem E_w_eqPlacesS_l0_ok {α : Type} (N : Nat) : EnvOk Try.prog (E_w_eqPlacesS_l0 α N) := (E_w_eqPlaces_ok N).addLoop2 Try.func20 (by kernel_rfl) (loopSum_ok prog_mixed prog_names (E_w_eqPlaces_ok N) Try.func20 (by kernel_rfl) (d := 1) (ro := 2) fun l K r h => by
  split at h
  · exact (w_eqPlacesS_l0_loop N _ _ _ _ _ _ _ _ _ _ K N _).trans h
  · cases h)

/-- laws.eqPlacesS -/
def w_eqPlacesS_a : SPat := ⟨[.sliceV 0 0 0 4 true, .sliceV 1 0 0 4 true], [[.intsV .u8], [.intsV .u8]]⟩
def w_eqPlacesS_r0 : SPat := ⟨[.bool], [[.intsV .u8], [.intsV .u8]]⟩
theorem w_eqPlacesS_run {α : Type} (N : Nat) (a_n : Nat) (a_l : Nat) (a_c : Nat) (b_n : Nat) (b_l : Nat) (b_c : Nat) (h0_n : Nat) (h0 : Nat → Int) (h1_n : Nat) (h1 : Nat → Int) (K : AV → Heap → Option α) :
    callK Try.prog (E_w_eqPlacesS_l0 α N) 1 20 2 (buildS w_eqPlacesS_a [.n a_n, .n a_l, .n a_c, .n b_n, .n b_l, .n b_c, .n h0_n, .f h0, .n h1_n, .f h1]).t (buildS w_eqPlacesS_a [.n a_n, .n a_l, .n a_c, .n b_n, .n b_l, .n b_c, .n h0_n, .f h0, .n h1_n, .f h1]).h K = w_eqPlacesS none N a_n a_l a_c b_n b_l b_c h0_n h0 h1_n h1 (fun r__ => retK (buildS w_eqPlacesS_r0 [.b r__, .n h0_n, .f h0, .n h1_n, .f h1]) K) := by kernel_rfl
def E_w_eqPlacesS (α : Type) (N : Nat) : Env α := (E_w_eqPlacesS_l0 α N).addFun 20 true 2 w_eqPlacesS_a (fun l K => match l with
    | [.n a_n, .n a_l, .n a_c, .n b_n, .n b_l, .n b_c, .n h0_n, .f h0, .n h1_n, .f h1] => w_eqPlacesS none N a_n a_l a_c b_n b_l b_c h0_n h0 h1_n h1 (fun r__ => retK (buildS w_eqPlacesS_r0 [.b r__, .n h0_n, .f h0, .n h1_n, .f h1]) K)
    | _ => none)
theorem E_w_eqPlacesS_ok {α : Type} (N : Nat) : EnvOk Try.prog (E_w_eqPlacesS α N) := (E_w_eqPlacesS_l0_ok N).addFun prog_mixed prog_names (d := 1) fun l K r h => by
  split at h
  · exact (w_eqPlacesS_run N _ _ _ _ _ _ _ _ _ _ K).trans h
  · cases h

/-- laws.FnExactIsMapOf -/
def w_FnExactIsMapOf_a : SPat := ⟨[.agg [.vals [.int .i64], .ints .u8 8, .ints .u8 8], .int .i64, .sliceV 0 0 0 4 false], [[.intsV .u8]]⟩
def w_FnExactIsMapOf_r0 : SPat := ⟨[.bool], [[.intsV .u8]]⟩
theorem w_FnExactIsMapOf_run {α : Type} (N : Nat) (aG_0 : Int) (aG_1 : Nat → Int) (aG_2 : Nat → Int) (aK : Int) (aList_n : Nat) (aList_l : Nat) (aList_c : Nat) (h0_n : Nat) (h0 : Nat → Int) (K : AV → Heap → Option α) :
    callK Try.prog (E_w_eqPlacesS α N) 1 3 1 (buildS w_FnExactIsMapOf_a [.i aG_0, .f aG_1, .f aG_2, .i aK, .n aList_n, .n aList_l, .n aList_c, .n h0_n, .f h0]).t (buildS w_FnExactIsMapOf_a [.i aG_0, .f aG_1, .f aG_2, .i aK, .n aList_n, .n aList_l, .n aList_c, .n h0_n, .f h0]).h K = w_FnExactIsMapOf none N aG_0 aG_1 aG_2 aK aList_n aList_l aList_c h0_n h0 (fun r__ => retK (buildS w_FnExactIsMapOf_r0 [.b r__, .n h0_n, .f h0]) K) := by kernel_rfl
def E_w_FnExactIsMapOf (α : Type) (N : Nat) : Env α := (E_w_eqPlacesS α N).addFun 3 true 1 w_FnExactIsMapOf_a (fun l K => match l with
    | [.i aG_0, .f aG_1, .f aG_2, .i aK, .n aList_n, .n aList_l, .n aList_c, .n h0_n, .f h0] => w_FnExactIsMapOf none N aG_0 aG_1 aG_2 aK aList_n aList_l aList_c h0_n h0 (fun r__ => retK (buildS w_FnExactIsMapOf_r0 [.b r__, .n h0_n, .f h0]) K)
    | _ => none)
theorem E_w_FnExactIsMapOf_ok {α : Type} (N : Nat) : EnvOk Try.prog (E_w_FnExactIsMapOf α N) := (E_w_eqPlacesS_ok N).addFun prog_mixed prog_names (d := 1) fun l K r h => by
  split at h
  · exact (w_FnExactIsMapOf_run N _ _ _ _ _ _ _ _ _ K).trans h
  · cases h
end Go.AM
